/- How two floats stand to each other, by their bits: as the signed ranks of their magnitudes. -/
import Derived.Test.YtfempadelilpoaaDoorFl
namespace Go.Proofs.YtfempadelilpoaaDoor
open Ieee

def sgn (k : FloatKind) (x : Nat) : Bool := x / k.format.signWeight % 2 == 1
def rung (k : FloatKind) (x : Nat) : Nat := x % k.format.signWeight
def sg (s : Bool) (n : Nat) : Int := if s then -(n : Int) else n
def si (k : FloatKind) (x : Nat) : Int := sg (sgn k x) (rung k x)

theorem cmp_congr {a b c d : Int} (h1 : a < b ↔ c < d) (h2 : a = b ↔ c = d) : compare a b = compare c d := by
  simp only [compare, compareOfLessAndEq, h1, h2]
theorem cmp_lt {a b : Int} (h : a < b) : compare a b = .lt := by simp [compare, compareOfLessAndEq, h]
theorem cmp_eq {a b : Int} (h : a = b) : compare a b = .eq := by simp [compare, compareOfLessAndEq, h]
theorem cmp_gt {a b : Int} (h : b < a) : compare a b = .gt := by
  have h1 : ¬ a < b := by omega
  have h2 : ¬ a = b := by omega
  simp [compare, compareOfLessAndEq, h1, h2]

/-- a rank's magnitude, in units of the least place. -/
def mval (f : Format) (r : Nat) : Nat := if r < f.binade then r else (f.binade + r % f.binade) * 2 ^ (r / f.binade - 1)

theorem binade_pos (f : Format) : 0 < f.binade := Nat.two_pow_pos _

theorem mval_step (f : Format) (r : Nat) : mval f r < mval f (r + 1) := by
  have hB := binade_pos f
  generalize hb : f.binade = B at hB
  unfold mval
  rw [hb]
  by_cases h1 : r + 1 < B
  · rw [if_pos (by omega), if_pos h1]; omega
  · rw [if_neg h1]
    by_cases h2 : r < B
    · obtain rfl : r + 1 = B := by omega
      rw [if_pos h2, Nat.mod_self, Nat.div_self hB]
      simp
    · rw [if_neg h2]
      have hq : 1 ≤ r / B := (Nat.le_div_iff_mul_le hB).2 (by omega)
      have hp : r % B < B := Nat.mod_lt _ hB
      have hr : B * (r / B) + r % B = r := Nat.div_add_mod r B
      obtain ⟨q, hq'⟩ : ∃ q, r / B = q + 1 := ⟨r / B - 1, by omega⟩
      by_cases h3 : r % B + 1 < B
      · have e1 : (r + 1) / B = r / B := by
          rw [Nat.div_eq_iff hB]
          rw [Nat.mul_comm] at hr
          constructor <;> omega
        have e2 : (r + 1) % B = r % B + 1 := by
          have := Nat.div_add_mod (r + 1) B
          rw [e1] at this
          omega
        rw [e1, e2]
        exact Nat.mul_lt_mul_of_pos_right (by omega) (Nat.two_pow_pos _)
      · have e0 : r + 1 = B * (r / B + 1) := by rw [Nat.mul_add]; omega
        have e1 : (r + 1) / B = r / B + 1 := by rw [e0, Nat.mul_div_cancel_left _ hB]
        have e2 : (r + 1) % B = 0 := by rw [e0]; exact Nat.mul_mod_right _ _
        rw [e1, e2, hq']
        simp only [Nat.add_sub_cancel, Nat.add_zero]
        rw [Nat.pow_succ]
        calc (B + r % B) * 2 ^ q < (B + B) * 2 ^ q := Nat.mul_lt_mul_of_pos_right (by omega) (Nat.two_pow_pos _)
          _ = B * (2 ^ q * 2) := by rw [← Nat.mul_two, Nat.mul_assoc, Nat.mul_comm 2]

theorem mval_lt (f : Format) {a b : Nat} (h : a < b) : mval f a < mval f b := by
  induction h with
  | refl => exact mval_step f a
  | step _ ih => exact Nat.lt_trans ih (mval_step f _)
theorem mval_zero (f : Format) : mval f 0 = 0 := by
  unfold mval
  rw [if_pos (binade_pos f)]
theorem mval_lt_iff (f : Format) {a b : Nat} : mval f a < mval f b ↔ a < b := by
  constructor
  · intro h
    rcases Nat.lt_trichotomy a b with g | rfl | g
    · exact g
    · omega
    · have := mval_lt f g; omega
  · exact mval_lt f
theorem mval_inj (f : Format) {a b : Nat} : mval f a = mval f b ↔ a = b := by
  constructor
  · intro h
    rcases Nat.lt_trichotomy a b with g | rfl | g
    · have := mval_lt f g; omega
    · rfl
    · have := mval_lt f g; omega
  · rintro rfl; rfl

theorem read_num (f : Format) (x : Nat) (h : x % f.signWeight < f.infRung) :
    ∃ m a : Nat, f.read x = .number (x / f.signWeight % 2 == 1) m (f.leastPlace + (a : Int)) ∧ m * 2 ^ a = mval f (x % f.signWeight) := by
  unfold Format.read mval
  dsimp only
  by_cases h1 : x % f.signWeight < f.binade
  · refine ⟨x % f.signWeight, 0, ?_, ?_⟩
    · rw [if_pos h1]; simp
    · rw [if_pos h1]; simp
  · refine ⟨f.binade + x % f.signWeight % f.binade, x % f.signWeight / f.binade - 1, ?_, ?_⟩
    · rw [if_neg h1, if_pos h]
    · rw [if_neg h1]
theorem read_inf (f : Format) (x : Nat) (hb : f.binade ≤ f.infRung) (h : x % f.signWeight = f.infRung) : f.read x = .infinity (x / f.signWeight % 2 == 1) := by
  unfold Format.read
  dsimp only
  rw [if_neg (by omega), if_neg (by omega), if_pos h]

theorem sg_cmp (f : Format) (s t : Bool) (a b : Nat) : compare (sg s (mval f a)) (sg t (mval f b)) = compare (sg s a) (sg t b) := by
  have h1 := @mval_lt_iff f a b
  have h2 := @mval_lt_iff f b a
  have h3 := @mval_inj f a b
  have h4 := @mval_lt_iff f 0 a
  have h5 := @mval_lt_iff f 0 b
  rw [mval_zero] at h4 h5
  apply cmp_congr <;> unfold sg <;> cases s <;> cases t <;> simp <;> omega

theorem signed_scale (s : Bool) (m a c : Nat) (h : c ≤ a) : sg s (m * 2 ^ a) = signed s m (a - c) * ((2 ^ c : Nat) : Int) := by
  have e : m * 2 ^ a = m <<< (a - c) * 2 ^ c := by
    rw [Nat.shiftLeft_eq, Nat.mul_assoc, ← Nat.pow_add, Nat.sub_add_cancel h]
  unfold sg signed
  rw [e]
  cases s
  · simp only [Bool.false_eq_true, if_false]; exact Int.natCast_mul _ _
  · simp only [if_true]; rw [Int.natCast_mul, Int.neg_mul]
theorem cmp_scale (a b : Int) (p : Nat) (hp : 0 < p) : compare (a * (p : Int)) (b * (p : Int)) = compare a b := by
  have hp' : (0 : Int) < (p : Int) := by omega
  apply cmp_congr
  · exact Int.mul_lt_mul_right hp'
  · exact Int.mul_eq_mul_right_iff (by omega)

theorem order_num (L : Int) (s t : Bool) (m n a b : Nat) : (Datum.number s m (L + (a : Int))).order (.number t n (L + (b : Int))) = some (compare (sg s (m * 2 ^ a)) (sg t (n * 2 ^ b))) := by
  simp only [Datum.order]
  congr 1
  have e : min (L + (a : Int)) (L + (b : Int)) = L + ((min a b : Nat) : Int) := by omega
  rw [e]
  have e1 : (L + (a : Int) - (L + ((min a b : Nat) : Int))).toNat = a - min a b := by omega
  have e2 : (L + (b : Int) - (L + ((min a b : Nat) : Int))).toNat = b - min a b := by omega
  rw [e1, e2, signed_scale s m a (min a b) (Nat.min_le_left ..), signed_scale t n b (min a b) (Nat.min_le_right ..), cmp_scale _ _ _ (Nat.two_pow_pos _)]

theorem sg_lt_inf {f : Format} {r : Nat} (h : r < f.infRung) (s t : Bool) : (if t then compare (sg t f.infRung) (sg s r) = .lt else compare (sg t f.infRung) (sg s r) = .gt) := by
  cases t
  · simp only [Bool.false_eq_true, if_false]; apply cmp_gt; unfold sg; cases s <;> simp <;> omega
  · simp only [if_true]; apply cmp_lt; unfold sg; cases s <;> simp <;> omega

theorem binade_le_inf (k : FloatKind) : k.format.binade ≤ k.format.infRung := by cases k <;> decide
theorem isN_rung (k : FloatKind) (x : Nat) : isN k x = decide (k.format.infRung < rung k x) := by
  cases k
  · exact isN_f32 x
  · exact isN_f64 x

/-- TWO FLOATS COMPARED: none if one is a NaN; else as their signed ranks. -/
theorem order_si (k : FloatKind) (x y : Nat) (hx : isN k x = false) (hy : isN k y = false) : k.format.order x y = some (compare (si k x) (si k y)) := by
  rw [isN_rung] at hx hy
  have hx' : x % k.format.signWeight ≤ k.format.infRung := Nat.le_of_not_lt (of_decide_eq_false hx)
  have hy' : y % k.format.signWeight ≤ k.format.infRung := Nat.le_of_not_lt (of_decide_eq_false hy)
  unfold Format.order si sgn rung
  rcases Nat.lt_or_eq_of_le hx' with h1 | h1
  · obtain ⟨m, a, hm, hma⟩ := read_num k.format x h1
    rcases Nat.lt_or_eq_of_le hy' with h2 | h2
    · obtain ⟨n, b, hn, hnb⟩ := read_num k.format y h2
      rw [hm, hn, order_num, hma, hnb, sg_cmp]
    · rw [hm, read_inf k.format y (binade_le_inf k) h2, h2]
      have := sg_lt_inf h1 (x / k.format.signWeight % 2 == 1) (y / k.format.signWeight % 2 == 1)
      simp only [Datum.order]
      generalize (x / k.format.signWeight % 2 == 1) = s at *
      generalize (y / k.format.signWeight % 2 == 1) = t at *
      cases t
      · simp only [Bool.false_eq_true, if_false] at this ⊢
        congr 1; symm; apply cmp_lt
        unfold sg; cases s <;> simp <;> omega
      · simp only [if_true] at this ⊢
        congr 1; symm; apply cmp_gt
        unfold sg; cases s <;> simp <;> omega
  · rw [read_inf k.format x (binade_le_inf k) h1, h1]
    rcases Nat.lt_or_eq_of_le hy' with h2 | h2
    · obtain ⟨n, b, hn, hnb⟩ := read_num k.format y h2
      rw [hn]
      have := sg_lt_inf h2 (y / k.format.signWeight % 2 == 1) (x / k.format.signWeight % 2 == 1)
      simp only [Datum.order]
      generalize (x / k.format.signWeight % 2 == 1) = s at *
      generalize (y / k.format.signWeight % 2 == 1) = t at *
      cases s
      · simp only [Bool.false_eq_true, if_false] at this ⊢
        rw [this]
      · simp only [if_true] at this ⊢
        rw [this]
    · rw [read_inf k.format y (binade_le_inf k) h2, h2]
      simp only [Datum.order]
      have hpos : 0 < k.format.infRung := by cases k <;> decide
      generalize (x / k.format.signWeight % 2 == 1) = s
      generalize (y / k.format.signWeight % 2 == 1) = t
      generalize k.format.infRung = I at hpos
      congr 1
      cases s <;> cases t
      · rw [cmp_eq rfl]; rfl
      · rw [cmp_gt (by simp [sg]; omega)]; rfl
      · rw [cmp_lt (by simp [sg]; omega)]; rfl
      · rw [cmp_eq rfl]; rfl

theorem order_none (k : FloatKind) (x y : Nat) (h : isN k x = true ∨ isN k y = true) : k.format.order x y = none := by
  rcases h with h | h
  · exact order_nan_l' y h
  · exact order_nan_r' x h
theorem order_eq_iff (k : FloatKind) (x y : Nat) : k.format.order x y = some .eq ↔ isN k x = false ∧ isN k y = false ∧ si k x = si k y := by
  by_cases hx : isN k x = true
  · simp [order_none k x y (.inl hx), hx]
  · by_cases hy : isN k y = true
    · simp [order_none k x y (.inr hy), hy]
    · rw [order_si k x y (by simpa using hx) (by simpa using hy)]
      have h1 : isN k x = false := by simpa using hx
      have h2 : isN k y = false := by simpa using hy
      simp only [h1, h2, Option.some.injEq, true_and, compare, compareOfLessAndEq]
      split
      · simp; omega
      · split
        · simp; assumption
        · simp; assumption
theorem order_lt_iff (k : FloatKind) (x y : Nat) : k.format.order x y = some .lt ↔ isN k x = false ∧ isN k y = false ∧ si k x < si k y := by
  by_cases hx : isN k x = true
  · simp [order_none k x y (.inl hx), hx]
  · by_cases hy : isN k y = true
    · simp [order_none k x y (.inr hy), hy]
    · rw [order_si k x y (by simpa using hx) (by simpa using hy)]
      have h1 : isN k x = false := by simpa using hx
      have h2 : isN k y = false := by simpa using hy
      simp only [h1, h2, Option.some.injEq, true_and, compare, compareOfLessAndEq]
      split
      · simp; assumption
      · split
        · simp; omega
        · simp; omega
theorem order_gt_iff (k : FloatKind) (x y : Nat) : k.format.order x y = some .gt ↔ isN k x = false ∧ isN k y = false ∧ si k y < si k x := by
  by_cases hx : isN k x = true
  · simp [order_none k x y (.inl hx), hx]
  · by_cases hy : isN k y = true
    · simp [order_none k x y (.inr hy), hy]
    · rw [order_si k x y (by simpa using hx) (by simpa using hy)]
      have h1 : isN k x = false := by simpa using hx
      have h2 : isN k y = false := by simpa using hy
      simp only [h1, h2, Option.some.injEq, true_and, compare, compareOfLessAndEq]
      split
      · simp; omega
      · split
        · simp; omega
        · simp; omega

theorem si_f32 (x : Nat) : si .f32 x = if x / 2147483648 % 2 = 1 then -((x % 2147483648 : Nat) : Int) else ((x % 2147483648 : Nat) : Int) := by
  unfold si sgn rung sg
  have h1 : FloatKind.f32.format.signWeight = 2147483648 := rfl
  rw [h1]
  simp
theorem si_f64 (x : Nat) : si .f64 x = if x / 9223372036854775808 % 2 = 1 then -((x % 9223372036854775808 : Nat) : Int) else ((x % 9223372036854775808 : Nat) : Int) := by
  unfold si sgn rung sg
  have h1 : FloatKind.f64.format.signWeight = 9223372036854775808 := rfl
  rw [h1]
  simp
end Go.Proofs.YtfempadelilpoaaDoor
