/- Lower bounds of rounded numbers; sums of numbers that are not negative; quotients of a number by one that is no less; doubling and halving. -/
import Derived.Test.YtojkdlidcmfkeaaFh
namespace Go.Proofs.Ytojkdlidcmfkeaa
open Ieee

theorem cut_ge (neg : Bool) (n drop c : Nat) (h : c * 2 ^ drop ≤ n) : c ≤ Toward.even.cut neg n drop := by
  unfold Toward.cut
  dsimp only
  rw [Nat.shiftLeft_eq, Nat.one_mul]
  have h1 : 2 ^ min drop (n.log2 + 2) ≤ 2 ^ drop := Nat.pow_le_pow_right (by decide) (Nat.min_le_left ..)
  have h2 : c ≤ n / 2 ^ min drop (n.log2 + 2) := (Nat.le_div_iff_mul_le (Nat.two_pow_pos _)).2 (Nat.le_trans (Nat.mul_le_mul_left _ h1) h)
  omega
theorem rank_ge (f : Format) (m : Nat) (place base : Int) (E : Nat) (hm : m ≠ 0) (hE : f.fractionBits ≤ E) (hb1 : base ≤ place) (hb2 : base ≤ f.leastPlace)
    (h : 2 ^ (E + (f.leastPlace - base).toNat) ≤ m * 2 ^ (place - base).toNat) : rungE f E ≤ rank f m place := by
  have hlg1 : 2 ^ m.log2 ≤ m := Nat.log2_self_le hm
  have hlg2 : m < 2 ^ (m.log2 + 1) := Nat.lt_log2_self
  have hle : E + (f.leastPlace - base).toNat ≤ m.log2 + (place - base).toNat := by
    have h1 : 2 ^ (E + (f.leastPlace - base).toNat) < 2 ^ (m.log2 + 1 + (place - base).toNat) := by
      rw [Nat.pow_add 2 (m.log2 + 1)]
      exact Nat.lt_of_le_of_lt h (Nat.mul_lt_mul_of_pos_right hlg2 (Nat.two_pow_pos _))
    have := (Nat.pow_lt_pow_iff_right (by decide : 1 < 2)).1 h1
    omega
  obtain ⟨r, hr⟩ : ∃ r : Nat, place + (m.log2 : Int) - f.fractionBits = f.leastPlace + (r : Int) := ⟨(place + (m.log2 : Int) - f.fractionBits - f.leastPlace).toNat, by omega⟩
  have hr2 : E - f.fractionBits ≤ r := by omega
  unfold rank
  dsimp only
  rw [hr, show max (f.leastPlace + (r : Int)) f.leastPlace = f.leastPlace + r by omega]
  rw [show (f.leastPlace + (r : Int) - f.leastPlace).toNat = r by omega]
  have hc : f.binade ≤ Toward.even.cut false (m <<< (place - (f.leastPlace + (r : Int))).toNat) ((f.leastPlace + (r : Int)) - place).toNat := by
    apply cut_ge
    rw [Nat.shiftLeft_eq]
    show 2 ^ f.fractionBits * _ ≤ _
    rw [← Nat.pow_add]
    by_cases hd : f.leastPlace + (r : Int) ≤ place
    · rw [show ((f.leastPlace + (r : Int)) - place).toNat = 0 by omega]
      refine Nat.le_trans ?_ (Nat.mul_le_mul_right _ hlg1)
      rw [← Nat.pow_add]
      exact Nat.pow_le_pow_right (by decide) (by omega)
    · rw [show (place - (f.leastPlace + (r : Int))).toNat = 0 by omega, Nat.pow_zero, Nat.mul_one]
      refine Nat.le_trans ?_ hlg1
      exact Nat.pow_le_pow_right (by decide) (by omega)
  unfold rungE
  rw [Nat.add_mul, Nat.one_mul]
  exact Nat.add_le_add (Nat.mul_le_mul_right _ hr2) hc
theorem nearest_ge (k : FloatKind) (s : Bool) (m : Nat) (place base : Int) (E : Nat) (hE : Eok k E) (hb1 : base ≤ place) (hb2 : base ≤ k.format.leastPlace)
    (h : 2 ^ (E + (k.format.leastPlace - base).toNat) ≤ m * 2 ^ (place - base).toNat) : rungE k.format E ≤ rung k (k.format.nearest s m place) := by
  have hm : m ≠ 0 := by
    rintro rfl
    rw [Nat.zero_mul] at h
    have := Nat.two_pow_pos (E + (k.format.leastPlace - base).toNat)
    omega
  unfold rung
  rw [nearest_rank _ _ _ _ hm]
  have h1 := rank_ge k.format m place base E hm hE.1 hb1 hb2 h
  have h2 := inf_lt_sw k.format
  have h3 := hE.2
  rw [word_rung _ _ _ (by omega)]
  omega
theorem sgn_word (k : FloatKind) (s : Bool) (r : Nat) (h : r < k.format.signWeight) : sgn k (k.format.word s r) = s := word_sign _ s r h
theorem sgn_nearest (k : FloatKind) (s : Bool) (m : Nat) (place : Int) : sgn k (k.format.nearest s m place) = s := by
  by_cases hm : m = 0
  · unfold Format.nearest
    rw [if_pos hm]
    exact sgn_word k s 0 (sw_pos _)
  · rw [nearest_rank _ _ _ _ hm]
    exact sgn_word k s _ (by have := inf_lt_sw k.format; omega)
theorem ge1_rungE : rungE FloatKind.f64.format 1074 = 4607182418800017408 := by decide
/-- what is added to a number that is no less than 1 gives no less than 1, if it is not negative. -/
theorem ge1_add {x y E : Nat} (hE0 : 1074 ≤ E) (hE9 : E ≤ 2000) (hx : le2 .f64 x E) (hy : le2 .f64 y E) (sx : sgn .f64 x = false) (sy : sgn .f64 y = false) (h : 4607182418800017408 ≤ rung .f64 x ∨ 4607182418800017408 ≤ rung .f64 y) (T : Nat → Question → Nat) (q : Nat) :
    ge1 (opV .add .f64 x y T q) ∧ sgn .f64 (opV .add .f64 x y T q) = false := by
  have hEo := Eok64 E (by omega) (by omega)
  have hE1 := Eok64 (E + 1) (by omega) (by omega)
  have hle := le2_fin (le2_add hx hy hEo hE1 T q) hE1
  obtain ⟨m, a, h1, h2, h3⟩ := le2_read hx hEo
  obtain ⟨n, b, g1, g2, g3⟩ := le2_read hy hEo
  obtain ⟨K, hK⟩ : ∃ K : Nat, K = 1074 := ⟨_, rfl⟩
  have hone : ∀ z, 4607182418800017408 ≤ rung .f64 z → 2 ^ K ≤ mval FloatKind.f64.format (rung .f64 z) := fun z hz => by
    have e : mval FloatKind.f64.format (rungE FloatKind.f64.format K) = 2 ^ K := mval_rungE _ _ (by rw [f64_fb]; omega)
    rw [← e]
    apply mval_le
    rw [hK, ge1_rungE]
    exact hz
  have hsum : 2 ^ K ≤ m * 2 ^ a + n * 2 ^ b := by
    rcases h with h | h
    · have := hone x h; omega
    · have := hone y h; omega
  have hf : floatBits .add .f64 x y = some (FloatKind.f64.format.nearest false (m * 2 ^ (a - min a b) + n * 2 ^ (b - min a b)) (-1074 + (min a b : Nat))) := by
    show FloatKind.f64.format.add x y = _
    unfold Format.add
    rw [h1, g1, sx, sy, L64]
    have e0 : min (-1074 + (a : Int)) (-1074 + (b : Int)) = -1074 + (min a b : Nat) := by omega
    have e1 : (-1074 + (a : Int) - (-1074 + ((min a b : Nat) : Int))).toNat = a - min a b := by omega
    have e2 : (-1074 + (b : Int) - (-1074 + ((min a b : Nat) : Int))).toNat = b - min a b := by omega
    simp only [Datum.sum, e0, e1, e2, Option.map_some, Option.some.injEq]
    have t1 : signed false m (a - min a b) + signed false n (b - min a b) = ((m * 2 ^ (a - min a b) + n * 2 ^ (b - min a b) : Nat) : Int) := by
      simp [signed, Nat.shiftLeft_eq]
    rw [t1, Int.natAbs_natCast]
    have t2 : (if ((m * 2 ^ (a - min a b) + n * 2 ^ (b - min a b) : Nat) : Int) = 0 then (false && false) else decide (((m * 2 ^ (a - min a b) + n * 2 ^ (b - min a b) : Nat) : Int) < 0)) = false := by
      split
      · rfl
      · exact decide_eq_false (by omega)
    rw [t2]
    rfl
  rw [opV_some hf] at hle ⊢
  refine ⟨⟨?_, hle⟩, sgn_nearest _ _ _ _⟩
  have hg := nearest_ge .f64 false (m * 2 ^ (a - min a b) + n * 2 ^ (b - min a b)) (-1074 + (min a b : Nat)) (-1074) K (Eok64 _ (by omega) (by omega)) (by omega) (by rw [L64]; omega) (by
    rw [L64, show ((-1074 : Int) - -1074).toNat = 0 by omega, Nat.add_zero, show (-1074 + ((min a b : Nat) : Int) - -1074).toNat = min a b by omega, Nat.add_mul, Nat.mul_assoc, Nat.mul_assoc, ← Nat.pow_add, ← Nat.pow_add,
      show a - min a b + min a b = a by omega, show b - min a b + min a b = b by omega]
    exact hsum)
  rw [hK, ge1_rungE] at hg
  exact hg
theorem sgn_mul {x y E F G : Nat} (hx : le2 .f64 x E) (hy : le2 .f64 y F) (hE : Eok .f64 E) (hF : Eok .f64 F) (T : Nat → Question → Nat) (q : Nat) (_hG : G = G) : sgn .f64 (opV .mul .f64 x y T q) = (sgn .f64 x ^^ sgn .f64 y) := by
  obtain ⟨m, a, h1, h2, _⟩ := le2_read hx hE
  obtain ⟨n, b, g1, g2, _⟩ := le2_read hy hF
  have hf : floatBits .mul .f64 x y = some (FloatKind.f64.format.write (.number (sgn .f64 x ^^ sgn .f64 y) (m * n) (FloatKind.f64.format.leastPlace + (a : Int) + (FloatKind.f64.format.leastPlace + (b : Int))))) := by
    show FloatKind.f64.format.mul x y = _
    unfold Format.mul
    rw [h1, g1]
    rfl
  rw [opV_some hf]
  exact sgn_nearest _ _ _ _
/-- a number over one that is no less in size. -/
theorem le2_quo_le {x y : Nat} (hle : rung .f64 x ≤ rung .f64 y) (hy : rung .f64 y < FloatKind.f64.format.infRung) (h0 : rung .f64 y ≠ 0) (T : Nat → Question → Nat) (q : Nat) : le2 .f64 (opV .quo .f64 x y T q) 1075 := by
  obtain ⟨m, a, h1, h2, h3, h4⟩ := read64 x (Nat.lt_of_le_of_lt hle hy)
  obtain ⟨n, b, g1, g2, g3, g4⟩ := read64 y hy
  have hn : n ≠ 0 := by
    rintro rfl
    rcases g4 with rfl | g4
    · omega
    · omega
  have hv : ∀ z m a : Nat, FloatKind.f64.format.read z = .number (sgn .f64 z) m (-1074 + (a : Int)) → rung .f64 z < FloatKind.f64.format.infRung → m * 2 ^ a = mval FloatKind.f64.format (rung .f64 z) := fun z m a e hz => by
    obtain ⟨m', a', k1, k2⟩ := read_num FloatKind.f64.format z hz
    rw [e, L64] at k1
    simp only [Datum.number.injEq] at k1
    obtain ⟨_, rfl, k3⟩ := k1
    have : a = a' := by omega
    rw [this]; exact k2
  have hval : m * 2 ^ a ≤ n * 2 ^ b := by
    rw [hv x m a h1 (Nat.lt_of_le_of_lt hle hy), hv y n b g1 hy]
    exact mval_le hle
  have hlogn : n.log2 ≤ 52 := by
    have : n < 2 ^ 53 := by simpa using g3
    have := (Nat.log2_lt hn).2 this
    omega
  have hlogm : m.log2 ≤ 52 := by
    by_cases h0 : m = 0
    · subst h0; decide
    · have : m < 2 ^ 53 := by simpa using h3
      have := (Nat.log2_lt h0).2 this
      omega
  obtain ⟨more, hmore⟩ : ∃ more, more = 54 + n.log2 - m.log2 := ⟨_, rfl⟩
  have hf : floatBits .quo .f64 x y = some (FloatKind.f64.format.nearest (sgn .f64 x ^^ sgn .f64 y) (2 * ((m * 2 ^ more) / n) + ((m * 2 ^ more) % n != 0).toNat) (-1074 + (a : Int) - (-1074 + (b : Int)) - more - 1)) := by
    show FloatKind.f64.format.div x y = _
    unfold Format.div
    rw [h1, g1]
    simp only [Datum.quotient]
    rw [if_neg hn]
    have e : FloatKind.f64.format.fractionBits + 2 + n.log2 - m.log2 = more := by rw [hmore]; rfl
    rw [e, Nat.shiftLeft_eq]
    rfl
  rw [opV_some hf]
  have hst : ∀ b : Bool, b.toNat ≤ 1 := by decide
  obtain ⟨base, hbase⟩ : ∃ base : Int, base = -5000 := ⟨_, rfl⟩
  have hbb : b ≤ 2046 := by
    have e : FloatKind.f64.format.infRung = 2047 * 4503599627370496 := rfl
    omega
  refine nearest_le2 .f64 _ _ _ base 1075 (Eok64 _ (by omega) (by omega)) (by omega) (by rw [L64]; omega) ?_
  rw [L64]
  obtain ⟨s, hs⟩ : ∃ s : Nat, (s : Int) = -1074 + (a : Int) - (-1074 + (b : Int)) - more - 1 - base := ⟨(-1074 + (a : Int) - (-1074 + (b : Int)) - more - 1 - base).toNat, by omega⟩
  rw [show (-1074 + (a : Int) - (-1074 + (b : Int)) - more - 1 - base).toNat = s by omega]
  obtain ⟨K, hK⟩ : ∃ K : Nat, K = 3926 := ⟨_, rfl⟩
  rw [show 1075 + ((-1074 : Int) - base).toNat = 1075 + K by omega]
  have hs2 : s + b + more = a + (K + 1073) := by omega
  by_cases hm : m = 0
  · subst hm
    simp
  have hN : 0 < n * 2 ^ b := Nat.mul_pos (by omega) (Nat.two_pow_pos _)
  have hD : (m * 2 ^ more) / n * 2 ^ s ≤ 2 ^ (K + 1073) := by
    refine Nat.le_of_mul_le_mul_left ?_ hN
    have e1 : n * 2 ^ b * ((m * 2 ^ more) / n * 2 ^ s) = ((m * 2 ^ more) / n * n) * (2 ^ b * 2 ^ s) := by ac_rfl
    have e2 : m * 2 ^ more * (2 ^ b * 2 ^ s) = m * 2 ^ a * 2 ^ (K + 1073) := by
      rw [Nat.mul_assoc, Nat.mul_assoc, ← Nat.pow_add, ← Nat.pow_add, ← Nat.pow_add, show more + (b + s) = a + (K + 1073) by omega]
    rw [e1]
    refine Nat.le_trans (Nat.mul_le_mul_right _ (Nat.div_mul_le_self _ _)) ?_
    rw [e2]
    exact Nat.mul_le_mul_right _ hval
  have hD1 : 1 ≤ (m * 2 ^ more) / n := by
    refine (Nat.le_div_iff_mul_le (by omega)).2 ?_
    rw [Nat.one_mul]
    refine Nat.le_trans (Nat.le_of_lt (Nat.lt_log2_self (n := n))) ?_
    refine Nat.le_trans ?_ (Nat.mul_le_mul_right _ (Nat.log2_self_le hm))
    rw [← Nat.pow_add]
    exact Nat.pow_le_pow_right (by decide) (by omega)
  have hS : 2 ^ s ≤ (m * 2 ^ more) / n * 2 ^ s := Nat.le_mul_of_pos_left _ hD1
  have hst' := hst ((m * 2 ^ more) % n != 0)
  generalize ((m * 2 ^ more) % n != 0).toNat = st at hst' ⊢
  have h9 : st * 2 ^ s ≤ 1 * 2 ^ s := Nat.mul_le_mul_right _ hst'
  rw [Nat.add_mul, Nat.mul_assoc]
  have e : 2 ^ (1075 + K) = 2 ^ (K + 1073) + 2 ^ (K + 1073) + (2 ^ (K + 1073) + 2 ^ (K + 1073)) := by rw [show 1075 + K = K + 1073 + 1 + 1 by omega, Nat.pow_succ, Nat.pow_succ]; omega
  omega

/-! ### doubling and halving -/
theorem read_two : FloatKind.f64.format.read 4611686018427387904 = .number false 4503599627370496 (-51) := by kernel_rfl
theorem mul_two {x : Nat} (hx : x < 9223372036854775808) (h1 : 4503599627370496 ≤ x) (h2 : x + 4503599627370496 < 9218868437227405312) (T : Nat → Question → Nat) (n : Nat) : opV .mul .f64 x 4611686018427387904 T n = x + 4503599627370496 := by
  have hi : FloatKind.f64.format.infRung = 9218868437227405312 := rfl
  have hsw : FloatKind.f64.format.signWeight = 9223372036854775808 := rfl
  have hr : rung .f64 x = x := by unfold rung; rw [hsw]; exact Nat.mod_eq_of_lt hx
  have hs : sgn .f64 x = false := by unfold sgn; rw [hsw, Nat.div_eq_of_lt hx]; rfl
  obtain ⟨m, a, g1, g2, g3, g4⟩ := read64 x (by rw [hr, hi]; omega)
  rw [hr] at g2
  have hm : 4503599627370496 ≤ m := by omega
  apply opV_some
  show FloatKind.f64.format.mul x 4611686018427387904 = _
  unfold Format.mul
  rw [g1, read_two, hs]
  show some (FloatKind.f64.format.nearest false (m * 4503599627370496) (-1074 + (a : Int) + -51)) = _
  have e := nearest_scale FloatKind.f64.format false (m := m) (by omega) (-1074 + ((a + 1 : Nat) : Int)) 52
  rw [show (2 : Nat) ^ 52 = 4503599627370496 from rfl, show (-1074 + ((a + 1 : Nat) : Int) - ((52 : Nat) : Int)) = -1074 + (a : Int) + -51 by omega] at e
  rw [e, nearest_num false (by omega) g3 (.inr hm) (by rw [hi]; omega)]
  exact congrArg some (show (a + 1) * 4503599627370496 + m = x + 4503599627370496 by omega)
theorem quo_two {x : Nat} (hx : x < 9218868437227405312) (h1 : 9007199254740992 ≤ x) (T : Nat → Question → Nat) (n : Nat) : opV .quo .f64 x 4611686018427387904 T n = x - 4503599627370496 := by
  have hi : FloatKind.f64.format.infRung = 9218868437227405312 := rfl
  have hsw : FloatKind.f64.format.signWeight = 9223372036854775808 := rfl
  have hr : rung .f64 x = x := by unfold rung; rw [hsw]; exact Nat.mod_eq_of_lt (by omega)
  have hs : sgn .f64 x = false := by unfold sgn; rw [hsw, Nat.div_eq_of_lt (by omega)]; rfl
  obtain ⟨m, a, g1, g2, g3, g4⟩ := read64 x (by rw [hr, hi]; omega)
  rw [hr] at g2
  have hm : 4503599627370496 ≤ m := by omega
  have ha : 1 ≤ a := by omega
  have hlog : m.log2 = 52 := log2_53 hm g3
  apply opV_some
  show FloatKind.f64.format.div x 4611686018427387904 = _
  unfold Format.div
  rw [g1, read_two, hs]
  simp only [Datum.quotient]
  rw [if_neg (by omega), hlog]
  have e0 : FloatKind.f64.format.fractionBits + 2 + Nat.log2 4503599627370496 - 52 = 54 := by decide
  rw [e0, Nat.shiftLeft_eq]
  have e1 : m * 2 ^ 54 / 4503599627370496 = m * 4 := by
    rw [show (2 : Nat) ^ 54 = 4 * 4503599627370496 from rfl, ← Nat.mul_assoc]
    exact Nat.mul_div_cancel _ (by decide)
  have e2 : (m * 2 ^ 54 % 4503599627370496 != 0) = false := by
    rw [show (2 : Nat) ^ 54 = 4 * 4503599627370496 from rfl, ← Nat.mul_assoc, Nat.mul_mod_left]
    rfl
  rw [e1, e2]
  show some (FloatKind.f64.format.nearest false (2 * (m * 4) + 0) (-1074 + (a : Int) - -51 - 54 - 1)) = _
  have e := nearest_scale FloatKind.f64.format false (m := m) (by omega) (-1074 + ((a - 1 : Nat) : Int)) 3
  rw [show 2 * (m * 4) + 0 = m * 2 ^ 3 by omega, show (-1074 + (a : Int) - -51 - 54 - 1) = (-1074 + ((a - 1 : Nat) : Int) - ((3 : Nat) : Int)) by omega]
  rw [e, nearest_num false (by omega) g3 (.inr hm) (by rw [hi]; omega)]
  exact congrArg some (show (a - 1) * 4503599627370496 + m = x - 4503599627370496 by omega)
end Go.Proofs.Ytojkdlidcmfkeaa
