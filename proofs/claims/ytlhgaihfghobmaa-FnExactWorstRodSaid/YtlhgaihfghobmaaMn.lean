/- Signs: sums, squares and roots of what has none; the size of a number. -/
import Derived.Test.YtlhgaihfghobmaaDg
import Derived.Test.YtlhgaihfghobmaaFd
namespace Go.Proofs.Ytlhgaihfghobmaa
open Ieee

theorem enc_num (k : FloatKind) (s : Bool) (m : Nat) (e : Int) : ∃ r, r ≤ k.format.infRung ∧ k.encode (.number s m e) = k.format.word s r := by
  show ∃ r, _ ∧ k.format.nearest s m e = _
  unfold Ieee.Format.nearest
  dsimp only
  split
  · exact ⟨0, Nat.zero_le _, rfl⟩
  · exact ⟨_, Nat.min_le_right .., rfl⟩
/-- no NaN, and without a sign. -/
def Pos (k : FloatKind) (x : Nat) : Prop := (∃ m p, k.format.read x = .number false m p) ∨ k.format.read x = .infinity false
theorem read_word (k : FloatKind) (s : Bool) (r : Nat) (h : r ≤ k.format.infRung) : (∃ m p, k.format.read (k.format.word s r) = .number s m p) ∨ k.format.read (k.format.word s r) = .infinity s := by
  have hr : r < k.format.signWeight := Nat.lt_of_le_of_lt h (inf_lt_sw _)
  rcases Nat.lt_or_eq_of_le h with h1 | h1
  · obtain ⟨m, a, e, _⟩ := read_num k.format (k.format.word s r) (by rw [word_rung _ _ _ hr]; exact h1)
    rw [word_sign _ _ _ hr] at e
    exact .inl ⟨m, _, e⟩
  · right
    have h2 := read_inf k.format (k.format.word s r) (binade_le_inf k) (by rw [word_rung _ _ _ hr]; exact h1)
    rw [word_sign _ _ _ hr] at h2
    exact h2
theorem Pos.enc (k : FloatKind) (m : Nat) (e : Int) : Pos k (k.encode (.number false m e)) := by
  obtain ⟨r, h, h2⟩ := enc_num k false m e
  rw [h2]
  exact read_word k false r h
theorem Pos.inf (k : FloatKind) : Pos k (k.encode (.infinity false)) := read_word k false _ (Nat.le_refl _)
theorem Pos.num {k : FloatKind} {x : Nat} (h : Pos k x) : isN k x = false := by
  show (k.format.read x).isNaN = false
  rcases h with ⟨m, p, h⟩ | h <;> rw [h] <;> rfl
theorem read_cases {k : FloatKind} {x : Nat} (h : isN k x = false) : (∃ s m p, k.format.read x = .number s m p) ∨ ∃ s, k.format.read x = .infinity s := by
  have h' : (k.format.read x).isNaN = false := h
  cases e : k.format.read x with
  | number s m p => exact .inl ⟨s, m, p, rfl⟩
  | infinity s => exact .inr ⟨s, rfl⟩
  | nan s f => rw [e] at h'; cases h'
theorem fin_read {x : Nat} (h : finB x = true) : ∃ s m p, FloatKind.f32.format.read x = .number s m p := by
  cases hn : isN .f32 x
  · rcases read_cases hn with h1 | ⟨s, h1⟩
    · exact h1
    · exfalso
      have hs : floatBits .sub .f32 x x = none := by
        show FloatKind.f32.format.sub x x = none
        unfold Format.sub
        rw [h1]
        cases s <;> rfl
      have h2 : isN .f32 (F.sub x x) = true := opV_nan _ _ hs
      unfold finB at h
      rw [order_nan_l' _ h2] at h
      cases h
  · exfalso
    have h2 : isN .f32 (F.sub x x) = true := opV_nan _ _ (floatBits_nan_l _ _ hn)
    unfold finB at h
    rw [order_nan_l' _ h2] at h
    cases h
theorem sub_num {x y : Nat} (hx : isN .f32 x = false) (hy : ∃ s m p, FloatKind.f32.format.read y = .number s m p) : isN .f32 (F.sub x y) = false := by
  obtain ⟨s, m, p, hy⟩ := hy
  unfold F.sub opV
  have h0 : ∃ d : Datum, d.isNaN = false ∧ floatBits .sub .f32 x y = some (FloatKind.f32.encode d) := by
    show ∃ d : Datum, d.isNaN = false ∧ FloatKind.f32.format.sub x y = some (FloatKind.f32.encode d)
    unfold Format.sub
    rw [hy]
    rcases read_cases hx with ⟨t, n, q, h1⟩ | ⟨t, h1⟩ <;> rw [h1] <;> exact ⟨_, rfl, rfl⟩
  obtain ⟨d, hd, e⟩ := h0
  rw [e]
  exact isN_encode _ d hd
theorem sq_pos {x : Nat} (hx : isN .f32 x = false) : Pos .f32 (F.mul x x) := by
  unfold F.mul opV
  rcases read_cases hx with ⟨t, n, q, h1⟩ | ⟨t, h1⟩
  · have e : floatBits .mul .f32 x x = some (FloatKind.f32.encode (.number false (n * n) (q + q))) := by
      show FloatKind.f32.format.mul x x = _
      unfold Format.mul
      rw [h1]
      cases t <;> rfl
    rw [e]
    exact Pos.enc _ _ _
  · have e : floatBits .mul .f32 x x = some (FloatKind.f32.encode (.infinity false)) := by
      show FloatKind.f32.format.mul x x = _
      unfold Format.mul
      rw [h1]
      cases t <;> rfl
    rw [e]
    exact Pos.inf _
theorem add_pos {x y : Nat} (hx : Pos .f32 x) (hy : Pos .f32 y) : Pos .f32 (F.add x y) := by
  unfold F.add opV
  have h0 : (∃ m e, floatBits .add .f32 x y = some (FloatKind.f32.encode (.number false m e))) ∨ floatBits .add .f32 x y = some (FloatKind.f32.encode (.infinity false)) := by
    show (∃ m e, FloatKind.f32.format.add x y = some (FloatKind.f32.encode (.number false m e))) ∨ FloatKind.f32.format.add x y = _
    unfold Format.add
    rcases hx with ⟨m, p, h1⟩ | h1 <;> rcases hy with ⟨n, q, h2⟩ | h2 <;> rw [h1, h2]
    · left
      unfold Datum.sum
      dsimp only
      have hb : (if signed false m (p - min p q).toNat + signed false n (q - min p q).toNat = 0 then false && false else decide (signed false m (p - min p q).toNat + signed false n (q - min p q).toNat < 0)) = false := by
        split
        · rfl
        · have hsg : ∀ a b : Nat, 0 ≤ signed false a b := fun a b => by
            unfold signed
            simp only [Bool.false_eq_true, if_false]
            exact Int.natCast_nonneg _
          have g1 := hsg m (p - min p q).toNat
          have g2 := hsg n (q - min p q).toNat
          rw [decide_eq_false_iff_not]
          omega
      rw [hb]
      exact ⟨_, _, rfl⟩
    · exact .inr rfl
    · exact .inr rfl
    · exact .inr rfl
  rcases h0 with ⟨m, e, h⟩ | h <;> rw [h]
  · exact Pos.enc _ _ _
  · exact Pos.inf _
theorem inner_pos {x y z : Nat} (hx : isN .f32 x = false) (hy : isN .f32 y = false) (hz : isN .f32 z = false) : Pos .f32 (F.inner x y z x y z) := add_pos (add_pos (sq_pos hx) (sq_pos hy)) (sq_pos hz)
theorem root_pos {x : Nat} (hx : Pos .f32 x) : Pos .f32 (F.root x) := by
  have h1 : Pos .f64 (cvV .f32 .f64 x (fun _ _ => 0) 0) := by
    have hc := cvOk_widen x
    unfold cvOk at hc
    unfold cvV
    rcases hx with ⟨m, p, h⟩ | h
    · have h' : FloatKind.f32.decode x = .number false m p := h
      rw [h'] at hc ⊢
      dsimp only at hc ⊢
      rw [hc, if_neg (by simp)]
      exact Pos.enc _ _ _
    · have h' : FloatKind.f32.decode x = .infinity false := h
      rw [h']
      exact Pos.inf _
  have h2 : Pos .f64 (sqV (cvV .f32 .f64 x (fun _ _ => 0) 0) (fun _ _ => 0) 0) := by
    generalize cvV .f32 .f64 x (fun _ _ => 0) 0 = y at h1
    have h0 : (∃ m e, FloatKind.f64.format.sqrt y = some (FloatKind.f64.encode (.number false m e))) ∨ FloatKind.f64.format.sqrt y = some (FloatKind.f64.encode (.infinity false)) := by
      unfold Format.sqrt
      rcases h1 with ⟨m, p, h⟩ | h <;> rw [h]
      · left
        unfold Datum.root
        by_cases h0 : m = 0
        · simp only [h0, if_true]
          exact ⟨_, _, rfl⟩
        · simp only [h0, if_false]
          exact ⟨_, _, rfl⟩
      · exact .inr rfl
    unfold sqV
    rcases h0 with ⟨m, e, h⟩ | h <;> rw [h]
    · exact Pos.enc _ _ _
    · exact Pos.inf _
  have h3 := sqrt_ok x (fun _ _ => 0) 0 (fun _ _ => 0) 0 h2.num
  unfold F.root
  generalize sqV (cvV .f32 .f64 x (fun _ _ => 0) 0) (fun _ _ => 0) 0 = y at h2 h3
  unfold cvOk at h3
  unfold cvV
  rcases h2 with ⟨m, p, h⟩ | h
  · have h' : FloatKind.f64.decode y = .number false m p := h
    rw [h'] at h3 ⊢
    dsimp only at h3 ⊢
    rw [h3, if_neg (by simp)]
    exact Pos.enc _ _ _
  · have h' : FloatKind.f64.decode y = .infinity false := h
    rw [h']
    exact Pos.inf _
theorem finB_num {x : Nat} (h : finB x = true) : isN .f32 x = false := by
  obtain ⟨s, m, p, e⟩ := fin_read h
  show (FloatKind.f32.format.read x).isNaN = false
  rw [e]
  rfl
theorem vlen_num {p q : V3} (hp : finV p = true) (hq : finV q = true) : isN .f32 (vlen (vsub p q)) = false := by
  unfold finV at hp hq
  simp only [Bool.and_eq_true] at hp hq
  exact (root_pos (inner_pos (sub_num (finB_num hp.1.1) (fin_read hq.1.1)) (sub_num (finB_num hp.1.2) (fin_read hq.1.2)) (sub_num (finB_num hp.2) (fin_read hq.2)))).num
/-- how far a rod is from its length. -/
def wrD (D : D4) (i : Nat) : Nat := F.sub (rodL D (D.R i)) (D.R i).l
theorem wrD_num {n1 n2 n3 n4 : Nat} {D : D4} (h : okC n1 n2 n3 n4 D = true) {i : Nat} (hi : i < n4) : isN .f32 (wrD D i) = false := by
  obtain ⟨a, b, c, d⟩ := okC_rod h hi
  unfold lvl at d
  rw [Bool.and_eq_true] at d
  unfold wrD rodL
  exact sub_num (vlen_num (okC_pl h (by omega)).1 (okC_pl h (by omega)).1) (fin_read d.1)
/-! ### the size of a number: without its sign -/
theorem log2_of {m b : Nat} (h1 : 2 ^ b ≤ m) (h2 : m < 2 ^ (b + 1)) : m.log2 = b := by
  have h0 : m ≠ 0 := by have := Nat.two_pow_pos b; omega
  have a1 : b ≤ m.log2 := (Nat.le_log2 h0).2 h1
  have a2 : m.log2 < b + 1 := (Nat.log2_lt h0).2 h2
  omega
theorem nearest_back (k : FloatKind) (x : Nat) {s : Bool} {m : Nat} {p : Int} (h : k.format.read x = .number s m p) (t : Bool) : k.format.nearest t m p = k.format.word t (x % k.format.signWeight) := by
  have hb := binade_pos k.format
  have hb2 : k.format.binade = 2 ^ k.format.fractionBits := rfl
  unfold Format.read at h
  dsimp only at h
  by_cases h1 : x % k.format.signWeight < k.format.binade
  · rw [if_pos h1] at h
    cases h
    by_cases h0 : x % k.format.signWeight = 0
    · rw [h0]
      unfold Format.nearest
      rw [if_pos rfl]
    · rw [nearest_rank _ _ _ _ h0]
      have hl : (x % k.format.signWeight).log2 ≤ k.format.fractionBits := by
        have := (Nat.log2_lt h0).2 (show x % k.format.signWeight < 2 ^ k.format.fractionBits by rw [← hb2]; exact h1)
        omega
      have hr := rank_exact k.format 0 hl (.inl rfl)
      simp only [Nat.zero_mul, Nat.zero_add, Int.natCast_zero, Int.add_zero] at hr
      have hr' : rank k.format (x % k.format.signWeight) k.format.leastPlace = x % k.format.signWeight := by simpa using hr
      rw [hr', Nat.min_eq_left (Nat.le_of_lt (Nat.lt_of_lt_of_le h1 (binade_le_inf k)))]
  · rw [if_neg h1] at h
    by_cases h2 : x % k.format.signWeight < k.format.infRung
    · rw [if_pos h2] at h
      cases h
      have hm0 : k.format.binade + x % k.format.signWeight % k.format.binade ≠ 0 := by omega
      rw [nearest_rank _ _ _ _ hm0]
      have hml := Nat.mod_lt (x % k.format.signWeight) hb
      have hl : (k.format.binade + x % k.format.signWeight % k.format.binade).log2 = k.format.fractionBits := log2_of (by omega) (by rw [Nat.pow_succ]; omega)
      have hr := rank_exact k.format (x % k.format.signWeight / k.format.binade - 1) (Nat.le_of_eq hl) (.inr hl)
      rw [hr]
      have hd := Nat.div_add_mod (x % k.format.signWeight) k.format.binade
      have hq : 1 ≤ x % k.format.signWeight / k.format.binade := (Nat.one_le_div_iff hb).2 (by omega)
      have he : (x % k.format.signWeight / k.format.binade - 1) * k.format.binade + (k.format.binade + x % k.format.signWeight % k.format.binade) = x % k.format.signWeight := by
        obtain ⟨j, hj⟩ : ∃ j, x % k.format.signWeight / k.format.binade = j + 1 := ⟨_, (Nat.sub_add_cancel hq).symm⟩
        rw [hj] at hd ⊢
        rw [Nat.add_sub_cancel]
        rw [Nat.mul_comm, Nat.add_mul, Nat.one_mul] at hd
        omega
      rw [he, Nat.min_eq_left (Nat.le_of_lt h2)]
    · rw [if_neg h2] at h
      split at h <;> cases h
theorem read_infR {k : FloatKind} {x : Nat} {s : Bool} (h : k.format.read x = .infinity s) : x % k.format.signWeight = k.format.infRung ∧ s = sgn k x := by
  unfold Format.read at h
  dsimp only at h
  split at h
  · cases h
  · split at h
    · cases h
    · split at h
      · next h3 => cases h; exact ⟨h3, rfl⟩
      · cases h
theorem read_numR {k : FloatKind} {x m : Nat} {p : Int} {s : Bool} (h : k.format.read x = .number s m p) : s = sgn k x ∧ (x % k.format.signWeight = 0 → m = 0) := by
  have hb := binade_pos k.format
  unfold Format.read at h
  dsimp only at h
  split at h
  · cases h; exact ⟨rfl, fun h => h⟩
  · next h1 =>
    split at h
    · cases h; exact ⟨rfl, fun h => by omega⟩
    · split at h <;> cases h
theorem read_zero32 : FloatKind.f32.format.read 0 = .number false 0 (-149) := by decide +kernel
theorem size_bits (x : Nat) (hn : isN .f32 x = false) (hs : si .f32 x ≤ 0) : floatBits .sub .f32 0 x = some (x % 2147483648) := by
    have hw : ∀ r, FloatKind.f32.format.word false r = r := fun _ => rfl
    show FloatKind.f32.format.sub 0 x = _
    unfold Format.sub
    rw [read_zero32]
    rcases read_cases hn with ⟨s, m, p, h1⟩ | ⟨s, h1⟩
    · rw [h1]
      obtain ⟨e1, e2⟩ := read_numR h1
      have hb := nearest_back .f32 x h1 false
      rw [hw] at hb
      show some (FloatKind.f32.format.nearest _ _ _) = _
      have hb' : FloatKind.f32.format.nearest false m p = x % 2147483648 := hb
      by_cases hm : m = 0
      · subst hm
        have hz : signed false 0 (-149 - min (-149) p).toNat + signed (!s) 0 (p - min (-149) p).toNat = 0 := by unfold signed; cases s <;> simp
        rw [hz]
        have h0 : ∀ (t : Bool) (q : Int), FloatKind.f32.format.nearest t 0 q = FloatKind.f32.format.word t 0 := fun t q => by unfold Format.nearest; rw [if_pos rfl]
        rw [if_pos rfl]
        show some (FloatKind.f32.format.nearest (false && !s) 0 _) = _
        rw [Bool.false_and, h0, ← h0 false p, hb']
      · have hst : s = true := by
          cases s
          · exfalso
            have h3 : x % 2147483648 ≠ 0 := fun h => hm (e2 h)
            unfold si at hs
            rw [← e1] at hs
            have h4 : sg false (rung .f32 x) = ((x % 2147483648 : Nat) : Int) := rfl
            rw [h4] at hs
            omega
          · rfl
        subst hst
        have hj : signed false 0 (-149 - min (-149) p).toNat + signed (!true) m (p - min (-149) p).toNat = ((m * 2 ^ (p - min (-149) p).toNat : Nat) : Int) := by
          unfold signed
          simp [Nat.shiftLeft_eq]
        rw [hj]
        have hpos : 0 < m * 2 ^ (p - min (-149) p).toNat := Nat.mul_pos (by omega) (Nat.two_pow_pos _)
        rw [if_neg (by omega)]
        have hd : decide (((m * 2 ^ (p - min (-149) p).toNat : Nat) : Int) < 0) = false := by rw [decide_eq_false_iff_not]; omega
        rw [hd, Int.natAbs_natCast]
        have hp : min (-149) p = p - ((p - min (-149) p).toNat : Int) := by omega
        have := nearest_scale FloatKind.f32.format false hm p (p - min (-149) p).toNat
        rw [← hp] at this
        rw [this, hb']
    · rw [h1]
      obtain ⟨e1, e2⟩ := read_infR h1
      have e1' : x % 2147483648 = FloatKind.f32.format.infRung := e1
      have hst : s = true := by
        cases s
        · exfalso
          unfold si at hs
          rw [← e2] at hs
          have h4 : sg false (rung .f32 x) = ((x % 2147483648 : Nat) : Int) := rfl
          rw [h4, e1'] at hs
          exact absurd hs (by decide)
        · rfl
      subst hst
      rw [e1']
      rfl
theorem size_opV (x : Nat) (hn : isN .f32 x = false) (hs : si .f32 x ≤ 0) (T : Nat → Question → Nat) (n : Nat) : opV .sub .f32 0 x T n = x % 2147483648 := by
  unfold opV
  rw [size_bits x hn hs]
theorem si_nonneg (x : Nat) (hx : x < 4294967296) (h : ¬ si .f32 x ≤ 0) : x % 2147483648 = x := by
  rw [si_f32] at h
  split at h <;> omega
theorem le_zero (x : Nat) (hn : isN .f32 x = false) : (FloatKind.f32.format.order x 0 == some .lt || FloatKind.f32.format.order x 0 == some .eq) = decide (si .f32 x ≤ 0) := by
  rw [order_si .f32 x 0 hn (by decide +kernel)]
  have h0 : si .f32 0 = 0 := by decide +kernel
  rw [h0]
  rcases Int.lt_trichotomy (si .f32 x) 0 with h | h | h
  · rw [cmp_lt h, decide_eq_true (Int.le_of_lt h)]; rfl
  · rw [cmp_eq h, decide_eq_true (Int.le_of_eq h)]; rfl
  · rw [cmp_gt h, decide_eq_false (by omega)]; rfl
theorem isN_size (x : Nat) (hn : isN .f32 x = false) : isN .f32 (x % 2147483648) = false := by
  rw [isN_f32] at hn ⊢
  rw [Nat.mod_mod]
  exact hn
theorem gt_neg1 (x : Nat) (hn : isN .f32 x = false) : (FloatKind.f32.format.order (x % 2147483648) 3212836864 == some .gt) = true := by
  rw [order_si .f32 _ _ (isN_size x hn) (by decide +kernel)]
  have h0 : si .f32 3212836864 = -1065353216 := by decide +kernel
  rw [h0, cmp_gt]
  · rfl
  · rw [si_f32]
    rw [if_neg (by omega)]
    omega
/-- the size of how far a rod is from its length. -/
def szD (D : D4) (i : Nat) : Nat := wrD D i % 2147483648
/-- the worst of the first rods, and how far it is off; -1 ahead of the first. -/
def wst (D : D4) : Nat → Nat × Nat
  | 0 => (0, 3212836864)
  | k + 1 => if (FloatKind.f32.format.order (szD D k) (wst D k).2 == some .gt) = true then (k, szD D k) else wst D k
end Go.Proofs.Ytlhgaihfghobmaa
