/- A float64 without its whole part: by Trunc or by way of an integer, the same; never greater than 1. -/
import Derived.Test.YtojkdlidcmfkeaaFi
namespace Go.Proofs.Ytojkdlidcmfkeaa
open Ieee

theorem read_word64 {s : Bool} {a m : Nat} (h1 : 4503599627370496 ≤ m) (h2 : m < 9007199254740992) (h3 : a * 4503599627370496 + m < FloatKind.f64.format.infRung) : FloatKind.f64.format.read (FloatKind.f64.format.word s (a * 4503599627370496 + m)) = .number s m (-1074 + (a : Int)) := by
  have hs := inf_lt_sw FloatKind.f64.format
  have hr : rung .f64 (FloatKind.f64.format.word s (a * 4503599627370496 + m)) = a * 4503599627370496 + m := word_rung _ _ _ (by omega)
  have hg : sgn .f64 (FloatKind.f64.format.word s (a * 4503599627370496 + m)) = s := word_sign _ _ _ (by omega)
  obtain ⟨m', a', g1, g2, g3, g4⟩ := read64 (FloatKind.f64.format.word s (a * 4503599627370496 + m)) (by rw [hr]; exact h3)
  rw [hg] at g1
  rw [hr] at g2
  have e1 : a = a' := by omega
  have e2 : m = m' := by omega
  rw [e1, e2]; rw [e1, e2] at g1; exact g1
/-- a whole number below 2^53, as a float64. -/
theorem whole_read (s : Bool) {N : Nat} (h0 : N ≠ 0) (h1 : N < 9007199254740992) : ∃ M a : Nat, FloatKind.f64.format.read (FloatKind.f64.format.nearest s N 0) = .number s M (-1074 + (a : Int)) ∧ M * 2 ^ a = N * 2 ^ 1074 := by
  have hlt : N.log2 ≤ 52 := by
    have : N < 2 ^ 53 := by simpa using h1
    have := (Nat.log2_lt h0).2 this
    omega
  obtain ⟨j, hj⟩ : ∃ j, j = 52 - N.log2 := ⟨_, rfl⟩
  have e := nearest_scale FloatKind.f64.format s h0 0 j
  have hp : 0 < 2 ^ j := Nat.two_pow_pos _
  have hlo : 4503599627370496 ≤ N * 2 ^ j := by
    refine Nat.le_trans ?_ (Nat.mul_le_mul_right _ (Nat.log2_self_le h0))
    rw [← Nat.pow_add, show N.log2 + j = 52 by omega]
    exact Nat.le_refl _
  have hhi : N * 2 ^ j < 9007199254740992 := by
    refine Nat.lt_of_lt_of_le (Nat.mul_lt_mul_of_pos_right Nat.lt_log2_self hp) ?_
    rw [← Nat.pow_add, show N.log2 + 1 + j = 53 by omega]
    exact Nat.le_refl _
  have hi : FloatKind.f64.format.infRung = 2047 * 4503599627370496 := rfl
  obtain ⟨a, ha⟩ : ∃ a, a = 1074 - j := ⟨_, rfl⟩
  rw [show (0 : Int) - (j : Int) = -1074 + (a : Int) by omega, nearest_num s (by omega) hhi (.inr hlo) (by rw [hi]; omega)] at e
  refine ⟨N * 2 ^ j, a, ?_, ?_⟩
  · rw [← e]
    exact read_word64 hlo hhi (by rw [hi]; omega)
  · rw [Nat.mul_assoc, ← Nat.pow_add, show j + a = 1074 by omega]

/-- the whole part of a number, cut towards zero. -/
def trN (y : Nat) : Nat := match FloatKind.f64.format.read y with | .number _ m e => m / 2 ^ (-e).toNat | _ => 0
def trI (y : Nat) : Int := if sgn .f64 y then -(trN y : Int) else trN y
def trV (y : Nat) : Nat := FloatKind.f64.encode ((FloatKind.f64.decode y).integral .zero)
theorem zero_cut (s : Bool) (n d : Nat) : Toward.zero.cut s n d = n / 2 ^ d := by
  unfold Toward.cut
  dsimp only
  rw [Nat.shiftLeft_eq, Nat.one_mul]
  show n / 2 ^ min d (n.log2 + 2) + 0 = _
  rw [Nat.add_zero]
  by_cases h : d ≤ n.log2 + 2
  · rw [Nat.min_eq_left h]
  · rw [Nat.min_eq_right (by omega)]
    have h1 : n < 2 ^ (n.log2 + 2) := Nat.lt_trans Nat.lt_log2_self (Nat.pow_lt_pow_right (by decide) (by omega))
    rw [Nat.div_eq_of_lt h1, Nat.div_eq_of_lt (Nat.lt_trans h1 (Nat.pow_lt_pow_right (by decide) (by omega)))]
/-- a number below 2^52 in size. -/
theorem small_read {y : Nat} (h : rung .f64 y < 4841369599423283200) : ∃ m a : Nat, FloatKind.f64.format.read y = .number (sgn .f64 y) m (-1074 + (a : Int)) ∧ m < 9007199254740992 ∧ a ≤ 1074 ∧ trN y = m / 2 ^ (1074 - a) := by
  have hi : FloatKind.f64.format.infRung = 2047 * 4503599627370496 := rfl
  obtain ⟨m, a, g1, g2, g3, g4⟩ := read64 y (by rw [hi]; omega)
  have ha : a ≤ 1074 := by omega
  refine ⟨m, a, g1, g3, ha, ?_⟩
  unfold trN
  rw [g1]
  show m / 2 ^ (-(-1074 + (a : Int))).toNat = _
  rw [show (-(-1074 + (a : Int))).toNat = 1074 - a by omega]
theorem trN_lt {y : Nat} (h : rung .f64 y < 4841369599423283200) : trN y < 9007199254740992 := by
  obtain ⟨m, a, g1, g3, ha, e⟩ := small_read h
  rw [e]
  exact Nat.lt_of_le_of_lt (Nat.div_le_self _ _) g3
theorem trV_eq {y : Nat} (h : rung .f64 y < 4841369599423283200) : trV y = FloatKind.f64.format.nearest (sgn .f64 y) (trN y) 0 := by
  obtain ⟨m, a, g1, g3, ha, e⟩ := small_read h
  unfold trV
  have g1' : FloatKind.f64.decode y = .number (sgn .f64 y) m (-1074 + (a : Int)) := g1
  rw [g1']
  show FloatKind.f64.format.nearest _ (Toward.zero.cut _ (m <<< (-1074 + (a : Int)).toNat) (-(-1074 + (a : Int))).toNat) 0 = _
  rw [zero_cut, show (-1074 + (a : Int)).toNat = 0 by omega, show (-(-1074 + (a : Int))).toNat = 1074 - a by omega, Nat.shiftLeft_eq, Nat.pow_zero, Nat.mul_one, e]
theorem toInt_eq {y : Nat} (h : rung .f64 y < 4841369599423283200) : floatToIntVal .f64 y .i64 = some (trI y) := by
  obtain ⟨m, a, g1, g3, ha, e⟩ := small_read h
  have hN := trN_lt h
  unfold floatToIntVal
  have g1' : FloatKind.f64.decode y = .number (sgn .f64 y) m (-1074 + (a : Int)) := g1
  rw [g1']
  have e1 : (Datum.number (sgn .f64 y) m (-1074 + (a : Int))).toInt .zero = some (trI y) := by
    show some (signed (sgn .f64 y) (Toward.zero.cut _ (m <<< (-1074 + (a : Int)).toNat) (-(-1074 + (a : Int))).toNat) 0) = _
    rw [zero_cut, show (-1074 + (a : Int)).toNat = 0 by omega, show (-(-1074 + (a : Int))).toNat = 1074 - a by omega, Nat.shiftLeft_eq, Nat.pow_zero, Nat.mul_one, ← e]
    unfold signed trI
    rw [Nat.shiftLeft_eq, Nat.pow_zero, Nat.mul_one]
  rw [e1]
  show (if IntKind.i64.min ≤ trI y ∧ trI y ≤ IntKind.i64.max then some (trI y) else none) = _
  have hmin : IntKind.i64.min = -9223372036854775808 := rfl
  have hmax : IntKind.i64.max = 9223372036854775807 := rfl
  rw [if_pos]
  rw [hmin, hmax]
  unfold trI
  split <;> omega
theorem ofInt_eq {y : Nat} (h0 : trN y ≠ 0) : Go.floatOfInt .f64 (trI y) = FloatKind.f64.format.nearest (sgn .f64 y) (trN y) 0 := by
  show FloatKind.f64.format.nearest (decide (trI y < 0)) (trI y).natAbs 0 = _
  unfold trI
  cases hs : sgn .f64 y
  · rw [if_neg (by simp)]
    rw [decide_eq_false (by omega), Int.natAbs_natCast]
  · rw [if_pos rfl]
    rw [decide_eq_true (by omega), Int.natAbs_neg, Int.natAbs_natCast]
theorem ofInt_zero {y : Nat} (h0 : trN y = 0) : Go.floatOfInt .f64 (trI y) = 0 := by
  have : trI y = 0 := by unfold trI; rw [h0]; simp
  rw [this]
  decide
theorem trV_zero {y : Nat} (h : rung .f64 y < 4841369599423283200) (h0 : trN y = 0) : FloatKind.f64.format.order (trV y) 0 = some .eq := by
  rw [trV_eq h, h0]
  cases sgn .f64 y <;> decide
theorem trV_nonzero {y : Nat} (h : rung .f64 y < 4841369599423283200) (h0 : trN y ≠ 0) : FloatKind.f64.format.order (trV y) 0 ≠ some .eq := by
  rw [trV_eq h]
  obtain ⟨M, a, g1, g2⟩ := whole_read (sgn .f64 y) h0 (trN_lt h)
  intro hc
  rw [order_eq_iff] at hc
  obtain ⟨hn, _, hs⟩ := hc
  have h00 : si .f64 0 = 0 := by decide
  rw [h00] at hs
  have hr : rung .f64 (FloatKind.f64.format.nearest (sgn .f64 y) (trN y) 0) = 0 := by
    unfold si sg at hs
    split at hs <;> omega
  obtain ⟨M', a', k1, k2⟩ := read_num FloatKind.f64.format (FloatKind.f64.format.nearest (sgn .f64 y) (trN y) 0) (by rw [show FloatKind.f64.format.nearest (sgn .f64 y) (trN y) 0 % FloatKind.f64.format.signWeight = 0 from hr]; decide)
  rw [show FloatKind.f64.format.nearest (sgn .f64 y) (trN y) 0 % FloatKind.f64.format.signWeight = 0 from hr, mval_zero] at k2
  rw [g1, L64] at k1
  simp only [Datum.number.injEq] at k1
  obtain ⟨_, rfl, k3⟩ := k1
  have hM : M = 0 := by
    rcases Nat.mul_eq_zero.1 k2 with h | h
    · exact h
    · have := Nat.two_pow_pos a'; omega
  rw [hM, Nat.zero_mul] at g2
  rcases Nat.mul_eq_zero.1 g2.symm with h | h
  · exact h0 h
  · have := Nat.two_pow_pos 1074; omega
theorem sub_zero {y : Nat} (hy : y < 18446744073709551616) (h : rung .f64 y < FloatKind.f64.format.infRung) (T : Nat → Question → Nat) (n : Nat) : opV .sub .f64 y 0 T n = y := by
  obtain ⟨m, a, g1, g2, g3, g4⟩ := read64 y h
  have r0 : FloatKind.f64.format.read 0 = .number false 0 (-1074) := by kernel_rfl
  apply opV_some
  show FloatKind.f64.format.sub y 0 = _
  unfold Format.sub
  rw [g1, r0]
  have e0 : min (-1074 + (a : Int)) (-1074) = -1074 := by omega
  have e1 : (-1074 + (a : Int) - -1074).toNat = a := by omega
  have e2 : ((-1074 : Int) - -1074).toNat = 0 := rfl
  simp only [Datum.opposite, Datum.sum, e0, e1, e2, Option.map_some, Option.some.injEq]
  have t1 : signed (!false) 0 0 = 0 := rfl
  rw [t1, Int.add_zero]
  show FloatKind.f64.format.nearest _ _ _ = y
  by_cases hm : m = 0
  · subst hm
    have ha : a = 0 := by omega
    subst ha
    have t2 : ∀ s, signed s 0 0 = 0 := by decide
    rw [t2]
    simp only [if_true, Bool.not_false, Bool.and_true, Int.natAbs_zero]
    unfold Format.nearest
    rw [if_pos rfl]
    have := word_self hy
    rw [show rung .f64 y = 0 by omega] at this
    exact this
  · have hpos : 0 < m * 2 ^ a := Nat.mul_pos (by omega) (Nat.two_pow_pos _)
    have t2 : signed (sgn .f64 y) m a ≠ 0 := by
      intro hc
      have := signed_abs (sgn .f64 y) m a
      rw [hc] at this
      simp at this
      omega
    rw [if_neg t2, signed_abs]
    have t3 : decide (signed (sgn .f64 y) m a < 0) = sgn .f64 y := by
      unfold signed
      rw [Nat.shiftLeft_eq]
      generalize m * 2 ^ a = p at hpos
      cases sgn .f64 y
      · exact decide_eq_false (by simp)
      · exact decide_eq_true (by simp; omega)
    rw [t3]
    have e := nearest_scale FloatKind.f64.format (sgn .f64 y) hm (-1074 + (a : Int)) a
    rw [show (-1074 + (a : Int)) - (a : Int) = -1074 by omega] at e
    rw [e, nearest_num _ hm g3 g4 (by omega), ← g2]
    exact word_self hy
/-- what is left of a number without its whole part: no more than 1. -/
def frV (y : Nat) : Nat := if trN y = 0 then y else opV .sub .f64 y (FloatKind.f64.format.nearest (sgn .f64 y) (trN y) 0) (fun _ _ => 0) 0
theorem le2_of_mval {y E : Nat} (hE : 52 ≤ E) (h : mval FloatKind.f64.format (rung .f64 y) ≤ 2 ^ E) : le2 .f64 y E := by
  unfold le2
  rw [← mval_rungE FloatKind.f64.format E hE] at h
  apply Nat.le_of_not_lt
  intro hc
  have := mval_lt FloatKind.f64.format hc
  omega
theorem frac_le2 {y : Nat} (h : rung .f64 y < 4841369599423283200) (T : Nat → Question → Nat) (n : Nat) : le2 .f64 (opV .sub .f64 y (FloatKind.f64.format.nearest (sgn .f64 y) (trN y) 0) T n) 1074 ∨ trN y = 0 := by
  by_cases h0 : trN y = 0
  · exact .inr h0
  refine .inl ?_
  obtain ⟨m, a, g1, g3, ha, e⟩ := small_read h
  obtain ⟨M, b, k1, k2⟩ := whole_read (sgn .f64 y) h0 (trN_lt h)
  obtain ⟨K, hK⟩ : ∃ K : Nat, K = 1074 := ⟨_, rfl⟩
  rw [show (2 : Nat) ^ 1074 = 2 ^ K by rw [hK]] at k2
  have hd : trN y * 2 ^ K ≤ m * 2 ^ a ∧ m * 2 ^ a < trN y * 2 ^ K + 2 ^ K := by
    have e3 : 2 ^ K = 2 ^ (1074 - a) * 2 ^ a := by rw [← Nat.pow_add, show 1074 - a + a = K by omega]
    have hdm := Nat.div_add_mod m (2 ^ (1074 - a))
    have hlt := Nat.mod_lt m (Nat.two_pow_pos (1074 - a))
    rw [← e, Nat.mul_comm] at hdm
    have hp := Nat.two_pow_pos a
    rw [e3, ← Nat.mul_assoc, ← Nat.add_mul]
    constructor
    · exact Nat.mul_le_mul_right _ (by omega)
    · exact Nat.mul_lt_mul_of_pos_right (by omega) hp
  obtain ⟨c, hc⟩ : ∃ c, c = min a b := ⟨_, rfl⟩
  obtain ⟨tot, htot⟩ : ∃ tot, tot = signed (sgn .f64 y) m (a - c) + signed (!sgn .f64 y) M (b - c) := ⟨_, rfl⟩
  have hf : ∃ z, floatBits .sub .f64 y (FloatKind.f64.format.nearest (sgn .f64 y) (trN y) 0) = some (FloatKind.f64.format.nearest z tot.natAbs (-1074 + (c : Int))) := by
    refine ⟨if tot = 0 then sgn .f64 y && !sgn .f64 y else decide (tot < 0), ?_⟩
    show FloatKind.f64.format.sub y _ = _
    unfold Format.sub
    rw [g1, k1]
    have e0 : min (-1074 + (a : Int)) (-1074 + (b : Int)) = -1074 + (c : Int) := by omega
    have e1 : (-1074 + (a : Int) - (-1074 + (c : Int))).toNat = a - c := by omega
    have e2 : (-1074 + (b : Int) - (-1074 + (c : Int))).toNat = b - c := by omega
    simp only [Datum.opposite, Datum.sum, e0, e1, e2, Option.map_some, ← htot]
    rfl
  obtain ⟨z, hf⟩ := hf
  rw [opV_some hf]
  refine nearest_le2 .f64 _ _ _ (-1074) 1074 (Eok64 _ (by omega) (by omega)) (by omega) (by rw [L64]; omega) ?_
  rw [L64, show ((-1074 : Int) - -1074).toNat = 0 by omega, show (-1074 + (c : Int) - -1074).toNat = c by omega, show 1074 + 0 = K by omega]
  have e5 : tot.natAbs * 2 ^ c = m * 2 ^ a - trN y * 2 ^ K := by
    have e6 : m * 2 ^ (a - c) * 2 ^ c = m * 2 ^ a := by rw [Nat.mul_assoc, ← Nat.pow_add, show a - c + c = a by omega]
    have e7 : M * 2 ^ (b - c) * 2 ^ c = trN y * 2 ^ K := by rw [Nat.mul_assoc, ← Nat.pow_add, show b - c + c = b by omega, k2]
    have hge : M * 2 ^ (b - c) ≤ m * 2 ^ (a - c) := by
      apply Nat.le_of_mul_le_mul_right (c := 2 ^ c) _ (Nat.two_pow_pos _)
      rw [e6, e7]; exact hd.1
    have e8 : tot.natAbs = m * 2 ^ (a - c) - M * 2 ^ (b - c) := by
      rw [htot]
      unfold signed
      rw [Nat.shiftLeft_eq, Nat.shiftLeft_eq]
      generalize m * 2 ^ (a - c) = p at *
      generalize M * 2 ^ (b - c) = r at *
      cases sgn .f64 y <;> simp <;> omega
    rw [e8, Nat.sub_mul, e6, e7]
  rw [e5]
  omega
theorem frV_le2 {y : Nat} (h : rung .f64 y < 4841369599423283200) : le2 .f64 (frV y) 1074 := by
  unfold frV
  split
  · rename_i h0
    obtain ⟨m, a, g1, g3, ha, e⟩ := small_read h
    have hi : FloatKind.f64.format.infRung = 2047 * 4503599627370496 := rfl
    obtain ⟨m', a', k1, k2⟩ := read_num FloatKind.f64.format y (by rw [hi]; exact Nat.lt_trans h (by decide))
    rw [g1, L64] at k1
    simp only [Datum.number.injEq] at k1
    obtain ⟨_, rfl, k3⟩ := k1
    have haa : a = a' := by omega
    subst haa
    refine le2_of_mval (by omega) ?_
    show mval _ (y % _) ≤ _
    rw [← k2]
    have h9 : m < 2 ^ (1074 - a) := by
      rw [h0] at e
      have := (Nat.div_eq_zero_iff).1 e.symm
      rcases this with h | h
      · have := Nat.two_pow_pos (1074 - a); omega
      · exact h
    have h10 := Nat.mul_le_mul_right (2 ^ a) (Nat.le_of_lt h9)
    rw [← Nat.pow_add, show 1074 - a + a = 1074 by omega] at h10
    exact h10
  · rename_i h0
    rcases frac_le2 h (fun _ _ => 0) 0 with h1 | h1
    · exact h1
    · exact absurd h1 h0
end Go.Proofs.Ytojkdlidcmfkeaa
