/- Bounds by powers of two: what is no greater than a power of two stays no greater when it is rounded. So nothing that is asked of here overflows. -/
import Derived.Test.YtfempadelilpoaaDoorFo
namespace Go.Proofs.YtfempadelilpoaaDoor
open Ieee

theorem cut_le (neg : Bool) (n drop c : Nat) (h : n ≤ c * 2 ^ drop) : Toward.even.cut neg n drop ≤ c := by
  unfold Toward.cut
  dsimp only
  rw [Nat.shiftLeft_eq, Nat.one_mul]
  by_cases hd : drop ≤ n.log2 + 2
  · rw [Nat.min_eq_left hd]
    have hg : 0 < 2 ^ drop := Nat.two_pow_pos _
    generalize 2 ^ drop = g at *
    have hdm := Nat.div_add_mod n g
    have hlo : n / g ≤ c := (Nat.div_le_iff_le_mul_add_pred hg).2 (by rw [Nat.mul_comm]; omega)
    rcases Nat.lt_or_eq_of_le hlo with h1 | h1
    · have : ∀ b : Bool, b.toNat ≤ 1 := by decide
      have := this (decide (g < 2 * (n % g)) || (g == 2 * (n % g) && n / g % 2 == 1))
      omega
    · have h2 : n % g = 0 := by rw [h1, Nat.mul_comm] at hdm; omega
      rw [h2, h1]
      have e1 : decide (g < 2 * 0) = false := by simp
      have e2 : (g == 2 * 0) = false := by simp; omega
      rw [e1, e2]
      simp
  · have hm : min drop (n.log2 + 2) = n.log2 + 2 := by omega
    rw [hm]
    have hlt : n < 2 ^ (n.log2 + 1) := Nat.lt_log2_self
    have e : 2 ^ (n.log2 + 2) = 2 * 2 ^ (n.log2 + 1) := by rw [Nat.pow_succ 2 (n.log2 + 1), Nat.mul_comm]
    rw [e]
    have h1 : n / (2 * 2 ^ (n.log2 + 1)) = 0 := Nat.div_eq_of_lt (by omega)
    have h2 : n % (2 * 2 ^ (n.log2 + 1)) = n := Nat.mod_eq_of_lt (by omega)
    rw [h1, h2]
    have e1 : decide (2 * 2 ^ (n.log2 + 1) < 2 * n) = false := by simp; omega
    have e2 : (2 * 2 ^ (n.log2 + 1) == 2 * n) = false := by simp; omega
    rw [e1, e2]
    simp

/-- a number's rung before it is cut off at infinity. -/
def rank (f : Format) (m : Nat) (place : Int) : Nat :=
  let last := max (place + m.log2 - f.fractionBits) f.leastPlace
  (last - f.leastPlace).toNat * f.binade + Toward.even.cut false (m <<< (place - last).toNat) (last - place).toNat

theorem cut_neg (s : Bool) (n d : Nat) : Toward.even.cut s n d = Toward.even.cut false n d := rfl
theorem nearest_rank (f : Format) (s : Bool) (m : Nat) (place : Int) (hm : m ≠ 0) : f.nearest s m place = f.word s (min (rank f m place) f.infRung) := by
  unfold Format.nearest rank
  rw [if_neg hm]
  rfl

/-- the rung of 2 ^ (leastPlace + E). -/
def rungE (f : Format) (E : Nat) : Nat := (E - f.fractionBits + 1) * f.binade

theorem rank_le (f : Format) (m : Nat) (place base : Int) (E : Nat) (hm : m ≠ 0) (hE : f.fractionBits ≤ E) (hb1 : base ≤ place) (hb2 : base ≤ f.leastPlace)
    (h : m * 2 ^ (place - base).toNat ≤ 2 ^ (E + (f.leastPlace - base).toNat)) : rank f m place ≤ rungE f E := by
  have hlg1 : 2 ^ m.log2 ≤ m := Nat.log2_self_le hm
  have hlg2 : m < 2 ^ (m.log2 + 1) := Nat.lt_log2_self
  have hle : m.log2 + (place - base).toNat ≤ E + (f.leastPlace - base).toNat := by
    have h1 : 2 ^ (m.log2 + (place - base).toNat) ≤ 2 ^ (E + (f.leastPlace - base).toNat) := by
      rw [Nat.pow_add]
      exact Nat.le_trans (Nat.mul_le_mul_right _ hlg1) h
    exact (Nat.pow_le_pow_iff_right (by decide)).1 h1
  have heq : m.log2 + (place - base).toNat = E + (f.leastPlace - base).toNat → m = 2 ^ m.log2 := by
    intro e
    rw [← e, Nat.pow_add] at h
    have := Nat.le_of_mul_le_mul_right h (Nat.two_pow_pos _)
    omega
  unfold rank rungE
  dsimp only
  have hB : f.binade = 2 ^ f.fractionBits := rfl
  generalize hL : f.leastPlace = L at *
  generalize m.log2 = lg at *
  generalize hfb : f.fractionBits = fb at *
  by_cases hc : L ≤ place + lg - fb
  · have hlast : max (place + (lg : Int) - (fb : Int)) L = place + lg - fb := by omega
    rw [hlast]
    generalize hu : (place - (place + (lg : Int) - (fb : Int))).toNat = u
    generalize hd : (place + (lg : Int) - (fb : Int) - place).toNat = d
    have hud : lg + u = fb + d := by omega
    rw [Nat.shiftLeft_eq]
    rcases Nat.lt_or_eq_of_le hle with g | g
    · have hcut : Toward.even.cut false (m * 2 ^ u) d ≤ 2 * f.binade := by
        apply cut_le
        have : m * 2 ^ u < 2 ^ (lg + 1) * 2 ^ u := Nat.mul_lt_mul_of_pos_right hlg2 (Nat.two_pow_pos _)
        rw [hB]
        have e : 2 ^ (lg + 1) * 2 ^ u = 2 * 2 ^ fb * 2 ^ d := by
          rw [← Nat.pow_add, show lg + 1 + u = (fb + d) + 1 by omega, Nat.pow_succ, Nat.pow_add, Nat.mul_comm, Nat.mul_assoc]
        omega
      have hk : (place + (lg : Int) - (fb : Int) - L).toNat + 2 ≤ E - fb + 1 := by omega
      calc (place + (lg : Int) - (fb : Int) - L).toNat * f.binade + Toward.even.cut false (m * 2 ^ u) d
          ≤ (place + (lg : Int) - (fb : Int) - L).toNat * f.binade + 2 * f.binade := Nat.add_le_add_left hcut _
        _ = ((place + (lg : Int) - (fb : Int) - L).toNat + 2) * f.binade := (Nat.add_mul _ _ _).symm
        _ ≤ (E - fb + 1) * f.binade := Nat.mul_le_mul_right _ hk
    · have hmm := heq g
      have hcut : Toward.even.cut false (m * 2 ^ u) d ≤ 1 * f.binade := by
        apply cut_le
        rw [hB]
        have e : m * 2 ^ u = 1 * 2 ^ fb * 2 ^ d := by
          rw [hmm, ← Nat.pow_add, hud, Nat.one_mul, Nat.pow_add]
        omega
      have hk : (place + (lg : Int) - (fb : Int) - L).toNat + 1 ≤ E - fb + 1 := by omega
      calc (place + (lg : Int) - (fb : Int) - L).toNat * f.binade + Toward.even.cut false (m * 2 ^ u) d
          ≤ (place + (lg : Int) - (fb : Int) - L).toNat * f.binade + 1 * f.binade := Nat.add_le_add_left hcut _
        _ = ((place + (lg : Int) - (fb : Int) - L).toNat + 1) * f.binade := (Nat.add_mul _ _ _).symm
        _ ≤ (E - fb + 1) * f.binade := Nat.mul_le_mul_right _ hk
  · have hlast : max (place + (lg : Int) - (fb : Int)) L = L := by omega
    rw [hlast]
    generalize hu : (place - L).toNat = u
    generalize hd : (L - place).toNat = d
    have hud : lg + 1 + u ≤ fb + d := by omega
    rw [Nat.shiftLeft_eq]
    have hcut : Toward.even.cut false (m * 2 ^ u) d ≤ f.binade := by
      apply cut_le
      have : m * 2 ^ u < 2 ^ (lg + 1) * 2 ^ u := Nat.mul_lt_mul_of_pos_right hlg2 (Nat.two_pow_pos _)
      rw [hB]
      have e : 2 ^ (lg + 1) * 2 ^ u ≤ 2 ^ fb * 2 ^ d := by
        rw [← Nat.pow_add, ← Nat.pow_add]
        exact Nat.pow_le_pow_right (by decide) hud
      omega
    have e0 : (L - L).toNat = 0 := by omega
    rw [e0, Nat.zero_mul, Nat.zero_add]
    exact Nat.le_trans hcut (Nat.le_mul_of_pos_left _ (by omega))

theorem sw_pos (f : Format) : 0 < f.signWeight := Nat.two_pow_pos _
theorem word_rung (f : Format) (s : Bool) (r : Nat) (h : r < f.signWeight) : f.word s r % f.signWeight = r := by
  unfold Format.word
  cases s
  · simp only [Bool.false_eq_true, if_false]; exact Nat.mod_eq_of_lt h
  · simp only [if_true]; rw [Nat.add_mod_left]; exact Nat.mod_eq_of_lt h
theorem word_sign (f : Format) (s : Bool) (r : Nat) (h : r < f.signWeight) : (f.word s r / f.signWeight % 2 == 1) = s := by
  unfold Format.word
  cases s
  · simp only [Bool.false_eq_true, if_false]; rw [Nat.div_eq_of_lt h]; rfl
  · simp only [if_true]; rw [Nat.add_div_left _ (sw_pos f), Nat.div_eq_of_lt h]; rfl

theorem inf_lt_sw (f : Format) : f.infRung < f.signWeight := f.infRung_lt

/-- finite, and no greater than 2 ^ (leastPlace + E). -/
def le2 (k : FloatKind) (x E : Nat) : Prop := rung k x ≤ rungE k.format E
def Eok (k : FloatKind) (E : Nat) : Prop := k.format.fractionBits ≤ E ∧ rungE k.format E < k.format.infRung
theorem le2_fin {k : FloatKind} {x E : Nat} (h : le2 k x E) (hE : Eok k E) : rung k x < k.format.infRung := Nat.lt_of_le_of_lt h hE.2
theorem le2_num {k : FloatKind} {x E : Nat} (h : le2 k x E) (hE : Eok k E) : isN k x = false := by
  rw [isN_rung]
  have := le2_fin h hE
  exact decide_eq_false (by omega)

theorem nearest_le2 (k : FloatKind) (s : Bool) (m : Nat) (place base : Int) (E : Nat) (hE : Eok k E) (hb1 : base ≤ place) (hb2 : base ≤ k.format.leastPlace)
    (h : m * 2 ^ (place - base).toNat ≤ 2 ^ (E + (k.format.leastPlace - base).toNat)) : le2 k (k.format.nearest s m place) E := by
  unfold le2 rung
  by_cases hm : m = 0
  · unfold Format.nearest
    rw [if_pos hm, word_rung _ _ _ (sw_pos _)]
    exact Nat.zero_le _
  · rw [nearest_rank _ _ _ _ hm]
    have h1 := rank_le k.format m place base E hm hE.1 hb1 hb2 h
    have h2 := inf_lt_sw k.format
    rw [word_rung _ _ _ (by omega)]
    omega

theorem mval_rungE (f : Format) (E : Nat) (hE : f.fractionBits ≤ E) : mval f (rungE f E) = 2 ^ E := by
  have hB := binade_pos f
  unfold mval rungE
  have h1 : ¬ (E - f.fractionBits + 1) * f.binade < f.binade := by
    have := Nat.le_mul_of_pos_left f.binade (show 0 < E - f.fractionBits + 1 by omega)
    omega
  rw [if_neg h1, Nat.mul_mod_left, Nat.mul_div_cancel _ hB]
  simp only [Nat.add_zero, Nat.add_sub_cancel]
  show 2 ^ f.fractionBits * _ = _
  rw [← Nat.pow_add]
  congr 1
  omega
theorem mval_le {f : Format} {a b : Nat} (h : a ≤ b) : mval f a ≤ mval f b := by
  rcases Nat.lt_or_eq_of_le h with h | rfl
  · exact Nat.le_of_lt (mval_lt f h)
  · exact Nat.le_refl _
/-- a bounded number opened. -/
theorem le2_read {k : FloatKind} {x E : Nat} (h : le2 k x E) (hE : Eok k E) :
    ∃ m a : Nat, k.format.read x = .number (sgn k x) m (k.format.leastPlace + (a : Int)) ∧ m * 2 ^ a ≤ 2 ^ E ∧ m * 2 ^ a = mval k.format (rung k x) := by
  obtain ⟨m, a, h1, h2⟩ := read_num k.format x (le2_fin h hE)
  refine ⟨m, a, h1, ?_, h2⟩
  rw [h2, ← mval_rungE _ _ hE.1]
  exact mval_le h
theorem le2_mono {k : FloatKind} {x E E' : Nat} (h : le2 k x E) (hE : E ≤ E') : le2 k x E' :=
  Nat.le_trans h (Nat.mul_le_mul_right _ (by omega))

theorem le2_notinf {k : FloatKind} {x E : Nat} (h : le2 k x E) (hE : Eok k E) : (k.decode x).isInfinity = false := by
  obtain ⟨m, a, h1, _⟩ := le2_read h hE
  unfold FloatKind.decode
  rw [h1]
  rfl

/-- every finite float32 is at most 2 ^ 128. -/
theorem fin32 (x : Nat) (h : rung .f32 x < FloatKind.f32.format.infRung) (E : Nat) (hE : E = 277) : ∃ m a : Nat, FloatKind.f32.format.read x = .number (sgn .f32 x) m (FloatKind.f32.format.leastPlace + (a : Int)) ∧ m * 2 ^ a ≤ 2 ^ E := by
  obtain ⟨m, a, h1, h2⟩ := read_num FloatKind.f32.format x h
  refine ⟨m, a, h1, ?_⟩
  rw [h2]
  have e : (2 : Nat) ^ E = mval FloatKind.f32.format (rungE FloatKind.f32.format E) := (mval_rungE _ _ (by subst hE; decide)).symm
  rw [e]
  apply mval_le
  have e2 : FloatKind.f32.format.infRung = rungE FloatKind.f32.format E := by subst hE; decide
  rw [← e2]
  exact Nat.le_of_lt h

theorem Eok64 (E : Nat) (h1 : 52 ≤ E) (h2 : E ≤ 2097) : Eok .f64 E := by
  refine ⟨h1, ?_⟩
  have e1 : FloatKind.f64.format.infRung = 2047 * 4503599627370496 := rfl
  show (E - 52 + 1) * 4503599627370496 < _
  rw [e1]
  omega
theorem Eok32 (E : Nat) (h1 : 23 ≤ E) (h2 : E ≤ 276) : Eok .f32 E := by
  refine ⟨h1, ?_⟩
  have e1 : FloatKind.f32.format.infRung = 255 * 8388608 := rfl
  show (E - 23 + 1) * 8388608 < _
  rw [e1]
  omega
theorem fin_rung {k : FloatKind} {x : Nat} (hn : isN k x = false) (hi : rung k x ≠ k.format.infRung) : rung k x < k.format.infRung := by
  rw [isN_rung] at hn
  have := of_decide_eq_false hn
  omega

theorem widen_le2 (x : Nat) (h : rung .f32 x < FloatKind.f32.format.infRung) : ∃ m a : Nat, FloatKind.f32.decode x = .number (sgn .f32 x) m (FloatKind.f32.format.leastPlace + (a : Int)) ∧ le2 .f64 (FloatKind.f64.encode (.number (sgn .f32 x) m (FloatKind.f32.format.leastPlace + (a : Int)))) 1202 := by
  obtain ⟨E, hE⟩ : ∃ E, E = 277 := ⟨_, rfl⟩
  obtain ⟨m, a, h1, h2⟩ := fin32 x h E hE
  refine ⟨m, a, h1, ?_⟩
  have hL32 : FloatKind.f32.format.leastPlace = -149 := by decide
  have hL64 : FloatKind.f64.format.leastPlace = -1074 := by decide
  show le2 .f64 (FloatKind.f64.format.nearest _ _ _) _
  rw [hL32]
  refine nearest_le2 .f64 _ m _ (-1074) 1202 (Eok64 _ (by omega) (by omega)) (by omega) (by rw [hL64]; exact Int.le_refl _) ?_
  rw [hL64]
  have e1 : (-149 + (a : Int) - -1074).toNat = a + 925 := by omega
  have e2 : ((-1074 : Int) - -1074).toNat = 0 := by decide
  rw [e1, e2, Nat.pow_add, ← Nat.mul_assoc]
  have e3 : 1202 + 0 = E + 925 := by omega
  rw [e3, Nat.pow_add]
  exact Nat.mul_le_mul_right _ h2

theorem cvOk_widen (x : Nat) : cvOk .f32 .f64 x := by
  unfold cvOk
  by_cases hn : isN .f32 x = true
  · obtain ⟨s, f, hx⟩ := isN_iff.1 hn
    rw [hx]; trivial
  · by_cases hi : rung .f32 x = FloatKind.f32.format.infRung
    · have : FloatKind.f32.decode x = .infinity _ := read_inf FloatKind.f32.format x (binade_le_inf .f32) hi
      rw [this]; trivial
    · obtain ⟨m, a, h1, h2⟩ := widen_le2 x (fin_rung (by simpa using hn) hi)
      rw [h1]
      exact le2_notinf h2 (Eok64 _ (by omega) (by omega))
theorem widen_sim {a b : Nat} (h : Sim .f32 a b) (T : Nat → Question → Nat) (n : Nat) (T' : Nat → Question → Nat) (n' : Nat) : Sim .f64 (cvV .f32 .f64 a T n) (cvV .f32 .f64 b T' n') := cvV_sim h (fun _ => cvOk_widen a) T n T' n'
end Go.Proofs.YtfempadelilpoaaDoor
