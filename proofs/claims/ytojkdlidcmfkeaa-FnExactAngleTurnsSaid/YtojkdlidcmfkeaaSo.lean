/- SineTurns' contracts: what its argument is, the wide sine, narrowed. -/
import Derived.Test.YtojkdlidcmfkeaaSn
namespace Go.Proofs.Ytojkdlidcmfkeaa
open Go.ChangeShapes Go.WideShapes Go.ChangeAt Go.RowKit Go.Deep

theorem sub_self_nan {y : Nat} (h : isN .f64 y = true ∨ rung .f64 y = FloatKind.f64.format.infRung) (T : Nat → Question → Nat) (n : Nat) : (FloatKind.f64.format.order (opV .sub .f64 y y T n) 0 != some .eq) = true := by
  have hn : isN .f64 (opV .sub .f64 y y T n) = true := by
    rcases h with h | h
    · exact opV_nan T n (floatBits_nan_l .sub y h)
    · have h1 : FloatKind.f64.format.read y = .infinity (sgn .f64 y) := Go.Proofs.Ytojkdlidcmfkeaa.read_inf FloatKind.f64.format y (binade_le_inf .f64) h
      refine opV_nan T n ?_
      show FloatKind.f64.format.sub y y = none
      unfold Ieee.Format.sub
      rw [h1]
      show Option.map _ ((Ieee.Datum.infinity (sgn .f64 y)).sum (Ieee.Datum.infinity (!sgn .f64 y))) = none
      cases sgn .f64 y <;> rfl
  rw [order_none .f64 _ 0 (.inl hn)]
  rfl
theorem sub_self_zero {y : Nat} (h : rung .f64 y < FloatKind.f64.format.infRung) (T : Nat → Question → Nat) (n : Nat) : opV .sub .f64 y y T n = 0 := by
  obtain ⟨m, a, g1, g2, g3, g4⟩ := read64 y h
  apply opV_some
  show FloatKind.f64.format.sub y y = _
  unfold Ieee.Format.sub
  rw [g1]
  have : (Ieee.Datum.number (sgn .f64 y) m (-1074 + (a : Int))).sum (Ieee.Datum.number (!sgn .f64 y) m (-1074 + (a : Int))) = some (.number false 0 (-1074 + (a : Int))) := by
    have ht : ∀ u, Ieee.signed (sgn .f64 y) m u + Ieee.signed (!sgn .f64 y) m u = 0 := fun u => by
      cases sgn .f64 y <;> simp [Ieee.signed] <;> omega
    simp only [Ieee.Datum.sum, ht]
    cases sgn .f64 y <;> simp
  show Option.map _ ((Ieee.Datum.number (sgn .f64 y) m (-1074 + (a : Int))).sum (Ieee.Datum.number (!sgn .f64 y) m (-1074 + (a : Int)))) = _
  rw [this]
  show some (FloatKind.f64.format.nearest false 0 _) = some 0
  unfold Ieee.Format.nearest
  rw [if_pos rfl]
  rfl
theorem inf64 (s : Bool) : rung .f64 (FloatKind.f64.encode (.infinity s)) = FloatKind.f64.format.infRung := by cases s <;> decide +kernel
theorem inf64_num (s : Bool) : isN .f64 (FloatKind.f64.encode (.infinity s)) = false := isN_encode _ _ rfl
/-- a float32 that is not finite, widened. -/
theorem widen_notfin {x : Nat} (h : finB x = false) (T : Nat → Question → Nat) (n : Nat) : isN .f64 (cvV .f32 .f64 x T n) = true ∨ rung .f64 (cvV .f32 .f64 x T n) = FloatKind.f64.format.infRung := by
  cases hn : isN .f32 x
  · by_cases hi : rung .f32 x = FloatKind.f32.format.infRung
    · rw [widen_inf x hi]
      exact .inr (inf64 _)
    · exfalso
      have hr := fin_rung hn hi
      have : finB x = true := by
        unfold finB
        have hz : F.sub x x = 0 ∨ True := .inr trivial
        obtain ⟨m, a, g1, _⟩ := read_num FloatKind.f32.format x hr
        have hs : floatBits .sub .f32 x x = some 0 := by
          show FloatKind.f32.format.sub x x = _
          unfold Ieee.Format.sub
          rw [g1]
          have ht : ∀ s u, Ieee.signed s m u + Ieee.signed (!s) m u = 0 := fun s u => by
            cases s <;> simp [Ieee.signed] <;> omega
          have : ∀ s p, (Ieee.Datum.number s m p).sum (Ieee.Datum.number (!s) m p) = some (.number false 0 p) := fun s p => by
            simp only [Ieee.Datum.sum, ht]
            cases s <;> simp
          show Option.map _ ((Ieee.Datum.number _ m _).sum (Ieee.Datum.number (!_) m _)) = _
          rw [this]
          show some (FloatKind.f32.format.nearest false 0 _) = some 0
          unfold Ieee.Format.nearest
          rw [if_pos rfl]
          rfl
        unfold F.sub
        rw [opV_some hs]
        decide +kernel
      rw [h] at this; cases this
  · exact .inl (cvV_nan T n hn)
theorem si_abs64 {y : Nat} : si .f64 (y % 9223372036854775808) = (rung .f64 y : Int) := by
  rw [si_f64, if_neg (by omega)]
  have : rung .f64 y = y % 9223372036854775808 := rfl
  rw [this]
  omega
theorem si_or {y : Nat} : si .f64 y = (rung .f64 y : Int) ∨ si .f64 y = -(rung .f64 y : Int) := by
  unfold si sg
  split
  · exact .inr rfl
  · exact .inl rfl
theorem geB {x y : Nat} (hx : isN .f64 x = false) (hy : isN .f64 y = false) : (FloatKind.f64.format.order x y == some .gt || FloatKind.f64.format.order x y == some .eq) = decide (si .f64 y ≤ si .f64 x) := by
  rw [order_si _ _ _ hx hy]
  by_cases h : si .f64 y ≤ si .f64 x
  · rw [decide_eq_true h]
    rcases Int.lt_or_eq_of_le h with h | h
    · rw [cmp_gt h]; rfl
    · rw [cmp_eq h.symm]; rfl
  · rw [decide_eq_false h, cmp_lt (by omega)]; rfl
theorem leB {x y : Nat} (hx : isN .f64 x = false) (hy : isN .f64 y = false) : (FloatKind.f64.format.order x y == some .lt || FloatKind.f64.format.order x y == some .eq) = decide (si .f64 x ≤ si .f64 y) := by
  rw [order_si _ _ _ hx hy]
  by_cases h : si .f64 x ≤ si .f64 y
  · rw [decide_eq_true h]
    rcases Int.lt_or_eq_of_le h with h | h
    · rw [cmp_lt h]; rfl
    · rw [cmp_eq h]; rfl
  · rw [decide_eq_false h, cmp_gt (by omega)]; rfl
theorem c52 : isN .f64 4841369599423283200 = false ∧ si .f64 4841369599423283200 = 4841369599423283200 ∧ isN .f64 14064741636278059008 = false ∧ si .f64 14064741636278059008 = -4841369599423283200 := by
  refine ⟨by decide +kernel, by decide +kernel, by decide +kernel, by decide +kernel⟩
theorem big_spec {y : Nat} (hy : isN .f64 y = false) (h : 4841369599423283200 ≤ rung .f64 y) : (FloatKind.f64.format.order y 4841369599423283200 == some .gt || FloatKind.f64.format.order y 4841369599423283200 == some .eq) = true ∨ ((FloatKind.f64.format.order y 4841369599423283200 == some .gt || FloatKind.f64.format.order y 4841369599423283200 == some .eq) = false ∧ (FloatKind.f64.format.order y 14064741636278059008 == some .lt || FloatKind.f64.format.order y 14064741636278059008 == some .eq) = true) := by
  obtain ⟨a1, a2, a3, a4⟩ := c52
  rw [geB hy a1, leB hy a3, a2, a4]
  have h' : (4841369599423283200 : Int) ≤ (rung .f64 y : Int) := by omega
  rcases @si_or y with e | e
  · exact .inl (decide_eq_true (by omega))
  · exact .inr ⟨decide_eq_false (by omega), decide_eq_true (by omega)⟩
theorem small_spec {y : Nat} (hy : isN .f64 y = false) (h : rung .f64 y < 4841369599423283200) : (FloatKind.f64.format.order y 4841369599423283200 == some .gt || FloatKind.f64.format.order y 4841369599423283200 == some .eq) = false ∧ (FloatKind.f64.format.order y 14064741636278059008 == some .lt || FloatKind.f64.format.order y 14064741636278059008 == some .eq) = false := by
  obtain ⟨a1, a2, a3, a4⟩ := c52
  rw [geB hy a1, leB hy a3, a2, a4]
  have h' : (rung .f64 y : Int) < 4841369599423283200 := by omega
  rcases @si_or y with e | e
  · exact ⟨decide_eq_false (by omega), decide_eq_false (by omega)⟩
  · exact ⟨decide_eq_false (by omega), decide_eq_false (by omega)⟩
theorem big_impl {y : Nat} (hy : isN .f64 y = false) : (FloatKind.f64.format.order (y % 9223372036854775808) 4841369599423283200 == some .gt || FloatKind.f64.format.order (y % 9223372036854775808) 4841369599423283200 == some .eq) = decide (4841369599423283200 ≤ rung .f64 y) := by
  obtain ⟨a1, a2, a3, a4⟩ := c52
  have hn : isN .f64 (y % 9223372036854775808) = false := by
    rw [isN_f64] at hy ⊢
    rw [Nat.mod_mod]; exact hy
  rw [geB hn a1, a2, si_abs64]
  exact decide_eq_decide.2 (by omega)
theorem u64_clear (x : Nat) (hx : x < 18446744073709551616) : (bits .andNot .u64 (x : Int) 9223372036854775808).toNat = x % 9223372036854775808 := by
  have e : bits .andNot .u64 (x : Int) 9223372036854775808 = IntKind.u64.wrap ((BitVec.ofInt 64 (x : Int) &&& ~~~ BitVec.ofInt 64 9223372036854775808).toNat : Int) := rfl
  have e1 : (BitVec.ofInt 64 (x : Int)).toNat = x := by
    rw [BitVec.ofInt_natCast, BitVec.toNat_ofNat]; exact Nat.mod_eq_of_lt (by omega)
  have e2 : (~~~ BitVec.ofInt 64 9223372036854775808).toNat = 2 ^ 63 - 1 := by decide
  rw [e, BitVec.toNat_and, e1, e2, Nat.and_two_pow_sub_one_eq_mod]
  have h3 : x % 2 ^ 63 < 9223372036854775808 := Nat.mod_lt _ (by decide)
  have e4 : IntKind.u64.wrap ((x % 2 ^ 63 : Nat) : Int) = ((x % 2 ^ 63 : Nat) : Int) := by
    show ((x % 2 ^ 63 : Nat) : Int) % 18446744073709551616 = _
    omega
  rw [e4]
  rfl
/-- a finite float32, widened. -/
theorem widen_facts {x : Nat} (h : finB x = true) : (∀ T n, cvV .f32 .f64 x T n = X64 x) ∧ isN .f64 (X64 x) = false ∧ X64 x < 18446744073709551616 ∧ rung .f64 (X64 x) < FloatKind.f64.format.infRung := by
  obtain ⟨hn, hi⟩ := fin_of_finB h
  obtain ⟨E, hE⟩ : ∃ E, E = 1202 := ⟨_, rfl⟩
  have hl := fun T n => widen_fin x hn hi T n E (by omega) (by omega)
  have ho := Eok64 E (by omega) (by omega)
  exact ⟨fun T n => (widen_sim (Sim.refl _ _) T n z0 0).eq (le2_num (hl T n) ho), le2_num (hl z0 0) ho, cvV_lt64 _ _ _ _, le2_fin (hl z0 0) ho⟩
def sineV (x : Nat) : Nat := if finB x then (if 4841369599423283200 ≤ rung .f64 (X64 x) then 0 else cvV .f64 .f32 (sineW (frV (X64 x))) z0 0) else 2143289344
theorem narrow_fix {r v E : Nat} (hE : E ≤ 1201) (hv : le2 .f64 v E) (h : Sim .f64 r v) (hE0 : 52 ≤ E) (T : Nat → Question → Nat) (n : Nat) : Sim .f32 (cvV .f64 .f32 r T n) (cvV .f64 .f32 v z0 0) := by
  have e : r = v := h.symm.eq (le2_num hv (Eok64 E hE0 (by omega))) |>.symm
  rw [e]
  obtain ⟨E2, hE2⟩ : ∃ E2, E2 = 1201 := ⟨_, rfl⟩
  exact narrow_sim (Sim.refl _ _) (fun _ => narrow_ok _ E2 hE2 (le2_mono hv (by omega))) T n z0 0
end Go.Proofs.Ytojkdlidcmfkeaa
