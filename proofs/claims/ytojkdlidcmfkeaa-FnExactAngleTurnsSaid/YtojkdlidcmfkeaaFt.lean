/- FoldTurn's contracts. -/
import Derived.Test.YtojkdlidcmfkeaaW6
import Derived.Test.YtojkdlidcmfkeaaFg
namespace Go.Proofs.Ytojkdlidcmfkeaa
open Go.ChangeShapes Go.WideShapes Go.ChangeAt Go.RowKit Go.Deep

theorem fin_of_finB {x : Nat} (h : finB x = true) : isN .f32 x = false ∧ rung .f32 x ≠ FloatKind.f32.format.infRung := by
  unfold finB at h
  have hne : isN .f32 (F.sub x x) = false := by
    cases hn : isN .f32 (F.sub x x)
    · rfl
    · rw [order_none .f32 _ 0 (.inl hn)] at h; cases h
  refine ⟨?_, fun hi => ?_⟩
  · cases hn : isN .f32 x
    · rfl
    · have := opV_nan (op := .sub) (fun _ _ => 0) 0 (floatBits_nan_l .sub x hn)
      unfold F.sub at hne
      rw [hne] at this; cases this
  · have h1 : FloatKind.f32.format.read x = .infinity (sgn .f32 x) := Go.Proofs.Ytojkdlidcmfkeaa.read_inf FloatKind.f32.format x (binade_le_inf .f32) hi
    have h2 : floatBits .sub .f32 x x = none := by
      show FloatKind.f32.format.sub x x = none
      unfold Ieee.Format.sub
      rw [h1]
      show Option.map _ ((Ieee.Datum.infinity (sgn .f32 x)).sum (Ieee.Datum.infinity (!sgn .f32 x))) = none
      cases sgn .f32 x <;> rfl
    have := opV_nan (op := .sub) (fun _ _ => 0) 0 h2
    unfold F.sub at hne
    rw [hne] at this; cases this
theorem cvV_lt64 (s : FloatKind) (b : Nat) (T : Nat → Question → Nat) (n : Nat) : cvV s .f64 b T n < 18446744073709551616 := by
  unfold cvV
  split
  · exact nanConv_lt .f64 _ _
  · exact FloatKind.f64.format.write_lt _
  · split
    · simp only [Question.cut]; omega
    · exact FloatKind.f64.format.write_lt _
theorem fl_s2 : (Try.f55.name == "runtime.NumGoroutine") = false := by kernel_rfl
theorem fl_s3 : Try.f55.body.isNone = true := by kernel_rfl
theorem fl_s4 : Extern.findNext Try.f55 = none := by kernel_rfl
theorem fl_s5 : Extern.find Try.f55 = some (Extern.MathFloor.toIntegral "math.archFloor" .down) := by kernel_rfl
theorem run_floor_ext {P : Program} (x : Nat) (hx : isN .f64 x = false) (w : World) : (Extern.MathFloor.toIntegral "math.archFloor" .down #[.float .f64 x]).run P w = .ok (.float .f64 (flV x)) w := by
  unfold isN at hx
  change Sem.run P (match FloatKind.f64.decode x with
    | .nan s t =>
      if FloatKind.f64.format.quiet t = t then pure (Value.float .f64 x) else do
      let kept ← choose (.extern "math.Floor,Ceil,Trunc,RoundToEven.signallingNaN kept" 2)
      pure (Value.float .f64 (if kept == 1 then x else FloatKind.f64.encode (.nan s (FloatKind.f64.format.quiet t))))
    | d => pure (Value.float .f64 (FloatKind.f64.encode (d.integral .down)))) w = _
  unfold flV
  cases h : FloatKind.f64.decode x with
  | nan s t => rw [h] at hx; cases hx
  | infinity s => rfl
  | number s m e => rfl
theorem run_call_floor (x : Nat) (hx : isN .f64 x = false) (w : World) : (callFunc 55 #[.float .f64 x]).run Try.prog w = .ok (.value (.float .f64 (flV x))) w :=
  (run_callFunc_extern Try.func55 fl_s2 fl_s3 fl_s4 fl_s5 _ w).trans (andThen_of (run_floor_ext x hx w) _)
def z0 : Nat → Question → Nat := fun _ _ => 0
def X64 (x : Nat) : Nat := cvV .f32 .f64 x z0 0
def Y64 (x : Nat) : Nat := opV .add .f64 (X64 x) 4602678819172646912 z0 0
def D64 (x : Nat) : Nat := opV .sub .f64 (X64 x) (flV (Y64 x)) z0 0
def foldV (x : Nat) : Nat := cvV .f64 .f32 (D64 x) z0 0
theorem fold_facts {x : Nat} (h : finB x = true) : (∀ T n, cvV .f32 .f64 x T n = X64 x) ∧ (∀ T n, opV .add .f64 (X64 x) 4602678819172646912 T n = Y64 x) ∧ isN .f64 (Y64 x) = false ∧
    (∀ T n, opV .sub .f64 (X64 x) (flV (Y64 x)) T n = D64 x) ∧ (∀ T n, Sim .f32 (cvV .f64 .f32 (D64 x) T n) (foldV x)) := by
  obtain ⟨hn, hi⟩ := fin_of_finB h
  obtain ⟨E, hE⟩ : ∃ E, E = 1202 := ⟨_, rfl⟩
  have hl := fun T n => widen_fin x hn hi T n E (by omega) (by omega)
  have hX : ∀ T n, cvV .f32 .f64 x T n = X64 x := fun T n => (widen_sim (Sim.refl _ _) T n z0 0).eq (le2_num (hl T n) (Eok64 E (by omega) (by omega)))
  have hlX : le2 .f64 (X64 x) E := hl z0 0
  have hlh : le2 .f64 4602678819172646912 E := le2_mono le2_half (by omega)
  have hYn : ∀ T n, isN .f64 (opV .add .f64 (X64 x) 4602678819172646912 T n) = false := fun T n => le2_num (le2_add hlX hlh (Eok64 E (by omega) (by omega)) (Eok64 (E + 1) (by omega) (by omega)) T n) (Eok64 (E + 1) (by omega) (by omega))
  have hY : ∀ T n, opV .add .f64 (X64 x) 4602678819172646912 T n = Y64 x := fun T n => (opV_sim .add (Sim.refl _ _) (Sim.refl _ _) T n z0 0).eq (hYn T n)
  obtain ⟨E2, hE2⟩ : ∃ E2, E2 = 1201 := ⟨_, rfl⟩
  have hDl : ∀ T n, le2 .f64 (opV .sub .f64 (X64 x) (flV (Y64 x)) T n) E2 := fun T n => by
    rw [hE2]
    exact fold_ok (cvV_lt64 _ _ _ _) (le2_fin hlX (Eok64 E (by omega) (by omega))) z0 0 T n
  have hD : ∀ T n, opV .sub .f64 (X64 x) (flV (Y64 x)) T n = D64 x := fun T n => (opV_sim .sub (Sim.refl _ _) (Sim.refl _ _) T n z0 0).eq (le2_num (hDl T n) (Eok64 E2 (by omega) (by omega)))
  exact ⟨hX, hY, hYn z0 0, hD, fun T n => narrow_sim (Sim.refl _ _) (fun _ => narrow_ok _ E2 hE2 (hDl z0 0)) T n z0 0⟩
theorem spec_FoldTurn0 (x : Nat) (h : finB x = false) (w : World) : Calls Try.prog 23 #[.float .f32 x] w (RetFB .f32 0 false w) := by
  go_enter Try.func23, Try.ntmps23
  go_wp2_with (go_at_call 38; refine (spec_l01Finite x _).mono ?_; rintro e w' ⟨rfl, n, rfl⟩)
  go_ret2
  exact ⟨0, n, rfl, by decide, Sim.refl _ _, rfl⟩
theorem spec_FoldTurn1 (x : Nat) (h : finB x = true) (w : World) : Calls Try.prog 23 #[.float .f32 x] w (RetFB .f32 (foldV x) true w) := by
  obtain ⟨hX, hY, hYn, hD, hS⟩ := fold_facts h
  have HS := Lib.hid hS
  have hfl := run_call_floor (Y64 x) hYn
  clear hS hYn
  go_enter Try.func23, Try.ntmps23
  go_wp2_with (first | (go_at_call 38; refine (spec_l01Finite x _).mono ?_; rintro e w' ⟨rfl, n, rfl⟩) | go_in)
  go_ret2
  exact ⟨_, _, rfl, cvV_lt32 _ _ _ _, HS.out _ _, rfl⟩
theorem impl_FoldTurn0 (x : Nat) (h : finB x = false) (w : World) : Calls Try.prog 24 #[.float .f32 x] w (RetFB .f32 0 false w) := by
  go_enter Try.func24, Try.ntmps24
  go_wp2_with (go_at_call 41; refine (impl_IsFinite x _).mono ?_; rintro e w' ⟨rfl, n, rfl⟩)
  go_ret2
  exact ⟨0, n, rfl, by decide, Sim.refl _ _, rfl⟩
theorem impl_FoldTurn1 (x : Nat) (h : finB x = true) (w : World) : Calls Try.prog 24 #[.float .f32 x] w (RetFB .f32 (foldV x) true w) := by
  obtain ⟨hX, hY, hYn, hD, hS⟩ := fold_facts h
  have HS := Lib.hid hS
  have hfl := run_call_floor (Y64 x) hYn
  clear hS hYn
  go_enter Try.func24, Try.ntmps24
  go_wp2_with (first | (go_at_call 41; refine (impl_IsFinite x _).mono ?_; rintro e w' ⟨rfl, n, rfl⟩) | go_in)
  go_ret2
  exact ⟨_, _, rfl, cvV_lt32 _ _ _ _, HS.out _ _, rfl⟩
end Go.Proofs.Ytojkdlidcmfkeaa
