/- The square root's contracts. -/
import Derived.Test.YtlhgaihfghobmaaW4
namespace Go.Proofs.Ytlhgaihfghobmaa
open Go.ChangeShapes Go.WideShapes Go.ChangeAt Go.RowKit Go.Deep

/-! ### the root -/
theorem sq_s2 : (Try.f179.name == "runtime.NumGoroutine") = false := by kernel_rfl
theorem sq_s3 : Try.f179.body.isNone = true := by kernel_rfl
theorem sq_s4 : Extern.findNext Try.f179 = none := by kernel_rfl
theorem sq_s5 : Extern.find Try.f179 = some Extern.MathSqrt.sqrt := by kernel_rfl
theorem andThen_of {α β : Type} {r : Result α} {a : α} {w : World} (h : r = .ok a w) (f : α → World → Result β) : r.andThen f = f a w := by rw [h]; rfl
@[go_sem] theorem run_call_sqrt (x : Nat) (w : World) : (callFunc 179 #[.float .f64 x]).run Try.prog w = .ok (.value (.float .f64 (sqV x w.tape w.drawn))) (w.drewN (sqN x)) :=
  (run_callFunc_extern Try.func179 sq_s2 sq_s3 sq_s4 sq_s5 _ w).trans (andThen_of (run_sqrt_ext x w) _)
/-- sqrt of a float32, in 32 bits. -/
def F.root (x : Nat) : Nat := cvV .f64 .f32 (sqV (cvV .f32 .f64 x (fun _ _ => 0) 0) (fun _ _ => 0) 0) (fun _ _ => 0) 0
theorem sq_i1 : FloatKind.f64.format.sqrt (FloatKind.f64.encode (.infinity false)) = some (FloatKind.f64.encode (.infinity false)) := by decide +kernel
theorem sq_i2 : FloatKind.f64.format.sqrt (FloatKind.f64.encode (.infinity true)) = none := by decide +kernel
theorem sq_i3 : rung .f64 (FloatKind.f64.encode (.infinity false)) = FloatKind.f64.format.infRung := by decide +kernel
theorem widen_fin (x : Nat) (hx : isN .f32 x = false) (hi : rung .f32 x ≠ FloatKind.f32.format.infRung) (T : Nat → Question → Nat) (n : Nat) (E : Nat) (hE : 1202 ≤ E) (_hE2 : E ≤ 2097) : le2 .f64 (cvV .f32 .f64 x T n) E := by
  obtain ⟨m, a, h1, h2⟩ := widen_le2 x (fin_rung hx hi)
  have hni := le2_notinf h2 (Eok64 _ (by omega) (by omega))
  unfold cvV
  rw [h1]
  show le2 .f64 (if _ then _ else _) E
  rw [hni, if_neg (by simp)]
  exact le2_mono h2 hE
theorem widen_inf (x : Nat) (hi : rung .f32 x = FloatKind.f32.format.infRung) (T : Nat → Question → Nat) (n : Nat) : cvV .f32 .f64 x T n = FloatKind.f64.encode (.infinity (sgn .f32 x)) := by
  have h1 : FloatKind.f32.decode x = .infinity (sgn .f32 x) := Go.Proofs.Ytlhgaihfghobmaa.read_inf FloatKind.f32.format x (binade_le_inf .f32) hi
  unfold cvV
  rw [h1]
theorem sqrt_ok (x : Nat) (T : Nat → Question → Nat) (n : Nat) (T' : Nat → Question → Nat) (n' : Nat) (hn : isN .f64 (sqV (cvV .f32 .f64 x T n) T' n') = false) : cvOk .f64 .f32 (sqV (cvV .f32 .f64 x T n) T' n') := by
  by_cases hxn : isN .f32 x = true
  · exfalso
    have h1 : isN .f64 (cvV .f32 .f64 x T n) = true := cvV_nan T n hxn
    have h2 : isN .f64 (sqV (cvV .f32 .f64 x T n) T' n') = true := by simp only [sqV, sqrt_nan h1]; exact isN_nanBits _ _ _ _
    rw [hn] at h2; cases h2
  · by_cases hi : rung .f32 x = FloatKind.f32.format.infRung
    · rw [widen_inf x hi] at hn ⊢
      generalize sgn .f32 x = s at hn ⊢
      cases s
      · have hv : sqV (FloatKind.f64.encode (.infinity false)) T' n' = FloatKind.f64.encode (.infinity false) := by simp only [sqV, sq_i1]
        rw [hv]
        exact cvOk_inf sq_i3
      · exfalso
        have h2 : isN .f64 (sqV (FloatKind.f64.encode (.infinity true)) T' n') = true := by simp only [sqV, sq_i2]; exact isN_nanBits _ _ _ _
        rw [hn] at h2; cases h2
    · have h2 := fun E h1 h2 => widen_fin x (by simpa using hxn) hi T n E h1 h2
      generalize cvV .f32 .f64 x T n = c at hn h2 ⊢
      cases hs : FloatKind.f64.format.sqrt c with
      | none =>
        exfalso
        have h3 : isN .f64 (sqV c T' n') = true := by simp only [sqV, hs]; exact isN_nanBits _ _ _ _
        rw [hn] at h3; cases h3
      | some r =>
        have hv : sqV c T' n' = r := by simp only [sqV, hs]
        rw [hv]
        obtain ⟨E, hE⟩ : ∃ E, E = 1204 := ⟨_, rfl⟩
        obtain ⟨E', hE'⟩ : ∃ E', E' = 1174 := ⟨_, rfl⟩
        obtain ⟨E2, hE2⟩ : ∃ E2, E2 = 1201 := ⟨_, rfl⟩
        have h3 := sqrt_le2 c r E E' hE hE' (h2 E (by omega) (by omega)) hs
        exact narrow_ok r E2 hE2 (le2_mono h3 (by omega))
theorem root_sim {a b : Nat} (h : Sim .f32 a b) (T : Nat → Question → Nat) (n : Nat) (T' : Nat → Question → Nat) (n' : Nat) (T'' : Nat → Question → Nat) (n'' : Nat) :
    Sim .f32 (cvV .f64 .f32 (sqV (cvV .f32 .f64 a T n) T' n') T'' n'') (F.root b) :=
  narrow_sim (sqV_sim (widen_sim h _ _ _ _) _ _ _ _) (sqrt_ok a T n T' n') _ _ _ _
theorem spec_l01Sqrt (x : Nat) (w : World) : Calls Try.prog 172 #[.float .f32 x] w (RetFQ .f32 (F.root x) w) := by
  go_enter Try.func172, Try.ntmps172
  go_wp2
  go_ret
  exact retFQ (cvV_lt32 _ _ _ _) (root_sim (Sim.refl _ _) _ _ _ _ _ _) w _
theorem impl_RootNumber (x : Nat) (w : World) : Calls Try.prog 173 #[.float .f32 x] w (RetFQ .f32 (F.root x) w) := by
  go_enter Try.func173, Try.ntmps173
  go_wp2
  go_ret
  exact retFQ (cvV_lt32 _ _ _ _) (root_sim (Sim.refl _ _) _ _ _ _ _ _) w _
end Go.Proofs.Ytlhgaihfghobmaa
