/- AngleTurns of the program returns what AngleTurns of the reference returns (any not-a-number for any other): the law returns true. For all arguments. -/
import Derived.Test.YtojkdlidcmfkeaaAj
import Derived.Test.YtojkdlidcmfkeaaW3
namespace Go.Proofs.Ytojkdlidcmfkeaa
open Go.ChangeShapes Go.WideShapes Go.ChangeAt Go.RowKit Go.Deep

theorem FnExactAngleTurns_walk (y : Nat) (_hy : y < 4294967296) (x : Nat) (_hx : x < 4294967296) (w : World) : Calls Try.prog 9 #[.float .f32 y, .float .f32 x] w (RetV (.bool true) w) := by
  go_enter Try.func9, Try.ntmps9
  go_wp2_with fail
  refine (spec_AngleTurns y x _).mono ?_
  rintro e w1 ⟨r0, n0, rfl, _, s0, rfl⟩
  have S0 := Lib.hid s0
  clear s0
  go_wp2_with fail
  refine (impl_AngleTurns y x _).mono ?_
  rintro e w1 ⟨r1, rfl, _, s1, hb⟩
  have S1 := Lib.hid (s1.trans S0.out.symm)
  have HB := Lib.hid hb
  clear s1 hb
  go_wp2_with (go_at_call 13; refine (laws_sameFloat _ _ (widen_sim S1.out _ _ _ _) _).mono ?_; rintro e w' ⟨rfl, n, rfl⟩)
  go_ret
  exact ⟨rfl, below_dn ((below_n _ w n0).trans HB.out) _⟩
set_option maxRecDepth 100000 in
theorem FnExactAngleTurns_lifted (os : Os) (started : os.Started) (H : Type) (enc : TypeId × Value → H) :
    ReturnsInHanded {} Try.checked os 9 .any (Rows.fnExactAngleTurnsSpec.pre6 enc Try.prog Try.f9 Rows.fnExactAngleTurnsRow.domain false) (Rows.fnExactAngleTurnsSpec.post enc Try.prog Try.f9 false true false false) := by
  refine returnsInHanded_of_change (C := Try.checked) own started (by kernel_rfl) Try.func9
    (ChangeSpec.witness6 (enc := enc) (C := Try.checked) false ⟨#[], #[.float .f32 0, .float .f32 0], []⟩ 8 (by kernel_rfl) (by kernel_rfl) (by kernel_rfl) (by kernel_rfl)) ?_
  intro W base args ds gs before hval0 hW _ _
  have hval : ∀ (j : Nat) t v, Try.f9.params[j]? = some t → args[j]? = some v → Value.okWide Try.prog W .any base t v := hval0
  have hW0 := hW
  obtain ⟨p, q, hA0, hV, _, _, _⟩ := hW
  obtain ⟨rfl, rfl⟩ := trodVars_none hV
  have hA : DataW.TrodAll enc Try.prog W 0 (fun _ => true) true Try.f9.params.toList args.toList ds p := hA0
  rw [Try.params9] at hA hval
  obtain ⟨v0, vs0, d0, ds0, p0, q0, hargs, rfl, _, h0, r0⟩ := trodAll_cons hA
  obtain ⟨v1, vs1, d1, ds1, p1, q1, rfl, rfl, _, h1, r1⟩ := trodAll_cons r0
  obtain ⟨rfl, rfl, _⟩ := trodAll_nil r1
  obtain rfl : args = #[v0, v1] := by cases args; simp_all
  obtain ⟨a0, rfl, _, _, w0⟩ := open_float Try.underlying23 (hval 0 23 v0 rfl rfl) h0
  obtain ⟨a1, rfl, _, _, w1⟩ := open_float Try.underlying23 (hval 1 23 v1 rfl rfl) h1
  clear hA0 hval0
  refine (FnExactAngleTurns_walk a0 (f32_lt w0) a1 (f32_lt w1) W).mono fun e W' ⟨he, hb⟩ => ?_
  subst he
  exact ⟨_, rfl, law_post Try.laidOut hW0 rfl rfl (by kernel_rfl) Try.underlying4 (by kernel_rfl) hb⟩

theorem FnExactAngleTurns_holds : Rows.FnExactAngleTurnsSaid :=
  OpenClaim.holds_of_wide 9 Try.f9 rfl rfl rfl rfl rfl rfl rfl ⟨rfl, rfl, rfl, rfl, rfl⟩ rfl rfl rfl rfl rfl (by kernel_rfl) Try.func9 (by kernel_rfl)
    (of_decide_eq_true (by kernel_rfl)) (by unfold Func.isWrapper; first | (rw [if_pos (by decide +kernel)]; kernel_rfl) | (rw [if_neg (by decide +kernel)]; exact ⟨rfl, rfl⟩))
    (fun os started H enc _ => FnExactAngleTurns_lifted os started H enc)
#print axioms FnExactAngleTurns_holds
end Go.Proofs.Ytojkdlidcmfkeaa
