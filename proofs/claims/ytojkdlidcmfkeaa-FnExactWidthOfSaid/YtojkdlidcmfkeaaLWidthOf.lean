/- WidthOf of the program returns what WidthOf of the reference returns (any not-a-number for any other), and leaves its argument alone: the law returns true. For every list (the law itself lets lists of more than 2^20 numbers by). -/
import Derived.Test.YtojkdlidcmfkeaaW8
import Derived.Test.YtojkdlidcmfkeaaKf
namespace Go.Proofs.Ytojkdlidcmfkeaa
open Go.ChangeShapes Go.WideShapes Go.ChangeAt Go.RowKit Go.Deep

set_option maxHeartbeats 1000000 in
theorem FnExactWidthOf_walk (A : Option Addr) (cap : Nat) (xs : List Nat) (hm : xs.length ≤ maxLen) (w : World) (h : FlAt w w.heap.size A xs) (hok : okL xs) :
    Calls Try.prog 3 #[.slice A xs.length cap] w (RetV (.bool true) w) := by
  unfold maxLen at hm
  by_cases hn : xs.length ≤ 1048576
  · have H := Lib.hid h
    have hn' : (xs.length : Int) ≤ 1048576 := by omega
    clear h
    go_enter Try.func3, Try.ntmps3
    go_wp2_with fail
    refine (laws_toFloat32S A cap xs hn _ H.out).mono ?_
    rintro e w1 ⟨g1, rfl, hg1, hr1, hb1⟩
    have R1 := Lib.hid hr1
    have B1 := Lib.hid hb1
    clear hr1 hb1
    go_wp2_with fail
    refine (spec_WidthOf _ _ xs hn hok _ _ (FlAt.of_row R1.out)).mono ?_
    rintro e w2 ⟨rfl, n0, rfl⟩
    go_wp2_with fail
    refine (laws_toFloat32S A cap xs hn _ (H.out.go (below_dn B1.out _))).mono ?_
    rintro e w3 ⟨g2, rfl, hg2, hr2, hb2⟩
    have R2 := Lib.hid hr2
    have B2 := Lib.hid (below_step (below_dn B1.out n0) hb2)
    clear hr2 hb2
    go_wp2_with fail
    refine (impl_WidthOf _ _ xs hn hok _ _ (FlAt.of_row R2.out)).mono ?_
    rintro e w4 ⟨rfl, n1, rfl⟩
    go_wp2_with (go_at_call 13; refine (laws_sameFloat _ _ (widen_sim (Sim.refl _ _) _ _ _ _) _).mono ?_; rintro e w' ⟨rfl, n, rfl⟩)
    refine (laws_toFloat32S A cap xs hn _ (H.out.go (below_dn B2.out _))).mono ?_
    rintro e w5 ⟨g3, rfl, hg3, hr3, hb3⟩
    have R3 := Lib.hid hr3
    have B3 := Lib.hid (below_step (below_dn B2.out _) hb3)
    have X2 := Lib.hid (((FlAt.of_row R2.out).drewN _).below (Nat.le_refl _) hb3)
    clear hr3 hb3
    go_wp2_with fail
    refine (laws_eqFloat32S _ _ _ _ xs xs hn (SimL.refl xs) _ _ _ X2.out (FlAt.of_row R3.out)).mono ?_
    rintro e w6 ⟨rfl, n6, rfl⟩
    go_wp2_with fail
    go_ret
    exact ⟨rfl, below_dn B3.out _⟩
  · have hn' : (1048576 : Int) < (xs.length : Int) := by omega
    clear hn h hok
    go_enter Try.func3, Try.ntmps3
    go_wp2
    go_ret
    exact ⟨rfl, (by repeat' (first | with_reducible exact Below.refl _ _ | with_reducible assumption | with_reducible refine below_dn ?_ _ | with_reducible refine Below.drew ?_ | with_reducible refine below_step ?_ (by assumption) | with_reducible refine Below.setCell ?_ ?_ _ | with_reducible refine Below.alloc ?_ ?_ _ | with_reducible exact Nat.le_refl _ | (simp; done) | (simp; omega) | omega))⟩
set_option maxRecDepth 100000 in
theorem FnExactWidthOf_lifted (os : Os) (started : os.Started) (H : Type) (enc : TypeId × Value → H) :
    ReturnsInHanded {} Try.checked os 3 .any (Rows.fnExactWidthOfSpec.pre6 enc Try.prog Try.f3 Rows.fnExactWidthOfRow.domain false) (Rows.fnExactWidthOfSpec.post enc Try.prog Try.f3 false true false false) := by
  refine returnsInHanded_of_change (C := Try.checked) own started (by kernel_rfl) Try.func3
    (ChangeSpec.witness6 (enc := enc) (C := Try.checked) false ⟨#[], #[.slice none 0 0], []⟩ 8 (by kernel_rfl) (by kernel_rfl) (by kernel_rfl) (by kernel_rfl)) ?_
  intro W base args ds gs before hval0 hW _ _
  have hval : ∀ (j : Nat) t v, Try.f3.params[j]? = some t → args[j]? = some v → Value.okWide Try.prog W .any base t v := hval0
  have hW0 := hW
  obtain ⟨p, q, hA0, hV, _, _, _⟩ := hW
  obtain ⟨rfl, rfl⟩ := trodVars_none hV
  have hA : DataW.TrodAll enc Try.prog W 0 (fun _ => true) true Try.f3.params.toList args.toList ds p := hA0
  rw [Try.params3] at hA hval
  obtain ⟨v0, vs0, d0, ds0, p0, q0, hargs, rfl, _, h0, r0⟩ := trodAll_cons hA
  obtain ⟨rfl, rfl, _⟩ := trodAll_nil r0
  obtain rfl : args = #[v0] := by cases args; simp_all
  obtain ⟨A0, c0, xs0, rfl, hm0, hF0, hK0⟩ := open_floats Try.underlying22 Try.underlying23 (by kernel_rfl) (hval 0 22 v0 rfl rfl) h0
  clear hA0 hval0
  refine (FnExactWidthOf_walk A0 c0 xs0 hm0 W hF0 hK0).mono fun e W' ⟨he, hb⟩ => ?_
  subst he
  exact ⟨_, rfl, law_post Try.laidOut hW0 rfl rfl (by kernel_rfl) Try.underlying4 (by kernel_rfl) hb⟩

theorem FnExactWidthOf_holds : Rows.FnExactWidthOfSaid :=
  OpenClaim.holds_of_wide 3 Try.f3 rfl rfl rfl rfl rfl rfl rfl ⟨rfl, rfl, rfl, rfl, rfl⟩ rfl rfl rfl rfl rfl (by kernel_rfl) Try.func3 (by kernel_rfl)
    (of_decide_eq_true (by kernel_rfl)) (by unfold Func.isWrapper; first | (rw [if_pos (by decide +kernel)]; kernel_rfl) | (rw [if_neg (by decide +kernel)]; exact ⟨rfl, rfl⟩))
    (fun os started H enc _ => FnExactWidthOf_lifted os started H enc)
#print axioms FnExactWidthOf_holds
end Go.Proofs.Ytojkdlidcmfkeaa
