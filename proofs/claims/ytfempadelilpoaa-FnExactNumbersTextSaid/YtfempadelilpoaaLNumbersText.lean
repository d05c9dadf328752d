/- NumbersText of the program returns what NumbersText of the reference returns, and leaves its argument alone: the law returns true. For every list (the law itself lets lists of more than 2^20 numbers by). -/
import Derived.Test.YtfempadelilpoaaNu
import Derived.Test.YtfempadelilpoaaKf
namespace Go.Proofs.Ytfempadelilpoaa
open Go.ChangeShapes Go.WideShapes Go.ChangeAt Go.RowKit Go.Deep

theorem row_belowN {w w' : World} {g n C : Nat} {t : TypeId} {f : Nat → Value} (h : w.rowIs g t n f) (hb : Below C w w') (hlt : g < C) : w'.rowIs g t n f := by
  obtain ⟨c, hc, rest⟩ := h
  exact ⟨c, (hb.block g hlt).trans hc, rest⟩
set_option maxHeartbeats 1000000 in
theorem FnExactNumbersText_walk (A : Option Addr) (cap : Nat) (xs : List Nat) (hm : xs.length ≤ maxLen) (w : World) (h : FlAt w w.heap.size A xs) (hok : ∀ x ∈ xs, x < 4294967296) :
    Calls Try.prog 3 #[.slice A xs.length cap] w (RetV (.bool true) w) := by
  unfold maxLen at hm
  by_cases hn : xs.length ≤ 1048576
  · have H := Lib.hid h
    have hn' : (xs.length : Int) ≤ 1048576 := by omega
    have KS := Lib.hid (fun A cap w B h hB => spec_NumbersText A cap xs hn hok w B h hB)
    have KI := Lib.hid (fun A cap w B h hB => impl_NumbersText A cap xs hn hok w B h hB)
    have HX := Lib.hid hn
    generalize numV xs = T at KS KI
    generalize fewN xs = t at KS KI
    have htt : (t != t) = false := by simp
    clear h hok
    go_enter Try.func3, Try.ntmps3
    go_wp2_with fail
    refine (laws_toFloat32S A cap xs HX.out _ H.out).mono ?_
    rintro e w1 ⟨g1, rfl, hg1, hr1, hb1⟩
    have R1 := Lib.hid hr1
    have B1 := Lib.hid hb1
    clear hr1 hb1
    go_wp2_with fail
    refine (KS.out _ _ _ _ (FlAt.of_row R1.out) (Nat.le_refl _)).mono ?_
    rintro e w2 ⟨rfl, hb2⟩
    have B2 := Lib.hid (below_step B1.out hb2)
    clear hb2 B1 R1
    go_wp2_with fail
    refine (laws_toFloat32S A cap xs HX.out _ (H.out.go B2.out)).mono ?_
    rintro e w3 ⟨g2, rfl, hg2, hr2, hb3⟩
    have R2 := Lib.hid hr2
    have B3 := Lib.hid (below_step B2.out hb3)
    clear hr2 hb3 B2
    go_wp2_with fail
    refine (KI.out _ _ _ _ (FlAt.of_row R2.out) (Nat.le_refl _)).mono ?_
    rintro e w4 ⟨rfl, hb4⟩
    have R3 := Lib.hid (row_belowN R2.out hb4 R2.out.lt)
    have B4 := Lib.hid (below_step B3.out hb4)
    clear hb4 R2 B3
    go_wp2_with fail
    refine (laws_toFloat32S A cap xs HX.out _ (H.out.go B4.out)).mono ?_
    rintro e w5 ⟨g3, rfl, hg3, hr3, hb5⟩
    have R4 := Lib.hid (row_belowN R3.out hb5 R3.out.lt)
    have R5 := Lib.hid hr3
    have B5 := Lib.hid (below_step B4.out hb5)
    clear hr3 hb5 R3 B4
    go_wp2_with fail
    refine (laws_eqFloat32S _ _ _ _ xs xs HX.out (SimL.refl xs) _ _ _ (FlAt.of_row R4.out) (FlAt.of_row R5.out)).mono ?_
    rintro e w6 ⟨rfl, n5, rfl⟩
    go_wp2_with fail
    go_ret
    exact ⟨rfl, below_dn B5.out _⟩
  · have hn' : (1048576 : Int) < (xs.length : Int) := by omega
    clear hn h hok
    go_enter Try.func3, Try.ntmps3
    go_wp2
    go_ret
    exact ⟨rfl, (by repeat' (first | with_reducible exact Below.refl _ _ | with_reducible assumption | with_reducible refine below_dn ?_ _ | with_reducible refine Below.drew ?_ | with_reducible refine below_step ?_ (by assumption) | with_reducible refine Below.setCell ?_ ?_ _ | with_reducible refine Below.alloc ?_ ?_ _ | with_reducible exact Nat.le_refl _ | (simp; done) | (simp; omega) | omega))⟩
set_option maxRecDepth 100000 in
theorem FnExactNumbersText_lifted (os : Os) (started : os.Started) (H : Type) (enc : TypeId × Value → H) :
    ReturnsInHanded {} Try.checked os 3 .any (Rows.fnExactNumbersTextSpec.pre6 enc Try.prog Try.f3 Rows.fnExactNumbersTextRow.domain false) (Rows.fnExactNumbersTextSpec.post enc Try.prog Try.f3 false true false false) := by
  refine returnsInHanded_of_change (C := Try.checked) own started (by kernel_rfl) Try.func3
    (ChangeSpec.witness6 (enc := enc) (C := Try.checked) false ⟨#[], #[.slice none 0 0], []⟩ 8 (by kernel_rfl) (by kernel_rfl) (by kernel_rfl) (by kernel_rfl)) ?_
  intro W base args ds gs before hval0 hW _ _
  have hval : ∀ (j : Nat) t v, Try.f3.params[j]? = some t → args[j]? = some v → Value.okWide Try.prog W .any base t v := hval0
  have hW0 := hW
  obtain ⟨p, q, hA0, hV, _, _, _⟩ := hW
  obtain ⟨rfl, rfl⟩ := trodVars_none hV
  have hA : DataW.TrodAll enc Try.prog W 0 (fun _ => true) true Try.f3.params.toList args.toList ds p := hA0
  rw [Try.params3] at hA hval
  obtain ⟨v0, vs0, d0, ds0, p0, q0, hargs, rfl, _, h0, r0⟩ := trodAll_cons hA
  obtain ⟨rfl, rfl, _⟩ := trodAll_nil r0
  obtain rfl : args = #[v0] := by cases args; simp_all
  obtain ⟨A0, c0, xs0, rfl, hm0, hF0, hK0⟩ := open_floats Try.underlying22 Try.underlying29 (by kernel_rfl) (hval 0 22 v0 rfl rfl) h0
  clear hA0 hval0
  refine (FnExactNumbersText_walk A0 c0 xs0 hm0 W hF0 hK0).mono fun e W' ⟨he, hb⟩ => ?_
  subst he
  exact ⟨_, rfl, law_post Try.laidOut hW0 rfl rfl (by kernel_rfl) Try.underlying4 (by kernel_rfl) hb⟩

theorem FnExactNumbersText_holds : Rows.FnExactNumbersTextSaid :=
  OpenClaim.holds_of_wide 3 Try.f3 rfl rfl rfl rfl rfl rfl rfl ⟨rfl, rfl, rfl, rfl, rfl⟩ rfl rfl rfl rfl rfl (by kernel_rfl) Try.func3 (by kernel_rfl)
    (of_decide_eq_true (by kernel_rfl)) (by unfold Func.isWrapper; first | (rw [if_pos (by decide +kernel)]; kernel_rfl) | (rw [if_neg (by decide +kernel)]; exact ⟨rfl, rfl⟩))
    (fun os started H enc _ => FnExactNumbersText_lifted os started H enc)
#print axioms FnExactNumbersText_holds
end Go.Proofs.Ytfempadelilpoaa
