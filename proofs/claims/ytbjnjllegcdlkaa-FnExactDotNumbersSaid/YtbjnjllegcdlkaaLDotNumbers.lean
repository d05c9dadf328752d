/- DotNumbers of the program returns what DotNumbers of the reference returns (any not-a-number for any other), and leaves its arguments alone: the law returns true. For all pairs of lists (the law itself lets lists of more than 2^20 numbers by). -/
import Derived.Test.YtbjnjllegcdlkaaSm
import Derived.Test.YtbjnjllegcdlkaaKf
namespace Go.Proofs.Ytbjnjllegcdlkaa
open Go.ChangeShapes Go.WideShapes Go.ChangeAt Go.RowKit Go.Deep

set_option maxHeartbeats 2000000 in
theorem FnExactDotNumbers_main (A : Option Addr) (cap : Nat) (xs : List Nat) (hn : xs.length ≤ 1048576) (A' : Option Addr) (cap' : Nat) (ys : List Nat) (hm : ys.length ≤ 1048576) (w : World) (h : FlAt w w.heap.size A xs) (h' : FlAt w w.heap.size A' ys) :
    Calls Try.prog 10 #[.slice A xs.length cap, .slice A' ys.length cap'] w (RetV (.bool true) w) := by
  have H := Lib.hid h
  have H' := Lib.hid h'
  have hn' : (xs.length : Int) ≤ 1048576 := by omega
  have hm' : (ys.length : Int) ≤ 1048576 := by omega
  clear h h'
  go_enter Try.func10, Try.ntmps10
  go_wp2_with fail
  refine (laws_toFloat32S A cap xs hn _ H.out).mono ?_
  rintro e w1 ⟨g1, rfl, hg1, hr1, hb1⟩
  have R1 := Lib.hid hr1
  have B1 := Lib.hid hb1
  clear hr1 hb1
  go_wp2_with fail
  refine (laws_toFloat32S A' cap' ys hm _ (H'.out.go B1.out)).mono ?_
  rintro e w2 ⟨g2, rfl, hg2, hr2, hb2⟩
  have R2 := Lib.hid hr2
  have X1 := Lib.hid ((FlAt.of_row R1.out).below (Nat.le_refl _) hb2)
  have B2 := Lib.hid (below_step B1.out hb2)
  clear hr2 hb2
  go_wp2_with fail
  refine (spec_DotNumbers _ _ _ _ xs ys hn hm _ _ _ X1.out (FlAt.of_row R2.out)).mono ?_
  rintro e wa ⟨r0, n0, rfl, _, s0, rfl⟩
  have S0 := Lib.hid s0
  clear s0
  go_wp2_with fail
  refine (laws_toFloat32S A cap xs hn _ (H.out.go (below_dn B2.out _))).mono ?_
  rintro e w3 ⟨g3, rfl, hg3, hr3, hb3⟩
  have R3 := Lib.hid hr3
  have B3 := Lib.hid (below_step (below_dn B2.out n0) hb3)
  clear hr3 hb3
  go_wp2_with fail
  refine (laws_toFloat32S A' cap' ys hm _ (H'.out.go B3.out)).mono ?_
  rintro e w4 ⟨g4, rfl, hg4, hr4, hb4⟩
  have R4 := Lib.hid hr4
  have X3 := Lib.hid ((FlAt.of_row R3.out).below (Nat.le_refl _) hb4)
  have B4 := Lib.hid (below_step B3.out hb4)
  have Z4 := Lib.hid hb4.size
  clear hr4 hb4
  go_wp2_with fail
  refine (impl_DotNumbers _ _ _ _ xs ys hn hm _ _ _ X3.out (FlAt.of_row R4.out)).mono ?_
  rintro e wb ⟨r1, n1, rfl, _, s1, rfl⟩
  have S1 := Lib.hid (s1.trans S0.out.symm)
  clear s1
  go_wp2_with (go_at_call 23; refine (laws_sameFloat _ _ (widen_sim S1.out _ _ _ _) _).mono ?_; rintro e w' ⟨rfl, n, rfl⟩)
  refine (laws_toFloat32S A cap xs hn _ (H.out.go (below_dn B4.out _))).mono ?_
  rintro e w5 ⟨g5, rfl, hg5, hr5, hb5⟩
  have R5 := Lib.hid hr5
  have X3' := Lib.hid ((X3.out.drewN _).below Z4.out hb5)
  have X4 := Lib.hid (((FlAt.of_row R4.out).drewN _).below (Nat.le_refl _) hb5)
  have B5 := Lib.hid (below_step (below_dn B4.out _) hb5)
  have Z5 := Lib.hid hb5.size
  clear hr5 hb5
  go_wp2_with fail
  refine (laws_eqFloat32S _ _ _ _ xs xs hn (SimL.refl xs) _ _ _ X3'.out (FlAt.of_row R5.out)).mono ?_
  rintro e wc ⟨rfl, n6, rfl⟩
  go_wp2_with fail
  refine (laws_toFloat32S A' cap' ys hm _ (H'.out.go (below_dn B5.out _))).mono ?_
  rintro e w6 ⟨g6, rfl, hg6, hr6, hb6⟩
  have R6 := Lib.hid hr6
  have X4' := Lib.hid ((X4.out.drewN n6).below Z5.out hb6)
  have B6 := Lib.hid (below_step (below_dn B5.out _) hb6)
  clear hr6 hb6
  go_wp2_with fail
  refine (laws_eqFloat32S _ _ _ _ ys ys hm (SimL.refl ys) _ _ _ X4'.out (FlAt.of_row R6.out)).mono ?_
  rintro e wd ⟨rfl, n7, rfl⟩
  go_wp2_with fail
  go_ret
  exact ⟨rfl, below_dn B6.out _⟩
theorem FnExactDotNumbers_walk (A : Option Addr) (cap : Nat) (xs : List Nat) (h1 : xs.length ≤ maxLen) (A' : Option Addr) (cap' : Nat) (ys : List Nat) (h2 : ys.length ≤ maxLen) (w : World) (h : FlAt w w.heap.size A xs) (h' : FlAt w w.heap.size A' ys) :
    Calls Try.prog 10 #[.slice A xs.length cap, .slice A' ys.length cap'] w (RetV (.bool true) w) := by
  unfold maxLen at h1 h2
  by_cases hn : xs.length ≤ 1048576
  · by_cases hm : ys.length ≤ 1048576
    · exact FnExactDotNumbers_main A cap xs hn A' cap' ys hm w h h'
    · have hn' : (xs.length : Int) ≤ 1048576 := by omega
      have hm' : (1048576 : Int) < (ys.length : Int) := by omega
      clear hn hm h h'
      go_enter Try.func10, Try.ntmps10
      go_wp2
      go_ret
      exact ⟨rfl, (by repeat' (first | with_reducible exact Below.refl _ _ | with_reducible assumption | with_reducible refine below_dn ?_ _ | with_reducible refine Below.drew ?_ | with_reducible refine below_step ?_ (by assumption) | with_reducible refine Below.setCell ?_ ?_ _ | with_reducible refine Below.alloc ?_ ?_ _ | with_reducible exact Nat.le_refl _ | (simp; done) | (simp; omega) | omega))⟩
  · have hn' : (1048576 : Int) < (xs.length : Int) := by omega
    clear hn h h'
    go_enter Try.func10, Try.ntmps10
    go_wp2
    go_ret
    exact ⟨rfl, (by repeat' (first | with_reducible exact Below.refl _ _ | with_reducible assumption | with_reducible refine below_dn ?_ _ | with_reducible refine Below.drew ?_ | with_reducible refine below_step ?_ (by assumption) | with_reducible refine Below.setCell ?_ ?_ _ | with_reducible refine Below.alloc ?_ ?_ _ | with_reducible exact Nat.le_refl _ | (simp; done) | (simp; omega) | omega))⟩
set_option maxRecDepth 100000 in
theorem FnExactDotNumbers_lifted (os : Os) (started : os.Started) (H : Type) (enc : TypeId × Value → H) :
    ReturnsInHanded {} Try.checked os 10 .any (Rows.fnExactDotNumbersSpec.pre6 enc Try.prog Try.f10 Rows.fnExactDotNumbersRow.domain false) (Rows.fnExactDotNumbersSpec.post enc Try.prog Try.f10 false true false false) := by
  refine returnsInHanded_of_change (C := Try.checked) own started (by kernel_rfl) Try.func10
    (ChangeSpec.witness6 (enc := enc) (C := Try.checked) false ⟨#[], #[.slice none 0 0, .slice none 0 0], []⟩ 8 (by kernel_rfl) (by kernel_rfl) (by kernel_rfl) (by kernel_rfl)) ?_
  intro W base args ds gs before hval0 hW _ _
  have hval : ∀ (j : Nat) t v, Try.f10.params[j]? = some t → args[j]? = some v → Value.okWide Try.prog W .any base t v := hval0
  have hW0 := hW
  obtain ⟨p, q, hA0, hV, _, _, _⟩ := hW
  obtain ⟨rfl, rfl⟩ := trodVars_none hV
  have hA : DataW.TrodAll enc Try.prog W 0 (fun _ => true) true Try.f10.params.toList args.toList ds p := hA0
  rw [Try.params10] at hA hval
  obtain ⟨v0, vs0, d0, ds0, p0, q0, hargs, rfl, _, h0, r0⟩ := trodAll_cons hA
  obtain ⟨v1, vs1, d1, ds1, p1, q1, rfl, rfl, _, h1, r1⟩ := trodAll_cons r0
  obtain ⟨rfl, rfl, _⟩ := trodAll_nil r1
  obtain rfl : args = #[v0, v1] := by cases args; simp_all
  obtain ⟨A0, c0, xs0, rfl, hm0, hF0, _⟩ := open_floats Try.underlying38 Try.underlying22 (by kernel_rfl) (hval 0 38 v0 rfl rfl) h0
  obtain ⟨A1, c1, xs1, rfl, hm1, hF1, _⟩ := open_floats Try.underlying38 Try.underlying22 (by kernel_rfl) (hval 1 38 v1 rfl rfl) h1
  clear hA0 hval0
  refine (FnExactDotNumbers_walk A0 c0 xs0 hm0 A1 c1 xs1 hm1 W hF0 hF1).mono fun e W' ⟨he, hb⟩ => ?_
  subst he
  exact ⟨_, rfl, law_post Try.laidOut hW0 rfl rfl (by kernel_rfl) Try.underlying4 (by kernel_rfl) hb⟩

theorem FnExactDotNumbers_holds : Rows.FnExactDotNumbersSaid :=
  OpenClaim.holds_of_wide 10 Try.f10 rfl rfl rfl rfl rfl rfl rfl ⟨rfl, rfl, rfl, rfl, rfl⟩ rfl rfl rfl rfl rfl (by kernel_rfl) Try.func10 (by kernel_rfl)
    (of_decide_eq_true (by kernel_rfl)) (by unfold Func.isWrapper; first | (rw [if_pos (by decide +kernel)]; kernel_rfl) | (rw [if_neg (by decide +kernel)]; exact ⟨rfl, rfl⟩))
    (fun os started H enc _ => FnExactDotNumbers_lifted os started H enc)
#print axioms FnExactDotNumbers_holds
end Go.Proofs.Ytbjnjllegcdlkaa
