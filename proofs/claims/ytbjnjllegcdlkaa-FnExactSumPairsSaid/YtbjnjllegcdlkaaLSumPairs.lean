/- SumPairs of the program returns what SumPairs of the reference returns (any not-a-number for any other), and leaves its argument alone: the law returns true. For every list (the law itself lets lists of more than 2^20 numbers by). -/
import Derived.Test.YtbjnjllegcdlkaaSp
import Derived.Test.YtbjnjllegcdlkaaKf
namespace Go.Proofs.Ytbjnjllegcdlkaa
open Go.ChangeShapes Go.WideShapes Go.ChangeAt Go.RowKit Go.Deep

set_option maxHeartbeats 1000000 in
theorem FnExactSumPairs_walk (A : Option Addr) (cap : Nat) (xs : List Nat) (hm : xs.length ≤ maxLen) (w : World) (h : FlAt w w.heap.size A xs) (hok : ∀ x ∈ xs, x < 4294967296) :
    Calls Try.prog 13 #[.slice A xs.length cap] w (RetV (.bool true) w) := by
  have hml := Lib.hid hm
  unfold maxLen at hm
  by_cases hn : xs.length ≤ 1048576
  · have H := Lib.hid h
    have hn' : (xs.length : Int) ≤ 1048576 := by omega
    clear h
    go_enter Try.func13, Try.ntmps13
    go_wp2_with fail
    refine (laws_toFloat32S A cap xs hn _ H.out).mono ?_
    rintro e w1 ⟨g1, rfl, hg1, hr1, hb1⟩
    have R1 := Lib.hid hr1
    have B1 := Lib.hid hb1
    clear hr1 hb1
    go_wp2_with fail
    refine (spec_SumPairs _ _ xs hn (Nat.le_refl _) hml.out hok _ _ (FlAt.of_row R1.out)).mono ?_
    rintro e w2 ⟨r0, n0, rfl, _, s0, rfl⟩
    have S0 := Lib.hid s0
    clear s0
    go_wp2_with fail
    refine (laws_toFloat32S A cap xs hn _ (H.out.go (below_dn B1.out _))).mono ?_
    rintro e w3 ⟨g2, rfl, hg2, hr2, hb2⟩
    have R2 := Lib.hid hr2
    have B2 := Lib.hid (below_step (below_dn B1.out n0) hb2)
    clear hr2 hb2
    go_wp2_with fail
    refine (impl_SumPairs _ _ xs hn (Nat.le_refl _) hml.out hok _ _ (FlAt.of_row R2.out)).mono ?_
    rintro e w4 ⟨r1, n1, rfl, _, s1, rfl⟩
    have S1 := Lib.hid (s1.trans S0.out.symm)
    clear s1
    go_wp2_with (go_at_call 23; refine (laws_sameFloat _ _ (widen_sim S1.out _ _ _ _) _).mono ?_; rintro e w' ⟨rfl, n, rfl⟩)
    refine (laws_toFloat32S A cap xs hn _ (H.out.go (below_dn B2.out _))).mono ?_
    rintro e w5 ⟨g3, rfl, hg3, hr3, hb3⟩
    have R3 := Lib.hid hr3
    have B3 := Lib.hid (below_step (below_dn B2.out _) hb3)
    have X2 := Lib.hid (((FlAt.of_row R2.out).drewN _).below (Nat.le_refl _) hb3)
    clear hr3 hb3
    go_wp2_with fail
    refine (laws_eqFloat32S _ _ _ _ xs xs hn (SimL.refl xs) _ _ _ X2.out (FlAt.of_row R3.out)).mono ?_
    rintro e w6 ⟨rfl, n6, rfl⟩
    go_wp2_with fail
    go_ret
    exact ⟨rfl, below_dn B3.out _⟩
  · have hn' : (1048576 : Int) < (xs.length : Int) := by omega
    clear hn h hok
    go_enter Try.func13, Try.ntmps13
    go_wp2
    go_ret
    exact ⟨rfl, (by repeat' (first | with_reducible exact Below.refl _ _ | with_reducible assumption | with_reducible refine below_dn ?_ _ | with_reducible refine Below.drew ?_ | with_reducible refine below_step ?_ (by assumption) | with_reducible refine Below.setCell ?_ ?_ _ | with_reducible refine Below.alloc ?_ ?_ _ | with_reducible exact Nat.le_refl _ | (simp; done) | (simp; omega) | omega))⟩
set_option maxRecDepth 100000 in
theorem FnExactSumPairs_lifted (os : Os) (started : os.Started) (H : Type) (enc : TypeId × Value → H) :
    ReturnsInHanded {} Try.checked os 13 .any (Rows.fnExactSumPairsSpec.pre6 enc Try.prog Try.f13 Rows.fnExactSumPairsRow.domain false) (Rows.fnExactSumPairsSpec.post enc Try.prog Try.f13 false true false false) := by
  refine returnsInHanded_of_change (C := Try.checked) own started (by kernel_rfl) Try.func13
    (ChangeSpec.witness6 (enc := enc) (C := Try.checked) false ⟨#[], #[.slice none 0 0], []⟩ 8 (by kernel_rfl) (by kernel_rfl) (by kernel_rfl) (by kernel_rfl)) ?_
  intro W base args ds gs before hval0 hW _ _
  have hval : ∀ (j : Nat) t v, Try.f13.params[j]? = some t → args[j]? = some v → Value.okWide Try.prog W .any base t v := hval0
  have hW0 := hW
  obtain ⟨p, q, hA0, hV, _, _, _⟩ := hW
  obtain ⟨rfl, rfl⟩ := trodVars_none hV
  have hA : DataW.TrodAll enc Try.prog W 0 (fun _ => true) true Try.f13.params.toList args.toList ds p := hA0
  rw [Try.params13] at hA hval
  obtain ⟨v0, vs0, d0, ds0, p0, q0, hargs, rfl, _, h0, r0⟩ := trodAll_cons hA
  obtain ⟨rfl, rfl, _⟩ := trodAll_nil r0
  obtain rfl : args = #[v0] := by cases args; simp_all
  obtain ⟨A0, c0, xs0, rfl, hm0, hF0, hK0⟩ := open_floats Try.underlying38 Try.underlying22 (by kernel_rfl) (hval 0 38 v0 rfl rfl) h0
  clear hA0 hval0
  refine (FnExactSumPairs_walk A0 c0 xs0 hm0 W hF0 hK0).mono fun e W' ⟨he, hb⟩ => ?_
  subst he
  exact ⟨_, rfl, law_post Try.laidOut hW0 rfl rfl (by kernel_rfl) Try.underlying4 (by kernel_rfl) hb⟩

theorem FnExactSumPairs_holds : Rows.FnExactSumPairsSaid :=
  OpenClaim.holds_of_wide 13 Try.f13 rfl rfl rfl rfl rfl rfl rfl ⟨rfl, rfl, rfl, rfl, rfl⟩ rfl rfl rfl rfl rfl (by kernel_rfl) Try.func13 (by kernel_rfl)
    (of_decide_eq_true (by kernel_rfl)) (by unfold Func.isWrapper; first | (rw [if_pos (by decide +kernel)]; kernel_rfl) | (rw [if_neg (by decide +kernel)]; exact ⟨rfl, rfl⟩))
    (fun os started H enc _ => FnExactSumPairs_lifted os started H enc)
#print axioms FnExactSumPairs_holds
end Go.Proofs.Ytbjnjllegcdlkaa
