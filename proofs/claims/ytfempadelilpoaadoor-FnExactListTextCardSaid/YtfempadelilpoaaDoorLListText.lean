/- ListText of the program returns what ListText of the reference returns, and leaves its argument alone: the law returns true. For every list (the law itself lets lists of more than 2^20 numbers by). The table that strconv reads is tied to the program's text (a tied card). -/
import Derived.Test.YtfempadelilpoaaDoorTl
import Derived.Test.YtfempadelilpoaaDoorTie
import Derived.Test.YtfempadelilpoaaDoorCards
import Derived.LaidMore
import Derived.Stop.Joined
import Derived.SevenTiedAt
import Derived.Lib.LaidTab
import Derived.Stop.LaidErr
namespace Go.Proofs.YtfempadelilpoaaDoor
open Go.ChangeShapes Go.WideShapes Go.ChangeAt Go.RowKit Go.Deep

theorem row_belowN {w w' : World} {g n C : Nat} {t : TypeId} {f : Nat → Value} (h : w.rowIs g t n f) (hb : Below C w w') (hlt : g < C) : w'.rowIs g t n f := by
  obtain ⟨c, hc, rest⟩ := h
  exact ⟨c, (hb.block g hlt).trans hc, rest⟩
set_option maxHeartbeats 1000000 in
theorem FnExactListText_walk (A : Option Addr) (cap : Nat) (xs : List Int) (w : World) (h : IlAt w w.heap.size A xs) (hm : xs.length ≤ maxLen) (ht : Lib.TabIs Tryd.prog w "internal/strconv.uint64pow10" .u64 Lib.pow10Tab) :
    Calls Tryd.prog 4 #[.slice A xs.length cap] w (RetV (.bool true) w) := by
  unfold maxLen at hm
  have HT := Lib.hid ht
  clear ht
  by_cases hn : xs.length ≤ 1048576
  · have H := Lib.hid h
    have hn' : (xs.length : Int) ≤ 1048576 := by omega
    have KS := Lib.hid (fun A cap w B h hB => spec_ListText A cap xs hn w B h hB)
    have KI := Lib.hid (fun A cap w B h hB ht => impl_ListText A cap xs hn w B h hB ht)
    have HX := Lib.hid hn
    generalize lisV xs = T at KS KI
    generalize okL xs = t at KS KI
    have htt : (t != t) = false := by simp
    clear h
    go_enter Tryd.func4, Tryd.ntmps4
    go_wp2_with fail
    refine (laws_toInt64S A cap xs HX.out _ H.out).mono ?_
    rintro e w1 ⟨g1, rfl, hg1, hr1, hb1⟩
    have R1 := Lib.hid hr1
    have B1 := Lib.hid hb1
    clear hr1 hb1
    go_wp2_with fail
    refine (KS.out _ _ _ _ (IlAt.of_row R1.out) (Nat.le_refl _)).mono ?_
    rintro e w2 ⟨rfl, hb2⟩
    have B2 := Lib.hid (below_step B1.out hb2)
    clear hb2 B1 R1
    go_wp2_with fail
    refine (laws_toInt64S A cap xs HX.out _ (H.out.go B2.out)).mono ?_
    rintro e w3 ⟨g2, rfl, hg2, hr2, hb3⟩
    have R2 := Lib.hid hr2
    have B3 := Lib.hid (below_step B2.out hb3)
    clear hr2 hb3 B2
    go_wp2_with fail
    refine (KI.out _ _ _ _ (IlAt.of_row R2.out) (Nat.le_refl _) (tab_below HT.out B3.out)).mono ?_
    rintro e w4 ⟨rfl, hb4⟩
    have R3 := Lib.hid (row_belowN R2.out hb4 R2.out.lt)
    have B4 := Lib.hid (below_step B3.out hb4)
    clear hb4 R2 B3
    go_wp2_with fail
    refine (laws_toInt64S A cap xs HX.out _ (H.out.go B4.out)).mono ?_
    rintro e w5 ⟨g3, rfl, hg3, hr3, hb5⟩
    have R4 := Lib.hid (row_belowN R3.out hb5 R3.out.lt)
    have R5 := Lib.hid hr3
    have B5 := Lib.hid (below_step B4.out hb5)
    clear hr3 hb5 R3 B4
    go_wp2_with fail
    refine (laws_eqInt64S _ _ _ _ xs HX.out _ _ _ (IlAt.of_row R4.out) (IlAt.of_row R5.out)).mono ?_
    rintro e w6 ⟨rfl, n5, rfl⟩
    go_wp2_with fail
    go_ret
    exact ⟨rfl, below_dn B5.out _⟩
  · have hn' : (1048576 : Int) < (xs.length : Int) := by omega
    clear hn h
    go_enter Tryd.func4, Tryd.ntmps4
    go_wp2
    go_ret
    exact ⟨rfl, (by repeat' (first | with_reducible exact Below.refl _ _ | with_reducible assumption | with_reducible refine below_dn ?_ _ | with_reducible refine Below.drew ?_ | with_reducible refine below_step ?_ (by assumption) | with_reducible refine Below.setCell ?_ ?_ _ | with_reducible refine Below.alloc ?_ ?_ _ | with_reducible exact Nat.le_refl _ | (simp; done) | (simp; omega) | omega))⟩
theorem pow10_of {W : World} {rest : List (String × DataW Unit)} (h : laidMet Tryd.prog (("internal/strconv.uint64pow10", Rows.laid_internal_strconv_uint64pow10) :: rest) W) : Lib.TabIs Tryd.prog W "internal/strconv.uint64pow10" .u64 Lib.pow10Tab :=
  Lib.tabIs_of_head (g := 0) (t := 98) (e := 72) (n := 20) (by kernel_rfl) (by kernel_rfl) Tryd.underlying98 Tryd.underlying72 (by kernel_rfl) (by kernel_rfl) h
theorem fnExactListText_met (os : Os) (args : Array Value) : laidMetH Tryd.prog Rows.fnExactListTextRow.laid ((World.doorLaid Tryd.prog 400 os).forCall (fun _ _ => 0) ⟨#[], args, []⟩).memory :=
  laidMetH_of_parts3 (fuel := 8) (laidMet_of_run' 8 (by kernel_rfl) (by kernel_rfl)) (by kernel_rfl) (by kernel_rfl)
set_option maxRecDepth 100000 in
theorem FnExactListText_lifted (os : Os) (started : os.Started) (H : Type) (enc : TypeId × Value → H) :
    ReturnsInHanded {} Tryd.checked os 4 .any (fun w args => (Rows.fnExactListTextSpec.pre enc Tryd.prog Tryd.f4 [] false w args ∧ laidMetH Tryd.prog Rows.fnExactListTextRow.laid w) ∧ sizedMet enc Tryd.prog Tryd.f4 (OpenSpec.ofChange Rows.fnExactListTextSpec) false w args)
      (Rows.fnExactListTextSpec.post enc Tryd.prog Tryd.f4 false true false false) := by
  refine returnsInHanded_of_change_and (C := Tryd.checked) (X := fun w _ => laidMetH Tryd.prog Rows.fnExactListTextRow.laid w) (fun _ _ _ hh h => h.of_heap hh) own started (by kernel_rfl) Tryd.func4
    (ChangeSpec.witness_shaped (enc := enc) (C := Tryd.checked) (os := os) (X := fun w _ => laidMetH Tryd.prog Rows.fnExactListTextRow.laid w) false (World.doorLaid Tryd.prog 400 os) #[.slice none 0 0] 8 rfl (World.shaped_of_RefB (by kernel_rfl) (by kernel_rfl)) (by kernel_rfl) (by kernel_rfl) (by kernel_rfl) (fnExactListText_met os _)) ?_
  intro W base args ds gs before hval0 hW _ hsz0 hL0 _
  have hL : laidMet Tryd.prog Rows.fnExactListTextRow.laid W := by rw [← MakeChecks.laidMetH_plain _ _ _ (by kernel_rfl)]; exact hL0
  have hval : ∀ (j : Nat) t v, Tryd.f4.params[j]? = some t → args[j]? = some v → Value.okWide Tryd.prog W .any base t v := hval0
  have hW0 := hW
  obtain ⟨p, q, hA0, hV, rfl, hfz, hnd⟩ := hW
  have hA : DataW.TrodAll enc Tryd.prog W 0 (fun _ => true) true Tryd.f4.params.toList args.toList ds p := hA0
  rw [Tryd.params4] at hA hval
  obtain ⟨v0, d0, rfl, rfl, h0⟩ := trodAll_one hA
  obtain ⟨rfl, rfl⟩ := trodVars_none hV
  have hv := hval 0 24 v0 rfl rfl
  obtain ⟨A, cap, xs, rfl, hm, hF⟩ := open_intsL Tryd.underlying24 Tryd.underlying2 (by kernel_rfl) hv h0
  clear hA0 hval0
  refine (FnExactListText_walk A cap xs W hF hm (pow10_of hL.tail.tail)).mono fun e W' ⟨he, hb⟩ => ?_
  subst he
  exact ⟨_, rfl, law_post Tryd.laidOut hW0 rfl rfl (by kernel_rfl) Tryd.underlying4 (by kernel_rfl) hb⟩
theorem FnExactListText_row : Rows.FnExactListTextSaid :=
  OpenClaim.holds_of_wide 4 Tryd.f4 rfl rfl rfl rfl rfl rfl rfl ⟨rfl, rfl, rfl, rfl, rfl⟩ rfl rfl rfl rfl rfl (by kernel_rfl) Tryd.func4 (by kernel_rfl)
    (of_decide_eq_true (by kernel_rfl)) (by unfold Func.isWrapper; first | (rw [if_pos (by decide +kernel)]; kernel_rfl) | (rw [if_neg (by decide +kernel)]; exact ⟨rfl, rfl⟩))
    (fun os started H enc _ => FnExactListText_lifted os started H enc)
theorem FnExactListText_holds : Rows.FnExactListTextCardSaid :=
  Claim7.holds_tied_plain_at .later [] [.data, .data, .data] true (true, "29f8010f54061804761fb56d48592b2f10020e5cb6bd2c6d470abeb7f094e453") true
    FnExactListText_row (fun _ h => by cases h) (by kernel_rfl) (fun _ h => by cases h) fnExactListText_row_tie rfl ⟨rfl, rfl⟩ (by kernel_rfl) rfl
    (fun f fn hf hfn => by
      obtain rfl : f = 4 := Option.some.inj ((show Tryd.prog.funcNamed "loop.example/g01253/laws.FnExactListText" = some 4 by kernel_rfl).symm.trans hf) |>.symm
      obtain rfl : fn = Tryd.f4 := (Option.some.inj (Tryd.func4.symm.trans hfn)).symm
      exact ⟨by kernel_rfl, fun j t ht => by
        rw [Tryd.params4] at ht
        have hm : t ∈ [24] := by simpa using Array.mem_of_getElem? ht
        have hall : ([24].all fun u => !Tryd.prog.wantsStandIn u) = true := by kernel_rfl
        exact (show Tryd.prog.wantsStandIn t = false by simpa using List.all_eq_true.1 hall t hm)⟩)
    (by kernel_rfl)
#print axioms FnExactListText_holds
end Go.Proofs.YtfempadelilpoaaDoor
