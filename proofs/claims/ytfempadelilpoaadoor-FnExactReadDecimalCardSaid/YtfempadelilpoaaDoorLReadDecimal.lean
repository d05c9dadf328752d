/- ReadDecimal of the program returns what ReadDecimal of the reference returns, for every text: the law returns true (it lets texts of more than 2^20 bytes by). The table and the two errors that strconv reads are tied to the program's text (a tied card). -/
import Derived.Test.YtfempadelilpoaaDoorTr
import Derived.Test.YtfempadelilpoaaDoorTie
import Derived.Test.YtfempadelilpoaaDoorCards
import Derived.LaidMore
import Derived.Stop.Joined
import Derived.SevenTiedAt
import Derived.Lib.LaidTab
import Derived.Stop.LaidErr
namespace Go.Proofs.YtfempadelilpoaaDoor
open Go.ChangeShapes Go.WideShapes Go.ChangeAt Go.RowKit Go.Deep

theorem var_below {w w' : World} {name : String} {g : Nat} {v : Array Value} (hg : Tryd.prog.globalNamed name = some g) (h : w.var? Tryd.prog name = some v) (hb : Below w.heap.size w w') : w'.var? Tryd.prog name = some v := by
  unfold World.var? at h ⊢
  rw [hg] at h ⊢
  simp only [Option.bind_some] at h ⊢
  have hlt : g < w.heap.size := by
    rcases Nat.lt_or_ge g w.heap.size with h' | h'
    · exact h'
    · rw [Array.getElem?_eq_none h'] at h; cases h
  rw [hb.block g hlt]
  exact h
theorem gES : Tryd.prog.globalNamed "strconv.ErrSyntax" = some 2 := by kernel_rfl
theorem gER : Tryd.prog.globalNamed "strconv.ErrRange" = some 3 := by kernel_rfl
set_option maxHeartbeats 1000000 in
set_option maxRecDepth 100000 in
theorem FnExactReadDecimal_walk (s : ByteArray) (w : World) (ht : Lib.TabIs Tryd.prog w "internal/strconv.uint64pow10" .u64 Lib.pow10Tab) (tp1 : TypeId) (p1 : Value) (hv1 : w.var? Tryd.prog "strconv.ErrSyntax" = some #[.iface tp1 p1]) (tp2 : TypeId) (p2 : Value) (hv2 : w.var? Tryd.prog "strconv.ErrRange" = some #[.iface tp2 p2]) :
    Calls Tryd.prog 8 #[.string s] w (RetV (.bool true) w) := by
  have HT := Lib.hid ht
  have HV1 := Lib.hid hv1
  have HV2 := Lib.hid hv2
  clear ht hv1 hv2
  by_cases hs : s.size ≤ 1048576
  · have hs' : ¬ (1048576 : Int) < (s.size : Int) := by omega
    obtain ⟨z, hz⟩ : ∃ z : Int × Bool, z = rdV s.data.toList := ⟨_, rfl⟩
    have HZ := Lib.hid hz
    clear hz
    obtain ⟨z1, z2⟩ := z
    have hz1 : (z1 != z1) = false := by simp
    have hz2 : (z2 != z2) = false := by simp
    go_enter Tryd.func8, Tryd.ntmps8
    go_wp2_with fail
    refine (spec_ReadDecimal s hs _).mono ?_
    rintro e w1 hr1
    rw [← HZ.out] at hr1
    obtain ⟨rfl, hb1⟩ := hr1
    have HB1 := Lib.hid hb1
    clear hb1
    go_wp2_with fail
    refine (impl_ReadDecimal s hs _ (tab_below HT.out HB1.out) tp1 p1 (var_below gES HV1.out HB1.out) tp2 p2 (var_below gER HV2.out HB1.out)).mono ?_
    rintro e w2 hr2
    rw [← HZ.out] at hr2
    obtain ⟨rfl, hb2⟩ := hr2
    have HB2 := Lib.hid (below_step HB1.out hb2)
    clear hb2 HB1
    go_wp2_with fail
    go_ret
    exact ⟨rfl, HB2.out⟩
  · have hs' : (1048576 : Int) < (s.size : Int) := by omega
    clear hs
    go_enter Tryd.func8, Tryd.ntmps8
    go_wp2_with fail
    go_ret
    exact ⟨rfl, (by repeat' (first | with_reducible exact Below.refl _ _ | with_reducible assumption | with_reducible refine below_dn ?_ _ | with_reducible refine Below.drew ?_ | with_reducible refine below_step ?_ (by assumption) | with_reducible refine Below.setCell ?_ ?_ _ | with_reducible refine Below.alloc ?_ ?_ _ | with_reducible exact Nat.le_refl _ | (simp; done) | (simp; omega) | omega))⟩
theorem pow10_of' {W : World} {rest : List (String × DataW Unit)} (h : laidMet Tryd.prog (("internal/strconv.uint64pow10", Rows.laid_internal_strconv_uint64pow10) :: rest) W) : Lib.TabIs Tryd.prog W "internal/strconv.uint64pow10" .u64 Lib.pow10Tab :=
  Lib.tabIs_of_head (g := 0) (t := 98) (e := 72) (n := 20) (by kernel_rfl) (by kernel_rfl) Tryd.underlying98 Tryd.underlying72 (by kernel_rfl) (by kernel_rfl) h
theorem star : "*" ++ "errors.errorString" = "*errors.errorString" := by decide
theorem rowErr (u : TypeId) (h : Tryd.prog.typeName? 3 u = some "*errors.errorString") : u = 117 :=
  typeName_ptr_named (nm := "errors.errorString") (by rw [star]; kernel_rfl) (by kernel_rfl) (by decide) u (by rw [star]; exact h)
theorem errRange_of {W : World} {rest : List (String × DataW Unit)} (h : laidMet Tryd.prog (("strconv.ErrRange", Rows.laid_strconv_ErrRange) :: rest) W) : ∃ a : Addr, W.var? Tryd.prog "strconv.ErrRange" = some #[.iface 117 (.pointer (some a))] := by
  obtain ⟨a, _, hv, _⟩ := laid_sentinel h gER (by kernel_rfl) Tryd.underlying58 rowErr Tryd.underlying117 Tryd.underlying119 rfl rfl Tryd.underlying9 (by kernel_rfl) (by kernel_rfl)
  exact ⟨a, hv⟩
theorem errSyn_of {W : World} {rest : List (String × DataW Unit)} (h : laidMet Tryd.prog (("strconv.ErrSyntax", Rows.laid_strconv_ErrSyntax) :: rest) W) : ∃ a : Addr, W.var? Tryd.prog "strconv.ErrSyntax" = some #[.iface 117 (.pointer (some a))] := by
  obtain ⟨a, _, hv, _⟩ := laid_sentinel h gES (by kernel_rfl) Tryd.underlying58 rowErr Tryd.underlying117 Tryd.underlying119 rfl rfl Tryd.underlying9 (by kernel_rfl) (by kernel_rfl)
  exact ⟨a, hv⟩
theorem fnExactReadDecimal_met (os : Os) (args : Array Value) : laidMetH Tryd.prog Rows.fnExactReadDecimalRow.laid ((World.doorLaid Tryd.prog 400 os).forCall (fun _ _ => 0) ⟨#[], args, []⟩).memory :=
  laidMetH_of_parts3 (fuel := 8) (laidMet_of_run' 8 (by kernel_rfl) (by kernel_rfl)) (by kernel_rfl) (by kernel_rfl)
set_option maxRecDepth 100000 in
theorem FnExactReadDecimal_lifted (os : Os) (started : os.Started) (H : Type) (enc : TypeId × Value → H) :
    ReturnsInHanded {} Tryd.checked os 8 .any (fun w args => (Rows.fnExactReadDecimalSpec.pre enc Tryd.prog Tryd.f8 [] false w args ∧ laidMetH Tryd.prog Rows.fnExactReadDecimalRow.laid w) ∧ sizedMet enc Tryd.prog Tryd.f8 (OpenSpec.ofChange Rows.fnExactReadDecimalSpec) false w args)
      (Rows.fnExactReadDecimalSpec.post enc Tryd.prog Tryd.f8 false true false false) := by
  refine returnsInHanded_of_change_and (C := Tryd.checked) (X := fun w _ => laidMetH Tryd.prog Rows.fnExactReadDecimalRow.laid w) (fun _ _ _ hh h => h.of_heap hh) own started (by kernel_rfl) Tryd.func8
    (ChangeSpec.witness_shaped (enc := enc) (C := Tryd.checked) (os := os) (X := fun w _ => laidMetH Tryd.prog Rows.fnExactReadDecimalRow.laid w) false (World.doorLaid Tryd.prog 400 os) #[.string ⟨#[]⟩] 8 rfl (World.shaped_of_RefB (by kernel_rfl) (by kernel_rfl)) (by kernel_rfl) (by kernel_rfl) (by kernel_rfl) (fnExactReadDecimal_met os _)) ?_
  intro W base args ds gs before hval0 hW _ hsz0 hL0 _
  have hL : laidMet Tryd.prog Rows.fnExactReadDecimalRow.laid W := by rw [← MakeChecks.laidMetH_plain _ _ _ (by kernel_rfl)]; exact hL0
  have hval : ∀ (j : Nat) t v, Tryd.f8.params[j]? = some t → args[j]? = some v → Value.okWide Tryd.prog W .any base t v := hval0
  have hW0 := hW
  obtain ⟨p, q, hA0, hV, rfl, hfz, hnd⟩ := hW
  have hA : DataW.TrodAll enc Tryd.prog W 0 (fun _ => true) true Tryd.f8.params.toList args.toList ds p := hA0
  rw [Tryd.params8] at hA hval
  obtain ⟨v0, d0, rfl, rfl, h0⟩ := trodAll_one hA
  obtain ⟨rfl, rfl⟩ := trodVars_none hV
  have hv := hval 0 9 v0 rfl rfl
  obtain ⟨s, rfl, _, _, ws⟩ := ChangeMaps.open_string Tryd.underlying9 hv h0
  obtain ⟨a2, hv2⟩ := errRange_of hL.tail.tail.tail
  obtain ⟨a1, hv1⟩ := errSyn_of hL.tail.tail.tail.tail
  clear hA0 hval0
  refine (FnExactReadDecimal_walk s W (pow10_of' hL.tail.tail) _ _ hv1 _ _ hv2).mono fun e W' ⟨he, hb⟩ => ?_
  subst he
  exact ⟨_, rfl, law_post Tryd.laidOut hW0 rfl rfl (by kernel_rfl) Tryd.underlying4 (by kernel_rfl) hb⟩
theorem FnExactReadDecimal_row : Rows.FnExactReadDecimalSaid :=
  OpenClaim.holds_of_wide 8 Tryd.f8 rfl rfl rfl rfl rfl rfl rfl ⟨rfl, rfl, rfl, rfl, rfl⟩ rfl rfl rfl rfl rfl (by kernel_rfl) Tryd.func8 (by kernel_rfl)
    (of_decide_eq_true (by kernel_rfl)) (by unfold Func.isWrapper; first | (rw [if_pos (by decide +kernel)]; kernel_rfl) | (rw [if_neg (by decide +kernel)]; exact ⟨rfl, rfl⟩))
    (fun os started H enc _ => FnExactReadDecimal_lifted os started H enc)
theorem FnExactReadDecimal_holds : Rows.FnExactReadDecimalCardSaid :=
  Claim7.holds_tied_plain_at .later [] [.data, .data, .data, .sentinel, .sentinel] true (true, "29f8010f54061804761fb56d48592b2f10020e5cb6bd2c6d470abeb7f094e453") true
    FnExactReadDecimal_row (fun _ h => by cases h) (by kernel_rfl) (fun _ h => by cases h) fnExactReadDecimal_row_tie rfl ⟨rfl, rfl⟩ (by kernel_rfl) rfl
    (fun f fn hf hfn => by
      obtain rfl : f = 8 := Option.some.inj ((show Tryd.prog.funcNamed "loop.example/g01253/laws.FnExactReadDecimal" = some 8 by kernel_rfl).symm.trans hf) |>.symm
      obtain rfl : fn = Tryd.f8 := (Option.some.inj (Tryd.func8.symm.trans hfn)).symm
      exact ⟨by kernel_rfl, fun j t ht => by
        rw [Tryd.params8] at ht
        have hm : t ∈ [9] := by simpa using Array.mem_of_getElem? ht
        have hall : ([9].all fun u => !Tryd.prog.wantsStandIn u) = true := by kernel_rfl
        exact (show Tryd.prog.wantsStandIn t = false by simpa using List.all_eq_true.1 hall t hm)⟩)
    (by kernel_rfl)
#print axioms FnExactReadDecimal_holds
end Go.Proofs.YtfempadelilpoaaDoor
