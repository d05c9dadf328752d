/- ReadVector of the program returns what ReadVector of the reference returns: the law returns true. For every text (the law itself lets texts of more than 2^20 bytes by). What the library reads is tied to the program's text (a tied card). -/
import Derived.Test.YtfempadelilpoaaDoorTt
import Derived.Test.YtfempadelilpoaaDoorTie
import Derived.Test.YtfempadelilpoaaDoorCards
import Derived.Lay
import Derived.LaidMore
import Derived.LaidOnce
import Derived.Stop.Joined
import Derived.SevenTiedAt
import Derived.Lib.LaidTab
import Derived.Stop.LaidErr
import Derived.Shelf.Vars
namespace Go.Proofs.YtfempadelilpoaaDoor
open Go.ChangeShapes Go.WideShapes Go.ChangeAt Go.RowKit Go.Deep

set_option maxHeartbeats 2000000 in
set_option maxRecDepth 100000 in
theorem FnExactReadVector_walk (s : ByteArray) (m : Int) (w : World) (hm : w.cell? ⟨4, 0, none⟩ = some (.int .i64 m)) : Calls Tryd.prog 5 #[.string s] w (RetV (.bool true) w) := by
  have hgl : 4 < w.heap.size := by
    rcases Nat.lt_or_ge 4 w.heap.size with h | h
    · exact h
    · simp [World.cell?, Array.getElem?_eq_none h] at hm
  by_cases hs : s.size ≤ 1048576
  · have hs' : ¬ (1048576 : Int) < (s.size : Int) := by omega
    have KS := Lib.hid (fun w => spec_ReadVector s (nrV s.data.toList) (nrB s.data.toList) w (fun W _ => spec_l01NRead s hs W))
    have KI := Lib.hid (show ∀ W, Below w.heap.size w W → Calls Tryd.prog 16 #[.string s] W (RetV (vecT (nrV s.data.toList) (nrB s.data.toList)) W) from
      fun W hb => impl_ReadVector s _ _ W (fun V hv => impl_ReadNumbers s hs m V ((Below.cell (below_step hb hv) (p := ⟨4, 0, none⟩) hgl).trans hm)))
    unfold vecT at KS KI
    generalize vecN (nrV s.data.toList) (nrB s.data.toList) 0 = x at KS KI
    generalize vecN (nrV s.data.toList) (nrB s.data.toList) 1 = y at KS KI
    generalize vecN (nrV s.data.toList) (nrB s.data.toList) 2 = z at KS KI
    generalize okV (nrV s.data.toList) (nrB s.data.toList) = t at KS KI
    have htt : (t != t) = false := by simp
    clear hm hgl
    go_enter Tryd.func5, Tryd.ntmps5
    go_wp2_with fail
    refine (KS.out _).mono ?_
    rintro e w1 ⟨rfl, hb1⟩
    have B1 := Lib.hid hb1
    clear hb1
    go_wp2_with fail
    have P1 := Lib.hid (T3.new_ w1 (.float .f32 x) (.float .f32 y) (.float .f32 z))
    have B2 := Lib.hid (B1.out.alloc B1.out.size (.cells #[.float .f32 x, .float .f32 y, .float .f32 z] 32))
    refine (KI.out _ B2.out).mono ?_
    rintro e w2 ⟨rfl, hb2⟩
    have P2 := Lib.hid (P1.out.go hb2)
    have B3 := Lib.hid (below_step B2.out hb2)
    have hlt := World.rowIs.lt P2.out
    obtain ⟨a0, a1, a2, af⟩ := (T3.new_ w2 (.float .f32 x) (.float .f32 y) (.float .f32 z)).facts
    obtain ⟨c0, c1, c2, cf⟩ := (P2.out.go (Below.alloc (Below.refl _ _) (Nat.le_refl _) (.cells #[.float .f32 x, .float .f32 y, .float .f32 z] 32))).facts
    have B4 := Lib.hid (B3.out.alloc B3.out.size (.cells #[.float .f32 x, .float .f32 y, .float .f32 z] 32))
    clear hb2 P1 B2 P2 B1 B3
    go_wp2_with (go_at_call 17; refine (laws_eqVector _ _ _ _ _ _ (Sim.refl _ _) (Sim.refl _ _) (Sim.refl _ _) _).mono ?_; rintro e w3 ⟨rfl, hb3⟩; have B5 := Lib.hid (below_step B4.out hb3); clear hb3)
    go_ret
    exact ⟨rfl, B5.out⟩
  · have hs' : (1048576 : Int) < (s.size : Int) := by omega
    clear hs hm hgl
    go_enter Tryd.func5, Tryd.ntmps5
    go_wp2_with fail
    go_ret
    exact ⟨rfl, (by repeat' (first | with_reducible exact Below.refl _ _ | with_reducible assumption | with_reducible refine below_dn ?_ _ | with_reducible refine Below.drew ?_ | with_reducible refine below_step ?_ (by assumption) | with_reducible refine Below.setCell ?_ ?_ _ | with_reducible refine Below.alloc ?_ ?_ _ | with_reducible exact Nat.le_refl _ | (simp; done) | (simp; omega) | omega))⟩
theorem maxLen_of {W : World} (h : W.ShapedOpen Tryd.prog) : ∃ m, W.cell? ⟨4, 0, none⟩ = some (.int .i64 m) :=
  Go.Proofs.cell_of_shapedOpen_int (zero := #[.int .i64 0]) (t := 3) h (of_decide_eq_true (by kernel_rfl)) (by kernel_rfl) rfl (by kernel_rfl) (by kernel_rfl) Tryd.underlying3
/-- as the kit's wrap with a condition on the world, the world's shape handed on. -/
theorem handed_shaped_and {H : Type} {enc : TypeId × Value → H} {a : Assume} {C : Checked} {os : Os} {f : FuncId} {fn : Func} {s : ChangeSpec} {conds : List PathCond} {apart fresh handsOn again : Bool} {X : World → Array Value → Prop}
    (hX : ∀ (w w' : World) (args : Array Value), w.heap = w'.heap → X w args → X w' args)
    (own : ownKnob C.prog.godebug = none) (started : os.Started) (noInit : C.prog.inits.idxOf? f = none) (hfn : C.prog.funcs[f]? = some fn)
    (witness : ∃ (w : World) (tape : Tape) (i : Input), w.os = os ∧ (w.forCall tape i).Shaped C.prog ∧ i.vars = [] ∧ Input.okWide C.prog (w.forCall tape i) .any w.heap.size f i ∧
      ((s.pre enc C.prog fn conds apart (w.forCall tape i).memory i.args ∧ X (w.forCall tape i).memory i.args) ∧ sizedMet enc C.prog fn (OpenSpec.ofChange s) apart (w.forCall tape i).memory i.args) ∧ a.holds C.prog (lone (Frame.enter C.prog f i.args .normal) [] (w.forCall tape i)))
    (contract : ∀ (W : World) (base : Nat) (args : Array Value) (ds gs : List (DataW H)) (before : List MemPlace),
      (∀ (j : Nat) t v, fn.params[j]? = some t → args[j]? = some v → Value.okWide C.prog W .any base t v) →
      DataW.Whole enc C.prog fn.params.toList s.vars apart W args.toList ds gs before → X W args → W.ShapedOpen C.prog →
      Calls C.prog f args W fun e W' => ∃ v, e = .returned v ∧ s.post enc C.prog fn apart fresh handsOn again W args v W') :
    ReturnsInHanded a C os f .any (fun w args => (s.pre enc C.prog fn conds apart w args ∧ X w args) ∧ sizedMet enc C.prog fn (OpenSpec.ofChange s) apart w args) (s.post enc C.prog fn apart fresh handsOn again) := by
  refine returnsInHanded_of_calls own started noInit witness ?_
  intro w tape i _ hsh _ hok hpre _
  obtain ⟨_, _, _, fn', hfn', _, _, _, _, hval⟩ := hok
  have e : fn' = fn := Option.some.inj (hfn'.symm.trans hfn)
  subst e
  obtain ⟨⟨⟨ds, gs, before, hw, _⟩, hx⟩, _⟩ := hpre
  have hw' := DataW.Whole.of_heap (w' := w.forCall tape i) (by rfl) hw
  refine (contract (w.forCall tape i) w.heap.size i.args ds gs before hval hw' (hX _ _ _ (by rfl) hx) hsh).mono fun e W' ⟨v, he, hp⟩ => ?_
  subst he
  exact ChangeSpec.post_blind hp
set_option maxRecDepth 100000 in
theorem FnExactReadVector_lifted (os : Os) (started : os.Started) (H : Type) (enc : TypeId × Value → H) :
    ReturnsInHanded {} Tryd.checked os 5 .any (fun w args => (Rows.fnExactReadVectorSpec.pre enc Tryd.prog Tryd.f5 [] false w args ∧ laidMetH Tryd.prog Rows.fnExactReadVectorRow.laid w) ∧ sizedMet enc Tryd.prog Tryd.f5 (OpenSpec.ofChange Rows.fnExactReadVectorSpec) false w args)
      (Rows.fnExactReadVectorSpec.post enc Tryd.prog Tryd.f5 false true false false) := by
  refine handed_shaped_and (C := Tryd.checked) (X := fun w _ => laidMetH Tryd.prog Rows.fnExactReadVectorRow.laid w) (fun _ _ _ hh h => h.of_heap hh) own started (by kernel_rfl) Tryd.func5
    (ChangeSpec.witness_shaped (enc := enc) (C := Tryd.checked) (os := os) (X := fun w _ => laidMetH Tryd.prog Rows.fnExactReadVectorRow.laid w) false (World.laidAll Tryd.prog os Rows.fnExactReadVectorRow.laid) #[.string ⟨#[]⟩] 8 (World.laidAll_os _ _ _)
      (World.shaped_of_ZipB (by kernel_rfl) (by kernel_rfl)) (by kernel_rfl) (by kernel_rfl) (by kernel_rfl)
      (by rw [MakeChecks.laidMetH_plain _ _ _ (by kernel_rfl)]; exact laidMet_laidAll _ (by kernel_rfl) (by kernel_rfl))) ?_
  intro W base args ds gs before hval0 hW _ hsh
  have hval : ∀ (j : Nat) t v, Tryd.f5.params[j]? = some t → args[j]? = some v → Value.okWide Tryd.prog W .any base t v := hval0
  have hW0 := hW
  obtain ⟨p, q, hA0, hV, rfl, hfz, hnd⟩ := hW
  have hA : DataW.TrodAll enc Tryd.prog W 0 (fun _ => true) true Tryd.f5.params.toList args.toList ds p := hA0
  rw [Tryd.params5] at hA hval
  obtain ⟨v0, d0, rfl, rfl, h0⟩ := trodAll_one hA
  obtain ⟨rfl, rfl⟩ := trodVars_none hV
  have hv := hval 0 9 v0 rfl rfl
  obtain ⟨s, rfl, _, _, ws⟩ := ChangeMaps.open_string Tryd.underlying9 hv h0
  obtain ⟨m, hm⟩ := maxLen_of hsh
  clear hA0 hval0
  refine (FnExactReadVector_walk s m W hm).mono fun e W' ⟨he, hb⟩ => ?_
  subst he
  exact ⟨_, rfl, law_post Tryd.laidOut hW0 rfl rfl (by kernel_rfl) Tryd.underlying4 (by kernel_rfl) hb⟩
theorem FnExactReadVector_row : Rows.FnExactReadVectorSaid :=
  OpenClaim.holds_of_wide 5 Tryd.f5 rfl rfl rfl rfl rfl rfl rfl ⟨rfl, rfl, rfl, rfl, rfl⟩ rfl rfl rfl rfl rfl (by kernel_rfl) Tryd.func5 (by kernel_rfl)
    (of_decide_eq_true (by kernel_rfl)) (by unfold Func.isWrapper; first | (rw [if_pos (by decide +kernel)]; kernel_rfl) | (rw [if_neg (by decide +kernel)]; exact ⟨rfl, rfl⟩))
    (fun os started H enc _ => FnExactReadVector_lifted os started H enc)
theorem FnExactReadVector_holds : Rows.FnExactReadVectorCardSaid :=
  Claim7.holds_tied_plain_at .later [] [.data, .pinned] true (true, "29f8010f54061804761fb56d48592b2f10020e5cb6bd2c6d470abeb7f094e453") true
    FnExactReadVector_row (fun _ h => by cases h) (by kernel_rfl) (fun _ h => by cases h) fnExactReadVector_row_tie rfl ⟨rfl, rfl⟩ (by kernel_rfl) rfl
    (fun f fn hf hfn => by
      obtain rfl : f = 5 := Option.some.inj ((show Tryd.prog.funcNamed "loop.example/g01253/laws.FnExactReadVector" = some 5 by kernel_rfl).symm.trans hf) |>.symm
      obtain rfl : fn = Tryd.f5 := (Option.some.inj (Tryd.func5.symm.trans hfn)).symm
      exact ⟨by kernel_rfl, fun j t ht => by
        rw [Tryd.params5] at ht
        have hm : t ∈ [9] := by simpa using Array.mem_of_getElem? ht
        have hall : ([9].all fun u => !Tryd.prog.wantsStandIn u) = true := by kernel_rfl
        exact (show Tryd.prog.wantsStandIn t = false by simpa using List.all_eq_true.1 hall t hm)⟩)
    (by kernel_rfl)
#print axioms FnExactReadVector_holds
end Go.Proofs.YtfempadelilpoaaDoor
