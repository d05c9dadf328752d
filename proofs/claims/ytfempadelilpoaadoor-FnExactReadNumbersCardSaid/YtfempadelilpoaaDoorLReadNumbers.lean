/- ReadNumbers of the program returns what ReadNumbers of the reference returns, and shares no memory with the result of another call: the law returns true. For every text (the law itself lets texts of more than 2^20 bytes by). What the library reads is tied to the program's text (a tied card). -/
import Derived.Test.YtfempadelilpoaaDoorTu
import Derived.Test.YtfempadelilpoaaDoorTie
import Derived.Test.YtfempadelilpoaaDoorCards
import Derived.Lay
import Derived.LaidMore
import Derived.LaidOnce
import Derived.Stop.Joined
import Derived.SevenTiedAt
import Derived.Lib.LaidTab
import Derived.Stop.LaidErr
import Derived.Shelf.Vars
namespace Go.Proofs.YtfempadelilpoaaDoor
open Go.ChangeShapes Go.WideShapes Go.ChangeAt Go.RowKit Go.Deep

theorem ne_of_lt {a b : Option Nat} {m : Nat} (h1 : ∀ k, a = some k → k < m) (h2 : ∀ k, b = some k → m ≤ k) : a = none ∨ a ≠ b := by
  cases a with
  | none => exact .inl rfl
  | some x => exact .inr fun e => by have := h1 x rfl; have := h2 x e.symm; omega
set_option maxHeartbeats 2000000 in
set_option maxRecDepth 100000 in
theorem FnExactReadNumbers_walk (s : ByteArray) (m : Int) (w : World) (hm : w.cell? ⟨4, 0, none⟩ = some (.int .i64 m)) :
    Calls Tryd.prog 6 #[.string s] w (RetV (.bool true) w) := by
  have hgl : 4 < w.heap.size := by
    rcases Nat.lt_or_ge 4 w.heap.size with h | h
    · exact h
    · simp [World.cell?, Array.getElem?_eq_none h] at hm
  by_cases hs : s.size ≤ 1048576
  · have hs' : ¬ (1048576 : Int) < (s.size : Int) := by omega
    have RL := nrV_len s.data.toList
    have KS := Lib.hid (fun w => spec_ReadNumbers s hs w)
    have KI := Lib.hid (show ∀ W, Below w.heap.size w W → Calls Tryd.prog 19 #[.string s] W (RetFL (nrV s.data.toList) (nrB s.data.toList) W) from
      fun W hb => impl_ReadNumbers s hs m W ((hb.cell (p := ⟨4, 0, none⟩) hgl).trans hm))
    generalize nrV s.data.toList = R at KS KI RL
    generalize nrB s.data.toList = t at KS KI
    have hRn : R.length ≤ 1048576 := by omega
    have htt : (t != t) = false := by simp
    clear hm hgl
    go_enter Tryd.func6, Tryd.ntmps6
    go_wp2_with fail
    refine (KS.out _).mono ?_
    rintro e w1 ⟨v0, rfl, ho0, hb1⟩
    have V0 := Lib.hid ho0
    have B1 := Lib.hid hb1
    clear ho0 hb1
    go_wp2_with fail
    refine (KI.out _ B1.out).mono ?_
    rintro e w2 ⟨v1, rfl, ho1, hb2⟩
    have V1 := Lib.hid ho1
    have V0b := Lib.hid (owF_below V0.out hb2)
    have B2 := Lib.hid (below_step B1.out hb2)
    have N01 := Lib.hid (ne_of_lt (fun k hk => (V0.out.lt k hk).2) (fun k hk => (ho1.lt k hk).1))
    have M1 := Lib.hid (fun (k : Nat) (hk : v1.ownBlock = some k) => Nat.le_trans B1.out.size (ho1.lt k hk).1)
    clear ho1 hb2 V0 B1
    go_wp2_with (go_at_call 20; refine (laws_eqF _ _ R hRn _ _ _ V1.out V0b.out).mono ?_; rintro e w' ⟨rfl, n4, rfl⟩)
    refine (laws_markF _ R hRn _ _ (by exact V1.out)).mono ?_
    rintro e w3 ⟨rfl, ho3, hg3⟩
    have V1c := Lib.hid ho3
    have V0e := Lib.hid (owF_kept (w := w2.drewN n4) V0b.out hg3 N01.out)
    have B3 := Lib.hid ((below_dn B2.out n4).grown hg3 B2.out.size M1.out)
    clear ho3 hg3 V1 V0b B2
    go_wp2_with fail
    refine (laws_heldF _ _ hRn _ _ V1c.out).mono ?_
    rintro e w4 ⟨rfl, n8, rfl⟩
    go_wp2_with fail
    refine (KI.out _ (below_dn B3.out n8)).mono ?_
    rintro e w5 ⟨v2, rfl, ho5, hb5⟩
    have V2 := Lib.hid ho5
    have V1d := Lib.hid (owF_below (w := w3.drewN n8) V1c.out hb5)
    have V0f := Lib.hid (owF_below (w := w3.drewN n8) V0e.out hb5)
    have B5 := Lib.hid (below_step (below_dn B3.out n8) hb5)
    clear ho5 hb5 V1c V0e B3
    go_wp2_with (go_at_call 20; refine (laws_eqF _ _ R hRn _ _ _ V2.out V0f.out).mono ?_; rintro e w' ⟨rfl, n9, rfl⟩)
    refine (laws_heldF _ _ hRn _ _ (by exact V1d.out)).mono ?_
    rintro e w6 ⟨rfl, n10, rfl⟩
    go_wp2_with fail
    go_ret
    exact ⟨rfl, below_dn B5.out _⟩
  · have hs' : (1048576 : Int) < (s.size : Int) := by omega
    clear hs hm hgl
    go_enter Tryd.func6, Tryd.ntmps6
    go_wp2_with fail
    go_ret
    exact ⟨rfl, (by repeat' (first | with_reducible exact Below.refl _ _ | with_reducible assumption | with_reducible refine below_dn ?_ _ | with_reducible refine Below.drew ?_ | with_reducible refine below_step ?_ (by assumption) | with_reducible refine Below.setCell ?_ ?_ _ | with_reducible refine Below.alloc ?_ ?_ _ | with_reducible exact Nat.le_refl _ | (simp; done) | (simp; omega) | omega))⟩
theorem maxLen_of {W : World} (h : W.ShapedOpen Tryd.prog) : ∃ m, W.cell? ⟨4, 0, none⟩ = some (.int .i64 m) :=
  Go.Proofs.cell_of_shapedOpen_int (zero := #[.int .i64 0]) (t := 3) h (of_decide_eq_true (by kernel_rfl)) (by kernel_rfl) rfl (by kernel_rfl) (by kernel_rfl) Tryd.underlying3
/-- as the kit's wrap with a condition on the world, the world's shape handed on. -/
theorem handed_shaped_and {H : Type} {enc : TypeId × Value → H} {a : Assume} {C : Checked} {os : Os} {f : FuncId} {fn : Func} {s : ChangeSpec} {conds : List PathCond} {apart fresh handsOn again : Bool} {X : World → Array Value → Prop}
    (hX : ∀ (w w' : World) (args : Array Value), w.heap = w'.heap → X w args → X w' args)
    (own : ownKnob C.prog.godebug = none) (started : os.Started) (noInit : C.prog.inits.idxOf? f = none) (hfn : C.prog.funcs[f]? = some fn)
    (witness : ∃ (w : World) (tape : Tape) (i : Input), w.os = os ∧ (w.forCall tape i).Shaped C.prog ∧ i.vars = [] ∧ Input.okWide C.prog (w.forCall tape i) .any w.heap.size f i ∧
      ((s.pre enc C.prog fn conds apart (w.forCall tape i).memory i.args ∧ X (w.forCall tape i).memory i.args) ∧ sizedMet enc C.prog fn (OpenSpec.ofChange s) apart (w.forCall tape i).memory i.args) ∧ a.holds C.prog (lone (Frame.enter C.prog f i.args .normal) [] (w.forCall tape i)))
    (contract : ∀ (W : World) (base : Nat) (args : Array Value) (ds gs : List (DataW H)) (before : List MemPlace),
      (∀ (j : Nat) t v, fn.params[j]? = some t → args[j]? = some v → Value.okWide C.prog W .any base t v) →
      DataW.Whole enc C.prog fn.params.toList s.vars apart W args.toList ds gs before → X W args → W.ShapedOpen C.prog →
      Calls C.prog f args W fun e W' => ∃ v, e = .returned v ∧ s.post enc C.prog fn apart fresh handsOn again W args v W') :
    ReturnsInHanded a C os f .any (fun w args => (s.pre enc C.prog fn conds apart w args ∧ X w args) ∧ sizedMet enc C.prog fn (OpenSpec.ofChange s) apart w args) (s.post enc C.prog fn apart fresh handsOn again) := by
  refine returnsInHanded_of_calls own started noInit witness ?_
  intro w tape i _ hsh _ hok hpre _
  obtain ⟨_, _, _, fn', hfn', _, _, _, _, hval⟩ := hok
  have e : fn' = fn := Option.some.inj (hfn'.symm.trans hfn)
  subst e
  obtain ⟨⟨⟨ds, gs, before, hw, _⟩, hx⟩, _⟩ := hpre
  have hw' := DataW.Whole.of_heap (w' := w.forCall tape i) (by rfl) hw
  refine (contract (w.forCall tape i) w.heap.size i.args ds gs before hval hw' (hX _ _ _ (by rfl) hx) hsh).mono fun e W' ⟨v, he, hp⟩ => ?_
  subst he
  exact ChangeSpec.post_blind hp
set_option maxRecDepth 100000 in
theorem FnExactReadNumbers_lifted (os : Os) (started : os.Started) (H : Type) (enc : TypeId × Value → H) :
    ReturnsInHanded {} Tryd.checked os 6 .any (fun w args => (Rows.fnExactReadNumbersSpec.pre enc Tryd.prog Tryd.f6 [] false w args ∧ laidMetH Tryd.prog Rows.fnExactReadNumbersRow.laid w) ∧ sizedMet enc Tryd.prog Tryd.f6 (OpenSpec.ofChange Rows.fnExactReadNumbersSpec) false w args)
      (Rows.fnExactReadNumbersSpec.post enc Tryd.prog Tryd.f6 false true false false) := by
  refine handed_shaped_and (C := Tryd.checked) (X := fun w _ => laidMetH Tryd.prog Rows.fnExactReadNumbersRow.laid w) (fun _ _ _ hh h => h.of_heap hh) own started (by kernel_rfl) Tryd.func6
    (ChangeSpec.witness_shaped (enc := enc) (C := Tryd.checked) (os := os) (X := fun w _ => laidMetH Tryd.prog Rows.fnExactReadNumbersRow.laid w) false (World.laidAll Tryd.prog os Rows.fnExactReadNumbersRow.laid) #[.string ⟨#[]⟩] 8 (World.laidAll_os _ _ _)
      (World.shaped_of_ZipB (by kernel_rfl) (by kernel_rfl)) (by kernel_rfl) (by kernel_rfl) (by kernel_rfl)
      (by rw [MakeChecks.laidMetH_plain _ _ _ (by kernel_rfl)]; exact laidMet_laidAll _ (by kernel_rfl) (by kernel_rfl))) ?_
  intro W base args ds gs before hval0 hW _ hsh
  have hval : ∀ (j : Nat) t v, Tryd.f6.params[j]? = some t → args[j]? = some v → Value.okWide Tryd.prog W .any base t v := hval0
  have hW0 := hW
  obtain ⟨p, q, hA0, hV, rfl, hfz, hnd⟩ := hW
  have hA : DataW.TrodAll enc Tryd.prog W 0 (fun _ => true) true Tryd.f6.params.toList args.toList ds p := hA0
  rw [Tryd.params6] at hA hval
  obtain ⟨v0, d0, rfl, rfl, h0⟩ := trodAll_one hA
  obtain ⟨rfl, rfl⟩ := trodVars_none hV
  have hv := hval 0 9 v0 rfl rfl
  obtain ⟨s, rfl, _, _, ws⟩ := ChangeMaps.open_string Tryd.underlying9 hv h0
  obtain ⟨m, hm⟩ := maxLen_of hsh
  clear hA0 hval0
  refine (FnExactReadNumbers_walk s m W hm).mono fun e W' ⟨he, hb⟩ => ?_
  subst he
  exact ⟨_, rfl, law_post Tryd.laidOut hW0 rfl rfl (by kernel_rfl) Tryd.underlying4 (by kernel_rfl) hb⟩
theorem FnExactReadNumbers_row : Rows.FnExactReadNumbersSaid :=
  OpenClaim.holds_of_wide 6 Tryd.f6 rfl rfl rfl rfl rfl rfl rfl ⟨rfl, rfl, rfl, rfl, rfl⟩ rfl rfl rfl rfl rfl (by kernel_rfl) Tryd.func6 (by kernel_rfl)
    (of_decide_eq_true (by kernel_rfl)) (by unfold Func.isWrapper; first | (rw [if_pos (by decide +kernel)]; kernel_rfl) | (rw [if_neg (by decide +kernel)]; exact ⟨rfl, rfl⟩))
    (fun os started H enc _ => FnExactReadNumbers_lifted os started H enc)
theorem FnExactReadNumbers_holds : Rows.FnExactReadNumbersCardSaid :=
  Claim7.holds_tied_plain_at .later [] [.data, .pinned] true (true, "29f8010f54061804761fb56d48592b2f10020e5cb6bd2c6d470abeb7f094e453") true
    FnExactReadNumbers_row (fun _ h => by cases h) (by kernel_rfl) (fun _ h => by cases h) fnExactReadNumbers_row_tie rfl ⟨rfl, rfl⟩ (by kernel_rfl) rfl
    (fun f fn hf hfn => by
      obtain rfl : f = 6 := Option.some.inj ((show Tryd.prog.funcNamed "loop.example/g01253/laws.FnExactReadNumbers" = some 6 by kernel_rfl).symm.trans hf) |>.symm
      obtain rfl : fn = Tryd.f6 := (Option.some.inj (Tryd.func6.symm.trans hfn)).symm
      exact ⟨by kernel_rfl, fun j t ht => by
        rw [Tryd.params6] at ht
        have hm : t ∈ [9] := by simpa using Array.mem_of_getElem? ht
        have hall : ([9].all fun u => !Tryd.prog.wantsStandIn u) = true := by kernel_rfl
        exact (show Tryd.prog.wantsStandIn t = false by simpa using List.all_eq_true.1 hall t hm)⟩)
    (by kernel_rfl)
#print axioms FnExactReadNumbers_holds
end Go.Proofs.YtfempadelilpoaaDoor
