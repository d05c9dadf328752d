/- DropRod: contracts. -/
import Derived.Test.YtlhgaihfghobmaaMd
import Derived.Test.YtlhgaihfghobmaaDg
namespace Go.Proofs.Ytlhgaihfghobmaa
open Go.ChangeShapes Go.WideShapes Go.ChangeAt Go.RowKit Go.Deep

theorem del_ok {n1 n2 n3 n4 : Nat} {D : D4} (k : Nat) (h : okC n1 n2 n3 n4 D = true) : okC n1 n2 n3 (n4 - 1) (delD D k) = true := by
  have h0 := h
  unfold okC szB at h ⊢
  simp only [Bool.and_eq_true, decide_eq_true_eq] at h ⊢
  refine ⟨⟨⟨h.1.1.1, by omega⟩, h.1.2⟩, ?_⟩
  rw [allB_iff]
  intro i hi
  show rdB n1 (delR D.R k i) = true
  unfold delR
  by_cases e : i < k
  · rw [if_pos e]
    exact allB_iff.1 h.2 i (by omega)
  · rw [if_neg e]
    exact allB_iff.1 h.2 (i + 1) (by omega)
theorem Own.del4 {w w' : World} {M : Nat} {A1 A2 A3 A4 : Option Addr} {c1 c2 c3 c4 n1 n2 n3 n4 k : Nat} {D : D4} (h : Own w M A1 A2 A3 A4 c1 c2 c3 c4 n1 n2 n3 (n4 + 1) D) (hw : Wr (fun b => A4 = some ⟨b, 0, none⟩) w w')
    (hs : Sl w' M 91 3 A4 n4 c4 (rc (delR D.R k))) : Own w' M A1 A2 A3 A4 c1 c2 c3 c4 n1 n2 n3 n4 (delD D k) :=
  ⟨h.s1.wr hw (fun g e h0 x => h.s1.ne_ h.s4 (by decide) e x h0 (by omega)), h.s2.wr hw (fun g e h0 x => h.s2.ne_ h.s4 (by decide) e x h0 (by omega)), h.s3.wr hw (fun g e h0 x => h.s3.ne_ h.s4 (by decide) e x h0 (by omega)), hs, h.ne⟩
set_option maxHeartbeats 4000000 in
set_option maxRecDepth 100000 in
theorem impl_DropRod1 (g M : Nat) (a0 : Nat) (A1 A2 A3 A4 : Option Addr) (c1 c2 c3 c4 n m : Nat) (D : D4) (i : Int) (w : World) (hx : Bx w g 32 (.slice A1 n c1) (.slice A2 n c2) (.slice A3 n c3) (.slice A4 m c4)) (ho : Own w M A1 A2 A3 A4 c1 c2 c3 c4 n n n m D) (hd : Bds M w.heap.size A1 A2 A3 A4 n n n m) (_hz : Zc c1 c2 c3 c4 n n n m) (_hg : M ≤ g) (_hM : M ≤ w.heap.size) (q1 : okC n n n m D = true) (hx0 : Ox w a0 2 (.int .i64 i)) :
    Calls Try.prog 134 #[.pointer (some ⟨g, 0, none⟩), .pointer (some ⟨a0, 0, none⟩)] w (RetDo g M (inI i 0 ((m : Int) - 1)) (n) (n) (n) ((m - 1)) (delD D i.toNat) w) := by
  have HX0 := Lib.hid hx
  have _HD := Lib.hid hd
  obtain ⟨p0, p1, p2, p3, pf⟩ := hx.facts
  have lp := hx.lt
  have hi := hx0.c
  obtain ⟨s1, _, _, s4⟩ := okC_sz q1
  cases hb : inI i 0 ((m : Int) - 1)
  · clear hx ho hx0 q1 hd
    go_enter Try.func134, Try.ntmps134
    go_wp2_with fail
    refine (impl_hasRod' g i _ _ _ _ _ _ _ _ n n n m (by omega) _ HX0.out).mono ?_
    rintro e w' ⟨rfl, q, rfl⟩
    rw [hb]
    go_wp2_with fail
    go_ret
    exact ⟨rfl, below_n _ _ _, fun h => absurd h (by decide)⟩
  · obtain ⟨k, rfl, hk⟩ := inI_nat hb
    obtain ⟨m, rfl⟩ : ∃ z, m = z + 1 := ⟨m - 1, by omega⟩
    have hk0 : (0 : Int) ≤ (k : Int) := by omega
    have hk1 : (k : Int) < (m : Int) + 1 := by omega
    have km : (k : Int) ≤ 40 := by omega
    have HX := Lib.hid hx
    have HO := Lib.hid ho
    have Y0 := Lib.hid hx0
    have HG := Lib.hid (show ¬ (fun b => A4 = some ⟨b, 0, none⟩) g from fun e => ho.s4.chain hx (by decide) ⟨by omega, e⟩)
    clear hx ho hx0 hd q1
    go_enter Try.func134, Try.ntmps134
    go_wp2_with fail
    refine (impl_hasRod' g k _ _ _ _ _ _ _ _ n n n (m + 1) (by omega) _ HX.out).mono ?_
    rintro e w' ⟨rfl, q, rfl⟩
    rw [hb]
    go_upto_region 3 with fail
    obtain ⟨wq, hwq⟩ : ∃ wq : World, wq = w.drewN q := ⟨_, rfl⟩
    have hBq : Below w.heap.size w wq := by rw [hwq]; exact below_n _ _ _
    rw [← hwq]
    clear hwq p0 p1 p2 p3 pf lp hi
    have HXq := Lib.hid (HX.out.go hBq)
    have HOq := Lib.hid (HO.out.go hBq)
    have Y0q := Lib.hid (Y0.out.go hBq)
    have HBq := Lib.hid hBq
    have yq := hBq.size
    have hw0 : Below wq.heap.size wq wq.drew := (Below.refl _ _).drew
    clear hBq HX HO Y0 HX0
    refine region_inv (stat [isE (.pointer (some ⟨g, 0, none⟩)), isE (.pointer (some ⟨g, 0, none⟩)), isE (.pointer (some ⟨g, 0, none⟩)), isE (.pointer (some ⟨g, 3, none⟩)), isE (.slice A4 (m + 1) c4), isE (.int .i64 (k : Int)), isE (.int .i64 (k : Int)), isE (.int .i64 ((k : Int) + 1)), isE (.slice A4 m c4), isE (.pointer (some ⟨g, 0, none⟩)), isE (.pointer (some ⟨g, 3, none⟩)), fun _ => True]) (fun l W => Js [(8, fun W => Wr (fun b => A4 = some ⟨b, 0, none⟩) wq W ∧ Sl W M 91 3 A4 m c4 (rc (delR D.R k))), (11, fun W => ∃ W5, Wr (fun b => A4 = some ⟨b, 0, none⟩) wq W5 ∧ Sl W5 M 91 3 A4 m c4 (rc (delR D.R k)) ∧ W = W5.setCell ⟨g, 3, none⟩ (.slice A4 m c4))] (fun W => Below wq.heap.size wq W) l W) (by kernel_rfl) (by kernel_rfl) (by kernel_rfl) (Js.first hw0) ⟨?r0, ?r1, ?r2, ?r3, ?r4, ?r5, ?r6, ?r7, ?r8, ?r9, ?r10, ?r11, trivial⟩ ?hend
    case r0 =>
      intro listed a u h hu hd K hK
      have e0 : a.tmps.getD 0 undef = .pointer (some ⟨g, 0, none⟩) := h.base (by kernel_rfl)
      have f0 : a.tmps[0]? = some (.pointer (some ⟨g, 0, none⟩)) := h.old (by kernel_rfl)
      rw [if_pos (by rfl)]
      go_simp
      exact hK _ _ (fact_stat _ _ _) (isE.mk rfl) (Js.neutral h.world rfl)
    case r1 =>
      intro listed a u h hu hd K hK
      have e0 : a.tmps.getD 0 undef = .pointer (some ⟨g, 0, none⟩) := h.base (by kernel_rfl)
      have f0 : a.tmps[0]? = some (.pointer (some ⟨g, 0, none⟩)) := h.old (by kernel_rfl)
      rw [if_pos (by rfl)]
      go_simp
      exact hK _ _ (fact_stat _ _ _) (isE.mk rfl) (Js.neutral h.world rfl)
    case r2 =>
      intro listed a u h hu hd K hK
      obtain ⟨v9, ev9, em9, F9⟩ := h.slot (i := 1) rfl rfl (hd _ (Array.mem_of_getElem? (i := 0) rfl) rfl)
      have e9 := ev9.trans (isE.out F9)
      have f9 := em9.trans (congrArg some (isE.out F9))
      clear ev9 em9 F9
      rw [if_pos (by rfl)]
      go_simp
      exact hK _ _ (fact_stat _ _ _) (isE.mk rfl) (Js.neutral h.world rfl)
    case r3 =>
      intro listed a u h hu hd K hK
      obtain ⟨v10, ev10, em10, F10⟩ := h.slot (i := 2) rfl rfl (hd _ (Array.mem_of_getElem? (i := 0) rfl) rfl)
      have e10 := ev10.trans (isE.out F10)
      have f10 := em10.trans (congrArg some (isE.out F10))
      clear ev10 em10 F10
      rw [if_pos (by rfl)]
      go_simp
      exact hK _ _ (fact_stat _ _ _) (isE.mk rfl) (Js.neutral h.world rfl)
    case r4 =>
      intro listed a u h hu hd K hK
      have hw := (RI.wait' h (getD_un hu) (T := 8) rfl (Array.mem_of_getElem? (i := 0) rfl) rfl rfl)
      have hA := Js.now h.world hw
      obtain ⟨v11, ev11, em11, F11⟩ := h.slot (i := 3) rfl rfl (hd _ (Array.mem_of_getElem? (i := 0) rfl) rfl)
      have e11 := ev11.trans (isE.out F11)
      have f11 := em11.trans (congrArg some (isE.out F11))
      clear ev11 em11 F11
      rw [if_pos (by rfl)]
      obtain ⟨g0, g1, g2, g3, gf⟩ := (HXq.out.go hA).facts
      have ic := (Y0q.out.go hA).c
      go_simp
      exact hK _ _ (fact_stat _ _ _) (isE.mk rfl) (Js.stay hw (by decide) hA)
    case r5 =>
      intro listed a u h hu hd K hK
      have hw := (RI.wait' h (getD_un hu) (T := 8) rfl (Array.mem_of_getElem? (i := 1) rfl) rfl rfl)
      have hA := Js.now h.world hw
      have e1 : a.tmps.getD 1 undef = .pointer (some ⟨a0, 0, none⟩) := h.base (by kernel_rfl)
      have f1 : a.tmps[1]? = some (.pointer (some ⟨a0, 0, none⟩)) := h.old (by kernel_rfl)
      rw [if_pos (by rfl)]
      obtain ⟨g0, g1, g2, g3, gf⟩ := (HXq.out.go hA).facts
      have ic := (Y0q.out.go hA).c
      go_simp
      exact hK _ _ (fact_stat _ _ _) (isE.mk rfl) (Js.stay hw (by decide) hA)
    case r6 =>
      intro listed a u h hu hd K hK
      have hw := (RI.wait' h (RI.wait' h (getD_un hu) (T := 7) rfl (Array.mem_of_getElem? (i := 0) rfl) rfl rfl) (T := 8) rfl (Array.mem_of_getElem? (i := 2) rfl) rfl rfl)
      have hA := Js.now h.world hw
      have e1 : a.tmps.getD 1 undef = .pointer (some ⟨a0, 0, none⟩) := h.base (by kernel_rfl)
      have f1 : a.tmps[1]? = some (.pointer (some ⟨a0, 0, none⟩)) := h.old (by kernel_rfl)
      rw [if_pos (by rfl)]
      obtain ⟨g0, g1, g2, g3, gf⟩ := (HXq.out.go hA).facts
      have ic := (Y0q.out.go hA).c
      go_simp
      exact hK _ _ (fact_stat _ _ _) (isE.mk rfl) (Js.stay hw (by decide) hA)
    case r7 =>
      intro listed a u h hu hd K hK
      have hw := (RI.wait' h (getD_un hu) (T := 8) rfl (Array.mem_of_getElem? (i := 2) rfl) rfl rfl)
      have hA := Js.now h.world hw
      obtain ⟨v14, ev14, em14, F14⟩ := h.slot (i := 6) rfl rfl (hd _ (Array.mem_of_getElem? (i := 0) rfl) rfl)
      have e14 := ev14.trans (isE.out F14)
      have f14 := em14.trans (congrArg some (isE.out F14))
      clear ev14 em14 F14
      rw [if_pos (by rfl)]
      go_simp
      exact hK _ _ (fact_stat _ _ _) (isE.mk (by rw [show IntKind.i64.wrap ((k : Int) + 1) = (k : Int) + 1 by rw [IntKind.wrap_i64]; omega])) (Js.stay hw (by decide) hA)
    case r8 =>
      intro listed a u h hu hd K hK
      have hw := getD_un hu
      have hA := Js.now h.world hw
      obtain ⟨v12, ev12, em12, F12⟩ := h.slot (i := 4) rfl rfl (hd _ (Array.mem_of_getElem? (i := 0) rfl) rfl)
      have e12 := ev12.trans (isE.out F12)
      have f12 := em12.trans (congrArg some (isE.out F12))
      clear ev12 em12 F12
      obtain ⟨v13, ev13, em13, F13⟩ := h.slot (i := 5) rfl rfl (hd _ (Array.mem_of_getElem? (i := 1) rfl) rfl)
      have e13 := ev13.trans (isE.out F13)
      have f13 := em13.trans (congrArg some (isE.out F13))
      clear ev13 em13 F13
      obtain ⟨v15, ev15, em15, F15⟩ := h.slot (i := 7) rfl rfl (hd _ (Array.mem_of_getElem? (i := 2) rfl) rfl)
      have e15 := ev15.trans (isE.out F15)
      have f15 := em15.trans (congrArg some (isE.out F15))
      clear ev15 em15 F15
      rw [if_pos (by rfl)]
      have hw2 := (RI.wait' h (getD_un hu) (T := 11) rfl (Array.mem_of_getElem? (i := 1) rfl) rfl rfl)
      go_simp
      refine Calls.mono (delete_rod A4 m c4 M k D.R hk (by omega) u (HOq.out.go hA).s4) ?_
      rintro e u2 ⟨rfl, hs2, hwr2⟩
      exact hK _ _ (fact_stat _ _ _) (isE.mk rfl) (Js.hit (un_lt hu) (Js.stay hw2 (by decide) ⟨(Wr.of_go hA _).trans hwr2, hs2⟩))
    case r9 =>
      intro listed a u h hu hd K hK
      obtain ⟨v8, ev8, em8, F8⟩ := h.slot (i := 0) rfl rfl (hd _ (Array.mem_of_getElem? (i := 0) rfl) rfl)
      have e8 := ev8.trans (isE.out F8)
      have f8 := em8.trans (congrArg some (isE.out F8))
      clear ev8 em8 F8
      rw [if_pos (by rfl)]
      go_simp
      exact hK _ _ (fact_stat _ _ _) (isE.mk rfl) (Js.neutral h.world rfl)
    case r10 =>
      intro listed a u h hu hd K hK
      obtain ⟨v17, ev17, em17, F17⟩ := h.slot (i := 9) rfl rfl (hd _ (Array.mem_of_getElem? (i := 0) rfl) rfl)
      have e17 := ev17.trans (isE.out F17)
      have f17 := em17.trans (congrArg some (isE.out F17))
      clear ev17 em17 F17
      rw [if_pos (by rfl)]
      go_simp
      exact hK _ _ (fact_stat _ _ _) (isE.mk rfl) (Js.neutral h.world rfl)
    case r11 =>
      intro listed a u h hu hd K hK
      have hl0 : listed.getD 8 false = true := hd _ (Array.mem_of_getElem? (i := 1) rfl) rfl
      have hw := getD_un hu
      have hA := Js.now (Js.past h.world hl0) hw
      obtain ⟨v18, ev18, em18, F18⟩ := h.slot (i := 10) rfl rfl (hd _ (Array.mem_of_getElem? (i := 0) rfl) rfl)
      have e18 := ev18.trans (isE.out F18)
      have f18 := em18.trans (congrArg some (isE.out F18))
      clear ev18 em18 F18
      obtain ⟨v16, ev16, em16, F16⟩ := h.slot (i := 8) rfl rfl (hd _ (Array.mem_of_getElem? (i := 1) rfl) rfl)
      have e16 := ev16.trans (isE.out F16)
      have f16 := em16.trans (congrArg some (isE.out F16))
      clear ev16 em16 F16
      rw [if_pos (by rfl)]
      obtain ⟨g0, g1, g2, g3, gf⟩ := (HXq.out.wr hA.1 HG.out).facts
      have lg := (HXq.out.wr hA.1 HG.out).lt
      go_simp
      exact hK undef _ (fact_stat _ _ _) trivial (Js.keep hl0 (Js.hit (un_lt hu) (Js.nil ⟨u, hA.1, hA.2, rfl⟩)))
    case hend =>
      intro listed a u h hall
      have hB : (fun W => ∃ W5, Wr (fun b => A4 = some ⟨b, 0, none⟩) wq W5 ∧ Sl W5 M 91 3 A4 m c4 (rc (delR D.R k)) ∧ W = W5.setCell ⟨g, 3, none⟩ (.slice A4 m c4)) u := (Js.past (Js.past h.world (hall 8 (by decide))) (hall 11 (by decide)))
      obtain ⟨v8, ev8, em8, F8⟩ := h.slot (i := 0) rfl rfl (hall 0 (by decide))
      have f8 := em8.trans (congrArg some (isE.out F8))
      clear ev8 em8 F8
      obtain ⟨v9, ev9, em9, F9⟩ := h.slot (i := 1) rfl rfl (hall 1 (by decide))
      have f9 := em9.trans (congrArg some (isE.out F9))
      clear ev9 em9 F9
      obtain ⟨v10, ev10, em10, F10⟩ := h.slot (i := 2) rfl rfl (hall 2 (by decide))
      have f10 := em10.trans (congrArg some (isE.out F10))
      clear ev10 em10 F10
      obtain ⟨v11, ev11, em11, F11⟩ := h.slot (i := 3) rfl rfl (hall 3 (by decide))
      have f11 := em11.trans (congrArg some (isE.out F11))
      clear ev11 em11 F11
      obtain ⟨v12, ev12, em12, F12⟩ := h.slot (i := 4) rfl rfl (hall 4 (by decide))
      have f12 := em12.trans (congrArg some (isE.out F12))
      clear ev12 em12 F12
      obtain ⟨v13, ev13, em13, F13⟩ := h.slot (i := 5) rfl rfl (hall 5 (by decide))
      have f13 := em13.trans (congrArg some (isE.out F13))
      clear ev13 em13 F13
      obtain ⟨v14, ev14, em14, F14⟩ := h.slot (i := 6) rfl rfl (hall 6 (by decide))
      have f14 := em14.trans (congrArg some (isE.out F14))
      clear ev14 em14 F14
      obtain ⟨v15, ev15, em15, F15⟩ := h.slot (i := 7) rfl rfl (hall 7 (by decide))
      have f15 := em15.trans (congrArg some (isE.out F15))
      clear ev15 em15 F15
      obtain ⟨v16, ev16, em16, F16⟩ := h.slot (i := 8) rfl rfl (hall 8 (by decide))
      have f16 := em16.trans (congrArg some (isE.out F16))
      clear ev16 em16 F16
      obtain ⟨v17, ev17, em17, F17⟩ := h.slot (i := 9) rfl rfl (hall 9 (by decide))
      have f17 := em17.trans (congrArg some (isE.out F17))
      clear ev17 em17 F17
      obtain ⟨v18, ev18, em18, F18⟩ := h.slot (i := 10) rfl rfl (hall 10 (by decide))
      have f18 := em18.trans (congrArg some (isE.out F18))
      clear ev18 em18 F18
      have ha := h.act [8, 9, 10, 11, 12, 13, 14, 15, 16, 17, 18] [_, _, _, _, _, _, _, _, _, _, _] (by kernel_rfl) ⟨f8, f9, f10, f11, f12, f13, f14, f15, f16, f17, f18, trivial⟩
      clear f8 f9 f10 f11 f12 f13 f14 f15 f16 f17 f18
      simp only [setAll, List.setIfInBounds_toArray, List.set_cons_zero, List.set_cons_succ] at ha
      subst ha
      clear h hall
      obtain ⟨W5, hw5, hs5, rfl⟩ := hB
      have W5_ := Lib.hid hw5
      have S5 := Lib.hid hs5
      have y5 := hw5.size
      clear hw5 hs5 hw0
      go_wp2_with fail
      go_ret
      have X5 := HXq.out.wr W5_.out HG.out
      have O5 := HOq.out.del4 W5_.out S5.out
      have b5 := W5_.out.below (B := M) (by omega) (fun z hz e => by have := (HOq.out.s4.bd z e (by omega)).1; omega)
      exact ⟨rfl, ((HBq.out.mono _hM).trans b5).setCell _hg _, fun _ => ⟨A1, A2, A3, A4, c1, c2, c3, c4, delD D k, SimD.refl _ _ _ _ _, X5.set3 _, O5.off X5 (Wr.set1 _ _ _ _), (O5.off X5 (Wr.set1 _ g 3 _)).bds⟩⟩
theorem run_DropRod1 (args : Array Value) (u : World) : (callFunc 134 args).run Try.prog u = .ok (.enter 134 args) u := call_enter Try.func134 (by kernel_rfl) (by kernel_rfl) _ _
theorem impl_DropRod (A1 A2 A3 A4 : Option Addr) (c1 c2 c3 c4 n1 n2 n3 n4 B : Nat) (D : D4) (i : Int) (w : World) (h : Own w B A1 A2 A3 A4 c1 c2 c3 c4 n1 n2 n3 n4 D) :
    Calls Try.prog 65 #[.agg #[.slice A1 n1 c1, .slice A2 n2 c2, .slice A3 n3 c3, .slice A4 n4 c4], .int .i64 i] w (RetM (okC n1 n2 n3 n4 D && (inI i 0 ((n4 : Int) - 1) && okC n1 n2 n3 (n4 - 1) (delD D i.toNat))) n1 n2 n3 (n4 - 1) (delD D i.toNat) w) := by
  have H := Lib.hid h
  clear h
  have z1 : (w.alloc (.cells #[.slice A1 n1 c1, .slice A2 n2 c2, .slice A3 n3 c3, .slice A4 n4 c4] 32)).heap.size = w.heap.size + 1 := by simp
  have X0 : Ox (((w.alloc (.cells #[.slice A1 n1 c1, .slice A2 n2 c2, .slice A3 n3 c3, .slice A4 n4 c4] 32)).alloc (.cells #[.int .i64 i] 2)).alloc (.cells #[sn, sn, sn, sn] 32)) (w.heap.size + 1) 2 (.int .i64 i) := by rw [← z1]; exact (Ox.new_ _ _ _).alloc _
  have zn : ((w.alloc (.cells #[.slice A1 n1 c1, .slice A2 n2 c2, .slice A3 n3 c3, .slice A4 n4 c4] 32)).alloc (.cells #[.int .i64 i] 2)).heap.size = w.heap.size + 1 + 1 := by simp
  go_enter Try.func65, Try.ntmps65
  go_wp2_with fail
  refine (impl_changedChain 134 #[.pointer (some ⟨w.heap.size + 1, 0, none⟩)] (inI i 0 ((n4 : Int) - 1)) (n1) (n2) (n3) ((n4 - 1)) (delD D i.toNat) A1 A2 A3 A4 c1 c2 c3 c4 n1 n2 n3 n4 B D _ (H.out.go ?hq) run_DropRod1 ?hdo).mono ?_
  case hq => exact (by repeat' (first | with_reducible exact Below.refl _ _ | with_reducible assumption | with_reducible refine below_dn ?_ _ | with_reducible refine Below.drew ?_ | with_reducible refine below_step ?_ (by assumption) | with_reducible refine Below.setCell ?_ ?_ _ | with_reducible refine Below.alloc ?_ ?_ _ | with_reducible exact Nat.le_refl _ | (simp; done) | (simp; omega) | omega))
  case hdo =>
    intro q1 g M E1 E2 E3 E4 d1 d2 d3 d4 u hx ho hd hz hg hM0 _ hb
    have Y0 := X0.go hb
    obtain ⟨s1, rfl, rfl, s4⟩ := okC_sz q1
    exact impl_DropRod1 g M _ E1 E2 E3 E4 d1 d2 d3 d4 n3 n4 D i u hx ho hd hz hg (by omega) q1 Y0
  rintro e w1 ⟨hr, hb1⟩
  have V1 := Lib.hid ((Bx.new_ ((w.alloc (.cells #[.slice A1 n1 c1, .slice A2 n2 c2, .slice A3 n3 c3, .slice A4 n4 c4] 32)).alloc (.cells #[.int .i64 i] 2)) 32 sn sn sn sn).go hb1)
  have B1 := Lib.hid (show Below w.heap.size w w1 from below_step (w := w) ((by repeat' (first | with_reducible exact Below.refl _ _ | with_reducible assumption | with_reducible refine below_dn ?_ _ | with_reducible refine Below.drew ?_ | with_reducible refine below_step ?_ (by assumption) | with_reducible refine Below.setCell ?_ ?_ _ | with_reducible refine Below.alloc ?_ ?_ _ | with_reducible exact Nat.le_refl _ | (simp; done) | (simp; omega) | omega))) hb1)
  rw [zn] at V1
  have e2 : (((w.alloc (.cells #[.slice A1 n1 c1, .slice A2 n2 c2, .slice A3 n3 c3, .slice A4 n4 c4] 32)).alloc (.cells #[.int .i64 i] 2)).alloc (.cells #[sn, sn, sn, sn] 32)).heap.size = w.heap.size + 3 := by simp
  rw [e2] at hr
  clear hb1 zn e2 z1 X0
  obtain ⟨v0, v1, v2, v3, vf⟩ := V1.out.facts
  have lv := V1.out.lt
  cases hbb : (okC n1 n2 n3 n4 D && (inI i 0 ((n4 : Int) - 1) && okC n1 n2 n3 (n4 - 1) (delD D i.toNat)))
  · rw [hbb] at hr
    obtain rfl := hr
    go_wp2_with fail
    obtain ⟨r0, r1, r2, r3, rf⟩ := (V1.out.setAll sn sn sn sn).facts
    refine bodyPost_ret (v := .tuple #[.agg #[sn, sn, sn, sn], .bool false]) (by simp [results, Try.results65, go_sem, r0, r1, r2, r3]) rfl ?_
    rw [hbb]
    exact ⟨rfl, Bx.bel B1.out (by omega) _ _ _ _⟩
  · rw [hbb] at hr
    obtain ⟨F1, F2, F3, F4, x1, x2, x3, x4, D', rfl, hs, ho, hd⟩ := hr
    have HS := Lib.hid hs
    have HO := Lib.hid ho
    have HD := Lib.hid hd
    clear hs ho hd
    have VF := Lib.hid (V1.out.setAll (.slice F1 (n1) x1) (.slice F2 (n2) x2) (.slice F3 (n3) x3) (.slice F4 ((n4 - 1)) x4))
    have WF := Lib.hid (show Wr (fun k => k = w.heap.size + 1 + 1) w1 ((((w1.setCell ⟨w.heap.size + 1 + 1, 0, none⟩ (.slice F1 (n1) x1)).setCell ⟨w.heap.size + 1 + 1, 1, none⟩ (.slice F2 (n2) x2)).setCell ⟨w.heap.size + 1 + 1, 2, none⟩ (.slice F3 (n3) x3)).setCell ⟨w.heap.size + 1 + 1, 3, none⟩ (.slice F4 ((n4 - 1)) x4)) from by
      refine Wr.setCell (Wr.setCell (Wr.setCell (Wr.setCell (Wr.refl _ _) ?_ _) ?_ _) ?_ _) ?_ _ <;> rfl)
    go_wp2_with fail
    obtain ⟨r0, r1, r2, r3, rf⟩ := VF.out.facts
    refine bodyPost_ret (v := .tuple #[.agg #[.slice F1 (n1) x1, .slice F2 (n2) x2, .slice F3 (n3) x3, .slice F4 ((n4 - 1)) x4], .bool true]) (by simp [results, Try.results65, go_sem, r0, r1, r2, r3]) rfl ?_
    rw [hbb]
    exact ⟨⟨F1, F2, F3, F4, x1, x2, x3, x4, D', rfl, HS.out, (HO.out.off V1.out WF.out).mono (by omega), HD.out.mono (by omega) WF.out.size⟩, Bx.bel B1.out (by omega) _ _ _ _⟩
set_option maxHeartbeats 4000000 in
set_option maxRecDepth 100000 in
theorem spec_DropRod (A1 A2 A3 A4 : Option Addr) (c1 c2 c3 c4 n1 n2 n3 n4 B : Nat) (D : D4) (i : Int) (w : World) (h : Own w B A1 A2 A3 A4 c1 c2 c3 c4 n1 n2 n3 n4 D) :
    Calls Try.prog 64 #[.agg #[.slice A1 n1 c1, .slice A2 n2 c2, .slice A3 n3 c3, .slice A4 n4 c4], .int .i64 i] w (RetM (okC n1 n2 n3 n4 D && (inI i 0 ((n4 : Int) - 1) && okC n1 n2 n3 (n4 - 1) (delD D i.toNat))) n1 n2 n3 (n4 - 1) (delD D i.toNat) w) := by
  have H := Lib.hid h
  clear h
  cases q1 : okC n1 n2 n3 n4 D
  · have qb : rodOkB n1 n2 n3 n4 D i = false := by unfold rodOkB; rw [q1]; rfl
    go_enter Try.func64, Try.ntmps64
    go_wp2_with fail
    refine (spec_l03Rod w.heap.size A1 A2 A3 A4 c1 c2 c3 c4 n1 n2 n3 n4 B D i _ ((Bx.new_ _ _ _ _ _ _).alloc _) (H.out.go (by repeat' (first | with_reducible exact Below.refl _ _ | with_reducible assumption | with_reducible refine below_dn ?_ _ | with_reducible refine Below.drew ?_ | with_reducible refine below_step ?_ (by assumption) | with_reducible refine Below.setCell ?_ ?_ _ | with_reducible refine Below.alloc ?_ ?_ _ | with_reducible exact Nat.le_refl _ | (simp; done) | (simp; omega) | omega)))).mono ?_
    rintro e w1 ⟨rfl, hb1⟩
    have V1 := Lib.hid ((Bx.new_ (w.alloc (.cells #[.slice A1 n1 c1, .slice A2 n2 c2, .slice A3 n3 c3, .slice A4 n4 c4] 32)) 32 sn sn sn sn).go hb1)
    have B1 := Lib.hid (show Below w.heap.size w w1 from below_step (w := w) ((by repeat' (first | with_reducible exact Below.refl _ _ | with_reducible assumption | with_reducible refine below_dn ?_ _ | with_reducible refine Below.drew ?_ | with_reducible refine below_step ?_ (by assumption) | with_reducible refine Below.setCell ?_ ?_ _ | with_reducible refine Below.alloc ?_ ?_ _ | with_reducible exact Nat.le_refl _ | (simp; done) | (simp; omega) | omega))) hb1)
    have e1 : (w.alloc (.cells #[.slice A1 n1 c1, .slice A2 n2 c2, .slice A3 n3 c3, .slice A4 n4 c4] 32)).heap.size = w.heap.size + 1 := by simp
    rw [e1] at V1
    clear hb1 e1
    obtain ⟨v0, v1, v2, v3, vf⟩ := V1.out.facts
    have lv := V1.out.lt
    rw [qb]
    go_wp2_with fail
    obtain ⟨r0, r1, r2, r3, rf⟩ := (V1.out.setAll sn sn sn sn).facts
    refine bodyPost_ret (v := .tuple #[.agg #[sn, sn, sn, sn], .bool false]) (by simp [results, Try.results64, go_sem, r0, r1, r2, r3]) rfl ?_
    exact ⟨rfl, Bx.bel B1.out (by omega) _ _ _ _⟩
  · obtain ⟨s1, rfl, rfl, s4⟩ := okC_sz q1
    cases q2 : inI i 0 ((n4 : Int) - 1)
    · have qb : rodOkB n3 n3 n3 n4 D i = false := by unfold rodOkB; rw [q1, q2]; rfl
      go_enter Try.func64, Try.ntmps64
      go_wp2_with fail
      refine (spec_l03Rod w.heap.size A1 A2 A3 A4 c1 c2 c3 c4 n3 n3 n3 n4 B D i _ ((Bx.new_ _ _ _ _ _ _).alloc _) (H.out.go (by repeat' (first | with_reducible exact Below.refl _ _ | with_reducible assumption | with_reducible refine below_dn ?_ _ | with_reducible refine Below.drew ?_ | with_reducible refine below_step ?_ (by assumption) | with_reducible refine Below.setCell ?_ ?_ _ | with_reducible refine Below.alloc ?_ ?_ _ | with_reducible exact Nat.le_refl _ | (simp; done) | (simp; omega) | omega)))).mono ?_
      rintro e w1 ⟨rfl, hb1⟩
      have V1 := Lib.hid ((Bx.new_ (w.alloc (.cells #[.slice A1 n3 c1, .slice A2 n3 c2, .slice A3 n3 c3, .slice A4 n4 c4] 32)) 32 sn sn sn sn).go hb1)
      have B1 := Lib.hid (show Below w.heap.size w w1 from below_step (w := w) ((by repeat' (first | with_reducible exact Below.refl _ _ | with_reducible assumption | with_reducible refine below_dn ?_ _ | with_reducible refine Below.drew ?_ | with_reducible refine below_step ?_ (by assumption) | with_reducible refine Below.setCell ?_ ?_ _ | with_reducible refine Below.alloc ?_ ?_ _ | with_reducible exact Nat.le_refl _ | (simp; done) | (simp; omega) | omega))) hb1)
      have e1 : (w.alloc (.cells #[.slice A1 n3 c1, .slice A2 n3 c2, .slice A3 n3 c3, .slice A4 n4 c4] 32)).heap.size = w.heap.size + 1 := by simp
      rw [e1] at V1
      clear hb1 e1
      obtain ⟨v0, v1, v2, v3, vf⟩ := V1.out.facts
      have lv := V1.out.lt
      rw [qb]
      go_wp2_with fail
      obtain ⟨r0, r1, r2, r3, rf⟩ := (V1.out.setAll sn sn sn sn).facts
      refine bodyPost_ret (v := .tuple #[.agg #[sn, sn, sn, sn], .bool false]) (by simp [results, Try.results64, go_sem, r0, r1, r2, r3]) rfl ?_
      exact ⟨rfl, Bx.bel B1.out (by omega) _ _ _ _⟩
    · have qb : rodOkB n3 n3 n3 n4 D i = true := by unfold rodOkB; rw [q1, q2]; rfl
      go_enter Try.func64, Try.ntmps64
      go_wp2_with fail
      refine (spec_l03Rod w.heap.size A1 A2 A3 A4 c1 c2 c3 c4 n3 n3 n3 n4 B D i _ ((Bx.new_ _ _ _ _ _ _).alloc _) (H.out.go (by repeat' (first | with_reducible exact Below.refl _ _ | with_reducible assumption | with_reducible refine below_dn ?_ _ | with_reducible refine Below.drew ?_ | with_reducible refine below_step ?_ (by assumption) | with_reducible refine Below.setCell ?_ ?_ _ | with_reducible refine Below.alloc ?_ ?_ _ | with_reducible exact Nat.le_refl _ | (simp; done) | (simp; omega) | omega)))).mono ?_
      rintro e w1 ⟨rfl, hb1⟩
      have P1 := Lib.hid (((Bx.new_ w 32 (.slice A1 n3 c1) (.slice A2 n3 c2) (.slice A3 n3 c3) (.slice A4 n4 c4)).alloc _).go hb1)
      have V1 := Lib.hid ((Bx.new_ (w.alloc (.cells #[.slice A1 n3 c1, .slice A2 n3 c2, .slice A3 n3 c3, .slice A4 n4 c4] 32)) 32 sn sn sn sn).go hb1)
      have B1 := Lib.hid (show Below w.heap.size w w1 from below_step (w := w) ((by repeat' (first | with_reducible exact Below.refl _ _ | with_reducible assumption | with_reducible refine below_dn ?_ _ | with_reducible refine Below.drew ?_ | with_reducible refine below_step ?_ (by assumption) | with_reducible refine Below.setCell ?_ ?_ _ | with_reducible refine Below.alloc ?_ ?_ _ | with_reducible exact Nat.le_refl _ | (simp; done) | (simp; omega) | omega))) hb1)
      have e1 : (w.alloc (.cells #[.slice A1 n3 c1, .slice A2 n3 c2, .slice A3 n3 c3, .slice A4 n4 c4] 32)).heap.size = w.heap.size + 1 := by simp
      rw [e1] at V1
      clear hb1 e1
      rw [qb]
      go_wp2_with fail
      refine (spec_l03Own w.heap.size A1 A2 A3 A4 c1 c2 c3 c4 n3 n3 n3 n4 D (by omega) (by omega) (by omega) (by omega) _ P1.out ((H.out.go B1.out).s1.in_) ((H.out.go B1.out).s2.in_) ((H.out.go B1.out).s3.in_) ((H.out.go B1.out).s4.in_)).mono ?_
      rintro e w2 ⟨E1, E2, E3, E4, d1, d2, d3, d4, rfl, ho2, hd2, hz2, hb2⟩
      have P2 := Lib.hid (P1.out.go hb2)
      have V2 := Lib.hid (V1.out.go hb2)
      have B2 := Lib.hid (below_step B1.out hb2)
      have O2 := Lib.hid ho2
      have D2 := Lib.hid hd2
      have HZ2 := Lib.hid hz2
      clear hz2
      have y1 := V1.out.lt
      have y2 := hb2.size
      have y0 := B1.out.size
      clear hb2 ho2 hd2 P1 V1 
      obtain ⟨k, rfl, hk⟩ := inI_nat q2
      obtain ⟨n4, rfl⟩ : ∃ z, n4 = z + 1 := ⟨n4 - 1, by omega⟩
      have hk0 : (0 : Int) ≤ (k : Int) := by omega
      have hk1 : (k : Int) ≤ (n4 : Int) := by omega
      have h2 := H.out.go B2.out
      obtain ⟨bc, hA4, _, hcc, hcm, hrC⟩ := h2.s4 (by omega)
      obtain ⟨be, hE4, HB4, hee, hem, hrE⟩ := O2.out.s4 (by omega)
      subst hE4
      subst hA4
      have k5 : k ≤ n4 := by omega
      have k4 : k ≤ d4 := by omega
      have k6 : (n4 : Int) + 1 ≤ (c4 : Int) := by omega
      have km : (n4 : Int) + 1 ≤ 40 := by omega
      obtain ⟨ad, had⟩ : ∃ ad : Addr, some ad = (if c4 = k + 1 then some ⟨bc, 0, none⟩ else some ⟨bc, (k + 1) * 3, none⟩) := by
        by_cases e : c4 = k + 1
        · exact ⟨_, by rw [if_pos e]⟩
        · exact ⟨_, by rw [if_neg e]⟩
      have HAD := Lib.hid had
      clear h2 had
      go_upto_region 4 with fail
      obtain ⟨wq, hwq⟩ : ∃ wq : World, wq = w2.alloc (.cells #[.slice E1 n3 d1, .slice E2 n3 d2, .slice E3 n3 d3, .slice (some ⟨be, 0, none⟩) (n4 + 1) d4] 32) := ⟨_, rfl⟩
      have hBq : Below w2.heap.size w2 wq := by rw [hwq]; exact Below.alloc (Below.refl _ _) (Nat.le_refl _) _
      have HXq := Lib.hid (show Bx wq w2.heap.size 32 (.slice E1 n3 d1) (.slice E2 n3 d2) (.slice E3 n3 d3) (.slice (some ⟨be, 0, none⟩) (n4 + 1) d4) by rw [hwq]; exact Bx.new_ _ _ _ _ _ _)
      rw [← hwq]
      clear hwq
      have HOq := Lib.hid (O2.out.go hBq)
      have HPq := Lib.hid (P2.out.go hBq)
      have HRq := Lib.hid (hrE.go hBq)
      have HCq := Lib.hid (hrC.go hBq)
      have VQ := Lib.hid (V2.out.go hBq)
      have BQ := Lib.hid (below_step B2.out hBq)
      have yq := hBq.size
      have lb := HRq.out.lt
      have lx := HXq.out.lt
      have hne := Rw.ne_ HXq.out HRq.out (by decide)
      have hw0 : Below wq.heap.size wq wq.drew := (Below.refl _ _).drew
      clear hBq hrE hrC O2 P2 V2 B2 D2
      refine region_inv (stat [isE (.pointer (some ⟨w2.heap.size, 3, none⟩)), isE (.slice (some ⟨be, 0, none⟩) (n4 + 1) d4), isE (.int .i64 (k : Int)), isE (.slice (some ⟨be, 0, none⟩) k d4), isE (.pointer (some ⟨w.heap.size, 3, none⟩)), isE (.slice (some ⟨bc, 0, none⟩) (n4 + 1) c4), isE (.int .i64 (k : Int)), isE (.int .i64 ((k : Int) + 1)), isE (.slice (some ad) (n4 - k) (c4 - (k + 1))), isE (.slice (some ⟨be, 0, none⟩) n4 d4), isE (.pointer (some ⟨w2.heap.size, 3, none⟩)), fun _ => True]) (fun l W => Js [(9, fun W => ∃ W5, Below wq.heap.size wq W5 ∧ W = W5.setCells be (0 + k * 3) ((List.range ((n4 - k) * 3)).map fun i => rc D.R ((k + 1) * 3 + i))), (11, fun W => ∃ W5, Below wq.heap.size wq W5 ∧ W = (W5.setCells be (0 + k * 3) ((List.range ((n4 - k) * 3)).map fun i => rc D.R ((k + 1) * 3 + i))).setCell ⟨w2.heap.size, 3, none⟩ (.slice (some ⟨be, 0, none⟩) n4 d4))] (fun W => Below wq.heap.size wq W) l W) (by kernel_rfl) (by kernel_rfl) (by kernel_rfl) (Js.first hw0) ⟨?r0, ?r1, ?r2, ?r3, ?r4, ?r5, ?r6, ?r7, ?r8, ?r9, ?r10, ?r11, trivial⟩ ?hend
      case r0 =>
        intro listed a u h hu hd K hK
        have e6 : a.tmps.getD 6 undef = .pointer (some ⟨w2.heap.size, 0, none⟩) := h.base (by kernel_rfl)
        have f6 : a.tmps[6]? = some (.pointer (some ⟨w2.heap.size, 0, none⟩)) := h.old (by kernel_rfl)
        rw [if_pos (by rfl)]
        go_simp
        exact hK _ _ (fact_stat _ _ _) (isE.mk rfl) (Js.neutral h.world rfl)
      case r1 =>
        intro listed a u h hu hd K hK
        have hw := (RI.wait' h (RI.wait' h (getD_un hu) (T := 3) rfl (Array.mem_of_getElem? (i := 0) rfl) rfl rfl) (T := 9) rfl (Array.mem_of_getElem? (i := 0) rfl) rfl rfl)
        have hA := Js.now h.world hw
        obtain ⟨v12, ev12, em12, F12⟩ := h.slot (i := 0) rfl rfl (hd _ (Array.mem_of_getElem? (i := 0) rfl) rfl)
        have e12 := ev12.trans (isE.out F12)
        have f12 := em12.trans (congrArg some (isE.out F12))
        clear ev12 em12 F12
        rw [if_pos (by rfl)]
        obtain ⟨g0, g1, g2, g3, gf⟩ := (HXq.out.go hA).facts
        obtain ⟨h0, h1, h2, h3, hf⟩ := (HPq.out.go hA).facts
        go_simp
        exact hK _ _ (fact_stat _ _ _) (isE.mk rfl) (Js.stay hw (by decide) hA)
      case r2 =>
        intro listed a u h hu hd K hK
        have e1 : a.tmps.getD 1 undef = .int .i64 (k : Int) := h.base (by kernel_rfl)
        have f1 : a.tmps[1]? = some (.int .i64 (k : Int)) := h.old (by kernel_rfl)
        rw [if_pos (by rfl)]
        go_simp
        exact hK _ _ (fact_stat _ _ _) (isE.mk rfl) (Js.neutral h.world rfl)
      case r3 =>
        intro listed a u h hu hd K hK
        obtain ⟨v13, ev13, em13, F13⟩ := h.slot (i := 1) rfl rfl (hd _ (Array.mem_of_getElem? (i := 0) rfl) rfl)
        have e13 := ev13.trans (isE.out F13)
        have f13 := em13.trans (congrArg some (isE.out F13))
        clear ev13 em13 F13
        obtain ⟨v14, ev14, em14, F14⟩ := h.slot (i := 2) rfl rfl (hd _ (Array.mem_of_getElem? (i := 1) rfl) rfl)
        have e14 := ev14.trans (isE.out F14)
        have f14 := em14.trans (congrArg some (isE.out F14))
        clear ev14 em14 F14
        rw [if_pos (by rfl)]
        go_simp
        exact hK _ _ (fact_stat _ _ _) (isE.mk rfl) (Js.neutral h.world rfl)
      case r4 =>
        intro listed a u h hu hd K hK
        have e2 : a.tmps.getD 2 undef = .pointer (some ⟨w.heap.size, 0, none⟩) := h.base (by kernel_rfl)
        have f2 : a.tmps[2]? = some (.pointer (some ⟨w.heap.size, 0, none⟩)) := h.old (by kernel_rfl)
        rw [if_pos (by rfl)]
        go_simp
        exact hK _ _ (fact_stat _ _ _) (isE.mk rfl) (Js.neutral h.world rfl)
      case r5 =>
        intro listed a u h hu hd K hK
        have hw := (RI.wait' h (RI.wait' h (getD_un hu) (T := 8) rfl (Array.mem_of_getElem? (i := 0) rfl) rfl rfl) (T := 9) rfl (Array.mem_of_getElem? (i := 1) rfl) rfl rfl)
        have hA := Js.now h.world hw
        obtain ⟨v16, ev16, em16, F16⟩ := h.slot (i := 4) rfl rfl (hd _ (Array.mem_of_getElem? (i := 0) rfl) rfl)
        have e16 := ev16.trans (isE.out F16)
        have f16 := em16.trans (congrArg some (isE.out F16))
        clear ev16 em16 F16
        rw [if_pos (by rfl)]
        obtain ⟨g0, g1, g2, g3, gf⟩ := (HXq.out.go hA).facts
        obtain ⟨h0, h1, h2, h3, hf⟩ := (HPq.out.go hA).facts
        go_simp
        exact hK _ _ (fact_stat _ _ _) (isE.mk rfl) (Js.stay hw (by decide) hA)
      case r6 =>
        intro listed a u h hu hd K hK
        have e1 : a.tmps.getD 1 undef = .int .i64 (k : Int) := h.base (by kernel_rfl)
        have f1 : a.tmps[1]? = some (.int .i64 (k : Int)) := h.old (by kernel_rfl)
        rw [if_pos (by rfl)]
        go_simp
        exact hK _ _ (fact_stat _ _ _) (isE.mk rfl) (Js.neutral h.world rfl)
      case r7 =>
        intro listed a u h hu hd K hK
        have hw := (RI.wait' h (RI.wait' h (getD_un hu) (T := 8) rfl (Array.mem_of_getElem? (i := 1) rfl) rfl rfl) (T := 9) rfl (Array.mem_of_getElem? (i := 1) rfl) rfl rfl)
        have hA := Js.now h.world hw
        obtain ⟨v18, ev18, em18, F18⟩ := h.slot (i := 6) rfl rfl (hd _ (Array.mem_of_getElem? (i := 0) rfl) rfl)
        have e18 := ev18.trans (isE.out F18)
        have f18 := em18.trans (congrArg some (isE.out F18))
        clear ev18 em18 F18
        rw [if_pos (by rfl)]
        go_simp
        exact hK _ _ (fact_stat _ _ _) (isE.mk (by rw [show IntKind.i64.wrap ((k : Int) + 1) = (k : Int) + 1 by rw [IntKind.wrap_i64]; omega])) (Js.stay hw (by decide) hA)
      case r8 =>
        intro listed a u h hu hd K hK
        obtain ⟨v17, ev17, em17, F17⟩ := h.slot (i := 5) rfl rfl (hd _ (Array.mem_of_getElem? (i := 0) rfl) rfl)
        have e17 := ev17.trans (isE.out F17)
        have f17 := em17.trans (congrArg some (isE.out F17))
        clear ev17 em17 F17
        obtain ⟨v19, ev19, em19, F19⟩ := h.slot (i := 7) rfl rfl (hd _ (Array.mem_of_getElem? (i := 1) rfl) rfl)
        have e19 := ev19.trans (isE.out F19)
        have f19 := em19.trans (congrArg some (isE.out F19))
        clear ev19 em19 F19
        rw [if_pos (by rfl)]
        go_simp
        exact hK _ _ (fact_stat _ _ _) (isE.mk (by rw [HAD.out])) (Js.neutral h.world rfl)
      case r9 =>
        intro listed a u h hu hd K hK
        have hw := getD_un hu
        have hA := Js.now h.world hw
        obtain ⟨v15, ev15, em15, F15⟩ := h.slot (i := 3) rfl rfl (hd _ (Array.mem_of_getElem? (i := 0) rfl) rfl)
        have e15 := ev15.trans (isE.out F15)
        have f15 := em15.trans (congrArg some (isE.out F15))
        clear ev15 em15 F15
        obtain ⟨v20, ev20, em20, F20⟩ := h.slot (i := 8) rfl rfl (hd _ (Array.mem_of_getElem? (i := 1) rfl) rfl)
        have e20 := ev20.trans (isE.out F20)
        have f20 := em20.trans (congrArg some (isE.out F20))
        clear ev20 em20 F20
        rw [if_pos (by rfl)]
        have hw2 := (RI.wait' h (getD_un hu) (T := 11) rfl (Array.mem_of_getElem? (i := 1) rfl) rfl rfl)
        obtain ⟨i0, hi, hz0, hz1, hz2⟩ := info_parts infoR
        have hr := HRq.out.go hA
        have hr2 := HCq.out.go hA
        have hc : ∀ j, j < ((List.range ((n4 - k) * 3)).map fun i => rc D.R ((k + 1) * 3 + i)).length → (u.cell? ⟨be, 0 + k * i0.size + j, none⟩).isSome = true := fun j hj => by rw [hz1, Nat.zero_add, hr.cell (by simp at hj; omega)]; rfl
        have hn : ∀ j v, ((List.range ((n4 - k) * 3)).map fun i => rc D.R ((k + 1) * 3 + i))[j]? = some v → u.cell? (ad.add j) = some v := fun j v hv => by
          have hj : j < (n4 - k) * 3 := by
            have := (List.getElem?_eq_some_iff.1 hv).1
            simpa using this
          rw [range_get hj] at hv
          cases hv
          have had := HAD.out
          rw [if_neg (by omega)] at had
          cases had
          rw [Addr.add_lit]
          exact hr2.cell (by omega)
        have h1 : ∀ v ∈ (List.range ((n4 - k) * 3)).map fun i => rc D.R ((k + 1) * 3 + i), v.oneCell' = true := fun v hv => by
          obtain ⟨j, _, rfl⟩ := List.mem_map.1 hv
          exact rc_one _ _
        refine wp_room (.tmp 15) (.tmp 20) 30 rfl 91 i0 Try.underlying30 hi be 0 k d4 e15 ad (n4 - k) (c4 - (k + 1)) e20 ((List.range ((n4 - k) * 3)).map fun i => rc D.R ((k + 1) * 3 + i)) (by rw [hz1]; simp) hn h1 (by omega) hc (fun j _ => hr.frozen _) ?_
        rw [hz1, show k + (n4 - k) = n4 by omega]
        exact hK _ _ (fact_stat _ _ _) (isE.mk rfl) (Js.hit (un_lt hu) (Js.stay hw2 (by decide) ⟨u, hA, rfl⟩))
      case r10 =>
        intro listed a u h hu hd K hK
        have e6 : a.tmps.getD 6 undef = .pointer (some ⟨w2.heap.size, 0, none⟩) := h.base (by kernel_rfl)
        have f6 : a.tmps[6]? = some (.pointer (some ⟨w2.heap.size, 0, none⟩)) := h.old (by kernel_rfl)
        rw [if_pos (by rfl)]
        go_simp
        exact hK _ _ (fact_stat _ _ _) (isE.mk rfl) (Js.neutral h.world rfl)
      case r11 =>
        intro listed a u h hu hd K hK
        have hl0 : listed.getD 9 false = true := hd _ (Array.mem_of_getElem? (i := 1) rfl) rfl
        have hw := getD_un hu
        have hA := Js.now (Js.past h.world hl0) hw
        obtain ⟨v22, ev22, em22, F22⟩ := h.slot (i := 10) rfl rfl (hd _ (Array.mem_of_getElem? (i := 0) rfl) rfl)
        have e22 := ev22.trans (isE.out F22)
        have f22 := em22.trans (congrArg some (isE.out F22))
        clear ev22 em22 F22
        obtain ⟨v21, ev21, em21, F21⟩ := h.slot (i := 9) rfl rfl (hd _ (Array.mem_of_getElem? (i := 1) rfl) rfl)
        have e21 := ev21.trans (isE.out F21)
        have f21 := em21.trans (congrArg some (isE.out F21))
        clear ev21 em21 F21
        rw [if_pos (by rfl)]
        obtain ⟨W5, hb5, hu5⟩ := hA
        have hx5 : Bx u w2.heap.size 32 (.slice E1 n3 d1) (.slice E2 n3 d2) (.slice E3 n3 d3) (.slice (some ⟨be, 0, none⟩) (n4 + 1) d4) := by rw [hu5]; exact (HXq.out.go hb5).wr (Wr.setCells be _ _ W5) hne
        obtain ⟨g0, g1, g2, g3, gf⟩ := hx5.facts
        have lg := hx5.lt
        have HU := Lib.hid hu5
        clear hu5
        go_simp
        have hu6 : u.setCell ⟨w2.heap.size, 3, none⟩ (.slice (some ⟨be, 0, none⟩) n4 d4) = (W5.setCells be (0 + k * 3) ((List.range ((n4 - k) * 3)).map fun i => rc D.R ((k + 1) * 3 + i))).setCell ⟨w2.heap.size, 3, none⟩ (.slice (some ⟨be, 0, none⟩) n4 d4) := by rw [HU.out]
        exact hK undef _ (fact_stat _ _ _) trivial (Js.keep hl0 (Js.hit (un_lt hu) (Js.nil ⟨W5, hb5, hu6⟩)))
      case hend =>
        intro listed a u h hall
        have hB : (fun W => ∃ W5, Below wq.heap.size wq W5 ∧ W = (W5.setCells be (0 + k * 3) ((List.range ((n4 - k) * 3)).map fun i => rc D.R ((k + 1) * 3 + i))).setCell ⟨w2.heap.size, 3, none⟩ (.slice (some ⟨be, 0, none⟩) n4 d4)) u := (Js.past (Js.past h.world (hall 9 (by decide))) (hall 11 (by decide)))
        obtain ⟨v12, ev12, em12, F12⟩ := h.slot (i := 0) rfl rfl (hall 0 (by decide))
        have f12 := em12.trans (congrArg some (isE.out F12))
        clear ev12 em12 F12
        obtain ⟨v13, ev13, em13, F13⟩ := h.slot (i := 1) rfl rfl (hall 1 (by decide))
        have f13 := em13.trans (congrArg some (isE.out F13))
        clear ev13 em13 F13
        obtain ⟨v14, ev14, em14, F14⟩ := h.slot (i := 2) rfl rfl (hall 2 (by decide))
        have f14 := em14.trans (congrArg some (isE.out F14))
        clear ev14 em14 F14
        obtain ⟨v15, ev15, em15, F15⟩ := h.slot (i := 3) rfl rfl (hall 3 (by decide))
        have f15 := em15.trans (congrArg some (isE.out F15))
        clear ev15 em15 F15
        obtain ⟨v16, ev16, em16, F16⟩ := h.slot (i := 4) rfl rfl (hall 4 (by decide))
        have f16 := em16.trans (congrArg some (isE.out F16))
        clear ev16 em16 F16
        obtain ⟨v17, ev17, em17, F17⟩ := h.slot (i := 5) rfl rfl (hall 5 (by decide))
        have f17 := em17.trans (congrArg some (isE.out F17))
        clear ev17 em17 F17
        obtain ⟨v18, ev18, em18, F18⟩ := h.slot (i := 6) rfl rfl (hall 6 (by decide))
        have f18 := em18.trans (congrArg some (isE.out F18))
        clear ev18 em18 F18
        obtain ⟨v19, ev19, em19, F19⟩ := h.slot (i := 7) rfl rfl (hall 7 (by decide))
        have f19 := em19.trans (congrArg some (isE.out F19))
        clear ev19 em19 F19
        obtain ⟨v20, ev20, em20, F20⟩ := h.slot (i := 8) rfl rfl (hall 8 (by decide))
        have f20 := em20.trans (congrArg some (isE.out F20))
        clear ev20 em20 F20
        obtain ⟨v21, ev21, em21, F21⟩ := h.slot (i := 9) rfl rfl (hall 9 (by decide))
        have f21 := em21.trans (congrArg some (isE.out F21))
        clear ev21 em21 F21
        obtain ⟨v22, ev22, em22, F22⟩ := h.slot (i := 10) rfl rfl (hall 10 (by decide))
        have f22 := em22.trans (congrArg some (isE.out F22))
        clear ev22 em22 F22
        have ha := h.act [12, 13, 14, 15, 16, 17, 18, 19, 20, 21, 22] [_, _, _, _, _, _, _, _, _, _, _] (by kernel_rfl) ⟨f12, f13, f14, f15, f16, f17, f18, f19, f20, f21, f22, trivial⟩
        clear f12 f13 f14 f15 f16 f17 f18 f19 f20 f21 f22
        simp only [setAll, List.setIfInBounds_toArray, List.set_cons_zero, List.set_cons_succ] at ha
        subst ha
        clear h hall
        obtain ⟨W5, hb5, hwm⟩ := hB
        obtain ⟨wm, rfl⟩ : ∃ z : World, z = u := ⟨u, rfl⟩
        have hw5 : Wr (fun z => z = be) wq (W5.setCells be (0 + k * 3) ((List.range ((n4 - k) * 3)).map fun i => rc D.R ((k + 1) * 3 + i))) := (Wr.of_go hb5 _).trans (Wr.setCells be _ _ W5)
        have hr5 := (HRq.out.go hb5).setCells ((List.range ((n4 - k) * 3)).map fun i => rc D.R ((k + 1) * 3 + i)) (0 + k * 3)
        have hs5 : Sl (W5.setCells be (0 + k * 3) ((List.range ((n4 - k) * 3)).map fun i => rc D.R ((k + 1) * 3 + i))) w1.heap.size 91 3 (some ⟨be, 0, none⟩) n4 d4 (rc (delR D.R k)) := fun h0 => ⟨be, rfl, HB4, by omega, hem, (hr5.less (by omega)).congr fun j hj => by have := del_cells D.R k n4 k5 j hj; simpa using this⟩
        have ho5 := HOq.out.del4 (hw5.mono (fun x _ e => by rw [e])) hs5
        have hx5 := HXq.out.wr hw5 hne
        have y5 := hw5.size
        have XM := Lib.hid (show Bx wm w2.heap.size 32 (.slice E1 n3 d1) (.slice E2 n3 d2) (.slice E3 n3 d3) (.slice (some ⟨be, 0, none⟩) n4 d4) by rw [hwm]; exact hx5.set3 _)
        have VM := Lib.hid (show Bx wm (w.heap.size + 1) 32 sn sn sn sn by rw [hwm]; exact (VQ.out.wr hw5 (by omega)).far (by simp; omega) _)
        have BM := Lib.hid (show Below w.heap.size w wm by rw [hwm]; exact (BQ.out.trans (hw5.below (by omega) (fun z hz e => by omega))).setCell (by simp; omega) _)
        have OM := Lib.hid (show Own wm w1.heap.size E1 E2 E3 (some ⟨be, 0, none⟩) d1 d2 d3 d4 n3 n3 n3 n4 (delD D k) by rw [hwm]; exact ho5.off hx5 (Wr.set1 _ _ _ _))
        have SM := Lib.hid (SimD.refl n3 n3 n3 n4 (delD D k))
        have DM := Lib.hid OM.out.bds
        clear hwm hb5 hw5 hr5 hs5 ho5 hx5 HXq HOq HPq HRq HCq VQ BQ hw0
        obtain ⟨t0, t1, t2, t3, tf⟩ := XM.out.facts
        have lt := XM.out.lt
        obtain ⟨v0, v1, v2, v3, vf⟩ := VM.out.facts
        have lv := VM.out.lt
        have q3 : okC (n3) (n3) (n3) (n4 + 1 - 1) (delD D (k : Int).toNat) = true := del_ok (n4 := n4 + 1) k q1
        have WF := Lib.hid (show Wr (fun k => k = w.heap.size + 1) wm ((((wm.setCell ⟨w.heap.size + 1, 0, none⟩ (.slice E1 (n3) d1)).setCell ⟨w.heap.size + 1, 1, none⟩ (.slice E2 (n3) d2)).setCell ⟨w.heap.size + 1, 2, none⟩ (.slice E3 (n3) d3)).setCell ⟨w.heap.size + 1, 3, none⟩ (.slice (some ⟨be, 0, none⟩) n4 d4)) from by
          refine Wr.setCell (Wr.setCell (Wr.setCell (Wr.setCell (Wr.refl _ _) ?_ _) ?_ _) ?_ _) ?_ _ <;> rfl)
        go_wp2_with fail
        obtain ⟨r0, r1, r2, r3, rf⟩ := (VM.out.setAll (.slice E1 (n3) d1) (.slice E2 (n3) d2) (.slice E3 (n3) d3) (.slice (some ⟨be, 0, none⟩) n4 d4)).facts
        refine bodyPost_ret (v := .tuple #[.agg #[.slice E1 (n3) d1, .slice E2 (n3) d2, .slice E3 (n3) d3, .slice (some ⟨be, 0, none⟩) n4 d4], .bool true]) (by simp [results, Try.results64, go_sem, r0, r1, r2, r3]) rfl ?_
        rw [q3]
        exact ⟨⟨E1, E2, E3, (some ⟨be, 0, none⟩), d1, d2, d3, d4, delD D k, rfl, SM.out, (OM.out.off VM.out WF.out).mono y0, DM.out.mono y0 WF.out.size⟩, Bx.bel BM.out (by omega) _ _ _ _⟩
end Go.Proofs.Ytlhgaihfghobmaa
