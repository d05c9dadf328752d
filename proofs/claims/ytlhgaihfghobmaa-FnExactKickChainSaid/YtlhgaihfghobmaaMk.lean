/- KickChain: contracts. -/
import Derived.Test.YtlhgaihfghobmaaMh
namespace Go.Proofs.Ytlhgaihfghobmaa
open Go.ChangeShapes Go.WideShapes Go.ChangeAt Go.RowKit Go.Deep

set_option maxHeartbeats 4000000 in
set_option maxRecDepth 100000 in
theorem impl_KickChain1 (g M : Nat) (a0 a1 : Nat) (A1 A2 A3 A4 : Option Addr) (c1 c2 c3 c4 n m : Nat) (D : D4) (i : Int) (p : V3) (w : World) (hx : Bx w g 32 (.slice A1 n c1) (.slice A2 n c2) (.slice A3 n c3) (.slice A4 m c4)) (ho : Own w M A1 A2 A3 A4 c1 c2 c3 c4 n n n m D) (hd : Bds M w.heap.size A1 A2 A3 A4 n n n m) (_hg : M ≤ g) (_hM : M ≤ w.heap.size) (q1 : okC n n n m D = true) (hx0 : Ox w a0 2 (.int .i64 i)) (hx1 : Tx w a1 38 (.float .f32 p.x) (.float .f32 p.y) (.float .f32 p.z)) :
    Calls Try.prog 133 #[.pointer (some ⟨g, 0, none⟩), .pointer (some ⟨a0, 0, none⟩), .pointer (some ⟨a1, 0, none⟩)] w (RetDo g M (inI i 0 ((n : Int) - 1)) (n) (n) (n) (m) (setB D i.toNat (vsub (D.B i.toNat) p)) w) := by
  have HX0 := Lib.hid hx
  obtain ⟨p0, p1, p2, p3, pf⟩ := hx.facts
  have lp := hx.lt
  have hi := hx0.c
  obtain ⟨s1, _, _, s4⟩ := okC_sz q1
  have HD := Lib.hid hd
  cases hb : inI i 0 ((n : Int) - 1)
  · clear hx ho hx0 hx1 q1 hd HD
    go_enter Try.func133, Try.ntmps133
    go_wp2_with fail
    refine (impl_hasPlace g i _ _ _ _ _ _ _ _ n n n m (by omega) _ HX0.out).mono ?_
    rintro e w' ⟨rfl, q, rfl⟩
    rw [hb]
    go_wp2_with fail
    go_ret
    exact ⟨rfl, below_n _ _ _, fun h => absurd h (by decide)⟩
  · obtain ⟨k, rfl, hk⟩ := inI_nat hb
    obtain ⟨b2, hA, HB2, hnc, hcm, hr⟩ := ho.s2 (by omega)
    have hne := Rw.ne_ hx hr (by decide)
    have hk0 : (0 : Int) ≤ (k : Int) := by omega
    have hk1 : (k : Int) < (n : Int) := by omega
    subst hA
    have HX := Lib.hid hx
    have HO := Lib.hid ho
    have HR := Lib.hid hr
    have Y0 := Lib.hid hx0
    have Y1 := Lib.hid hx1
    clear hr hx ho hx0 hx1 hd q1 hnc hcm
    go_enter Try.func133, Try.ntmps133
    go_wp2_with fail
    refine (impl_hasPlace g k _ _ _ _ _ _ _ _ n n n m (by omega) _ HX.out).mono ?_
    rintro e w' ⟨rfl, q, rfl⟩
    rw [hb]
    go_upto_region 3 with fail
    obtain ⟨wq, hwq⟩ : ∃ wq : World, wq = w.drewN q := ⟨_, rfl⟩
    have hBq : Below w.heap.size w wq := by rw [hwq]; exact below_n _ _ _
    rw [← hwq]
    clear hwq p0 p1 p2 p3 pf lp hi
    have HXq := Lib.hid (HX.out.go hBq)
    have HOq := Lib.hid (HO.out.go hBq)
    have HRq := Lib.hid (HR.out.go hBq)
    have Y0q := Lib.hid (Y0.out.go hBq)
    have Y1q := Lib.hid (Y1.out.go hBq)
    have HBq := Lib.hid hBq
    have yq := hBq.size
    have hw0 : Below wq.heap.size wq wq.drew := (Below.refl _ _).drew
    clear hBq HX HO HR Y0 Y1 HX0
    refine region_inv (stat [isE (.pointer (some ⟨g, 0, none⟩)), isE (.pointer (some ⟨g, 0, none⟩)), isE (.pointer (some ⟨g, 1, none⟩)), isE (.slice (some ⟨b2, 0, none⟩) n c2), isE (.int .i64 (k : Int)), isE (.pointer (some ⟨g, 0, none⟩)), isE (.pointer (some ⟨g, 0, none⟩)), isE (.pointer (some ⟨g, 1, none⟩)), isE (.slice (some ⟨b2, 0, none⟩) n c2), isE (.int .i64 (k : Int)), isE (.pointer (some ⟨b2, k * 3, none⟩)), isE (.agg #[.float .f32 (D.B k).x, .float .f32 (D.B k).y, .float .f32 (D.B k).z]), isE (.agg #[.float .f32 p.x, .float .f32 p.y, .float .f32 p.z]), isV (vsub (D.B k) p), isE (.pointer (some ⟨b2, k * 3, none⟩)), fun _ => True]) (fun l W => Js [(15, fun W => ∃ W5 r0 r1 r2, Below wq.heap.size wq W5 ∧ SimP ⟨r0, r1, r2⟩ (vsub (D.B k) p) ∧ W = (((W5.setCell ⟨b2, k * 3, none⟩ (.float .f32 r0)).setCell ⟨b2, k * 3 + 1, none⟩ (.float .f32 r1)).setCell ⟨b2, k * 3 + 2, none⟩ (.float .f32 r2)))] (fun W => Below wq.heap.size wq W) l W) (by kernel_rfl) (by kernel_rfl) (by kernel_rfl) (Js.first hw0) ⟨?r0, ?r1, ?r2, ?r3, ?r4, ?r5, ?r6, ?r7, ?r8, ?r9, ?r10, ?r11, ?r12, ?r13, ?r14, ?r15, trivial⟩ ?hend
    case r0 =>
      intro listed a u h hu hd K hK
      have e0 : a.tmps.getD 0 undef = .pointer (some ⟨g, 0, none⟩) := h.base (by kernel_rfl)
      have f0 : a.tmps[0]? = some (.pointer (some ⟨g, 0, none⟩)) := h.old (by kernel_rfl)
      rw [if_pos (by rfl)]
      go_simp
      exact hK _ _ (fact_stat _ _ _) (isE.mk rfl) (Js.neutral h.world rfl)
    case r1 =>
      intro listed a u h hu hd K hK
      obtain ⟨v9, ev9, em9, F9⟩ := h.slot (i := 0) rfl rfl (hd _ (Array.mem_of_getElem? (i := 0) rfl) rfl)
      have e9 := ev9.trans (isE.out F9)
      have f9 := em9.trans (congrArg some (isE.out F9))
      clear ev9 em9 F9
      rw [if_pos (by rfl)]
      go_simp
      exact hK _ _ (fact_stat _ _ _) (isE.mk rfl) (Js.neutral h.world rfl)
    case r2 =>
      intro listed a u h hu hd K hK
      obtain ⟨v10, ev10, em10, F10⟩ := h.slot (i := 1) rfl rfl (hd _ (Array.mem_of_getElem? (i := 0) rfl) rfl)
      have e10 := ev10.trans (isE.out F10)
      have f10 := em10.trans (congrArg some (isE.out F10))
      clear ev10 em10 F10
      rw [if_pos (by rfl)]
      go_simp
      exact hK _ _ (fact_stat _ _ _) (isE.mk rfl) (Js.neutral h.world rfl)
    case r3 =>
      intro listed a u h hu hd K hK
      have hw := h.wait hu (T := 15) rfl (Array.mem_of_getElem? (i := 6) rfl) rfl rfl
      have hA := Js.now h.world hw
      obtain ⟨v11, ev11, em11, F11⟩ := h.slot (i := 2) rfl rfl (hd _ (Array.mem_of_getElem? (i := 0) rfl) rfl)
      have e11 := ev11.trans (isE.out F11)
      have f11 := em11.trans (congrArg some (isE.out F11))
      clear ev11 em11 F11
      rw [if_pos (by rfl)]
      obtain ⟨g0, g1, g2, g3, gf⟩ := (HXq.out.go hA).facts
      have ic := (Y0q.out.go hA).c
      obtain ⟨v0_, v1_, v2_, vf_⟩ := (Y1q.out.go hA).facts
      obtain ⟨e0, e1, e2, f0, f1, f2⟩ := (HRq.out.go hA).at3 hk
      rw [vc0] at e0
      rw [vc1] at e1
      rw [vc2] at e2
      have lr := (HRq.out.go hA).lt
      go_simp
      exact hK _ _ (fact_stat _ _ _) (isE.mk rfl) (Js.stay hw (by decide) hA)
    case r4 =>
      intro listed a u h hu hd K hK
      have hw := h.wait hu (T := 15) rfl (Array.mem_of_getElem? (i := 7) rfl) rfl rfl
      have hA := Js.now h.world hw
      have e1 : a.tmps.getD 1 undef = .pointer (some ⟨a0, 0, none⟩) := h.base (by kernel_rfl)
      have f1 : a.tmps[1]? = some (.pointer (some ⟨a0, 0, none⟩)) := h.old (by kernel_rfl)
      rw [if_pos (by rfl)]
      obtain ⟨g0, g1, g2, g3, gf⟩ := (HXq.out.go hA).facts
      have ic := (Y0q.out.go hA).c
      obtain ⟨v0_, v1_, v2_, vf_⟩ := (Y1q.out.go hA).facts
      obtain ⟨e0, e1, e2, f0, f1, f2⟩ := (HRq.out.go hA).at3 hk
      rw [vc0] at e0
      rw [vc1] at e1
      rw [vc2] at e2
      have lr := (HRq.out.go hA).lt
      go_simp
      exact hK _ _ (fact_stat _ _ _) (isE.mk rfl) (Js.stay hw (by decide) hA)
    case r5 =>
      intro listed a u h hu hd K hK
      have e0 : a.tmps.getD 0 undef = .pointer (some ⟨g, 0, none⟩) := h.base (by kernel_rfl)
      have f0 : a.tmps[0]? = some (.pointer (some ⟨g, 0, none⟩)) := h.old (by kernel_rfl)
      rw [if_pos (by rfl)]
      go_simp
      exact hK _ _ (fact_stat _ _ _) (isE.mk rfl) (Js.neutral h.world rfl)
    case r6 =>
      intro listed a u h hu hd K hK
      obtain ⟨v14, ev14, em14, F14⟩ := h.slot (i := 5) rfl rfl (hd _ (Array.mem_of_getElem? (i := 0) rfl) rfl)
      have e14 := ev14.trans (isE.out F14)
      have f14 := em14.trans (congrArg some (isE.out F14))
      clear ev14 em14 F14
      rw [if_pos (by rfl)]
      go_simp
      exact hK _ _ (fact_stat _ _ _) (isE.mk rfl) (Js.neutral h.world rfl)
    case r7 =>
      intro listed a u h hu hd K hK
      obtain ⟨v15, ev15, em15, F15⟩ := h.slot (i := 6) rfl rfl (hd _ (Array.mem_of_getElem? (i := 0) rfl) rfl)
      have e15 := ev15.trans (isE.out F15)
      have f15 := em15.trans (congrArg some (isE.out F15))
      clear ev15 em15 F15
      rw [if_pos (by rfl)]
      go_simp
      exact hK _ _ (fact_stat _ _ _) (isE.mk rfl) (Js.neutral h.world rfl)
    case r8 =>
      intro listed a u h hu hd K hK
      have hw := h.wait hu (T := 15) rfl (Array.mem_of_getElem? (i := 11) rfl) rfl rfl
      have hA := Js.now h.world hw
      obtain ⟨v16, ev16, em16, F16⟩ := h.slot (i := 7) rfl rfl (hd _ (Array.mem_of_getElem? (i := 0) rfl) rfl)
      have e16 := ev16.trans (isE.out F16)
      have f16 := em16.trans (congrArg some (isE.out F16))
      clear ev16 em16 F16
      rw [if_pos (by rfl)]
      obtain ⟨g0, g1, g2, g3, gf⟩ := (HXq.out.go hA).facts
      have ic := (Y0q.out.go hA).c
      obtain ⟨v0_, v1_, v2_, vf_⟩ := (Y1q.out.go hA).facts
      obtain ⟨e0, e1, e2, f0, f1, f2⟩ := (HRq.out.go hA).at3 hk
      rw [vc0] at e0
      rw [vc1] at e1
      rw [vc2] at e2
      have lr := (HRq.out.go hA).lt
      go_simp
      exact hK _ _ (fact_stat _ _ _) (isE.mk rfl) (Js.stay hw (by decide) hA)
    case r9 =>
      intro listed a u h hu hd K hK
      have hw := h.wait hu (T := 15) rfl (Array.mem_of_getElem? (i := 12) rfl) rfl rfl
      have hA := Js.now h.world hw
      have e1 : a.tmps.getD 1 undef = .pointer (some ⟨a0, 0, none⟩) := h.base (by kernel_rfl)
      have f1 : a.tmps[1]? = some (.pointer (some ⟨a0, 0, none⟩)) := h.old (by kernel_rfl)
      rw [if_pos (by rfl)]
      obtain ⟨g0, g1, g2, g3, gf⟩ := (HXq.out.go hA).facts
      have ic := (Y0q.out.go hA).c
      obtain ⟨v0_, v1_, v2_, vf_⟩ := (Y1q.out.go hA).facts
      obtain ⟨e0, e1, e2, f0, f1, f2⟩ := (HRq.out.go hA).at3 hk
      rw [vc0] at e0
      rw [vc1] at e1
      rw [vc2] at e2
      have lr := (HRq.out.go hA).lt
      go_simp
      exact hK _ _ (fact_stat _ _ _) (isE.mk rfl) (Js.stay hw (by decide) hA)
    case r10 =>
      intro listed a u h hu hd K hK
      obtain ⟨v17, ev17, em17, F17⟩ := h.slot (i := 8) rfl rfl (hd _ (Array.mem_of_getElem? (i := 0) rfl) rfl)
      have e17 := ev17.trans (isE.out F17)
      have f17 := em17.trans (congrArg some (isE.out F17))
      clear ev17 em17 F17
      obtain ⟨v18, ev18, em18, F18⟩ := h.slot (i := 9) rfl rfl (hd _ (Array.mem_of_getElem? (i := 1) rfl) rfl)
      have e18 := ev18.trans (isE.out F18)
      have f18 := em18.trans (congrArg some (isE.out F18))
      clear ev18 em18 F18
      rw [if_pos (by rfl)]
      go_simp
      exact hK _ _ (fact_stat _ _ _) (isE.mk rfl) (Js.neutral h.world rfl)
    case r11 =>
      intro listed a u h hu hd K hK
      have hw := h.wait hu (T := 15) rfl (Array.mem_of_getElem? (i := 14) rfl) rfl rfl
      have hA := Js.now h.world hw
      obtain ⟨v19, ev19, em19, F19⟩ := h.slot (i := 10) rfl rfl (hd _ (Array.mem_of_getElem? (i := 0) rfl) rfl)
      have e19 := ev19.trans (isE.out F19)
      have f19 := em19.trans (congrArg some (isE.out F19))
      clear ev19 em19 F19
      rw [if_pos (by rfl)]
      obtain ⟨g0, g1, g2, g3, gf⟩ := (HXq.out.go hA).facts
      have ic := (Y0q.out.go hA).c
      obtain ⟨v0_, v1_, v2_, vf_⟩ := (Y1q.out.go hA).facts
      obtain ⟨e0, e1, e2, f0, f1, f2⟩ := (HRq.out.go hA).at3 hk
      rw [vc0] at e0
      rw [vc1] at e1
      rw [vc2] at e2
      have lr := (HRq.out.go hA).lt
      go_simp
      exact hK _ _ (fact_stat _ _ _) (isE.mk rfl) (Js.stay hw (by decide) hA)
    case r12 =>
      intro listed a u h hu hd K hK
      have hw := h.wait hu (T := 15) rfl (Array.mem_of_getElem? (i := 15) rfl) rfl rfl
      have hA := Js.now h.world hw
      have e2 : a.tmps.getD 2 undef = .pointer (some ⟨a1, 0, none⟩) := h.base (by kernel_rfl)
      have f2 : a.tmps[2]? = some (.pointer (some ⟨a1, 0, none⟩)) := h.old (by kernel_rfl)
      rw [if_pos (by rfl)]
      obtain ⟨g0, g1, g2, g3, gf⟩ := (HXq.out.go hA).facts
      have ic := (Y0q.out.go hA).c
      obtain ⟨v0_, v1_, v2_, vf_⟩ := (Y1q.out.go hA).facts
      obtain ⟨e0, e1, e2, f0, f1, f2⟩ := (HRq.out.go hA).at3 hk
      rw [vc0] at e0
      rw [vc1] at e1
      rw [vc2] at e2
      have lr := (HRq.out.go hA).lt
      go_simp
      exact hK _ _ (fact_stat _ _ _) (isE.mk rfl) (Js.stay hw (by decide) hA)
    case r13 =>
      intro listed a u h hu hd K hK
      have hw := h.wait hu (T := 15) rfl (Array.mem_of_getElem? (i := 1) rfl) rfl rfl
      have hA := Js.now h.world hw
      obtain ⟨v20, ev20, em20, F20⟩ := h.slot (i := 11) rfl rfl (hd _ (Array.mem_of_getElem? (i := 0) rfl) rfl)
      have e20 := ev20.trans (isE.out F20)
      have f20 := em20.trans (congrArg some (isE.out F20))
      clear ev20 em20 F20
      obtain ⟨v21, ev21, em21, F21⟩ := h.slot (i := 12) rfl rfl (hd _ (Array.mem_of_getElem? (i := 1) rfl) rfl)
      have e21 := ev21.trans (isE.out F21)
      have f21 := em21.trans (congrArg some (isE.out F21))
      clear ev21 em21 F21
      rw [if_pos (by rfl)]
      go_simp
      refine Calls.mono (impl_LessVectors _ _ _ _ _ _ u) ?_
      rintro e u2 ⟨a0_, a1_, a2_, rfl, _, r0, r1, r2, hb⟩
      exact hK _ _ (fact_stat _ _ _) (isV.mk ⟨r0, r1, r2⟩) (Js.stay hw (by decide) (hA.trans (hb.mono hA.size)))
    case r14 =>
      intro listed a u h hu hd K hK
      obtain ⟨v12, ev12, em12, F12⟩ := h.slot (i := 3) rfl rfl (hd _ (Array.mem_of_getElem? (i := 0) rfl) rfl)
      have e12 := ev12.trans (isE.out F12)
      have f12 := em12.trans (congrArg some (isE.out F12))
      clear ev12 em12 F12
      obtain ⟨v13, ev13, em13, F13⟩ := h.slot (i := 4) rfl rfl (hd _ (Array.mem_of_getElem? (i := 1) rfl) rfl)
      have e13 := ev13.trans (isE.out F13)
      have f13 := em13.trans (congrArg some (isE.out F13))
      clear ev13 em13 F13
      rw [if_pos (by rfl)]
      go_simp
      exact hK _ _ (fact_stat _ _ _) (isE.mk rfl) (Js.neutral h.world rfl)
    case r15 =>
      intro listed a u h hu hd K hK
      have hw := getD_un hu
      have hA := Js.now h.world hw
      obtain ⟨v23, ev23, em23, F23⟩ := h.slot (i := 14) rfl rfl (hd _ (Array.mem_of_getElem? (i := 0) rfl) rfl)
      have e23 := ev23.trans (isE.out F23)
      have f23 := em23.trans (congrArg some (isE.out F23))
      clear ev23 em23 F23
      obtain ⟨v22, ev22, em22, F22⟩ := h.slot (i := 13) rfl rfl (hd _ (Array.mem_of_getElem? (i := 1) rfl) rfl)
      obtain ⟨x22, y22, z22, q22, s22⟩ := isV.out F22
      have e22 := ev22.trans q22
      have f22 := em22.trans (congrArg some q22)
      clear ev22 em22 F22
      rw [if_pos (by rfl)]
      obtain ⟨g0, g1, g2, g3, gf⟩ := (HXq.out.go hA).facts
      have ic := (Y0q.out.go hA).c
      obtain ⟨v0_, v1_, v2_, vf_⟩ := (Y1q.out.go hA).facts
      obtain ⟨e0, e1, e2, f0, f1, f2⟩ := (HRq.out.go hA).at3 hk
      rw [vc0] at e0
      rw [vc1] at e1
      rw [vc2] at e2
      have lr := (HRq.out.go hA).lt
      go_simp
      exact hK undef _ (fact_stat _ _ _) trivial (Js.hit (un_lt hu) (Js.nil ⟨u, x22, y22, z22, hA, s22, rfl⟩))
    case hend =>
      intro listed a u h hall
      have hB : (fun W => ∃ W5 r0 r1 r2, Below wq.heap.size wq W5 ∧ SimP ⟨r0, r1, r2⟩ (vsub (D.B k) p) ∧ W = (((W5.setCell ⟨b2, k * 3, none⟩ (.float .f32 r0)).setCell ⟨b2, k * 3 + 1, none⟩ (.float .f32 r1)).setCell ⟨b2, k * 3 + 2, none⟩ (.float .f32 r2))) u := (Js.past h.world (hall 15 (by decide)))
      obtain ⟨v9, ev9, em9, F9⟩ := h.slot (i := 0) rfl rfl (hall 0 (by decide))
      have f9 := em9.trans (congrArg some (isE.out F9))
      clear ev9 em9 F9
      obtain ⟨v10, ev10, em10, F10⟩ := h.slot (i := 1) rfl rfl (hall 1 (by decide))
      have f10 := em10.trans (congrArg some (isE.out F10))
      clear ev10 em10 F10
      obtain ⟨v11, ev11, em11, F11⟩ := h.slot (i := 2) rfl rfl (hall 2 (by decide))
      have f11 := em11.trans (congrArg some (isE.out F11))
      clear ev11 em11 F11
      obtain ⟨v12, ev12, em12, F12⟩ := h.slot (i := 3) rfl rfl (hall 3 (by decide))
      have f12 := em12.trans (congrArg some (isE.out F12))
      clear ev12 em12 F12
      obtain ⟨v13, ev13, em13, F13⟩ := h.slot (i := 4) rfl rfl (hall 4 (by decide))
      have f13 := em13.trans (congrArg some (isE.out F13))
      clear ev13 em13 F13
      obtain ⟨v14, ev14, em14, F14⟩ := h.slot (i := 5) rfl rfl (hall 5 (by decide))
      have f14 := em14.trans (congrArg some (isE.out F14))
      clear ev14 em14 F14
      obtain ⟨v15, ev15, em15, F15⟩ := h.slot (i := 6) rfl rfl (hall 6 (by decide))
      have f15 := em15.trans (congrArg some (isE.out F15))
      clear ev15 em15 F15
      obtain ⟨v16, ev16, em16, F16⟩ := h.slot (i := 7) rfl rfl (hall 7 (by decide))
      have f16 := em16.trans (congrArg some (isE.out F16))
      clear ev16 em16 F16
      obtain ⟨v17, ev17, em17, F17⟩ := h.slot (i := 8) rfl rfl (hall 8 (by decide))
      have f17 := em17.trans (congrArg some (isE.out F17))
      clear ev17 em17 F17
      obtain ⟨v18, ev18, em18, F18⟩ := h.slot (i := 9) rfl rfl (hall 9 (by decide))
      have f18 := em18.trans (congrArg some (isE.out F18))
      clear ev18 em18 F18
      obtain ⟨v19, ev19, em19, F19⟩ := h.slot (i := 10) rfl rfl (hall 10 (by decide))
      have f19 := em19.trans (congrArg some (isE.out F19))
      clear ev19 em19 F19
      obtain ⟨v20, ev20, em20, F20⟩ := h.slot (i := 11) rfl rfl (hall 11 (by decide))
      have f20 := em20.trans (congrArg some (isE.out F20))
      clear ev20 em20 F20
      obtain ⟨v21, ev21, em21, F21⟩ := h.slot (i := 12) rfl rfl (hall 12 (by decide))
      have f21 := em21.trans (congrArg some (isE.out F21))
      clear ev21 em21 F21
      obtain ⟨v22, ev22, em22, F22⟩ := h.slot (i := 13) rfl rfl (hall 13 (by decide))
      obtain ⟨x22, y22, z22, q22, s22⟩ := isV.out F22
      have f22 := em22.trans (congrArg some q22)
      clear ev22 em22 F22
      obtain ⟨v23, ev23, em23, F23⟩ := h.slot (i := 14) rfl rfl (hall 14 (by decide))
      have f23 := em23.trans (congrArg some (isE.out F23))
      clear ev23 em23 F23
      have ha := h.act [9, 10, 11, 12, 13, 14, 15, 16, 17, 18, 19, 20, 21, 22, 23] [_, _, _, _, _, _, _, _, _, _, _, _, _, _, _] (by kernel_rfl) ⟨f9, f10, f11, f12, f13, f14, f15, f16, f17, f18, f19, f20, f21, f22, f23, trivial⟩
      clear f9 f10 f11 f12 f13 f14 f15 f16 f17 f18 f19 f20 f21 f22 f23
      simp only [setAll, List.setIfInBounds_toArray, List.set_cons_zero, List.set_cons_succ] at ha
      subst ha
      clear h hall
      obtain ⟨W5, r0, r1, r2, hb5, hs5, rfl⟩ := hB
      have Z5 := Lib.hid hb5
      have S5 := Lib.hid hs5
      have y5 := hb5.size
      clear hb5 hs5 hw0
      go_wp2_with fail
      go_ret
      have b5 := Below.trans (HBq.out.mono _hM) (Z5.out.mono (Nat.le_trans _hM yq))
      refine ⟨rfl, Tx.bel3 b5 HB2 _ _ _, fun _ => ⟨A1, _, A3, A4, c1, c2, c3, c4, _, setB_sim (SimD.refl _ _ _ _ D) S5.out, (HXq.out.go Z5.out).far3' hne _ _ _, (HOq.out.go Z5.out).setB rfl hk r0 r1 r2, HD.out.grow ?_⟩⟩
      simp [World.setCell]
      omega
theorem run_KickChain1 (args : Array Value) (u : World) : (callFunc 133 args).run Try.prog u = .ok (.enter 133 args) u := call_enter Try.func133 (by kernel_rfl) (by kernel_rfl) _ _
theorem impl_KickChain (A1 A2 A3 A4 : Option Addr) (c1 c2 c3 c4 n1 n2 n3 n4 B : Nat) (D : D4) (i : Int) (p : V3) (w : World) (h : Own w B A1 A2 A3 A4 c1 c2 c3 c4 n1 n2 n3 n4 D) :
    Calls Try.prog 63 #[.agg #[.slice A1 n1 c1, .slice A2 n2 c2, .slice A3 n3 c3, .slice A4 n4 c4], .int .i64 i, .agg #[.float .f32 p.x, .float .f32 p.y, .float .f32 p.z]] w (RetM (okC n1 n2 n3 n4 D && (inI i 0 ((n1 : Int) - 1) && okC n1 n2 n3 n4 (setB D i.toNat (vsub (D.B i.toNat) p)))) n1 n2 n3 n4 (setB D i.toNat (vsub (D.B i.toNat) p)) w) := by
  have H := Lib.hid h
  clear h
  have z1 : (w.alloc (.cells #[.slice A1 n1 c1, .slice A2 n2 c2, .slice A3 n3 c3, .slice A4 n4 c4] 32)).heap.size = w.heap.size + 1 := by simp
  have X0 : Ox ((((w.alloc (.cells #[.slice A1 n1 c1, .slice A2 n2 c2, .slice A3 n3 c3, .slice A4 n4 c4] 32)).alloc (.cells #[.int .i64 i] 2)).alloc (.cells #[.float .f32 p.x, .float .f32 p.y, .float .f32 p.z] 38)).alloc (.cells #[sn, sn, sn, sn] 32)) (w.heap.size + 1) 2 (.int .i64 i) := by rw [← z1]; exact ((Ox.new_ _ _ _).alloc _).alloc _
  have z2 : ((w.alloc (.cells #[.slice A1 n1 c1, .slice A2 n2 c2, .slice A3 n3 c3, .slice A4 n4 c4] 32)).alloc (.cells #[.int .i64 i] 2)).heap.size = w.heap.size + 1 + 1 := by simp
  have X1 : Tx ((((w.alloc (.cells #[.slice A1 n1 c1, .slice A2 n2 c2, .slice A3 n3 c3, .slice A4 n4 c4] 32)).alloc (.cells #[.int .i64 i] 2)).alloc (.cells #[.float .f32 p.x, .float .f32 p.y, .float .f32 p.z] 38)).alloc (.cells #[sn, sn, sn, sn] 32)) (w.heap.size + 1 + 1) 38 (.float .f32 p.x) (.float .f32 p.y) (.float .f32 p.z) := by rw [← z2]; exact (Tx.new_ _ _ _ _ _).alloc _
  have zn : (((w.alloc (.cells #[.slice A1 n1 c1, .slice A2 n2 c2, .slice A3 n3 c3, .slice A4 n4 c4] 32)).alloc (.cells #[.int .i64 i] 2)).alloc (.cells #[.float .f32 p.x, .float .f32 p.y, .float .f32 p.z] 38)).heap.size = w.heap.size + 1 + 1 + 1 := by simp
  go_enter Try.func63, Try.ntmps63
  go_wp2_with fail
  refine (impl_changedChain 133 #[.pointer (some ⟨w.heap.size + 1, 0, none⟩), .pointer (some ⟨w.heap.size + 1 + 1, 0, none⟩)] (inI i 0 ((n1 : Int) - 1)) (n1) (n2) (n3) (n4) (setB D i.toNat (vsub (D.B i.toNat) p)) A1 A2 A3 A4 c1 c2 c3 c4 n1 n2 n3 n4 B D _ (H.out.go ?hq) run_KickChain1 ?hdo).mono ?_
  case hq => exact (by repeat' (first | with_reducible exact Below.refl _ _ | with_reducible assumption | with_reducible refine below_dn ?_ _ | with_reducible refine Below.drew ?_ | with_reducible refine below_step ?_ (by assumption) | with_reducible refine Below.setCell ?_ ?_ _ | with_reducible refine Below.alloc ?_ ?_ _ | with_reducible exact Nat.le_refl _ | (simp; done) | (simp; omega) | omega))
  case hdo =>
    intro q1 g M E1 E2 E3 E4 d1 d2 d3 d4 u hx ho hd hg _ _ hb
    have Y0 := X0.go hb
    have Y1 := X1.go hb
    obtain ⟨s1, rfl, rfl, s4⟩ := okC_sz q1
    exact impl_KickChain1 g M _ _ E1 E2 E3 E4 d1 d2 d3 d4 n3 n4 D i p u hx ho hd hg (by omega) q1 Y0 Y1
  rintro e w1 ⟨hr, hb1⟩
  have V1 := Lib.hid ((Bx.new_ (((w.alloc (.cells #[.slice A1 n1 c1, .slice A2 n2 c2, .slice A3 n3 c3, .slice A4 n4 c4] 32)).alloc (.cells #[.int .i64 i] 2)).alloc (.cells #[.float .f32 p.x, .float .f32 p.y, .float .f32 p.z] 38)) 32 sn sn sn sn).go hb1)
  have B1 := Lib.hid (show Below w.heap.size w w1 from below_step (w := w) ((by repeat' (first | with_reducible exact Below.refl _ _ | with_reducible assumption | with_reducible refine below_dn ?_ _ | with_reducible refine Below.drew ?_ | with_reducible refine below_step ?_ (by assumption) | with_reducible refine Below.setCell ?_ ?_ _ | with_reducible refine Below.alloc ?_ ?_ _ | with_reducible exact Nat.le_refl _ | (simp; done) | (simp; omega) | omega))) hb1)
  rw [zn] at V1
  have e2 : ((((w.alloc (.cells #[.slice A1 n1 c1, .slice A2 n2 c2, .slice A3 n3 c3, .slice A4 n4 c4] 32)).alloc (.cells #[.int .i64 i] 2)).alloc (.cells #[.float .f32 p.x, .float .f32 p.y, .float .f32 p.z] 38)).alloc (.cells #[sn, sn, sn, sn] 32)).heap.size = w.heap.size + 4 := by simp
  rw [e2] at hr
  clear hb1 zn e2 z1 X0 z2 X1
  obtain ⟨v0, v1, v2, v3, vf⟩ := V1.out.facts
  have lv := V1.out.lt
  cases hbb : (okC n1 n2 n3 n4 D && (inI i 0 ((n1 : Int) - 1) && okC n1 n2 n3 n4 (setB D i.toNat (vsub (D.B i.toNat) p))))
  · rw [hbb] at hr
    obtain rfl := hr
    go_wp2_with fail
    obtain ⟨r0, r1, r2, r3, rf⟩ := (V1.out.setAll sn sn sn sn).facts
    refine bodyPost_ret (v := .tuple #[.agg #[sn, sn, sn, sn], .bool false]) (by simp [results, Try.results63, go_sem, r0, r1, r2, r3]) rfl ?_
    rw [hbb]
    exact ⟨rfl, Bx.bel B1.out (by omega) _ _ _ _⟩
  · rw [hbb] at hr
    obtain ⟨F1, F2, F3, F4, x1, x2, x3, x4, D', rfl, hs, ho, hd⟩ := hr
    have HS := Lib.hid hs
    have HO := Lib.hid ho
    have HD := Lib.hid hd
    clear hs ho hd
    have VF := Lib.hid (V1.out.setAll (.slice F1 (n1) x1) (.slice F2 (n2) x2) (.slice F3 (n3) x3) (.slice F4 (n4) x4))
    have WF := Lib.hid (show Wr (fun k => k = w.heap.size + 1 + 1 + 1) w1 ((((w1.setCell ⟨w.heap.size + 1 + 1 + 1, 0, none⟩ (.slice F1 (n1) x1)).setCell ⟨w.heap.size + 1 + 1 + 1, 1, none⟩ (.slice F2 (n2) x2)).setCell ⟨w.heap.size + 1 + 1 + 1, 2, none⟩ (.slice F3 (n3) x3)).setCell ⟨w.heap.size + 1 + 1 + 1, 3, none⟩ (.slice F4 (n4) x4)) from by
      refine Wr.setCell (Wr.setCell (Wr.setCell (Wr.setCell (Wr.refl _ _) ?_ _) ?_ _) ?_ _) ?_ _ <;> rfl)
    go_wp2_with fail
    obtain ⟨r0, r1, r2, r3, rf⟩ := VF.out.facts
    refine bodyPost_ret (v := .tuple #[.agg #[.slice F1 (n1) x1, .slice F2 (n2) x2, .slice F3 (n3) x3, .slice F4 (n4) x4], .bool true]) (by simp [results, Try.results63, go_sem, r0, r1, r2, r3]) rfl ?_
    rw [hbb]
    exact ⟨⟨F1, F2, F3, F4, x1, x2, x3, x4, D', rfl, HS.out, (HO.out.off V1.out WF.out).mono (by omega), HD.out.mono (by omega) WF.out.size⟩, Bx.bel B1.out (by omega) _ _ _ _⟩
set_option maxHeartbeats 4000000 in
set_option maxRecDepth 100000 in
theorem spec_KickChain (A1 A2 A3 A4 : Option Addr) (c1 c2 c3 c4 n1 n2 n3 n4 B : Nat) (D : D4) (i : Int) (p : V3) (w : World) (h : Own w B A1 A2 A3 A4 c1 c2 c3 c4 n1 n2 n3 n4 D) :
    Calls Try.prog 62 #[.agg #[.slice A1 n1 c1, .slice A2 n2 c2, .slice A3 n3 c3, .slice A4 n4 c4], .int .i64 i, .agg #[.float .f32 p.x, .float .f32 p.y, .float .f32 p.z]] w (RetM (okC n1 n2 n3 n4 D && (inI i 0 ((n1 : Int) - 1) && okC n1 n2 n3 n4 (setB D i.toNat (vsub (D.B i.toNat) p)))) n1 n2 n3 n4 (setB D i.toNat (vsub (D.B i.toNat) p)) w) := by
  have H := Lib.hid h
  clear h
  cases q1 : okC n1 n2 n3 n4 D
  · have qb : plcOkB n1 n2 n3 n4 D i = false := by unfold plcOkB; rw [q1]; rfl
    go_enter Try.func62, Try.ntmps62
    go_wp2_with fail
    refine (spec_l03Place w.heap.size A1 A2 A3 A4 c1 c2 c3 c4 n1 n2 n3 n4 B D i _ (((Bx.new_ _ _ _ _ _ _).alloc _).alloc _) (H.out.go (by repeat' (first | with_reducible exact Below.refl _ _ | with_reducible assumption | with_reducible refine below_dn ?_ _ | with_reducible refine Below.drew ?_ | with_reducible refine below_step ?_ (by assumption) | with_reducible refine Below.setCell ?_ ?_ _ | with_reducible refine Below.alloc ?_ ?_ _ | with_reducible exact Nat.le_refl _ | (simp; done) | (simp; omega) | omega)))).mono ?_
    rintro e w1 ⟨rfl, hb1⟩
    have X0 := Lib.hid (((Tx.new_ (w.alloc (.cells #[.slice A1 n1 c1, .slice A2 n2 c2, .slice A3 n3 c3, .slice A4 n4 c4] 32)) 38 (.float .f32 p.x) (.float .f32 p.y) (.float .f32 p.z)).alloc _).go hb1)
    have z0 : (w.alloc (.cells #[.slice A1 n1 c1, .slice A2 n2 c2, .slice A3 n3 c3, .slice A4 n4 c4] 32)).heap.size = w.heap.size + 1 := by simp
    rw [z0] at X0
    clear z0
    have V1 := Lib.hid ((Bx.new_ ((w.alloc (.cells #[.slice A1 n1 c1, .slice A2 n2 c2, .slice A3 n3 c3, .slice A4 n4 c4] 32)).alloc (.cells #[.float .f32 p.x, .float .f32 p.y, .float .f32 p.z] 38)) 32 sn sn sn sn).go hb1)
    have B1 := Lib.hid (show Below w.heap.size w w1 from below_step (w := w) ((by repeat' (first | with_reducible exact Below.refl _ _ | with_reducible assumption | with_reducible refine below_dn ?_ _ | with_reducible refine Below.drew ?_ | with_reducible refine below_step ?_ (by assumption) | with_reducible refine Below.setCell ?_ ?_ _ | with_reducible refine Below.alloc ?_ ?_ _ | with_reducible exact Nat.le_refl _ | (simp; done) | (simp; omega) | omega))) hb1)
    have e1 : ((w.alloc (.cells #[.slice A1 n1 c1, .slice A2 n2 c2, .slice A3 n3 c3, .slice A4 n4 c4] 32)).alloc (.cells #[.float .f32 p.x, .float .f32 p.y, .float .f32 p.z] 38)).heap.size = w.heap.size + 1 + 1 := by simp
    rw [e1] at V1
    clear hb1 e1
    obtain ⟨v0, v1, v2, v3, vf⟩ := V1.out.facts
    have lv := V1.out.lt
    obtain ⟨u00, u01, u02, u0f⟩ := X0.out.facts
    have lu0 := X0.out.lt
    rw [qb]
    go_wp2_with fail
    obtain ⟨r0, r1, r2, r3, rf⟩ := (V1.out.setAll sn sn sn sn).facts
    refine bodyPost_ret (v := .tuple #[.agg #[sn, sn, sn, sn], .bool false]) (by simp [results, Try.results62, go_sem, r0, r1, r2, r3]) rfl ?_
    exact ⟨rfl, Bx.bel B1.out (by omega) _ _ _ _⟩
  · obtain ⟨s1, rfl, rfl, s4⟩ := okC_sz q1
    cases q2 : inI i 0 ((n3 : Int) - 1)
    · have qb : plcOkB n3 n3 n3 n4 D i = false := by unfold plcOkB; rw [q1, q2]; rfl
      go_enter Try.func62, Try.ntmps62
      go_wp2_with fail
      refine (spec_l03Place w.heap.size A1 A2 A3 A4 c1 c2 c3 c4 n3 n3 n3 n4 B D i _ (((Bx.new_ _ _ _ _ _ _).alloc _).alloc _) (H.out.go (by repeat' (first | with_reducible exact Below.refl _ _ | with_reducible assumption | with_reducible refine below_dn ?_ _ | with_reducible refine Below.drew ?_ | with_reducible refine below_step ?_ (by assumption) | with_reducible refine Below.setCell ?_ ?_ _ | with_reducible refine Below.alloc ?_ ?_ _ | with_reducible exact Nat.le_refl _ | (simp; done) | (simp; omega) | omega)))).mono ?_
      rintro e w1 ⟨rfl, hb1⟩
      have X0 := Lib.hid (((Tx.new_ (w.alloc (.cells #[.slice A1 n3 c1, .slice A2 n3 c2, .slice A3 n3 c3, .slice A4 n4 c4] 32)) 38 (.float .f32 p.x) (.float .f32 p.y) (.float .f32 p.z)).alloc _).go hb1)
      have z0 : (w.alloc (.cells #[.slice A1 n3 c1, .slice A2 n3 c2, .slice A3 n3 c3, .slice A4 n4 c4] 32)).heap.size = w.heap.size + 1 := by simp
      rw [z0] at X0
      clear z0
      have V1 := Lib.hid ((Bx.new_ ((w.alloc (.cells #[.slice A1 n3 c1, .slice A2 n3 c2, .slice A3 n3 c3, .slice A4 n4 c4] 32)).alloc (.cells #[.float .f32 p.x, .float .f32 p.y, .float .f32 p.z] 38)) 32 sn sn sn sn).go hb1)
      have B1 := Lib.hid (show Below w.heap.size w w1 from below_step (w := w) ((by repeat' (first | with_reducible exact Below.refl _ _ | with_reducible assumption | with_reducible refine below_dn ?_ _ | with_reducible refine Below.drew ?_ | with_reducible refine below_step ?_ (by assumption) | with_reducible refine Below.setCell ?_ ?_ _ | with_reducible refine Below.alloc ?_ ?_ _ | with_reducible exact Nat.le_refl _ | (simp; done) | (simp; omega) | omega))) hb1)
      have e1 : ((w.alloc (.cells #[.slice A1 n3 c1, .slice A2 n3 c2, .slice A3 n3 c3, .slice A4 n4 c4] 32)).alloc (.cells #[.float .f32 p.x, .float .f32 p.y, .float .f32 p.z] 38)).heap.size = w.heap.size + 1 + 1 := by simp
      rw [e1] at V1
      clear hb1 e1
      obtain ⟨v0, v1, v2, v3, vf⟩ := V1.out.facts
      have lv := V1.out.lt
      obtain ⟨u00, u01, u02, u0f⟩ := X0.out.facts
      have lu0 := X0.out.lt
      rw [qb]
      go_wp2_with fail
      obtain ⟨r0, r1, r2, r3, rf⟩ := (V1.out.setAll sn sn sn sn).facts
      refine bodyPost_ret (v := .tuple #[.agg #[sn, sn, sn, sn], .bool false]) (by simp [results, Try.results62, go_sem, r0, r1, r2, r3]) rfl ?_
      exact ⟨rfl, Bx.bel B1.out (by omega) _ _ _ _⟩
    · have qb : plcOkB n3 n3 n3 n4 D i = true := by unfold plcOkB; rw [q1, q2]; rfl
      go_enter Try.func62, Try.ntmps62
      go_wp2_with fail
      refine (spec_l03Place w.heap.size A1 A2 A3 A4 c1 c2 c3 c4 n3 n3 n3 n4 B D i _ (((Bx.new_ _ _ _ _ _ _).alloc _).alloc _) (H.out.go (by repeat' (first | with_reducible exact Below.refl _ _ | with_reducible assumption | with_reducible refine below_dn ?_ _ | with_reducible refine Below.drew ?_ | with_reducible refine below_step ?_ (by assumption) | with_reducible refine Below.setCell ?_ ?_ _ | with_reducible refine Below.alloc ?_ ?_ _ | with_reducible exact Nat.le_refl _ | (simp; done) | (simp; omega) | omega)))).mono ?_
      rintro e w1 ⟨rfl, hb1⟩
      have P1 := Lib.hid ((((Bx.new_ w 32 (.slice A1 n3 c1) (.slice A2 n3 c2) (.slice A3 n3 c3) (.slice A4 n4 c4)).alloc _).alloc _).go hb1)
      have X0 := Lib.hid (((Tx.new_ (w.alloc (.cells #[.slice A1 n3 c1, .slice A2 n3 c2, .slice A3 n3 c3, .slice A4 n4 c4] 32)) 38 (.float .f32 p.x) (.float .f32 p.y) (.float .f32 p.z)).alloc _).go hb1)
      have z0 : (w.alloc (.cells #[.slice A1 n3 c1, .slice A2 n3 c2, .slice A3 n3 c3, .slice A4 n4 c4] 32)).heap.size = w.heap.size + 1 := by simp
      rw [z0] at X0
      clear z0
      have V1 := Lib.hid ((Bx.new_ ((w.alloc (.cells #[.slice A1 n3 c1, .slice A2 n3 c2, .slice A3 n3 c3, .slice A4 n4 c4] 32)).alloc (.cells #[.float .f32 p.x, .float .f32 p.y, .float .f32 p.z] 38)) 32 sn sn sn sn).go hb1)
      have B1 := Lib.hid (show Below w.heap.size w w1 from below_step (w := w) ((by repeat' (first | with_reducible exact Below.refl _ _ | with_reducible assumption | with_reducible refine below_dn ?_ _ | with_reducible refine Below.drew ?_ | with_reducible refine below_step ?_ (by assumption) | with_reducible refine Below.setCell ?_ ?_ _ | with_reducible refine Below.alloc ?_ ?_ _ | with_reducible exact Nat.le_refl _ | (simp; done) | (simp; omega) | omega))) hb1)
      have e1 : ((w.alloc (.cells #[.slice A1 n3 c1, .slice A2 n3 c2, .slice A3 n3 c3, .slice A4 n4 c4] 32)).alloc (.cells #[.float .f32 p.x, .float .f32 p.y, .float .f32 p.z] 38)).heap.size = w.heap.size + 1 + 1 := by simp
      rw [e1] at V1
      clear hb1 e1
      obtain ⟨u00, u01, u02, u0f⟩ := X0.out.facts
      have lu0 := X0.out.lt
      rw [qb]
      go_wp2_with fail
      refine (spec_l03Own w.heap.size A1 A2 A3 A4 c1 c2 c3 c4 n3 n3 n3 n4 D (by omega) (by omega) (by omega) (by omega) _ P1.out ((H.out.go B1.out).s1.in_) ((H.out.go B1.out).s2.in_) ((H.out.go B1.out).s3.in_) ((H.out.go B1.out).s4.in_)).mono ?_
      rintro e w2 ⟨E1, E2, E3, E4, d1, d2, d3, d4, rfl, ho2, hd2, hb2⟩
      have P2 := Lib.hid (P1.out.go hb2)
      have V2 := Lib.hid (V1.out.go hb2)
      have B2 := Lib.hid (below_step B1.out hb2)
      have O2 := Lib.hid ho2
      have D2 := Lib.hid hd2
      have y1 := V1.out.lt
      have y2 := hb2.size
      have y0 := B1.out.size
      clear u00 u01 u02 u0f lu0
      have Z0 := Lib.hid (X0.out.go hb2)
      clear hb2 ho2 hd2 P1 V1 X0
      obtain ⟨k, rfl, hk⟩ := inI_nat q2
      have hk0 : (0 : Int) ≤ (k : Int) := by omega
      have hk1 : (k : Int) < (n3 : Int) := by omega
      have h2 := H.out.go B2.out
      obtain ⟨bc, hA2, _, _, _, hrC⟩ := h2.s2 (by omega)
      obtain ⟨be, hE2, HB2, _, _, hrE⟩ := O2.out.s2 (by omega)
      subst hE2
      subst hA2
      clear h2
      go_upto_region 4 with fail
      obtain ⟨wq, hwq⟩ : ∃ wq : World, wq = w2.alloc (.cells #[.slice E1 n3 d1, .slice (some ⟨be, 0, none⟩) n3 d2, .slice E3 n3 d3, .slice E4 n4 d4] 32) := ⟨_, rfl⟩
      have hBq : Below w2.heap.size w2 wq := by rw [hwq]; exact Below.alloc (Below.refl _ _) (Nat.le_refl _) _
      have HXq := Lib.hid (show Bx wq w2.heap.size 32 (.slice E1 n3 d1) (.slice (some ⟨be, 0, none⟩) n3 d2) (.slice E3 n3 d3) (.slice E4 n4 d4) by rw [hwq]; exact Bx.new_ _ _ _ _ _ _)
      rw [← hwq]
      clear hwq
      have HOq := Lib.hid (O2.out.go hBq)
      have HPq := Lib.hid (P2.out.go hBq)
      have HRq := Lib.hid (hrE.go hBq)
      have HCq := Lib.hid (hrC.go hBq)
      have Y1q := Lib.hid (Z0.out.go hBq)
      have VQ := Lib.hid (V2.out.go hBq)
      have BQ := Lib.hid (below_step B2.out hBq)
      have yq := hBq.size
      have lb := HRq.out.lt
      have lx := HXq.out.lt
      have hne := Rw.ne_ HXq.out HRq.out (by decide)
      have hw0 : Below wq.heap.size wq wq.drew := (Below.refl _ _).drew
      have ee := O2.out.ne
      have DQ := Lib.hid (D2.out.mono (Nat.le_refl _) yq)
      clear hBq hrE hrC O2 P2 Z0 V2 B2 D2 ee
      refine region_inv (stat [isE (.pointer (some ⟨w2.heap.size, 1, none⟩)), isE (.slice (some ⟨be, 0, none⟩) n3 d2), isE (.int .i64 (k : Int)), isE (.pointer (some ⟨w.heap.size, 1, none⟩)), isE (.slice (some ⟨bc, 0, none⟩) n3 c2), isE (.int .i64 (k : Int)), isE (.pointer (some ⟨bc, k * 3, none⟩)), isE (.agg #[.float .f32 (D.B k).x, .float .f32 (D.B k).y, .float .f32 (D.B k).z]), isE (.agg #[.float .f32 p.x, .float .f32 p.y, .float .f32 p.z]), isV (vsub (D.B k) p), isE (.pointer (some ⟨be, k * 3, none⟩)), fun _ => True]) (fun l W => Js [(11, fun W => ∃ W5 r0 r1 r2, Below wq.heap.size wq W5 ∧ SimP ⟨r0, r1, r2⟩ (vsub (D.B k) p) ∧ W = (((W5.setCell ⟨be, k * 3, none⟩ (.float .f32 r0)).setCell ⟨be, k * 3 + 1, none⟩ (.float .f32 r1)).setCell ⟨be, k * 3 + 2, none⟩ (.float .f32 r2)))] (fun W => Below wq.heap.size wq W) l W) (by kernel_rfl) (by kernel_rfl) (by kernel_rfl) (Js.first hw0) ⟨?r0, ?r1, ?r2, ?r3, ?r4, ?r5, ?r6, ?r7, ?r8, ?r9, ?r10, ?r11, trivial⟩ ?hend
      case r0 =>
        intro listed a u h hu hd K hK
        have e8 : a.tmps.getD 8 undef = .pointer (some ⟨w2.heap.size, 0, none⟩) := h.base (by kernel_rfl)
        have f8 : a.tmps[8]? = some (.pointer (some ⟨w2.heap.size, 0, none⟩)) := h.old (by kernel_rfl)
        rw [if_pos (by rfl)]
        go_simp
        exact hK _ _ (fact_stat _ _ _) (isE.mk rfl) (Js.neutral h.world rfl)
      case r1 =>
        intro listed a u h hu hd K hK
        have hw := h.wait hu (T := 11) rfl (Array.mem_of_getElem? (i := 4) rfl) rfl rfl
        have hA := Js.now h.world hw
        obtain ⟨v14, ev14, em14, F14⟩ := h.slot (i := 0) rfl rfl (hd _ (Array.mem_of_getElem? (i := 0) rfl) rfl)
        have e14 := ev14.trans (isE.out F14)
        have f14 := em14.trans (congrArg some (isE.out F14))
        clear ev14 em14 F14
        rw [if_pos (by rfl)]
        obtain ⟨g0, g1, g2, g3, gf⟩ := (HXq.out.go hA).facts
        obtain ⟨h0, h1, h2, h3, hf⟩ := (HPq.out.go hA).facts
        obtain ⟨v0_, v1_, v2_, vf_⟩ := (Y1q.out.go hA).facts
        obtain ⟨e0, e1, e2, f0, f1, f2⟩ := (HRq.out.go hA).at3 hk
        obtain ⟨m0, m1, m2, _, _, _⟩ := (HCq.out.go hA).at3 hk
        rw [vc0] at e0 m0
        rw [vc1] at e1 m1
        rw [vc2] at e2 m2
        have lr := (HRq.out.go hA).lt
        go_simp
        exact hK _ _ (fact_stat _ _ _) (isE.mk rfl) (Js.stay hw (by decide) hA)
      case r2 =>
        intro listed a u h hu hd K hK
        have e1 : a.tmps.getD 1 undef = .int .i64 (k : Int) := h.base (by kernel_rfl)
        have f1 : a.tmps[1]? = some (.int .i64 (k : Int)) := h.old (by kernel_rfl)
        rw [if_pos (by rfl)]
        go_simp
        exact hK _ _ (fact_stat _ _ _) (isE.mk rfl) (Js.neutral h.world rfl)
      case r3 =>
        intro listed a u h hu hd K hK
        have e3 : a.tmps.getD 3 undef = .pointer (some ⟨w.heap.size, 0, none⟩) := h.base (by kernel_rfl)
        have f3 : a.tmps[3]? = some (.pointer (some ⟨w.heap.size, 0, none⟩)) := h.old (by kernel_rfl)
        rw [if_pos (by rfl)]
        go_simp
        exact hK _ _ (fact_stat _ _ _) (isE.mk rfl) (Js.neutral h.world rfl)
      case r4 =>
        intro listed a u h hu hd K hK
        have hw := h.wait hu (T := 11) rfl (Array.mem_of_getElem? (i := 7) rfl) rfl rfl
        have hA := Js.now h.world hw
        obtain ⟨v17, ev17, em17, F17⟩ := h.slot (i := 3) rfl rfl (hd _ (Array.mem_of_getElem? (i := 0) rfl) rfl)
        have e17 := ev17.trans (isE.out F17)
        have f17 := em17.trans (congrArg some (isE.out F17))
        clear ev17 em17 F17
        rw [if_pos (by rfl)]
        obtain ⟨g0, g1, g2, g3, gf⟩ := (HXq.out.go hA).facts
        obtain ⟨h0, h1, h2, h3, hf⟩ := (HPq.out.go hA).facts
        obtain ⟨v0_, v1_, v2_, vf_⟩ := (Y1q.out.go hA).facts
        obtain ⟨e0, e1, e2, f0, f1, f2⟩ := (HRq.out.go hA).at3 hk
        obtain ⟨m0, m1, m2, _, _, _⟩ := (HCq.out.go hA).at3 hk
        rw [vc0] at e0 m0
        rw [vc1] at e1 m1
        rw [vc2] at e2 m2
        have lr := (HRq.out.go hA).lt
        go_simp
        exact hK _ _ (fact_stat _ _ _) (isE.mk rfl) (Js.stay hw (by decide) hA)
      case r5 =>
        intro listed a u h hu hd K hK
        have e1 : a.tmps.getD 1 undef = .int .i64 (k : Int) := h.base (by kernel_rfl)
        have f1 : a.tmps[1]? = some (.int .i64 (k : Int)) := h.old (by kernel_rfl)
        rw [if_pos (by rfl)]
        go_simp
        exact hK _ _ (fact_stat _ _ _) (isE.mk rfl) (Js.neutral h.world rfl)
      case r6 =>
        intro listed a u h hu hd K hK
        obtain ⟨v18, ev18, em18, F18⟩ := h.slot (i := 4) rfl rfl (hd _ (Array.mem_of_getElem? (i := 0) rfl) rfl)
        have e18 := ev18.trans (isE.out F18)
        have f18 := em18.trans (congrArg some (isE.out F18))
        clear ev18 em18 F18
        obtain ⟨v19, ev19, em19, F19⟩ := h.slot (i := 5) rfl rfl (hd _ (Array.mem_of_getElem? (i := 1) rfl) rfl)
        have e19 := ev19.trans (isE.out F19)
        have f19 := em19.trans (congrArg some (isE.out F19))
        clear ev19 em19 F19
        rw [if_pos (by rfl)]
        go_simp
        exact hK _ _ (fact_stat _ _ _) (isE.mk rfl) (Js.neutral h.world rfl)
      case r7 =>
        intro listed a u h hu hd K hK
        have hw := h.wait hu (T := 11) rfl (Array.mem_of_getElem? (i := 10) rfl) rfl rfl
        have hA := Js.now h.world hw
        obtain ⟨v20, ev20, em20, F20⟩ := h.slot (i := 6) rfl rfl (hd _ (Array.mem_of_getElem? (i := 0) rfl) rfl)
        have e20 := ev20.trans (isE.out F20)
        have f20 := em20.trans (congrArg some (isE.out F20))
        clear ev20 em20 F20
        rw [if_pos (by rfl)]
        obtain ⟨g0, g1, g2, g3, gf⟩ := (HXq.out.go hA).facts
        obtain ⟨h0, h1, h2, h3, hf⟩ := (HPq.out.go hA).facts
        obtain ⟨v0_, v1_, v2_, vf_⟩ := (Y1q.out.go hA).facts
        obtain ⟨e0, e1, e2, f0, f1, f2⟩ := (HRq.out.go hA).at3 hk
        obtain ⟨m0, m1, m2, _, _, _⟩ := (HCq.out.go hA).at3 hk
        rw [vc0] at e0 m0
        rw [vc1] at e1 m1
        rw [vc2] at e2 m2
        have lr := (HRq.out.go hA).lt
        go_simp
        exact hK _ _ (fact_stat _ _ _) (isE.mk rfl) (Js.stay hw (by decide) hA)
      case r8 =>
        intro listed a u h hu hd K hK
        have hw := h.wait hu (T := 11) rfl (Array.mem_of_getElem? (i := 11) rfl) rfl rfl
        have hA := Js.now h.world hw
        have e5 : a.tmps.getD 5 undef = .pointer (some ⟨w.heap.size + 1, 0, none⟩) := h.base (by kernel_rfl)
        have f5 : a.tmps[5]? = some (.pointer (some ⟨w.heap.size + 1, 0, none⟩)) := h.old (by kernel_rfl)
        rw [if_pos (by rfl)]
        obtain ⟨g0, g1, g2, g3, gf⟩ := (HXq.out.go hA).facts
        obtain ⟨h0, h1, h2, h3, hf⟩ := (HPq.out.go hA).facts
        obtain ⟨v0_, v1_, v2_, vf_⟩ := (Y1q.out.go hA).facts
        obtain ⟨e0, e1, e2, f0, f1, f2⟩ := (HRq.out.go hA).at3 hk
        obtain ⟨m0, m1, m2, _, _, _⟩ := (HCq.out.go hA).at3 hk
        rw [vc0] at e0 m0
        rw [vc1] at e1 m1
        rw [vc2] at e2 m2
        have lr := (HRq.out.go hA).lt
        go_simp
        exact hK _ _ (fact_stat _ _ _) (isE.mk rfl) (Js.stay hw (by decide) hA)
      case r9 =>
        intro listed a u h hu hd K hK
        have hw := h.wait hu (T := 11) rfl (Array.mem_of_getElem? (i := 1) rfl) rfl rfl
        have hA := Js.now h.world hw
        obtain ⟨v21, ev21, em21, F21⟩ := h.slot (i := 7) rfl rfl (hd _ (Array.mem_of_getElem? (i := 0) rfl) rfl)
        have e21 := ev21.trans (isE.out F21)
        have f21 := em21.trans (congrArg some (isE.out F21))
        clear ev21 em21 F21
        obtain ⟨v22, ev22, em22, F22⟩ := h.slot (i := 8) rfl rfl (hd _ (Array.mem_of_getElem? (i := 1) rfl) rfl)
        have e22 := ev22.trans (isE.out F22)
        have f22 := em22.trans (congrArg some (isE.out F22))
        clear ev22 em22 F22
        rw [if_pos (by rfl)]
        go_simp
        refine Calls.mono (spec_l01Less _ _ _ _ _ _ u) ?_
        rintro e u2 ⟨a0_, a1_, a2_, rfl, _, r0, r1, r2, hb⟩
        exact hK _ _ (fact_stat _ _ _) (isV.mk ⟨r0, r1, r2⟩) (Js.stay hw (by decide) (hA.trans (hb.mono hA.size)))
      case r10 =>
        intro listed a u h hu hd K hK
        obtain ⟨v15, ev15, em15, F15⟩ := h.slot (i := 1) rfl rfl (hd _ (Array.mem_of_getElem? (i := 0) rfl) rfl)
        have e15 := ev15.trans (isE.out F15)
        have f15 := em15.trans (congrArg some (isE.out F15))
        clear ev15 em15 F15
        obtain ⟨v16, ev16, em16, F16⟩ := h.slot (i := 2) rfl rfl (hd _ (Array.mem_of_getElem? (i := 1) rfl) rfl)
        have e16 := ev16.trans (isE.out F16)
        have f16 := em16.trans (congrArg some (isE.out F16))
        clear ev16 em16 F16
        rw [if_pos (by rfl)]
        go_simp
        exact hK _ _ (fact_stat _ _ _) (isE.mk rfl) (Js.neutral h.world rfl)
      case r11 =>
        intro listed a u h hu hd K hK
        have hw := getD_un hu
        have hA := Js.now h.world hw
        obtain ⟨v24, ev24, em24, F24⟩ := h.slot (i := 10) rfl rfl (hd _ (Array.mem_of_getElem? (i := 0) rfl) rfl)
        have e24 := ev24.trans (isE.out F24)
        have f24 := em24.trans (congrArg some (isE.out F24))
        clear ev24 em24 F24
        obtain ⟨v23, ev23, em23, F23⟩ := h.slot (i := 9) rfl rfl (hd _ (Array.mem_of_getElem? (i := 1) rfl) rfl)
        obtain ⟨x23, y23, z23, q23, s23⟩ := isV.out F23
        have e23 := ev23.trans q23
        have f23 := em23.trans (congrArg some q23)
        clear ev23 em23 F23
        rw [if_pos (by rfl)]
        obtain ⟨g0, g1, g2, g3, gf⟩ := (HXq.out.go hA).facts
        obtain ⟨h0, h1, h2, h3, hf⟩ := (HPq.out.go hA).facts
        obtain ⟨v0_, v1_, v2_, vf_⟩ := (Y1q.out.go hA).facts
        obtain ⟨e0, e1, e2, f0, f1, f2⟩ := (HRq.out.go hA).at3 hk
        obtain ⟨m0, m1, m2, _, _, _⟩ := (HCq.out.go hA).at3 hk
        rw [vc0] at e0 m0
        rw [vc1] at e1 m1
        rw [vc2] at e2 m2
        have lr := (HRq.out.go hA).lt
        go_simp
        exact hK undef _ (fact_stat _ _ _) trivial (Js.hit (un_lt hu) (Js.nil ⟨u, x23, y23, z23, hA, s23, rfl⟩))
      case hend =>
        intro listed a u h hall
        have hB : (fun W => ∃ W5 r0 r1 r2, Below wq.heap.size wq W5 ∧ SimP ⟨r0, r1, r2⟩ (vsub (D.B k) p) ∧ W = (((W5.setCell ⟨be, k * 3, none⟩ (.float .f32 r0)).setCell ⟨be, k * 3 + 1, none⟩ (.float .f32 r1)).setCell ⟨be, k * 3 + 2, none⟩ (.float .f32 r2))) u := (Js.past h.world (hall 11 (by decide)))
        obtain ⟨v14, ev14, em14, F14⟩ := h.slot (i := 0) rfl rfl (hall 0 (by decide))
        have f14 := em14.trans (congrArg some (isE.out F14))
        clear ev14 em14 F14
        obtain ⟨v15, ev15, em15, F15⟩ := h.slot (i := 1) rfl rfl (hall 1 (by decide))
        have f15 := em15.trans (congrArg some (isE.out F15))
        clear ev15 em15 F15
        obtain ⟨v16, ev16, em16, F16⟩ := h.slot (i := 2) rfl rfl (hall 2 (by decide))
        have f16 := em16.trans (congrArg some (isE.out F16))
        clear ev16 em16 F16
        obtain ⟨v17, ev17, em17, F17⟩ := h.slot (i := 3) rfl rfl (hall 3 (by decide))
        have f17 := em17.trans (congrArg some (isE.out F17))
        clear ev17 em17 F17
        obtain ⟨v18, ev18, em18, F18⟩ := h.slot (i := 4) rfl rfl (hall 4 (by decide))
        have f18 := em18.trans (congrArg some (isE.out F18))
        clear ev18 em18 F18
        obtain ⟨v19, ev19, em19, F19⟩ := h.slot (i := 5) rfl rfl (hall 5 (by decide))
        have f19 := em19.trans (congrArg some (isE.out F19))
        clear ev19 em19 F19
        obtain ⟨v20, ev20, em20, F20⟩ := h.slot (i := 6) rfl rfl (hall 6 (by decide))
        have f20 := em20.trans (congrArg some (isE.out F20))
        clear ev20 em20 F20
        obtain ⟨v21, ev21, em21, F21⟩ := h.slot (i := 7) rfl rfl (hall 7 (by decide))
        have f21 := em21.trans (congrArg some (isE.out F21))
        clear ev21 em21 F21
        obtain ⟨v22, ev22, em22, F22⟩ := h.slot (i := 8) rfl rfl (hall 8 (by decide))
        have f22 := em22.trans (congrArg some (isE.out F22))
        clear ev22 em22 F22
        obtain ⟨v23, ev23, em23, F23⟩ := h.slot (i := 9) rfl rfl (hall 9 (by decide))
        obtain ⟨x23, y23, z23, q23, s23⟩ := isV.out F23
        have f23 := em23.trans (congrArg some q23)
        clear ev23 em23 F23
        obtain ⟨v24, ev24, em24, F24⟩ := h.slot (i := 10) rfl rfl (hall 10 (by decide))
        have f24 := em24.trans (congrArg some (isE.out F24))
        clear ev24 em24 F24
        have ha := h.act [14, 15, 16, 17, 18, 19, 20, 21, 22, 23, 24] [_, _, _, _, _, _, _, _, _, _, _] (by kernel_rfl) ⟨f14, f15, f16, f17, f18, f19, f20, f21, f22, f23, f24, trivial⟩
        clear f14 f15 f16 f17 f18 f19 f20 f21 f22 f23 f24
        simp only [setAll, List.setIfInBounds_toArray, List.set_cons_zero, List.set_cons_succ] at ha
        subst ha
        clear h hall
        obtain ⟨W5, qa, qb, qc, hb5, hs5, hwm⟩ := hB
        obtain ⟨wm, rfl⟩ : ∃ z : World, z = u := ⟨u, rfl⟩
        have XM := Lib.hid (show Bx wm w2.heap.size 32 (.slice E1 n3 d1) (.slice (some ⟨be, 0, none⟩) n3 d2) (.slice E3 n3 d3) (.slice E4 n4 d4) by rw [hwm]; exact (HXq.out.go hb5).far3' hne _ _ _)
        have VM := Lib.hid (show Bx wm (w.heap.size + 1 + 1) 32 sn sn sn sn by rw [hwm]; exact (VQ.out.go hb5).far3' (by omega) _ _ _)
        have BM := Lib.hid (show Below w.heap.size w wm by rw [hwm]; exact Tx.bel3 (below_step BQ.out hb5) (by omega) _ _ _)
        have OM := Lib.hid (show Own wm w1.heap.size E1 (some ⟨be, 0, none⟩) E3 E4 d1 d2 d3 d4 n3 n3 n3 n4 (setB D k ⟨qa, qb, qc⟩) by rw [hwm]; exact (HOq.out.go hb5).setB rfl hk qa qb qc)
        have SM := Lib.hid (show SimD n3 n3 n3 n4 (setB D k ⟨qa, qb, qc⟩) (setB D (k : Int).toNat (vsub (D.B (k : Int).toNat) p)) from setB_sim (SimD.refl _ _ _ _ D) hs5)
        have DM := Lib.hid OM.out.bds
        clear hwm hb5 hs5 HXq HOq HPq HRq HCq Y1q VQ BQ DQ hw0
        obtain ⟨t0, t1, t2, t3, tf⟩ := XM.out.facts
        have lt := XM.out.lt
        go_wp2_with fail
        refine (spec_l03Give E1 (some ⟨be, 0, none⟩) E3 E4 d1 d2 d3 d4 (n3) (n3) (n3) (n4) _ (setB D k ⟨qa, qb, qc⟩) _ OM.out).mono ?_
        rintro e w4 ⟨rfl, hb4⟩
        have V4 := Lib.hid (VM.out.go hb4)
        have B4 := Lib.hid (below_step BM.out hb4)
        have O4 := Lib.hid (OM.out.go hb4)
        have D4_ := Lib.hid (DM.out.mono (Nat.le_refl _) hb4.size)
        clear hb4 t0 t1 t2 t3 tf lt VM BM OM DM
        obtain ⟨v0, v1, v2, v3, vf⟩ := V4.out.facts
        have lv := V4.out.lt
        rw [okC_sim SM.out]
        cases q3 : okC (n3) (n3) (n3) (n4) (setB D (k : Int).toNat (vsub (D.B (k : Int).toNat) p))
        · unfold giveV
          go_wp2_with fail
          obtain ⟨r0, r1, r2, r3, rf⟩ := (V4.out.setAll sn sn sn sn).facts
          refine bodyPost_ret (v := .tuple #[.agg #[sn, sn, sn, sn], .bool false]) (by simp [results, Try.results62, go_sem, r0, r1, r2, r3]) rfl ?_
          rw [q3]
          exact ⟨rfl, Bx.bel B4.out (by omega) _ _ _ _⟩
        · unfold giveV
          have WF := Lib.hid (show Wr (fun k => k = w.heap.size + 1 + 1) w4 ((((w4.setCell ⟨w.heap.size + 1 + 1, 0, none⟩ (.slice E1 (n3) d1)).setCell ⟨w.heap.size + 1 + 1, 1, none⟩ (.slice (some ⟨be, 0, none⟩) (n3) d2)).setCell ⟨w.heap.size + 1 + 1, 2, none⟩ (.slice E3 (n3) d3)).setCell ⟨w.heap.size + 1 + 1, 3, none⟩ (.slice E4 (n4) d4)) from by
            refine Wr.setCell (Wr.setCell (Wr.setCell (Wr.setCell (Wr.refl _ _) ?_ _) ?_ _) ?_ _) ?_ _ <;> rfl)
          go_wp2_with fail
          obtain ⟨r0, r1, r2, r3, rf⟩ := (V4.out.setAll (.slice E1 (n3) d1) (.slice (some ⟨be, 0, none⟩) (n3) d2) (.slice E3 (n3) d3) (.slice E4 (n4) d4)).facts
          refine bodyPost_ret (v := .tuple #[.agg #[.slice E1 (n3) d1, .slice (some ⟨be, 0, none⟩) (n3) d2, .slice E3 (n3) d3, .slice E4 (n4) d4], .bool true]) (by simp [results, Try.results62, go_sem, r0, r1, r2, r3]) rfl ?_
          rw [q3]
          exact ⟨⟨E1, (some ⟨be, 0, none⟩), E3, E4, d1, d2, d3, d4, setB D k ⟨qa, qb, qc⟩, rfl, SM.out, (O4.out.off V4.out WF.out).mono y0, D4_.out.mono y0 WF.out.size⟩, Bx.bel B4.out (by omega) _ _ _ _⟩
end Go.Proofs.Ytlhgaihfghobmaa
