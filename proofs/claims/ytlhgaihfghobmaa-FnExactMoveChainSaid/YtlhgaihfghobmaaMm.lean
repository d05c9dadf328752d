/- MoveChain: contracts. -/
import Derived.Test.YtlhgaihfghobmaaMa
import Derived.Test.YtlhgaihfghobmaaRk
namespace Go.Proofs.Ytlhgaihfghobmaa
open Go.ChangeShapes Go.WideShapes Go.ChangeAt Go.RowKit Go.Deep

/-- a chain whose first k places are moved. -/
def movD (D : D4) (p : V3) : Nat → D4
  | 0 => D
  | k + 1 => setB (setP (movD D p k) k (vadd (D.P k) p)) k (vadd (D.B k) p)
theorem movD_at (D : D4) (p : V3) : ∀ k j, k ≤ j → (movD D p k).P j = D.P j ∧ (movD D p k).B j = D.B j
  | 0, _, _ => ⟨rfl, rfl⟩
  | k + 1, j, h => by
    have ih := movD_at D p k j (by omega)
    exact ⟨(upd_ne _ _ (by omega)).trans ih.1, (upd_ne _ _ (by omega)).trans ih.2⟩
set_option maxHeartbeats 4000000 in
set_option maxRecDepth 100000 in
theorem impl_MoveChain1 (g M : Nat) (a0 : Nat) (A1 A2 A3 A4 : Option Addr) (c1 c2 c3 c4 n m : Nat) (D : D4) (p : V3) (w : World) (hx : Bx w g 32 (.slice A1 n c1) (.slice A2 n c2) (.slice A3 n c3) (.slice A4 m c4)) (ho : Own w M A1 A2 A3 A4 c1 c2 c3 c4 n n n m D) (hd : Bds M w.heap.size A1 A2 A3 A4 n n n m) (_hg : M ≤ g) (_hM : M ≤ w.heap.size) (q1 : okC n n n m D = true) (ha0 : a0 < M) (hx0 : Tx w a0 38 (.float .f32 p.x) (.float .f32 p.y) (.float .f32 p.z)) :
    Calls Try.prog 132 #[.pointer (some ⟨g, 0, none⟩), .pointer (some ⟨a0, 0, none⟩)] w (RetDo g M (true) (n) (n) (n) (m) (movD D p n) w) := by
  have HX := Lib.hid hx
  have HO := Lib.hid ho
  have HD := Lib.hid hd
  have Y0 := Lib.hid hx0
  obtain ⟨p0, p1, p2, p3, pf⟩ := hx.facts
  have lp := hx.lt
  obtain ⟨s1, _, _, s4⟩ := okC_sz q1
  clear hx ho hd hx0 q1
  go_enter Try.func132, Try.ntmps132
  go_wp2_with fail
  clear p0 p1 p2 p3 pf lp
  go_loopw [10] (fun i wr => ∃ (k : Nat) (D1 : D4), k ≤ n ∧ i = .int .i64 k ∧ SimD n n n m D1 (movD D p k) ∧ Own wr M A1 A2 A3 A4 c1 c2 c3 c4 n n n m D1 ∧ Bx wr g 32 (.slice A1 n c1) (.slice A2 n c2) (.slice A3 n c3) (.slice A4 m c4) ∧ Tx wr a0 38 (.float .f32 p.x) (.float .f32 p.y) (.float .f32 p.z) ∧ Below M w wr ∧ w.heap.size ≤ wr.heap.size) (fun i _ => n - (intOf i).toNat)
  case atStart => exact ⟨0, D, Nat.zero_le _, rfl, SimD.refl _ _ _ _ _, HO.out, HX.out, Y0.out, Below.refl _ _, Nat.le_refl _⟩
  case round =>
    obtain ⟨k, D1, hk, rfl, hS, hO, hX, hY, hB, hz⟩ := hrel
    by_cases hlt : k < n
    · obtain ⟨b1, hA1, HB1, _, _, hr1⟩ := hO.s1 (by omega)
      obtain ⟨b2, hA2, HB2, _, _, hr2⟩ := hO.s2 (by omega)
      have hn1 := Rw.ne_ hX hr1 (by decide)
      have hn2 := Rw.ne_ hX hr2 (by decide)
      subst hA1
      subst hA2
      have hn12 : b2 ≠ b1 := fun e => hO.ne b1 rfl (by rw [e]) (by omega) (by omega)
      have hk0 : (0 : Int) ≤ (k : Int) := by omega
      have hk1 : (k : Int) < (n : Int) := by omega
      have hya : a0 ≠ b1 ∧ a0 ≠ b2 := ⟨by omega, by omega⟩
      have HXq := Lib.hid hX
      have HOq := Lib.hid hO
      have HR1 := Lib.hid hr1
      have HR2 := Lib.hid hr2
      have Y0q := Lib.hid hY
      have HBq := Lib.hid hB
      have HS := Lib.hid hS
      have hw0 : Below wr.heap.size wr wr.drew := (Below.refl _ _).drew
      clear hX hO hr1 hr2 hY hB hS
      go_upto_region 4 with fail
      refine region_inv (stat [isE (.pointer (some ⟨g, 0, none⟩)), isE (.pointer (some ⟨g, 0, none⟩)), isE (.pointer (some ⟨g, 0, none⟩)), isE (.slice (some ⟨b1, 0, none⟩) n c1), isE (.int .i64 (k : Int)), isE (.pointer (some ⟨g, 0, none⟩)), isE (.pointer (some ⟨g, 0, none⟩)), isE (.pointer (some ⟨g, 1, none⟩)), isE (.slice (some ⟨b2, 0, none⟩) n c2), isE (.int .i64 (k : Int)), isE (.pointer (some ⟨g, 0, none⟩)), isE (.pointer (some ⟨g, 0, none⟩)), isE (.pointer (some ⟨g, 0, none⟩)), isE (.slice (some ⟨b1, 0, none⟩) n c1), isE (.int .i64 (k : Int)), isE (.pointer (some ⟨b1, k * 3, none⟩)), isE (.agg #[.float .f32 (D1.P k).x, .float .f32 (D1.P k).y, .float .f32 (D1.P k).z]), isE (.agg #[.float .f32 p.x, .float .f32 p.y, .float .f32 p.z]), isV (vadd (D1.P k) p), isE (.pointer (some ⟨g, 0, none⟩)), isE (.pointer (some ⟨g, 0, none⟩)), isE (.pointer (some ⟨g, 1, none⟩)), isE (.slice (some ⟨b2, 0, none⟩) n c2), isE (.int .i64 (k : Int)), isE (.pointer (some ⟨b2, k * 3, none⟩)), isE (.agg #[.float .f32 (D1.B k).x, .float .f32 (D1.B k).y, .float .f32 (D1.B k).z]), isE (.agg #[.float .f32 p.x, .float .f32 p.y, .float .f32 p.z]), isV (vadd (D1.B k) p), isE (.pointer (some ⟨b1, k * 3, none⟩)), fun _ => True, isE (.pointer (some ⟨b2, k * 3, none⟩)), fun _ => True]) (fun l W => Js [(29, fun W => ∃ W5 r0 r1 r2, Below wr.heap.size wr W5 ∧ SimP ⟨r0, r1, r2⟩ (vadd (D1.P k) p) ∧ W = (((W5.setCell ⟨b1, k * 3, none⟩ (.float .f32 r0)).setCell ⟨b1, k * 3 + 1, none⟩ (.float .f32 r1)).setCell ⟨b1, k * 3 + 2, none⟩ (.float .f32 r2))), (31, fun W => ∃ W5 r0 r1 r2 s0 s1 s2, Below wr.heap.size wr W5 ∧ SimP ⟨r0, r1, r2⟩ (vadd (D1.P k) p) ∧ SimP ⟨s0, s1, s2⟩ (vadd (D1.B k) p) ∧ W = ((((((W5.setCell ⟨b1, k * 3, none⟩ (.float .f32 r0)).setCell ⟨b1, k * 3 + 1, none⟩ (.float .f32 r1)).setCell ⟨b1, k * 3 + 2, none⟩ (.float .f32 r2)).setCell ⟨b2, k * 3, none⟩ (.float .f32 s0)).setCell ⟨b2, k * 3 + 1, none⟩ (.float .f32 s1)).setCell ⟨b2, k * 3 + 2, none⟩ (.float .f32 s2)))] (fun W => Below wr.heap.size wr W) l W) (by kernel_rfl) (by kernel_rfl) (by kernel_rfl) (Js.first hw0) ⟨?r0, ?r1, ?r2, ?r3, ?r4, ?r5, ?r6, ?r7, ?r8, ?r9, ?r10, ?r11, ?r12, ?r13, ?r14, ?r15, ?r16, ?r17, ?r18, ?r19, ?r20, ?r21, ?r22, ?r23, ?r24, ?r25, ?r26, ?r27, ?r28, ?r29, ?r30, ?r31, trivial⟩ ?hend
      case r0 =>
        intro listed a u h hu hd K hK
        have e0 : a.tmps.getD 0 undef = .pointer (some ⟨g, 0, none⟩) := h.base (by kernel_rfl)
        have f0 : a.tmps[0]? = some (.pointer (some ⟨g, 0, none⟩)) := h.old (by kernel_rfl)
        rw [if_pos (by rfl)]
        go_simp
        exact hK _ _ (fact_stat _ _ _) (isE.mk rfl) (Js.neutral h.world rfl)
      case r1 =>
        intro listed a u h hu hd K hK
        obtain ⟨v13, ev13, em13, F13⟩ := h.slot (i := 0) rfl rfl (hd _ (Array.mem_of_getElem? (i := 0) rfl) rfl)
        have e13 := ev13.trans (isE.out F13)
        have f13 := em13.trans (congrArg some (isE.out F13))
        clear ev13 em13 F13
        rw [if_pos (by rfl)]
        go_simp
        exact hK _ _ (fact_stat _ _ _) (isE.mk rfl) (Js.neutral h.world rfl)
      case r2 =>
        intro listed a u h hu hd K hK
        obtain ⟨v14, ev14, em14, F14⟩ := h.slot (i := 1) rfl rfl (hd _ (Array.mem_of_getElem? (i := 0) rfl) rfl)
        have e14 := ev14.trans (isE.out F14)
        have f14 := em14.trans (congrArg some (isE.out F14))
        clear ev14 em14 F14
        rw [if_pos (by rfl)]
        go_simp
        exact hK _ _ (fact_stat _ _ _) (isE.mk rfl) (Js.neutral h.world rfl)
      case r3 =>
        intro listed a u h hu hd K hK
        have hw := (RI.wait' h (getD_un hu) (T := 29) rfl (Array.mem_of_getElem? (i := 6) rfl) rfl rfl)
        have hA := Js.now h.world hw
        obtain ⟨v15, ev15, em15, F15⟩ := h.slot (i := 2) rfl rfl (hd _ (Array.mem_of_getElem? (i := 0) rfl) rfl)
        have e15 := ev15.trans (isE.out F15)
        have f15 := em15.trans (congrArg some (isE.out F15))
        clear ev15 em15 F15
        rw [if_pos (by rfl)]
        obtain ⟨g0, g1, g2, g3, gf⟩ := (HXq.out.go hA).facts
        obtain ⟨v0_, v1_, v2_, vf_⟩ := (Y0q.out.go hA).facts
        obtain ⟨m0, m1, m2, ma, mb, mc⟩ := (HR1.out.go hA).at3 hlt
        rw [vc0] at m0
        rw [vc1] at m1
        rw [vc2] at m2
        obtain ⟨l0, l1, l2, la, lb, lc⟩ := (HR2.out.go hA).at3 hlt
        rw [vc0] at l0
        rw [vc1] at l1
        rw [vc2] at l2
        have lt1 := (HR1.out.go hA).lt
        have lt2 := (HR2.out.go hA).lt
        go_simp
        exact hK _ _ (fact_stat _ _ _) (isE.mk rfl) (Js.stay hw (by decide) hA)
      case r4 =>
        intro listed a u h hu hd K hK
        have e4 : a.tmps.getD 4 undef = .int .i64 (k : Int) := h.base (by kernel_rfl)
        have f4 : a.tmps[4]? = some (.int .i64 (k : Int)) := h.old (by kernel_rfl)
        rw [if_pos (by rfl)]
        go_simp
        exact hK _ _ (fact_stat _ _ _) (isE.mk rfl) (Js.neutral h.world rfl)
      case r5 =>
        intro listed a u h hu hd K hK
        have e0 : a.tmps.getD 0 undef = .pointer (some ⟨g, 0, none⟩) := h.base (by kernel_rfl)
        have f0 : a.tmps[0]? = some (.pointer (some ⟨g, 0, none⟩)) := h.old (by kernel_rfl)
        rw [if_pos (by rfl)]
        go_simp
        exact hK _ _ (fact_stat _ _ _) (isE.mk rfl) (Js.neutral h.world rfl)
      case r6 =>
        intro listed a u h hu hd K hK
        obtain ⟨v18, ev18, em18, F18⟩ := h.slot (i := 5) rfl rfl (hd _ (Array.mem_of_getElem? (i := 0) rfl) rfl)
        have e18 := ev18.trans (isE.out F18)
        have f18 := em18.trans (congrArg some (isE.out F18))
        clear ev18 em18 F18
        rw [if_pos (by rfl)]
        go_simp
        exact hK _ _ (fact_stat _ _ _) (isE.mk rfl) (Js.neutral h.world rfl)
      case r7 =>
        intro listed a u h hu hd K hK
        obtain ⟨v19, ev19, em19, F19⟩ := h.slot (i := 6) rfl rfl (hd _ (Array.mem_of_getElem? (i := 0) rfl) rfl)
        have e19 := ev19.trans (isE.out F19)
        have f19 := em19.trans (congrArg some (isE.out F19))
        clear ev19 em19 F19
        rw [if_pos (by rfl)]
        go_simp
        exact hK _ _ (fact_stat _ _ _) (isE.mk rfl) (Js.neutral h.world rfl)
      case r8 =>
        intro listed a u h hu hd K hK
        have hw := (RI.wait' h (getD_un hu) (T := 29) rfl (Array.mem_of_getElem? (i := 11) rfl) rfl rfl)
        have hA := Js.now h.world hw
        obtain ⟨v20, ev20, em20, F20⟩ := h.slot (i := 7) rfl rfl (hd _ (Array.mem_of_getElem? (i := 0) rfl) rfl)
        have e20 := ev20.trans (isE.out F20)
        have f20 := em20.trans (congrArg some (isE.out F20))
        clear ev20 em20 F20
        rw [if_pos (by rfl)]
        obtain ⟨g0, g1, g2, g3, gf⟩ := (HXq.out.go hA).facts
        obtain ⟨v0_, v1_, v2_, vf_⟩ := (Y0q.out.go hA).facts
        obtain ⟨m0, m1, m2, ma, mb, mc⟩ := (HR1.out.go hA).at3 hlt
        rw [vc0] at m0
        rw [vc1] at m1
        rw [vc2] at m2
        obtain ⟨l0, l1, l2, la, lb, lc⟩ := (HR2.out.go hA).at3 hlt
        rw [vc0] at l0
        rw [vc1] at l1
        rw [vc2] at l2
        have lt1 := (HR1.out.go hA).lt
        have lt2 := (HR2.out.go hA).lt
        go_simp
        exact hK _ _ (fact_stat _ _ _) (isE.mk rfl) (Js.stay hw (by decide) hA)
      case r9 =>
        intro listed a u h hu hd K hK
        have e4 : a.tmps.getD 4 undef = .int .i64 (k : Int) := h.base (by kernel_rfl)
        have f4 : a.tmps[4]? = some (.int .i64 (k : Int)) := h.old (by kernel_rfl)
        rw [if_pos (by rfl)]
        go_simp
        exact hK _ _ (fact_stat _ _ _) (isE.mk rfl) (Js.neutral h.world rfl)
      case r10 =>
        intro listed a u h hu hd K hK
        have e0 : a.tmps.getD 0 undef = .pointer (some ⟨g, 0, none⟩) := h.base (by kernel_rfl)
        have f0 : a.tmps[0]? = some (.pointer (some ⟨g, 0, none⟩)) := h.old (by kernel_rfl)
        rw [if_pos (by rfl)]
        go_simp
        exact hK _ _ (fact_stat _ _ _) (isE.mk rfl) (Js.neutral h.world rfl)
      case r11 =>
        intro listed a u h hu hd K hK
        obtain ⟨v23, ev23, em23, F23⟩ := h.slot (i := 10) rfl rfl (hd _ (Array.mem_of_getElem? (i := 0) rfl) rfl)
        have e23 := ev23.trans (isE.out F23)
        have f23 := em23.trans (congrArg some (isE.out F23))
        clear ev23 em23 F23
        rw [if_pos (by rfl)]
        go_simp
        exact hK _ _ (fact_stat _ _ _) (isE.mk rfl) (Js.neutral h.world rfl)
      case r12 =>
        intro listed a u h hu hd K hK
        obtain ⟨v24, ev24, em24, F24⟩ := h.slot (i := 11) rfl rfl (hd _ (Array.mem_of_getElem? (i := 0) rfl) rfl)
        have e24 := ev24.trans (isE.out F24)
        have f24 := em24.trans (congrArg some (isE.out F24))
        clear ev24 em24 F24
        rw [if_pos (by rfl)]
        go_simp
        exact hK _ _ (fact_stat _ _ _) (isE.mk rfl) (Js.neutral h.world rfl)
      case r13 =>
        intro listed a u h hu hd K hK
        have hw := (RI.wait' h (getD_un hu) (T := 29) rfl (Array.mem_of_getElem? (i := 16) rfl) rfl rfl)
        have hA := Js.now h.world hw
        obtain ⟨v25, ev25, em25, F25⟩ := h.slot (i := 12) rfl rfl (hd _ (Array.mem_of_getElem? (i := 0) rfl) rfl)
        have e25 := ev25.trans (isE.out F25)
        have f25 := em25.trans (congrArg some (isE.out F25))
        clear ev25 em25 F25
        rw [if_pos (by rfl)]
        obtain ⟨g0, g1, g2, g3, gf⟩ := (HXq.out.go hA).facts
        obtain ⟨v0_, v1_, v2_, vf_⟩ := (Y0q.out.go hA).facts
        obtain ⟨m0, m1, m2, ma, mb, mc⟩ := (HR1.out.go hA).at3 hlt
        rw [vc0] at m0
        rw [vc1] at m1
        rw [vc2] at m2
        obtain ⟨l0, l1, l2, la, lb, lc⟩ := (HR2.out.go hA).at3 hlt
        rw [vc0] at l0
        rw [vc1] at l1
        rw [vc2] at l2
        have lt1 := (HR1.out.go hA).lt
        have lt2 := (HR2.out.go hA).lt
        go_simp
        exact hK _ _ (fact_stat _ _ _) (isE.mk rfl) (Js.stay hw (by decide) hA)
      case r14 =>
        intro listed a u h hu hd K hK
        have e4 : a.tmps.getD 4 undef = .int .i64 (k : Int) := h.base (by kernel_rfl)
        have f4 : a.tmps[4]? = some (.int .i64 (k : Int)) := h.old (by kernel_rfl)
        rw [if_pos (by rfl)]
        go_simp
        exact hK _ _ (fact_stat _ _ _) (isE.mk rfl) (Js.neutral h.world rfl)
      case r15 =>
        intro listed a u h hu hd K hK
        obtain ⟨v26, ev26, em26, F26⟩ := h.slot (i := 13) rfl rfl (hd _ (Array.mem_of_getElem? (i := 0) rfl) rfl)
        have e26 := ev26.trans (isE.out F26)
        have f26 := em26.trans (congrArg some (isE.out F26))
        clear ev26 em26 F26
        obtain ⟨v27, ev27, em27, F27⟩ := h.slot (i := 14) rfl rfl (hd _ (Array.mem_of_getElem? (i := 1) rfl) rfl)
        have e27 := ev27.trans (isE.out F27)
        have f27 := em27.trans (congrArg some (isE.out F27))
        clear ev27 em27 F27
        rw [if_pos (by rfl)]
        go_simp
        exact hK _ _ (fact_stat _ _ _) (isE.mk rfl) (Js.neutral h.world rfl)
      case r16 =>
        intro listed a u h hu hd K hK
        have hw := (RI.wait' h (getD_un hu) (T := 29) rfl (Array.mem_of_getElem? (i := 19) rfl) rfl rfl)
        have hA := Js.now h.world hw
        obtain ⟨v28, ev28, em28, F28⟩ := h.slot (i := 15) rfl rfl (hd _ (Array.mem_of_getElem? (i := 0) rfl) rfl)
        have e28 := ev28.trans (isE.out F28)
        have f28 := em28.trans (congrArg some (isE.out F28))
        clear ev28 em28 F28
        rw [if_pos (by rfl)]
        obtain ⟨g0, g1, g2, g3, gf⟩ := (HXq.out.go hA).facts
        obtain ⟨v0_, v1_, v2_, vf_⟩ := (Y0q.out.go hA).facts
        obtain ⟨m0, m1, m2, ma, mb, mc⟩ := (HR1.out.go hA).at3 hlt
        rw [vc0] at m0
        rw [vc1] at m1
        rw [vc2] at m2
        obtain ⟨l0, l1, l2, la, lb, lc⟩ := (HR2.out.go hA).at3 hlt
        rw [vc0] at l0
        rw [vc1] at l1
        rw [vc2] at l2
        have lt1 := (HR1.out.go hA).lt
        have lt2 := (HR2.out.go hA).lt
        go_simp
        exact hK _ _ (fact_stat _ _ _) (isE.mk rfl) (Js.stay hw (by decide) hA)
      case r17 =>
        intro listed a u h hu hd K hK
        have hw := (RI.wait' h (getD_un hu) (T := 29) rfl (Array.mem_of_getElem? (i := 20) rfl) rfl rfl)
        have hA := Js.now h.world hw
        have e1 : a.tmps.getD 1 undef = .pointer (some ⟨a0, 0, none⟩) := h.base (by kernel_rfl)
        have f1 : a.tmps[1]? = some (.pointer (some ⟨a0, 0, none⟩)) := h.old (by kernel_rfl)
        rw [if_pos (by rfl)]
        obtain ⟨g0, g1, g2, g3, gf⟩ := (HXq.out.go hA).facts
        obtain ⟨v0_, v1_, v2_, vf_⟩ := (Y0q.out.go hA).facts
        obtain ⟨m0, m1, m2, ma, mb, mc⟩ := (HR1.out.go hA).at3 hlt
        rw [vc0] at m0
        rw [vc1] at m1
        rw [vc2] at m2
        obtain ⟨l0, l1, l2, la, lb, lc⟩ := (HR2.out.go hA).at3 hlt
        rw [vc0] at l0
        rw [vc1] at l1
        rw [vc2] at l2
        have lt1 := (HR1.out.go hA).lt
        have lt2 := (HR2.out.go hA).lt
        go_simp
        exact hK _ _ (fact_stat _ _ _) (isE.mk rfl) (Js.stay hw (by decide) hA)
      case r18 =>
        intro listed a u h hu hd K hK
        have hw := (RI.wait' h (getD_un hu) (T := 29) rfl (Array.mem_of_getElem? (i := 1) rfl) rfl rfl)
        have hA := Js.now h.world hw
        obtain ⟨v29, ev29, em29, F29⟩ := h.slot (i := 16) rfl rfl (hd _ (Array.mem_of_getElem? (i := 0) rfl) rfl)
        have e29 := ev29.trans (isE.out F29)
        have f29 := em29.trans (congrArg some (isE.out F29))
        clear ev29 em29 F29
        obtain ⟨v30, ev30, em30, F30⟩ := h.slot (i := 17) rfl rfl (hd _ (Array.mem_of_getElem? (i := 1) rfl) rfl)
        have e30 := ev30.trans (isE.out F30)
        have f30 := em30.trans (congrArg some (isE.out F30))
        clear ev30 em30 F30
        rw [if_pos (by rfl)]
        go_simp
        refine Calls.mono (impl_AddVectors _ _ _ _ _ _ u) ?_
        rintro e u2 ⟨a0_, a1_, a2_, rfl, _, r0, r1, r2, hb⟩
        exact hK _ _ (fact_stat _ _ _) (isV.mk ⟨r0, r1, r2⟩) (Js.stay hw (by decide) (hA.trans (hb.mono hA.size)))
      case r19 =>
        intro listed a u h hu hd K hK
        have e0 : a.tmps.getD 0 undef = .pointer (some ⟨g, 0, none⟩) := h.base (by kernel_rfl)
        have f0 : a.tmps[0]? = some (.pointer (some ⟨g, 0, none⟩)) := h.old (by kernel_rfl)
        rw [if_pos (by rfl)]
        go_simp
        exact hK _ _ (fact_stat _ _ _) (isE.mk rfl) (Js.neutral h.world rfl)
      case r20 =>
        intro listed a u h hu hd K hK
        obtain ⟨v32, ev32, em32, F32⟩ := h.slot (i := 19) rfl rfl (hd _ (Array.mem_of_getElem? (i := 0) rfl) rfl)
        have e32 := ev32.trans (isE.out F32)
        have f32 := em32.trans (congrArg some (isE.out F32))
        clear ev32 em32 F32
        rw [if_pos (by rfl)]
        go_simp
        exact hK _ _ (fact_stat _ _ _) (isE.mk rfl) (Js.neutral h.world rfl)
      case r21 =>
        intro listed a u h hu hd K hK
        obtain ⟨v33, ev33, em33, F33⟩ := h.slot (i := 20) rfl rfl (hd _ (Array.mem_of_getElem? (i := 0) rfl) rfl)
        have e33 := ev33.trans (isE.out F33)
        have f33 := em33.trans (congrArg some (isE.out F33))
        clear ev33 em33 F33
        rw [if_pos (by rfl)]
        go_simp
        exact hK _ _ (fact_stat _ _ _) (isE.mk rfl) (Js.neutral h.world rfl)
      case r22 =>
        intro listed a u h hu hd K hK
        have hw := (RI.wait' h (getD_un hu) (T := 29) rfl (Array.mem_of_getElem? (i := 25) rfl) rfl rfl)
        have hA := Js.now h.world hw
        obtain ⟨v34, ev34, em34, F34⟩ := h.slot (i := 21) rfl rfl (hd _ (Array.mem_of_getElem? (i := 0) rfl) rfl)
        have e34 := ev34.trans (isE.out F34)
        have f34 := em34.trans (congrArg some (isE.out F34))
        clear ev34 em34 F34
        rw [if_pos (by rfl)]
        obtain ⟨g0, g1, g2, g3, gf⟩ := (HXq.out.go hA).facts
        obtain ⟨v0_, v1_, v2_, vf_⟩ := (Y0q.out.go hA).facts
        obtain ⟨m0, m1, m2, ma, mb, mc⟩ := (HR1.out.go hA).at3 hlt
        rw [vc0] at m0
        rw [vc1] at m1
        rw [vc2] at m2
        obtain ⟨l0, l1, l2, la, lb, lc⟩ := (HR2.out.go hA).at3 hlt
        rw [vc0] at l0
        rw [vc1] at l1
        rw [vc2] at l2
        have lt1 := (HR1.out.go hA).lt
        have lt2 := (HR2.out.go hA).lt
        go_simp
        exact hK _ _ (fact_stat _ _ _) (isE.mk rfl) (Js.stay hw (by decide) hA)
      case r23 =>
        intro listed a u h hu hd K hK
        have e4 : a.tmps.getD 4 undef = .int .i64 (k : Int) := h.base (by kernel_rfl)
        have f4 : a.tmps[4]? = some (.int .i64 (k : Int)) := h.old (by kernel_rfl)
        rw [if_pos (by rfl)]
        go_simp
        exact hK _ _ (fact_stat _ _ _) (isE.mk rfl) (Js.neutral h.world rfl)
      case r24 =>
        intro listed a u h hu hd K hK
        obtain ⟨v35, ev35, em35, F35⟩ := h.slot (i := 22) rfl rfl (hd _ (Array.mem_of_getElem? (i := 0) rfl) rfl)
        have e35 := ev35.trans (isE.out F35)
        have f35 := em35.trans (congrArg some (isE.out F35))
        clear ev35 em35 F35
        obtain ⟨v36, ev36, em36, F36⟩ := h.slot (i := 23) rfl rfl (hd _ (Array.mem_of_getElem? (i := 1) rfl) rfl)
        have e36 := ev36.trans (isE.out F36)
        have f36 := em36.trans (congrArg some (isE.out F36))
        clear ev36 em36 F36
        rw [if_pos (by rfl)]
        go_simp
        exact hK _ _ (fact_stat _ _ _) (isE.mk rfl) (Js.neutral h.world rfl)
      case r25 =>
        intro listed a u h hu hd K hK
        have hw := (RI.wait' h (getD_un hu) (T := 29) rfl (Array.mem_of_getElem? (i := 28) rfl) rfl rfl)
        have hA := Js.now h.world hw
        obtain ⟨v37, ev37, em37, F37⟩ := h.slot (i := 24) rfl rfl (hd _ (Array.mem_of_getElem? (i := 0) rfl) rfl)
        have e37 := ev37.trans (isE.out F37)
        have f37 := em37.trans (congrArg some (isE.out F37))
        clear ev37 em37 F37
        rw [if_pos (by rfl)]
        obtain ⟨g0, g1, g2, g3, gf⟩ := (HXq.out.go hA).facts
        obtain ⟨v0_, v1_, v2_, vf_⟩ := (Y0q.out.go hA).facts
        obtain ⟨m0, m1, m2, ma, mb, mc⟩ := (HR1.out.go hA).at3 hlt
        rw [vc0] at m0
        rw [vc1] at m1
        rw [vc2] at m2
        obtain ⟨l0, l1, l2, la, lb, lc⟩ := (HR2.out.go hA).at3 hlt
        rw [vc0] at l0
        rw [vc1] at l1
        rw [vc2] at l2
        have lt1 := (HR1.out.go hA).lt
        have lt2 := (HR2.out.go hA).lt
        go_simp
        exact hK _ _ (fact_stat _ _ _) (isE.mk rfl) (Js.stay hw (by decide) hA)
      case r26 =>
        intro listed a u h hu hd K hK
        have hw := (RI.wait' h (RI.wait' h (getD_un hu) (T := 27) rfl (Array.mem_of_getElem? (i := 1) rfl) rfl rfl) (T := 29) rfl (Array.mem_of_getElem? (i := 2) rfl) rfl rfl)
        have hA := Js.now h.world hw
        have e1 : a.tmps.getD 1 undef = .pointer (some ⟨a0, 0, none⟩) := h.base (by kernel_rfl)
        have f1 : a.tmps[1]? = some (.pointer (some ⟨a0, 0, none⟩)) := h.old (by kernel_rfl)
        rw [if_pos (by rfl)]
        obtain ⟨g0, g1, g2, g3, gf⟩ := (HXq.out.go hA).facts
        obtain ⟨v0_, v1_, v2_, vf_⟩ := (Y0q.out.go hA).facts
        obtain ⟨m0, m1, m2, ma, mb, mc⟩ := (HR1.out.go hA).at3 hlt
        rw [vc0] at m0
        rw [vc1] at m1
        rw [vc2] at m2
        obtain ⟨l0, l1, l2, la, lb, lc⟩ := (HR2.out.go hA).at3 hlt
        rw [vc0] at l0
        rw [vc1] at l1
        rw [vc2] at l2
        have lt1 := (HR1.out.go hA).lt
        have lt2 := (HR2.out.go hA).lt
        go_simp
        exact hK _ _ (fact_stat _ _ _) (isE.mk rfl) (Js.stay hw (by decide) hA)
      case r27 =>
        intro listed a u h hu hd K hK
        have hw := (RI.wait' h (getD_un hu) (T := 29) rfl (Array.mem_of_getElem? (i := 2) rfl) rfl rfl)
        have hA := Js.now h.world hw
        obtain ⟨v38, ev38, em38, F38⟩ := h.slot (i := 25) rfl rfl (hd _ (Array.mem_of_getElem? (i := 0) rfl) rfl)
        have e38 := ev38.trans (isE.out F38)
        have f38 := em38.trans (congrArg some (isE.out F38))
        clear ev38 em38 F38
        obtain ⟨v39, ev39, em39, F39⟩ := h.slot (i := 26) rfl rfl (hd _ (Array.mem_of_getElem? (i := 1) rfl) rfl)
        have e39 := ev39.trans (isE.out F39)
        have f39 := em39.trans (congrArg some (isE.out F39))
        clear ev39 em39 F39
        rw [if_pos (by rfl)]
        go_simp
        refine Calls.mono (impl_AddVectors _ _ _ _ _ _ u) ?_
        rintro e u2 ⟨a0_, a1_, a2_, rfl, _, r0, r1, r2, hb⟩
        exact hK _ _ (fact_stat _ _ _) (isV.mk ⟨r0, r1, r2⟩) (Js.stay hw (by decide) (hA.trans (hb.mono hA.size)))
      case r28 =>
        intro listed a u h hu hd K hK
        obtain ⟨v16, ev16, em16, F16⟩ := h.slot (i := 3) rfl rfl (hd _ (Array.mem_of_getElem? (i := 0) rfl) rfl)
        have e16 := ev16.trans (isE.out F16)
        have f16 := em16.trans (congrArg some (isE.out F16))
        clear ev16 em16 F16
        obtain ⟨v17, ev17, em17, F17⟩ := h.slot (i := 4) rfl rfl (hd _ (Array.mem_of_getElem? (i := 1) rfl) rfl)
        have e17 := ev17.trans (isE.out F17)
        have f17 := em17.trans (congrArg some (isE.out F17))
        clear ev17 em17 F17
        rw [if_pos (by rfl)]
        go_simp
        exact hK _ _ (fact_stat _ _ _) (isE.mk rfl) (Js.neutral h.world rfl)
      case r29 =>
        intro listed a u h hu hd K hK
        have hw := getD_un hu
        have hA := Js.now h.world hw
        obtain ⟨v41, ev41, em41, F41⟩ := h.slot (i := 28) rfl rfl (hd _ (Array.mem_of_getElem? (i := 0) rfl) rfl)
        have e41 := ev41.trans (isE.out F41)
        have f41 := em41.trans (congrArg some (isE.out F41))
        clear ev41 em41 F41
        obtain ⟨v31, ev31, em31, F31⟩ := h.slot (i := 18) rfl rfl (hd _ (Array.mem_of_getElem? (i := 1) rfl) rfl)
        obtain ⟨x31, y31, z31, q31, s31⟩ := isV.out F31
        have e31 := ev31.trans q31
        have f31 := em31.trans (congrArg some q31)
        clear ev31 em31 F31
        rw [if_pos (by rfl)]
        have hw2 := (RI.wait' h (getD_un hu) (T := 31) rfl (Array.mem_of_getElem? (i := 2) rfl) rfl rfl)
        obtain ⟨g0, g1, g2, g3, gf⟩ := (HXq.out.go hA).facts
        obtain ⟨v0_, v1_, v2_, vf_⟩ := (Y0q.out.go hA).facts
        obtain ⟨m0, m1, m2, ma, mb, mc⟩ := (HR1.out.go hA).at3 hlt
        rw [vc0] at m0
        rw [vc1] at m1
        rw [vc2] at m2
        obtain ⟨l0, l1, l2, la, lb, lc⟩ := (HR2.out.go hA).at3 hlt
        rw [vc0] at l0
        rw [vc1] at l1
        rw [vc2] at l2
        have lt1 := (HR1.out.go hA).lt
        have lt2 := (HR2.out.go hA).lt
        go_simp
        exact hK undef _ (fact_stat _ _ _) trivial (Js.hit (un_lt hu) (Js.stay hw2 (by decide) ⟨u, x31, y31, z31, hA, s31, rfl⟩))
      case r30 =>
        intro listed a u h hu hd K hK
        obtain ⟨v21, ev21, em21, F21⟩ := h.slot (i := 8) rfl rfl (hd _ (Array.mem_of_getElem? (i := 0) rfl) rfl)
        have e21 := ev21.trans (isE.out F21)
        have f21 := em21.trans (congrArg some (isE.out F21))
        clear ev21 em21 F21
        obtain ⟨v22, ev22, em22, F22⟩ := h.slot (i := 9) rfl rfl (hd _ (Array.mem_of_getElem? (i := 1) rfl) rfl)
        have e22 := ev22.trans (isE.out F22)
        have f22 := em22.trans (congrArg some (isE.out F22))
        clear ev22 em22 F22
        rw [if_pos (by rfl)]
        go_simp
        exact hK _ _ (fact_stat _ _ _) (isE.mk rfl) (Js.neutral h.world rfl)
      case r31 =>
        intro listed a u h hu hd K hK
        have hl0 : listed.getD 29 false = true := hd _ (Array.mem_of_getElem? (i := 2) rfl) rfl
        have hw := getD_un hu
        have hA := Js.now (Js.past h.world hl0) hw
        obtain ⟨v42, ev42, em42, F42⟩ := h.slot (i := 30) rfl rfl (hd _ (Array.mem_of_getElem? (i := 0) rfl) rfl)
        have e42 := ev42.trans (isE.out F42)
        have f42 := em42.trans (congrArg some (isE.out F42))
        clear ev42 em42 F42
        obtain ⟨v40, ev40, em40, F40⟩ := h.slot (i := 27) rfl rfl (hd _ (Array.mem_of_getElem? (i := 1) rfl) rfl)
        obtain ⟨x40, y40, z40, q40, s40⟩ := isV.out F40
        have e40 := ev40.trans q40
        have f40 := em40.trans (congrArg some q40)
        clear ev40 em40 F40
        rw [if_pos (by rfl)]
        obtain ⟨W5, r0, r1, r2, hb5, hs5, hu5⟩ := hA
        have hq2 : Rw u b2 38 (c2 * 3) (n * 3) (vc D1.B) := by rw [hu5]; exact (HR2.out.go hb5).far3 hn12 _ _ _
        obtain ⟨l0, l1, l2, la, lb, lc⟩ := hq2.at3 hlt
        rw [vc0] at l0
        rw [vc1] at l1
        rw [vc2] at l2
        have lt2 := hq2.lt
        have HU := Lib.hid hu5
        clear hu5
        go_simp
        have hu6 : (((u.setCell ⟨b2, k * 3, none⟩ (.float .f32 x40)).setCell ⟨b2, k * 3 + 1, none⟩ (.float .f32 y40)).setCell ⟨b2, k * 3 + 2, none⟩ (.float .f32 z40)) = ((((((W5.setCell ⟨b1, k * 3, none⟩ (.float .f32 r0)).setCell ⟨b1, k * 3 + 1, none⟩ (.float .f32 r1)).setCell ⟨b1, k * 3 + 2, none⟩ (.float .f32 r2)).setCell ⟨b2, k * 3, none⟩ (.float .f32 x40)).setCell ⟨b2, k * 3 + 1, none⟩ (.float .f32 y40)).setCell ⟨b2, k * 3 + 2, none⟩ (.float .f32 z40)) := by rw [HU.out]
        exact hK undef _ (fact_stat _ _ _) trivial (Js.keep hl0 (Js.hit (un_lt hu) (Js.nil ⟨W5, r0, r1, r2, x40, y40, z40, hb5, hs5, s40, hu6⟩)))
      case hend =>
        intro listed a u h hall
        have hB : (fun W => ∃ W5 r0 r1 r2 s0 s1 s2, Below wr.heap.size wr W5 ∧ SimP ⟨r0, r1, r2⟩ (vadd (D1.P k) p) ∧ SimP ⟨s0, s1, s2⟩ (vadd (D1.B k) p) ∧ W = ((((((W5.setCell ⟨b1, k * 3, none⟩ (.float .f32 r0)).setCell ⟨b1, k * 3 + 1, none⟩ (.float .f32 r1)).setCell ⟨b1, k * 3 + 2, none⟩ (.float .f32 r2)).setCell ⟨b2, k * 3, none⟩ (.float .f32 s0)).setCell ⟨b2, k * 3 + 1, none⟩ (.float .f32 s1)).setCell ⟨b2, k * 3 + 2, none⟩ (.float .f32 s2))) u := (Js.past (Js.past h.world (hall 29 (by decide))) (hall 31 (by decide)))
        obtain ⟨v13, ev13, em13, F13⟩ := h.slot (i := 0) rfl rfl (hall 0 (by decide))
        have f13 := em13.trans (congrArg some (isE.out F13))
        clear ev13 em13 F13
        obtain ⟨v14, ev14, em14, F14⟩ := h.slot (i := 1) rfl rfl (hall 1 (by decide))
        have f14 := em14.trans (congrArg some (isE.out F14))
        clear ev14 em14 F14
        obtain ⟨v15, ev15, em15, F15⟩ := h.slot (i := 2) rfl rfl (hall 2 (by decide))
        have f15 := em15.trans (congrArg some (isE.out F15))
        clear ev15 em15 F15
        obtain ⟨v16, ev16, em16, F16⟩ := h.slot (i := 3) rfl rfl (hall 3 (by decide))
        have f16 := em16.trans (congrArg some (isE.out F16))
        clear ev16 em16 F16
        obtain ⟨v17, ev17, em17, F17⟩ := h.slot (i := 4) rfl rfl (hall 4 (by decide))
        have f17 := em17.trans (congrArg some (isE.out F17))
        clear ev17 em17 F17
        obtain ⟨v18, ev18, em18, F18⟩ := h.slot (i := 5) rfl rfl (hall 5 (by decide))
        have f18 := em18.trans (congrArg some (isE.out F18))
        clear ev18 em18 F18
        obtain ⟨v19, ev19, em19, F19⟩ := h.slot (i := 6) rfl rfl (hall 6 (by decide))
        have f19 := em19.trans (congrArg some (isE.out F19))
        clear ev19 em19 F19
        obtain ⟨v20, ev20, em20, F20⟩ := h.slot (i := 7) rfl rfl (hall 7 (by decide))
        have f20 := em20.trans (congrArg some (isE.out F20))
        clear ev20 em20 F20
        obtain ⟨v21, ev21, em21, F21⟩ := h.slot (i := 8) rfl rfl (hall 8 (by decide))
        have f21 := em21.trans (congrArg some (isE.out F21))
        clear ev21 em21 F21
        obtain ⟨v22, ev22, em22, F22⟩ := h.slot (i := 9) rfl rfl (hall 9 (by decide))
        have f22 := em22.trans (congrArg some (isE.out F22))
        clear ev22 em22 F22
        obtain ⟨v23, ev23, em23, F23⟩ := h.slot (i := 10) rfl rfl (hall 10 (by decide))
        have f23 := em23.trans (congrArg some (isE.out F23))
        clear ev23 em23 F23
        obtain ⟨v24, ev24, em24, F24⟩ := h.slot (i := 11) rfl rfl (hall 11 (by decide))
        have f24 := em24.trans (congrArg some (isE.out F24))
        clear ev24 em24 F24
        obtain ⟨v25, ev25, em25, F25⟩ := h.slot (i := 12) rfl rfl (hall 12 (by decide))
        have f25 := em25.trans (congrArg some (isE.out F25))
        clear ev25 em25 F25
        obtain ⟨v26, ev26, em26, F26⟩ := h.slot (i := 13) rfl rfl (hall 13 (by decide))
        have f26 := em26.trans (congrArg some (isE.out F26))
        clear ev26 em26 F26
        obtain ⟨v27, ev27, em27, F27⟩ := h.slot (i := 14) rfl rfl (hall 14 (by decide))
        have f27 := em27.trans (congrArg some (isE.out F27))
        clear ev27 em27 F27
        obtain ⟨v28, ev28, em28, F28⟩ := h.slot (i := 15) rfl rfl (hall 15 (by decide))
        have f28 := em28.trans (congrArg some (isE.out F28))
        clear ev28 em28 F28
        obtain ⟨v29, ev29, em29, F29⟩ := h.slot (i := 16) rfl rfl (hall 16 (by decide))
        have f29 := em29.trans (congrArg some (isE.out F29))
        clear ev29 em29 F29
        obtain ⟨v30, ev30, em30, F30⟩ := h.slot (i := 17) rfl rfl (hall 17 (by decide))
        have f30 := em30.trans (congrArg some (isE.out F30))
        clear ev30 em30 F30
        obtain ⟨v31, ev31, em31, F31⟩ := h.slot (i := 18) rfl rfl (hall 18 (by decide))
        obtain ⟨x31, y31, z31, q31, s31⟩ := isV.out F31
        have f31 := em31.trans (congrArg some q31)
        clear ev31 em31 F31
        obtain ⟨v32, ev32, em32, F32⟩ := h.slot (i := 19) rfl rfl (hall 19 (by decide))
        have f32 := em32.trans (congrArg some (isE.out F32))
        clear ev32 em32 F32
        obtain ⟨v33, ev33, em33, F33⟩ := h.slot (i := 20) rfl rfl (hall 20 (by decide))
        have f33 := em33.trans (congrArg some (isE.out F33))
        clear ev33 em33 F33
        obtain ⟨v34, ev34, em34, F34⟩ := h.slot (i := 21) rfl rfl (hall 21 (by decide))
        have f34 := em34.trans (congrArg some (isE.out F34))
        clear ev34 em34 F34
        obtain ⟨v35, ev35, em35, F35⟩ := h.slot (i := 22) rfl rfl (hall 22 (by decide))
        have f35 := em35.trans (congrArg some (isE.out F35))
        clear ev35 em35 F35
        obtain ⟨v36, ev36, em36, F36⟩ := h.slot (i := 23) rfl rfl (hall 23 (by decide))
        have f36 := em36.trans (congrArg some (isE.out F36))
        clear ev36 em36 F36
        obtain ⟨v37, ev37, em37, F37⟩ := h.slot (i := 24) rfl rfl (hall 24 (by decide))
        have f37 := em37.trans (congrArg some (isE.out F37))
        clear ev37 em37 F37
        obtain ⟨v38, ev38, em38, F38⟩ := h.slot (i := 25) rfl rfl (hall 25 (by decide))
        have f38 := em38.trans (congrArg some (isE.out F38))
        clear ev38 em38 F38
        obtain ⟨v39, ev39, em39, F39⟩ := h.slot (i := 26) rfl rfl (hall 26 (by decide))
        have f39 := em39.trans (congrArg some (isE.out F39))
        clear ev39 em39 F39
        obtain ⟨v40, ev40, em40, F40⟩ := h.slot (i := 27) rfl rfl (hall 27 (by decide))
        obtain ⟨x40, y40, z40, q40, s40⟩ := isV.out F40
        have f40 := em40.trans (congrArg some q40)
        clear ev40 em40 F40
        obtain ⟨v41, ev41, em41, F41⟩ := h.slot (i := 28) rfl rfl (hall 28 (by decide))
        have f41 := em41.trans (congrArg some (isE.out F41))
        clear ev41 em41 F41
        obtain ⟨v42, ev42, em42, F42⟩ := h.slot (i := 30) rfl rfl (hall 30 (by decide))
        have f42 := em42.trans (congrArg some (isE.out F42))
        clear ev42 em42 F42
        have ha := h.act [13, 14, 15, 16, 17, 18, 19, 20, 21, 22, 23, 24, 25, 26, 27, 28, 29, 30, 31, 32, 33, 34, 35, 36, 37, 38, 39, 40, 41, 42] [_, _, _, _, _, _, _, _, _, _, _, _, _, _, _, _, _, _, _, _, _, _, _, _, _, _, _, _, _, _] (by kernel_rfl) ⟨f13, f14, f15, f16, f17, f18, f19, f20, f21, f22, f23, f24, f25, f26, f27, f28, f29, f30, f31, f32, f33, f34, f35, f36, f37, f38, f39, f40, f41, f42, trivial⟩
        clear f13 f14 f15 f16 f17 f18 f19 f20 f21 f22 f23 f24 f25 f26 f27 f28 f29 f30 f31 f32 f33 f34 f35 f36 f37 f38 f39 f40 f41 f42
        simp only [setAll, List.setIfInBounds_toArray, List.set_cons_zero, List.set_cons_succ] at ha
        subst ha
        clear h hall
        obtain ⟨W5, r0, r1, r2, q0, q1, q2, hb5, hs5, hs6, rfl⟩ := hB
        have Z5 := Lib.hid hb5
        have S5 := Lib.hid hs5
        have S6 := Lib.hid hs6
        have y5 := hb5.size
        clear hb5 hs5 hs6 hw0
        go_wp2_with fail
        go_roundw
        case rel =>
          refine ⟨k + 1, setB (setP D1 k ⟨r0, r1, r2⟩) k ⟨q0, q1, q2⟩, by omega, by go_num, ?_, ((HOq.out.go Z5.out).setP rfl hlt r0 r1 r2).setB rfl hlt q0 q1 q2, ((HXq.out.go Z5.out).far3' hn1 _ _ _).far3' hn2 _ _ _, ((Y0q.out.go Z5.out).far3' hya.1 _ _ _).far3' hya.2 _ _ _, Tx.bel3 (Tx.bel3 (HBq.out.trans (Z5.out.mono (by omega))) HB1 _ _ _) HB2 _ _ _, ?_⟩
          · refine setB_sim (setP_sim HS.out (S5.out.trans ?_)) (S6.out.trans ?_)
            · have := HS.out.1 k hlt
              rw [(movD_at D p k k (Nat.le_refl _)).1] at this
              exact vadd_sim this (SimP.refl _)
            · have := HS.out.2.1 k hlt
              rw [(movD_at D p k k (Nat.le_refl _)).2] at this
              exact vadd_sim this (SimP.refl _)
          · simp [World.setCell]
            omega
        case measure => simp [intOf]; omega
    · obtain rfl : k = n := by omega
      have HS := Lib.hid hS
      have HO1 := Lib.hid hO
      have HX1 := Lib.hid hX
      have HB1 := Lib.hid hB
      clear hS hO hX hB hY
      go_wp2_with fail
      go_ret
      exact ⟨rfl, HB1.out, fun _ => ⟨A1, A2, A3, A4, c1, c2, c3, c4, D1, HS.out, HX1.out, HO1.out, HO1.out.bds⟩⟩
theorem run_MoveChain1 (args : Array Value) (u : World) : (callFunc 132 args).run Try.prog u = .ok (.enter 132 args) u := call_enter Try.func132 (by kernel_rfl) (by kernel_rfl) _ _
theorem impl_MoveChain (A1 A2 A3 A4 : Option Addr) (c1 c2 c3 c4 n1 n2 n3 n4 B : Nat) (D : D4) (p : V3) (w : World) (h : Own w B A1 A2 A3 A4 c1 c2 c3 c4 n1 n2 n3 n4 D) :
    Calls Try.prog 61 #[.agg #[.slice A1 n1 c1, .slice A2 n2 c2, .slice A3 n3 c3, .slice A4 n4 c4], .agg #[.float .f32 p.x, .float .f32 p.y, .float .f32 p.z]] w (RetM (okC n1 n2 n3 n4 D && (true && okC n1 n2 n3 n4 (movD D p n1))) n1 n2 n3 n4 (movD D p n1) w) := by
  have H := Lib.hid h
  clear h
  have z1 : (w.alloc (.cells #[.slice A1 n1 c1, .slice A2 n2 c2, .slice A3 n3 c3, .slice A4 n4 c4] 32)).heap.size = w.heap.size + 1 := by simp
  have X0 : Tx (((w.alloc (.cells #[.slice A1 n1 c1, .slice A2 n2 c2, .slice A3 n3 c3, .slice A4 n4 c4] 32)).alloc (.cells #[.float .f32 p.x, .float .f32 p.y, .float .f32 p.z] 38)).alloc (.cells #[sn, sn, sn, sn] 32)) (w.heap.size + 1) 38 (.float .f32 p.x) (.float .f32 p.y) (.float .f32 p.z) := by rw [← z1]; exact (Tx.new_ _ _ _ _ _).alloc _
  have zn : ((w.alloc (.cells #[.slice A1 n1 c1, .slice A2 n2 c2, .slice A3 n3 c3, .slice A4 n4 c4] 32)).alloc (.cells #[.float .f32 p.x, .float .f32 p.y, .float .f32 p.z] 38)).heap.size = w.heap.size + 1 + 1 := by simp
  go_enter Try.func61, Try.ntmps61
  go_wp2_with fail
  refine (impl_changedChain 132 #[.pointer (some ⟨w.heap.size + 1, 0, none⟩)] (true) (n1) (n2) (n3) (n4) (movD D p n1) A1 A2 A3 A4 c1 c2 c3 c4 n1 n2 n3 n4 B D _ (H.out.go ?hq) run_MoveChain1 ?hdo).mono ?_
  case hq => exact (by repeat' (first | with_reducible exact Below.refl _ _ | with_reducible assumption | with_reducible refine below_dn ?_ _ | with_reducible refine Below.drew ?_ | with_reducible refine below_step ?_ (by assumption) | with_reducible refine Below.setCell ?_ ?_ _ | with_reducible refine Below.alloc ?_ ?_ _ | with_reducible exact Nat.le_refl _ | (simp; done) | (simp; omega) | omega))
  case hdo =>
    intro q1 g M E1 E2 E3 E4 d1 d2 d3 d4 u hx ho hd hg hM0 _ hb
    have Y0 := X0.go hb
    obtain ⟨s1, rfl, rfl, s4⟩ := okC_sz q1
    exact impl_MoveChain1 g M _ E1 E2 E3 E4 d1 d2 d3 d4 n3 n4 D p u hx ho hd hg (by omega) q1 (by simp at hM0; omega) Y0
  rintro e w1 ⟨hr, hb1⟩
  have V1 := Lib.hid ((Bx.new_ ((w.alloc (.cells #[.slice A1 n1 c1, .slice A2 n2 c2, .slice A3 n3 c3, .slice A4 n4 c4] 32)).alloc (.cells #[.float .f32 p.x, .float .f32 p.y, .float .f32 p.z] 38)) 32 sn sn sn sn).go hb1)
  have B1 := Lib.hid (show Below w.heap.size w w1 from below_step (w := w) ((by repeat' (first | with_reducible exact Below.refl _ _ | with_reducible assumption | with_reducible refine below_dn ?_ _ | with_reducible refine Below.drew ?_ | with_reducible refine below_step ?_ (by assumption) | with_reducible refine Below.setCell ?_ ?_ _ | with_reducible refine Below.alloc ?_ ?_ _ | with_reducible exact Nat.le_refl _ | (simp; done) | (simp; omega) | omega))) hb1)
  rw [zn] at V1
  have e2 : (((w.alloc (.cells #[.slice A1 n1 c1, .slice A2 n2 c2, .slice A3 n3 c3, .slice A4 n4 c4] 32)).alloc (.cells #[.float .f32 p.x, .float .f32 p.y, .float .f32 p.z] 38)).alloc (.cells #[sn, sn, sn, sn] 32)).heap.size = w.heap.size + 3 := by simp
  rw [e2] at hr
  clear hb1 zn e2 z1 X0
  obtain ⟨v0, v1, v2, v3, vf⟩ := V1.out.facts
  have lv := V1.out.lt
  cases hbb : (okC n1 n2 n3 n4 D && (true && okC n1 n2 n3 n4 (movD D p n1)))
  · rw [hbb] at hr
    obtain rfl := hr
    go_wp2_with fail
    obtain ⟨r0, r1, r2, r3, rf⟩ := (V1.out.setAll sn sn sn sn).facts
    refine bodyPost_ret (v := .tuple #[.agg #[sn, sn, sn, sn], .bool false]) (by simp [results, Try.results61, go_sem, r0, r1, r2, r3]) rfl ?_
    rw [hbb]
    exact ⟨rfl, Bx.bel B1.out (by omega) _ _ _ _⟩
  · rw [hbb] at hr
    obtain ⟨F1, F2, F3, F4, x1, x2, x3, x4, D', rfl, hs, ho, hd⟩ := hr
    have HS := Lib.hid hs
    have HO := Lib.hid ho
    have HD := Lib.hid hd
    clear hs ho hd
    have VF := Lib.hid (V1.out.setAll (.slice F1 (n1) x1) (.slice F2 (n2) x2) (.slice F3 (n3) x3) (.slice F4 (n4) x4))
    have WF := Lib.hid (show Wr (fun k => k = w.heap.size + 1 + 1) w1 ((((w1.setCell ⟨w.heap.size + 1 + 1, 0, none⟩ (.slice F1 (n1) x1)).setCell ⟨w.heap.size + 1 + 1, 1, none⟩ (.slice F2 (n2) x2)).setCell ⟨w.heap.size + 1 + 1, 2, none⟩ (.slice F3 (n3) x3)).setCell ⟨w.heap.size + 1 + 1, 3, none⟩ (.slice F4 (n4) x4)) from by
      refine Wr.setCell (Wr.setCell (Wr.setCell (Wr.setCell (Wr.refl _ _) ?_ _) ?_ _) ?_ _) ?_ _ <;> rfl)
    go_wp2_with fail
    obtain ⟨r0, r1, r2, r3, rf⟩ := VF.out.facts
    refine bodyPost_ret (v := .tuple #[.agg #[.slice F1 (n1) x1, .slice F2 (n2) x2, .slice F3 (n3) x3, .slice F4 (n4) x4], .bool true]) (by simp [results, Try.results61, go_sem, r0, r1, r2, r3]) rfl ?_
    rw [hbb]
    exact ⟨⟨F1, F2, F3, F4, x1, x2, x3, x4, D', rfl, HS.out, (HO.out.off V1.out WF.out).mono (by omega), HD.out.mono (by omega) WF.out.size⟩, Bx.bel B1.out (by omega) _ _ _ _⟩
set_option maxHeartbeats 4000000 in
set_option maxRecDepth 100000 in
theorem spec_MoveChain (A1 A2 A3 A4 : Option Addr) (c1 c2 c3 c4 n1 n2 n3 n4 B : Nat) (D : D4) (p : V3) (w : World) (h : Own w B A1 A2 A3 A4 c1 c2 c3 c4 n1 n2 n3 n4 D) :
    Calls Try.prog 60 #[.agg #[.slice A1 n1 c1, .slice A2 n2 c2, .slice A3 n3 c3, .slice A4 n4 c4], .agg #[.float .f32 p.x, .float .f32 p.y, .float .f32 p.z]] w (RetM (okC n1 n2 n3 n4 D && (true && okC n1 n2 n3 n4 (movD D p n1))) n1 n2 n3 n4 (movD D p n1) w) := by
  have H := Lib.hid h
  clear h
  cases q1 : okC n1 n2 n3 n4 D
  · go_enter Try.func60, Try.ntmps60
    go_wp2_with fail
    refine (spec_l03Is w.heap.size A1 A2 A3 A4 c1 c2 c3 c4 n1 n2 n3 n4 B D _ (((Bx.new_ _ _ _ _ _ _).alloc _).alloc _) (H.out.go (by repeat' (first | with_reducible exact Below.refl _ _ | with_reducible assumption | with_reducible refine below_dn ?_ _ | with_reducible refine Below.drew ?_ | with_reducible refine below_step ?_ (by assumption) | with_reducible refine Below.setCell ?_ ?_ _ | with_reducible refine Below.alloc ?_ ?_ _ | with_reducible exact Nat.le_refl _ | (simp; done) | (simp; omega) | omega)))).mono ?_
    rintro e w1 ⟨rfl, hb1⟩
    have X0 := Lib.hid (((Tx.new_ (w.alloc (.cells #[.slice A1 n1 c1, .slice A2 n2 c2, .slice A3 n3 c3, .slice A4 n4 c4] 32)) 38 (.float .f32 p.x) (.float .f32 p.y) (.float .f32 p.z)).alloc _).go hb1)
    have z0 : (w.alloc (.cells #[.slice A1 n1 c1, .slice A2 n2 c2, .slice A3 n3 c3, .slice A4 n4 c4] 32)).heap.size = w.heap.size + 1 := by simp
    rw [z0] at X0
    clear z0
    have V1 := Lib.hid ((Bx.new_ ((w.alloc (.cells #[.slice A1 n1 c1, .slice A2 n2 c2, .slice A3 n3 c3, .slice A4 n4 c4] 32)).alloc (.cells #[.float .f32 p.x, .float .f32 p.y, .float .f32 p.z] 38)) 32 sn sn sn sn).go hb1)
    have B1 := Lib.hid (show Below w.heap.size w w1 from below_step (w := w) ((by repeat' (first | with_reducible exact Below.refl _ _ | with_reducible assumption | with_reducible refine below_dn ?_ _ | with_reducible refine Below.drew ?_ | with_reducible refine below_step ?_ (by assumption) | with_reducible refine Below.setCell ?_ ?_ _ | with_reducible refine Below.alloc ?_ ?_ _ | with_reducible exact Nat.le_refl _ | (simp; done) | (simp; omega) | omega))) hb1)
    have e1 : ((w.alloc (.cells #[.slice A1 n1 c1, .slice A2 n2 c2, .slice A3 n3 c3, .slice A4 n4 c4] 32)).alloc (.cells #[.float .f32 p.x, .float .f32 p.y, .float .f32 p.z] 38)).heap.size = w.heap.size + 1 + 1 := by simp
    rw [e1] at V1
    clear hb1 e1
    obtain ⟨v0, v1, v2, v3, vf⟩ := V1.out.facts
    have lv := V1.out.lt
    obtain ⟨u00, u01, u02, u0f⟩ := X0.out.facts
    have lu0 := X0.out.lt
    rw [q1]
    go_wp2_with fail
    obtain ⟨r0, r1, r2, r3, rf⟩ := (V1.out.setAll sn sn sn sn).facts
    refine bodyPost_ret (v := .tuple #[.agg #[sn, sn, sn, sn], .bool false]) (by simp [results, Try.results60, go_sem, r0, r1, r2, r3]) rfl ?_
    exact ⟨rfl, Bx.bel B1.out (by omega) _ _ _ _⟩
  · obtain ⟨s1, rfl, rfl, s4⟩ := okC_sz q1
    have q2 : true = true := rfl
    go_enter Try.func60, Try.ntmps60
    go_wp2_with fail
    refine (spec_l03Is w.heap.size A1 A2 A3 A4 c1 c2 c3 c4 n3 n3 n3 n4 B D _ (((Bx.new_ _ _ _ _ _ _).alloc _).alloc _) (H.out.go (by repeat' (first | with_reducible exact Below.refl _ _ | with_reducible assumption | with_reducible refine below_dn ?_ _ | with_reducible refine Below.drew ?_ | with_reducible refine below_step ?_ (by assumption) | with_reducible refine Below.setCell ?_ ?_ _ | with_reducible refine Below.alloc ?_ ?_ _ | with_reducible exact Nat.le_refl _ | (simp; done) | (simp; omega) | omega)))).mono ?_
    rintro e w1 ⟨rfl, hb1⟩
    have P1 := Lib.hid ((((Bx.new_ w 32 (.slice A1 n3 c1) (.slice A2 n3 c2) (.slice A3 n3 c3) (.slice A4 n4 c4)).alloc _).alloc _).go hb1)
    have X0 := Lib.hid (((Tx.new_ (w.alloc (.cells #[.slice A1 n3 c1, .slice A2 n3 c2, .slice A3 n3 c3, .slice A4 n4 c4] 32)) 38 (.float .f32 p.x) (.float .f32 p.y) (.float .f32 p.z)).alloc _).go hb1)
    have z0 : (w.alloc (.cells #[.slice A1 n3 c1, .slice A2 n3 c2, .slice A3 n3 c3, .slice A4 n4 c4] 32)).heap.size = w.heap.size + 1 := by simp
    rw [z0] at X0
    clear z0
    have V1 := Lib.hid ((Bx.new_ ((w.alloc (.cells #[.slice A1 n3 c1, .slice A2 n3 c2, .slice A3 n3 c3, .slice A4 n4 c4] 32)).alloc (.cells #[.float .f32 p.x, .float .f32 p.y, .float .f32 p.z] 38)) 32 sn sn sn sn).go hb1)
    have B1 := Lib.hid (show Below w.heap.size w w1 from below_step (w := w) ((by repeat' (first | with_reducible exact Below.refl _ _ | with_reducible assumption | with_reducible refine below_dn ?_ _ | with_reducible refine Below.drew ?_ | with_reducible refine below_step ?_ (by assumption) | with_reducible refine Below.setCell ?_ ?_ _ | with_reducible refine Below.alloc ?_ ?_ _ | with_reducible exact Nat.le_refl _ | (simp; done) | (simp; omega) | omega))) hb1)
    have e1 : ((w.alloc (.cells #[.slice A1 n3 c1, .slice A2 n3 c2, .slice A3 n3 c3, .slice A4 n4 c4] 32)).alloc (.cells #[.float .f32 p.x, .float .f32 p.y, .float .f32 p.z] 38)).heap.size = w.heap.size + 1 + 1 := by simp
    rw [e1] at V1
    clear hb1 e1
    obtain ⟨u00, u01, u02, u0f⟩ := X0.out.facts
    have lu0 := X0.out.lt
    rw [q1]
    go_wp2_with fail
    refine (spec_l03Own w.heap.size A1 A2 A3 A4 c1 c2 c3 c4 n3 n3 n3 n4 D (by omega) (by omega) (by omega) (by omega) _ P1.out ((H.out.go B1.out).s1.in_) ((H.out.go B1.out).s2.in_) ((H.out.go B1.out).s3.in_) ((H.out.go B1.out).s4.in_)).mono ?_
    rintro e w2 ⟨E1, E2, E3, E4, d1, d2, d3, d4, rfl, ho2, hd2, hb2⟩
    have P2 := Lib.hid (P1.out.go hb2)
    have V2 := Lib.hid (V1.out.go hb2)
    have B2 := Lib.hid (below_step B1.out hb2)
    have O2 := Lib.hid ho2
    have D2 := Lib.hid hd2
    have y1 := V1.out.lt
    have y2 := hb2.size
    have y0 := B1.out.size
    clear u00 u01 u02 u0f lu0
    have Z0 := Lib.hid (X0.out.go hb2)
    clear hb2 ho2 hd2 P1 V1 X0
    have DF := Lib.hid (show ∀ wr, Below w1.heap.size w2 wr → Bx wr w.heap.size 32 (.slice A1 n3 c1) (.slice A2 n3 c2) (.slice A3 n3 c3) (.slice A4 n4 c4) ∧ Tx wr (w.heap.size + 1) 38 (.float .f32 p.x) (.float .f32 p.y) (.float .f32 p.z) ∧ Bx wr (w.heap.size + 1 + 1) 32 sn sn sn sn from fun wr h => ⟨P2.out.below h (by omega), Z0.out.below h (by omega), V2.out.below h (by omega)⟩)
    have WF := Lib.hid (show ∀ wr, Below w1.heap.size w2 wr → Own wr B A1 A2 A3 A4 c1 c2 c3 c4 n3 n3 n3 n4 D from fun wr h => H.out.go (B2.out.trans (h.mono y0)))
    have XX0 := Lib.hid (Bx.new_ w2 32 (.slice E1 n3 d1) (.slice E2 n3 d2) (.slice E3 n3 d3) (.slice E4 n4 d4))
    have y3 : w2.heap.size < (w2.alloc (.cells #[.slice E1 n3 d1, .slice E2 n3 d2, .slice E3 n3 d3, .slice E4 n4 d4] 32)).heap.size := by simp
    go_wp2_with fail
    go_loopw [15] (fun i wr => ∃ (k : Nat) (D1 : D4), k ≤ n3 ∧ i = .int .i64 k ∧ SimD n3 n3 n3 n4 D1 (movD D p k) ∧ Own wr w1.heap.size E1 E2 E3 E4 d1 d2 d3 d4 n3 n3 n3 n4 D1 ∧ Bx wr w2.heap.size 32 (.slice E1 n3 d1) (.slice E2 n3 d2) (.slice E3 n3 d3) (.slice E4 n4 d4) ∧ Below w1.heap.size w2 wr ∧ w2.heap.size < wr.heap.size) (fun i _ => n3 - (intOf i).toNat)
    case atStart => exact ⟨0, D, Nat.zero_le _, rfl, SimD.refl _ _ _ _ _, O2.out.go (by repeat' (first | with_reducible exact Below.refl _ _ | with_reducible assumption | with_reducible refine below_dn ?_ _ | with_reducible refine Below.drew ?_ | with_reducible refine below_step ?_ (by assumption) | with_reducible refine Below.setCell ?_ ?_ _ | with_reducible refine Below.alloc ?_ ?_ _ | with_reducible exact Nat.le_refl _ | (simp; done) | (simp; omega) | omega)), XX0.out, Below.alloc (Below.refl _ _) y2 _, y3⟩
    case round =>
      obtain ⟨k, D1, hk, rfl, hS, hO, hX, hB, hz⟩ := hrel
      obtain ⟨hP, hY, hV⟩ := DF.out wr hB
      have hH := WF.out wr hB
      by_cases hlt : k < n3
      · obtain ⟨b1, hA1, HB1, _, _, hr1⟩ := hO.s1 (by omega)
        obtain ⟨b2, hA2, HB2, _, _, hr2⟩ := hO.s2 (by omega)
        obtain ⟨e1, hC1, _, _, _, hc1⟩ := hH.s1 (by omega)
        obtain ⟨e2, hC2, _, _, _, hc2⟩ := hH.s2 (by omega)
        have hl1 : e1 < w1.heap.size := Nat.lt_of_lt_of_le (H.out.bds.b1 e1 hC1 (by omega)).2 y0
        have hl2 : e2 < w1.heap.size := Nat.lt_of_lt_of_le (H.out.bds.b2 e2 hC2 (by omega)).2 y0
        have hn1 := Rw.ne_ hX hr1 (by decide)
        have hn2 := Rw.ne_ hX hr2 (by decide)
        subst hA1
        subst hA2
        subst hC1
        subst hC2
        have hn12 : b2 ≠ b1 := fun e => hO.ne b1 rfl (by rw [e]) (by omega) (by omega)
        have hk0 : (0 : Int) ≤ (k : Int) := by omega
        have hk1 : (k : Int) < (n3 : Int) := by omega
        have HXq := Lib.hid hX
        have HOq := Lib.hid hO
        have HPq := Lib.hid hP
        have HR1 := Lib.hid hr1
        have HR2 := Lib.hid hr2
        have HC1 := Lib.hid hc1
        have HC2 := Lib.hid hc2
        have Y0q := Lib.hid hY
        have HBq := Lib.hid hB
        have HS := Lib.hid hS
        have hw0 : Below wr.heap.size wr wr.drew := (Below.refl _ _).drew
        clear hX hO hP hr1 hr2 hc1 hc2 hY hV hB hS hH
        go_upto_region 7 with fail
        refine region_inv (stat [isE (.pointer (some ⟨w2.heap.size, 0, none⟩)), isE (.slice (some ⟨b1, 0, none⟩) n3 d1), isE (.int .i64 (k : Int)), isE (.pointer (some ⟨w.heap.size, 0, none⟩)), isE (.slice (some ⟨e1, 0, none⟩) n3 c1), isE (.int .i64 (k : Int)), isE (.pointer (some ⟨e1, k * 3, none⟩)), isE (.agg #[.float .f32 (D.P k).x, .float .f32 (D.P k).y, .float .f32 (D.P k).z]), isE (.agg #[.float .f32 p.x, .float .f32 p.y, .float .f32 p.z]), isV (vadd (D.P k) p), isE (.pointer (some ⟨b1, k * 3, none⟩)), fun _ => True]) (fun l W => Js [(11, fun W => ∃ W5 r0 r1 r2, Below wr.heap.size wr W5 ∧ SimP ⟨r0, r1, r2⟩ (vadd (D.P k) p) ∧ W = (((W5.setCell ⟨b1, k * 3, none⟩ (.float .f32 r0)).setCell ⟨b1, k * 3 + 1, none⟩ (.float .f32 r1)).setCell ⟨b1, k * 3 + 2, none⟩ (.float .f32 r2)))] (fun W => Below wr.heap.size wr W) l W) (by kernel_rfl) (by kernel_rfl) (by kernel_rfl) (Js.first hw0) ⟨?r0, ?r1, ?r2, ?r3, ?r4, ?r5, ?r6, ?r7, ?r8, ?r9, ?r10, ?r11, trivial⟩ ?hend
        case r0 =>
          intro listed a u h hu hd K hK
          have e6 : a.tmps.getD 6 undef = .pointer (some ⟨w2.heap.size, 0, none⟩) := h.base (by kernel_rfl)
          have f6 : a.tmps[6]? = some (.pointer (some ⟨w2.heap.size, 0, none⟩)) := h.old (by kernel_rfl)
          rw [if_pos (by rfl)]
          go_simp
          exact hK _ _ (fact_stat _ _ _) (isE.mk rfl) (Js.neutral h.world rfl)
        case r1 =>
          intro listed a u h hu hd K hK
          have hw := (RI.wait' h (getD_un hu) (T := 11) rfl (Array.mem_of_getElem? (i := 4) rfl) rfl rfl)
          have hA := Js.now h.world hw
          obtain ⟨v18, ev18, em18, F18⟩ := h.slot (i := 0) rfl rfl (hd _ (Array.mem_of_getElem? (i := 0) rfl) rfl)
          have e18 := ev18.trans (isE.out F18)
          have f18 := em18.trans (congrArg some (isE.out F18))
          clear ev18 em18 F18
          rw [if_pos (by rfl)]
          obtain ⟨g0, g1, g2, g3, gf⟩ := (HXq.out.go hA).facts
          obtain ⟨h0, h1, h2, h3, hf⟩ := (HPq.out.go hA).facts
          obtain ⟨v0_, v1_, v2_, vf_⟩ := (Y0q.out.go hA).facts
          obtain ⟨l0, l1, l2, la, lb, lc⟩ := (HR1.out.go hA).at3 hlt
          rw [vc0] at l0
          rw [vc1] at l1
          rw [vc2] at l2
          obtain ⟨m0, m1, m2, ma, mb, mc⟩ := (HC1.out.go hA).at3 hlt
          rw [vc0] at m0
          rw [vc1] at m1
          rw [vc2] at m2
          have lt1 := (HR1.out.go hA).lt
          go_simp
          exact hK _ _ (fact_stat _ _ _) (isE.mk rfl) (Js.stay hw (by decide) hA)
        case r2 =>
          intro listed a u h hu hd K hK
          have e7 : a.tmps.getD 7 undef = .int .i64 (k : Int) := h.base (by kernel_rfl)
          have f7 : a.tmps[7]? = some (.int .i64 (k : Int)) := h.old (by kernel_rfl)
          rw [if_pos (by rfl)]
          go_simp
          exact hK _ _ (fact_stat _ _ _) (isE.mk rfl) (Js.neutral h.world rfl)
        case r3 =>
          intro listed a u h hu hd K hK
          have e2 : a.tmps.getD 2 undef = .pointer (some ⟨w.heap.size, 0, none⟩) := h.base (by kernel_rfl)
          have f2 : a.tmps[2]? = some (.pointer (some ⟨w.heap.size, 0, none⟩)) := h.old (by kernel_rfl)
          rw [if_pos (by rfl)]
          go_simp
          exact hK _ _ (fact_stat _ _ _) (isE.mk rfl) (Js.neutral h.world rfl)
        case r4 =>
          intro listed a u h hu hd K hK
          have hw := (RI.wait' h (getD_un hu) (T := 11) rfl (Array.mem_of_getElem? (i := 7) rfl) rfl rfl)
          have hA := Js.now h.world hw
          obtain ⟨v21, ev21, em21, F21⟩ := h.slot (i := 3) rfl rfl (hd _ (Array.mem_of_getElem? (i := 0) rfl) rfl)
          have e21 := ev21.trans (isE.out F21)
          have f21 := em21.trans (congrArg some (isE.out F21))
          clear ev21 em21 F21
          rw [if_pos (by rfl)]
          obtain ⟨g0, g1, g2, g3, gf⟩ := (HXq.out.go hA).facts
          obtain ⟨h0, h1, h2, h3, hf⟩ := (HPq.out.go hA).facts
          obtain ⟨v0_, v1_, v2_, vf_⟩ := (Y0q.out.go hA).facts
          obtain ⟨l0, l1, l2, la, lb, lc⟩ := (HR1.out.go hA).at3 hlt
          rw [vc0] at l0
          rw [vc1] at l1
          rw [vc2] at l2
          obtain ⟨m0, m1, m2, ma, mb, mc⟩ := (HC1.out.go hA).at3 hlt
          rw [vc0] at m0
          rw [vc1] at m1
          rw [vc2] at m2
          have lt1 := (HR1.out.go hA).lt
          go_simp
          exact hK _ _ (fact_stat _ _ _) (isE.mk rfl) (Js.stay hw (by decide) hA)
        case r5 =>
          intro listed a u h hu hd K hK
          have e7 : a.tmps.getD 7 undef = .int .i64 (k : Int) := h.base (by kernel_rfl)
          have f7 : a.tmps[7]? = some (.int .i64 (k : Int)) := h.old (by kernel_rfl)
          rw [if_pos (by rfl)]
          go_simp
          exact hK _ _ (fact_stat _ _ _) (isE.mk rfl) (Js.neutral h.world rfl)
        case r6 =>
          intro listed a u h hu hd K hK
          obtain ⟨v22, ev22, em22, F22⟩ := h.slot (i := 4) rfl rfl (hd _ (Array.mem_of_getElem? (i := 0) rfl) rfl)
          have e22 := ev22.trans (isE.out F22)
          have f22 := em22.trans (congrArg some (isE.out F22))
          clear ev22 em22 F22
          obtain ⟨v23, ev23, em23, F23⟩ := h.slot (i := 5) rfl rfl (hd _ (Array.mem_of_getElem? (i := 1) rfl) rfl)
          have e23 := ev23.trans (isE.out F23)
          have f23 := em23.trans (congrArg some (isE.out F23))
          clear ev23 em23 F23
          rw [if_pos (by rfl)]
          go_simp
          exact hK _ _ (fact_stat _ _ _) (isE.mk rfl) (Js.neutral h.world rfl)
        case r7 =>
          intro listed a u h hu hd K hK
          have hw := (RI.wait' h (getD_un hu) (T := 11) rfl (Array.mem_of_getElem? (i := 10) rfl) rfl rfl)
          have hA := Js.now h.world hw
          obtain ⟨v24, ev24, em24, F24⟩ := h.slot (i := 6) rfl rfl (hd _ (Array.mem_of_getElem? (i := 0) rfl) rfl)
          have e24 := ev24.trans (isE.out F24)
          have f24 := em24.trans (congrArg some (isE.out F24))
          clear ev24 em24 F24
          rw [if_pos (by rfl)]
          obtain ⟨g0, g1, g2, g3, gf⟩ := (HXq.out.go hA).facts
          obtain ⟨h0, h1, h2, h3, hf⟩ := (HPq.out.go hA).facts
          obtain ⟨v0_, v1_, v2_, vf_⟩ := (Y0q.out.go hA).facts
          obtain ⟨l0, l1, l2, la, lb, lc⟩ := (HR1.out.go hA).at3 hlt
          rw [vc0] at l0
          rw [vc1] at l1
          rw [vc2] at l2
          obtain ⟨m0, m1, m2, ma, mb, mc⟩ := (HC1.out.go hA).at3 hlt
          rw [vc0] at m0
          rw [vc1] at m1
          rw [vc2] at m2
          have lt1 := (HR1.out.go hA).lt
          go_simp
          exact hK _ _ (fact_stat _ _ _) (isE.mk rfl) (Js.stay hw (by decide) hA)
        case r8 =>
          intro listed a u h hu hd K hK
          have hw := (RI.wait' h (getD_un hu) (T := 11) rfl (Array.mem_of_getElem? (i := 11) rfl) rfl rfl)
          have hA := Js.now h.world hw
          have e3 : a.tmps.getD 3 undef = .pointer (some ⟨w.heap.size + 1, 0, none⟩) := h.base (by kernel_rfl)
          have f3 : a.tmps[3]? = some (.pointer (some ⟨w.heap.size + 1, 0, none⟩)) := h.old (by kernel_rfl)
          rw [if_pos (by rfl)]
          obtain ⟨g0, g1, g2, g3, gf⟩ := (HXq.out.go hA).facts
          obtain ⟨h0, h1, h2, h3, hf⟩ := (HPq.out.go hA).facts
          obtain ⟨v0_, v1_, v2_, vf_⟩ := (Y0q.out.go hA).facts
          obtain ⟨l0, l1, l2, la, lb, lc⟩ := (HR1.out.go hA).at3 hlt
          rw [vc0] at l0
          rw [vc1] at l1
          rw [vc2] at l2
          obtain ⟨m0, m1, m2, ma, mb, mc⟩ := (HC1.out.go hA).at3 hlt
          rw [vc0] at m0
          rw [vc1] at m1
          rw [vc2] at m2
          have lt1 := (HR1.out.go hA).lt
          go_simp
          exact hK _ _ (fact_stat _ _ _) (isE.mk rfl) (Js.stay hw (by decide) hA)
        case r9 =>
          intro listed a u h hu hd K hK
          have hw := (RI.wait' h (getD_un hu) (T := 11) rfl (Array.mem_of_getElem? (i := 1) rfl) rfl rfl)
          have hA := Js.now h.world hw
          obtain ⟨v25, ev25, em25, F25⟩ := h.slot (i := 7) rfl rfl (hd _ (Array.mem_of_getElem? (i := 0) rfl) rfl)
          have e25 := ev25.trans (isE.out F25)
          have f25 := em25.trans (congrArg some (isE.out F25))
          clear ev25 em25 F25
          obtain ⟨v26, ev26, em26, F26⟩ := h.slot (i := 8) rfl rfl (hd _ (Array.mem_of_getElem? (i := 1) rfl) rfl)
          have e26 := ev26.trans (isE.out F26)
          have f26 := em26.trans (congrArg some (isE.out F26))
          clear ev26 em26 F26
          rw [if_pos (by rfl)]
          go_simp
          refine Calls.mono (spec_l01Add _ _ _ _ _ _ u) ?_
          rintro e u2 ⟨a0_, a1_, a2_, rfl, _, r0, r1, r2, hb⟩
          exact hK _ _ (fact_stat _ _ _) (isV.mk ⟨r0, r1, r2⟩) (Js.stay hw (by decide) (hA.trans (hb.mono hA.size)))
        case r10 =>
          intro listed a u h hu hd K hK
          obtain ⟨v19, ev19, em19, F19⟩ := h.slot (i := 1) rfl rfl (hd _ (Array.mem_of_getElem? (i := 0) rfl) rfl)
          have e19 := ev19.trans (isE.out F19)
          have f19 := em19.trans (congrArg some (isE.out F19))
          clear ev19 em19 F19
          obtain ⟨v20, ev20, em20, F20⟩ := h.slot (i := 2) rfl rfl (hd _ (Array.mem_of_getElem? (i := 1) rfl) rfl)
          have e20 := ev20.trans (isE.out F20)
          have f20 := em20.trans (congrArg some (isE.out F20))
          clear ev20 em20 F20
          rw [if_pos (by rfl)]
          go_simp
          exact hK _ _ (fact_stat _ _ _) (isE.mk rfl) (Js.neutral h.world rfl)
        case r11 =>
          intro listed a u h hu hd K hK
          have hw := getD_un hu
          have hA := Js.now h.world hw
          obtain ⟨v28, ev28, em28, F28⟩ := h.slot (i := 10) rfl rfl (hd _ (Array.mem_of_getElem? (i := 0) rfl) rfl)
          have e28 := ev28.trans (isE.out F28)
          have f28 := em28.trans (congrArg some (isE.out F28))
          clear ev28 em28 F28
          obtain ⟨v27, ev27, em27, F27⟩ := h.slot (i := 9) rfl rfl (hd _ (Array.mem_of_getElem? (i := 1) rfl) rfl)
          obtain ⟨x27, y27, z27, q27, s27⟩ := isV.out F27
          have e27 := ev27.trans q27
          have f27 := em27.trans (congrArg some q27)
          clear ev27 em27 F27
          rw [if_pos (by rfl)]
          obtain ⟨g0, g1, g2, g3, gf⟩ := (HXq.out.go hA).facts
          obtain ⟨h0, h1, h2, h3, hf⟩ := (HPq.out.go hA).facts
          obtain ⟨v0_, v1_, v2_, vf_⟩ := (Y0q.out.go hA).facts
          obtain ⟨l0, l1, l2, la, lb, lc⟩ := (HR1.out.go hA).at3 hlt
          rw [vc0] at l0
          rw [vc1] at l1
          rw [vc2] at l2
          obtain ⟨m0, m1, m2, ma, mb, mc⟩ := (HC1.out.go hA).at3 hlt
          rw [vc0] at m0
          rw [vc1] at m1
          rw [vc2] at m2
          have lt1 := (HR1.out.go hA).lt
          go_simp
          exact hK undef _ (fact_stat _ _ _) trivial (Js.hit (un_lt hu) (Js.nil ⟨u, x27, y27, z27, hA, s27, rfl⟩))
        case hend =>
          intro listed a u h hall
          have hB : (fun W => ∃ W5 r0 r1 r2, Below wr.heap.size wr W5 ∧ SimP ⟨r0, r1, r2⟩ (vadd (D.P k) p) ∧ W = (((W5.setCell ⟨b1, k * 3, none⟩ (.float .f32 r0)).setCell ⟨b1, k * 3 + 1, none⟩ (.float .f32 r1)).setCell ⟨b1, k * 3 + 2, none⟩ (.float .f32 r2))) u := (Js.past h.world (hall 11 (by decide)))
          obtain ⟨v18, ev18, em18, F18⟩ := h.slot (i := 0) rfl rfl (hall 0 (by decide))
          have f18 := em18.trans (congrArg some (isE.out F18))
          clear ev18 em18 F18
          obtain ⟨v19, ev19, em19, F19⟩ := h.slot (i := 1) rfl rfl (hall 1 (by decide))
          have f19 := em19.trans (congrArg some (isE.out F19))
          clear ev19 em19 F19
          obtain ⟨v20, ev20, em20, F20⟩ := h.slot (i := 2) rfl rfl (hall 2 (by decide))
          have f20 := em20.trans (congrArg some (isE.out F20))
          clear ev20 em20 F20
          obtain ⟨v21, ev21, em21, F21⟩ := h.slot (i := 3) rfl rfl (hall 3 (by decide))
          have f21 := em21.trans (congrArg some (isE.out F21))
          clear ev21 em21 F21
          obtain ⟨v22, ev22, em22, F22⟩ := h.slot (i := 4) rfl rfl (hall 4 (by decide))
          have f22 := em22.trans (congrArg some (isE.out F22))
          clear ev22 em22 F22
          obtain ⟨v23, ev23, em23, F23⟩ := h.slot (i := 5) rfl rfl (hall 5 (by decide))
          have f23 := em23.trans (congrArg some (isE.out F23))
          clear ev23 em23 F23
          obtain ⟨v24, ev24, em24, F24⟩ := h.slot (i := 6) rfl rfl (hall 6 (by decide))
          have f24 := em24.trans (congrArg some (isE.out F24))
          clear ev24 em24 F24
          obtain ⟨v25, ev25, em25, F25⟩ := h.slot (i := 7) rfl rfl (hall 7 (by decide))
          have f25 := em25.trans (congrArg some (isE.out F25))
          clear ev25 em25 F25
          obtain ⟨v26, ev26, em26, F26⟩ := h.slot (i := 8) rfl rfl (hall 8 (by decide))
          have f26 := em26.trans (congrArg some (isE.out F26))
          clear ev26 em26 F26
          obtain ⟨v27, ev27, em27, F27⟩ := h.slot (i := 9) rfl rfl (hall 9 (by decide))
          obtain ⟨x27, y27, z27, q27, s27⟩ := isV.out F27
          have f27 := em27.trans (congrArg some q27)
          clear ev27 em27 F27
          obtain ⟨v28, ev28, em28, F28⟩ := h.slot (i := 10) rfl rfl (hall 10 (by decide))
          have f28 := em28.trans (congrArg some (isE.out F28))
          clear ev28 em28 F28
          have ha := h.act [18, 19, 20, 21, 22, 23, 24, 25, 26, 27, 28] [_, _, _, _, _, _, _, _, _, _, _] (by kernel_rfl) ⟨f18, f19, f20, f21, f22, f23, f24, f25, f26, f27, f28, trivial⟩
          clear f18 f19 f20 f21 f22 f23 f24 f25 f26 f27 f28
          simp only [setAll, List.setIfInBounds_toArray, List.set_cons_zero, List.set_cons_succ] at ha
          subst ha
          clear h hall
          obtain ⟨W5, r0, r1, r2, hb5, hs5, hu5⟩ := hB
          obtain ⟨wt, rfl⟩ : ∃ z : World, z = u := ⟨u, rfl⟩
          have S5 := Lib.hid hs5
          have y5 := hb5.size
          have yt : wt.heap.size = W5.heap.size := by rw [hu5]; simp [World.setCell]
          have HXt := Lib.hid (show Bx wt w2.heap.size 32 (.slice (some ⟨b1, 0, none⟩) n3 d1) (.slice (some ⟨b2, 0, none⟩) n3 d2) (.slice E3 n3 d3) (.slice E4 n4 d4) by rw [hu5]; exact (HXq.out.go hb5).far3' hn1 _ _ _)
          have HOt := Lib.hid (show Own wt w1.heap.size (some ⟨b1, 0, none⟩) (some ⟨b2, 0, none⟩) E3 E4 d1 d2 d3 d4 n3 n3 n3 n4 (setP D1 k ⟨r0, r1, r2⟩) by rw [hu5]; exact (HOq.out.go hb5).setP rfl hlt r0 r1 r2)
          have HPt := Lib.hid (show Bx wt w.heap.size 32 (.slice (some ⟨e1, 0, none⟩) n3 c1) (.slice (some ⟨e2, 0, none⟩) n3 c2) (.slice A3 n3 c3) (.slice A4 n4 c4) by rw [hu5]; exact (HPq.out.go hb5).far3' (by omega) _ _ _)
          have HRt := Lib.hid (show Rw wt b2 38 (d2 * 3) (n3 * 3) (vc D1.B) by rw [hu5]; exact (HR2.out.go hb5).far3 hn12 _ _ _)
          have HCt := Lib.hid (show Rw wt e2 38 (c2 * 3) (n3 * 3) (vc D.B) by rw [hu5]; exact (HC2.out.go hb5).far3 (by omega) _ _ _)
          have Y0t := Lib.hid (show Tx wt (w.heap.size + 1) 38 (.float .f32 p.x) (.float .f32 p.y) (.float .f32 p.z) by rw [hu5]; exact (Y0q.out.go hb5).far3' (by omega) _ _ _)
          have HBt := Lib.hid (show Below w1.heap.size w2 wt by rw [hu5]; exact Tx.bel3 (HBq.out.trans (hb5.mono (by omega))) HB1 _ _ _)
          clear hu5 hb5 hs5 hw0 HXq HOq HPq HR1 HR2 HC1 HC2 Y0q HBq
          have HXq := HXt
          have HOq := HOt
          have HPq := HPt
          have HR2 := HRt
          have HC2 := HCt
          have Y0q := Y0t
          have HBq := HBt
          clear HXt HOt HPt HRt HCt Y0t HBt
          have hw0 : Below wt.heap.size wt wt.drew := (Below.refl _ _).drew
          go_upto_region 8 with fail
          refine region_inv (stat [isE (.pointer (some ⟨w2.heap.size, 1, none⟩)), isE (.slice (some ⟨b2, 0, none⟩) n3 d2), isE (.int .i64 (k : Int)), isE (.pointer (some ⟨w.heap.size, 1, none⟩)), isE (.slice (some ⟨e2, 0, none⟩) n3 c2), isE (.int .i64 (k : Int)), isE (.pointer (some ⟨e2, k * 3, none⟩)), isE (.agg #[.float .f32 (D.B k).x, .float .f32 (D.B k).y, .float .f32 (D.B k).z]), isE (.agg #[.float .f32 p.x, .float .f32 p.y, .float .f32 p.z]), isV (vadd (D.B k) p), isE (.pointer (some ⟨b2, k * 3, none⟩)), fun _ => True]) (fun l W => Js [(11, fun W => ∃ W5 r0 r1 r2, Below wt.heap.size wt W5 ∧ SimP ⟨r0, r1, r2⟩ (vadd (D.B k) p) ∧ W = (((W5.setCell ⟨b2, k * 3, none⟩ (.float .f32 r0)).setCell ⟨b2, k * 3 + 1, none⟩ (.float .f32 r1)).setCell ⟨b2, k * 3 + 2, none⟩ (.float .f32 r2)))] (fun W => Below wt.heap.size wt W) l W) (by kernel_rfl) (by kernel_rfl) (by kernel_rfl) (Js.first hw0) ⟨?r0, ?r1, ?r2, ?r3, ?r4, ?r5, ?r6, ?r7, ?r8, ?r9, ?r10, ?r11, trivial⟩ ?hend
          case r0 =>
            intro listed a u h hu hd K hK
            have e6 : a.tmps.getD 6 undef = .pointer (some ⟨w2.heap.size, 0, none⟩) := h.base (by kernel_rfl)
            have f6 : a.tmps[6]? = some (.pointer (some ⟨w2.heap.size, 0, none⟩)) := h.old (by kernel_rfl)
            rw [if_pos (by rfl)]
            go_simp
            exact hK _ _ (fact_stat _ _ _) (isE.mk rfl) (Js.neutral h.world rfl)
          case r1 =>
            intro listed a u h hu hd K hK
            have hw := (RI.wait' h (getD_un hu) (T := 11) rfl (Array.mem_of_getElem? (i := 4) rfl) rfl rfl)
            have hA := Js.now h.world hw
            obtain ⟨v29, ev29, em29, F29⟩ := h.slot (i := 0) rfl rfl (hd _ (Array.mem_of_getElem? (i := 0) rfl) rfl)
            have e29 := ev29.trans (isE.out F29)
            have f29 := em29.trans (congrArg some (isE.out F29))
            clear ev29 em29 F29
            rw [if_pos (by rfl)]
            obtain ⟨g0, g1, g2, g3, gf⟩ := (HXq.out.go hA).facts
            obtain ⟨h0, h1, h2, h3, hf⟩ := (HPq.out.go hA).facts
            obtain ⟨v0_, v1_, v2_, vf_⟩ := (Y0q.out.go hA).facts
            obtain ⟨l0, l1, l2, la, lb, lc⟩ := (HR2.out.go hA).at3 hlt
            rw [vc0] at l0
            rw [vc1] at l1
            rw [vc2] at l2
            obtain ⟨m0, m1, m2, ma, mb, mc⟩ := (HC2.out.go hA).at3 hlt
            rw [vc0] at m0
            rw [vc1] at m1
            rw [vc2] at m2
            have lt1 := (HR2.out.go hA).lt
            go_simp
            exact hK _ _ (fact_stat _ _ _) (isE.mk rfl) (Js.stay hw (by decide) hA)
          case r2 =>
            intro listed a u h hu hd K hK
            have e7 : a.tmps.getD 7 undef = .int .i64 (k : Int) := h.base (by kernel_rfl)
            have f7 : a.tmps[7]? = some (.int .i64 (k : Int)) := h.old (by kernel_rfl)
            rw [if_pos (by rfl)]
            go_simp
            exact hK _ _ (fact_stat _ _ _) (isE.mk rfl) (Js.neutral h.world rfl)
          case r3 =>
            intro listed a u h hu hd K hK
            have e2 : a.tmps.getD 2 undef = .pointer (some ⟨w.heap.size, 0, none⟩) := h.base (by kernel_rfl)
            have f2 : a.tmps[2]? = some (.pointer (some ⟨w.heap.size, 0, none⟩)) := h.old (by kernel_rfl)
            rw [if_pos (by rfl)]
            go_simp
            exact hK _ _ (fact_stat _ _ _) (isE.mk rfl) (Js.neutral h.world rfl)
          case r4 =>
            intro listed a u h hu hd K hK
            have hw := (RI.wait' h (getD_un hu) (T := 11) rfl (Array.mem_of_getElem? (i := 7) rfl) rfl rfl)
            have hA := Js.now h.world hw
            obtain ⟨v32, ev32, em32, F32⟩ := h.slot (i := 3) rfl rfl (hd _ (Array.mem_of_getElem? (i := 0) rfl) rfl)
            have e32 := ev32.trans (isE.out F32)
            have f32 := em32.trans (congrArg some (isE.out F32))
            clear ev32 em32 F32
            rw [if_pos (by rfl)]
            obtain ⟨g0, g1, g2, g3, gf⟩ := (HXq.out.go hA).facts
            obtain ⟨h0, h1, h2, h3, hf⟩ := (HPq.out.go hA).facts
            obtain ⟨v0_, v1_, v2_, vf_⟩ := (Y0q.out.go hA).facts
            obtain ⟨l0, l1, l2, la, lb, lc⟩ := (HR2.out.go hA).at3 hlt
            rw [vc0] at l0
            rw [vc1] at l1
            rw [vc2] at l2
            obtain ⟨m0, m1, m2, ma, mb, mc⟩ := (HC2.out.go hA).at3 hlt
            rw [vc0] at m0
            rw [vc1] at m1
            rw [vc2] at m2
            have lt1 := (HR2.out.go hA).lt
            go_simp
            exact hK _ _ (fact_stat _ _ _) (isE.mk rfl) (Js.stay hw (by decide) hA)
          case r5 =>
            intro listed a u h hu hd K hK
            have e7 : a.tmps.getD 7 undef = .int .i64 (k : Int) := h.base (by kernel_rfl)
            have f7 : a.tmps[7]? = some (.int .i64 (k : Int)) := h.old (by kernel_rfl)
            rw [if_pos (by rfl)]
            go_simp
            exact hK _ _ (fact_stat _ _ _) (isE.mk rfl) (Js.neutral h.world rfl)
          case r6 =>
            intro listed a u h hu hd K hK
            obtain ⟨v33, ev33, em33, F33⟩ := h.slot (i := 4) rfl rfl (hd _ (Array.mem_of_getElem? (i := 0) rfl) rfl)
            have e33 := ev33.trans (isE.out F33)
            have f33 := em33.trans (congrArg some (isE.out F33))
            clear ev33 em33 F33
            obtain ⟨v34, ev34, em34, F34⟩ := h.slot (i := 5) rfl rfl (hd _ (Array.mem_of_getElem? (i := 1) rfl) rfl)
            have e34 := ev34.trans (isE.out F34)
            have f34 := em34.trans (congrArg some (isE.out F34))
            clear ev34 em34 F34
            rw [if_pos (by rfl)]
            go_simp
            exact hK _ _ (fact_stat _ _ _) (isE.mk rfl) (Js.neutral h.world rfl)
          case r7 =>
            intro listed a u h hu hd K hK
            have hw := (RI.wait' h (getD_un hu) (T := 11) rfl (Array.mem_of_getElem? (i := 10) rfl) rfl rfl)
            have hA := Js.now h.world hw
            obtain ⟨v35, ev35, em35, F35⟩ := h.slot (i := 6) rfl rfl (hd _ (Array.mem_of_getElem? (i := 0) rfl) rfl)
            have e35 := ev35.trans (isE.out F35)
            have f35 := em35.trans (congrArg some (isE.out F35))
            clear ev35 em35 F35
            rw [if_pos (by rfl)]
            obtain ⟨g0, g1, g2, g3, gf⟩ := (HXq.out.go hA).facts
            obtain ⟨h0, h1, h2, h3, hf⟩ := (HPq.out.go hA).facts
            obtain ⟨v0_, v1_, v2_, vf_⟩ := (Y0q.out.go hA).facts
            obtain ⟨l0, l1, l2, la, lb, lc⟩ := (HR2.out.go hA).at3 hlt
            rw [vc0] at l0
            rw [vc1] at l1
            rw [vc2] at l2
            obtain ⟨m0, m1, m2, ma, mb, mc⟩ := (HC2.out.go hA).at3 hlt
            rw [vc0] at m0
            rw [vc1] at m1
            rw [vc2] at m2
            have lt1 := (HR2.out.go hA).lt
            go_simp
            exact hK _ _ (fact_stat _ _ _) (isE.mk rfl) (Js.stay hw (by decide) hA)
          case r8 =>
            intro listed a u h hu hd K hK
            have hw := (RI.wait' h (getD_un hu) (T := 11) rfl (Array.mem_of_getElem? (i := 11) rfl) rfl rfl)
            have hA := Js.now h.world hw
            have e3 : a.tmps.getD 3 undef = .pointer (some ⟨w.heap.size + 1, 0, none⟩) := h.base (by kernel_rfl)
            have f3 : a.tmps[3]? = some (.pointer (some ⟨w.heap.size + 1, 0, none⟩)) := h.old (by kernel_rfl)
            rw [if_pos (by rfl)]
            obtain ⟨g0, g1, g2, g3, gf⟩ := (HXq.out.go hA).facts
            obtain ⟨h0, h1, h2, h3, hf⟩ := (HPq.out.go hA).facts
            obtain ⟨v0_, v1_, v2_, vf_⟩ := (Y0q.out.go hA).facts
            obtain ⟨l0, l1, l2, la, lb, lc⟩ := (HR2.out.go hA).at3 hlt
            rw [vc0] at l0
            rw [vc1] at l1
            rw [vc2] at l2
            obtain ⟨m0, m1, m2, ma, mb, mc⟩ := (HC2.out.go hA).at3 hlt
            rw [vc0] at m0
            rw [vc1] at m1
            rw [vc2] at m2
            have lt1 := (HR2.out.go hA).lt
            go_simp
            exact hK _ _ (fact_stat _ _ _) (isE.mk rfl) (Js.stay hw (by decide) hA)
          case r9 =>
            intro listed a u h hu hd K hK
            have hw := (RI.wait' h (getD_un hu) (T := 11) rfl (Array.mem_of_getElem? (i := 1) rfl) rfl rfl)
            have hA := Js.now h.world hw
            obtain ⟨v36, ev36, em36, F36⟩ := h.slot (i := 7) rfl rfl (hd _ (Array.mem_of_getElem? (i := 0) rfl) rfl)
            have e36 := ev36.trans (isE.out F36)
            have f36 := em36.trans (congrArg some (isE.out F36))
            clear ev36 em36 F36
            obtain ⟨v37, ev37, em37, F37⟩ := h.slot (i := 8) rfl rfl (hd _ (Array.mem_of_getElem? (i := 1) rfl) rfl)
            have e37 := ev37.trans (isE.out F37)
            have f37 := em37.trans (congrArg some (isE.out F37))
            clear ev37 em37 F37
            rw [if_pos (by rfl)]
            go_simp
            refine Calls.mono (spec_l01Add _ _ _ _ _ _ u) ?_
            rintro e u2 ⟨a0_, a1_, a2_, rfl, _, r0, r1, r2, hb⟩
            exact hK _ _ (fact_stat _ _ _) (isV.mk ⟨r0, r1, r2⟩) (Js.stay hw (by decide) (hA.trans (hb.mono hA.size)))
          case r10 =>
            intro listed a u h hu hd K hK
            obtain ⟨v30, ev30, em30, F30⟩ := h.slot (i := 1) rfl rfl (hd _ (Array.mem_of_getElem? (i := 0) rfl) rfl)
            have e30 := ev30.trans (isE.out F30)
            have f30 := em30.trans (congrArg some (isE.out F30))
            clear ev30 em30 F30
            obtain ⟨v31, ev31, em31, F31⟩ := h.slot (i := 2) rfl rfl (hd _ (Array.mem_of_getElem? (i := 1) rfl) rfl)
            have e31 := ev31.trans (isE.out F31)
            have f31 := em31.trans (congrArg some (isE.out F31))
            clear ev31 em31 F31
            rw [if_pos (by rfl)]
            go_simp
            exact hK _ _ (fact_stat _ _ _) (isE.mk rfl) (Js.neutral h.world rfl)
          case r11 =>
            intro listed a u h hu hd K hK
            have hw := getD_un hu
            have hA := Js.now h.world hw
            obtain ⟨v39, ev39, em39, F39⟩ := h.slot (i := 10) rfl rfl (hd _ (Array.mem_of_getElem? (i := 0) rfl) rfl)
            have e39 := ev39.trans (isE.out F39)
            have f39 := em39.trans (congrArg some (isE.out F39))
            clear ev39 em39 F39
            obtain ⟨v38, ev38, em38, F38⟩ := h.slot (i := 9) rfl rfl (hd _ (Array.mem_of_getElem? (i := 1) rfl) rfl)
            obtain ⟨x38, y38, z38, q38, s38⟩ := isV.out F38
            have e38 := ev38.trans q38
            have f38 := em38.trans (congrArg some q38)
            clear ev38 em38 F38
            rw [if_pos (by rfl)]
            obtain ⟨g0, g1, g2, g3, gf⟩ := (HXq.out.go hA).facts
            obtain ⟨h0, h1, h2, h3, hf⟩ := (HPq.out.go hA).facts
            obtain ⟨v0_, v1_, v2_, vf_⟩ := (Y0q.out.go hA).facts
            obtain ⟨l0, l1, l2, la, lb, lc⟩ := (HR2.out.go hA).at3 hlt
            rw [vc0] at l0
            rw [vc1] at l1
            rw [vc2] at l2
            obtain ⟨m0, m1, m2, ma, mb, mc⟩ := (HC2.out.go hA).at3 hlt
            rw [vc0] at m0
            rw [vc1] at m1
            rw [vc2] at m2
            have lt1 := (HR2.out.go hA).lt
            go_simp
            exact hK undef _ (fact_stat _ _ _) trivial (Js.hit (un_lt hu) (Js.nil ⟨u, x38, y38, z38, hA, s38, rfl⟩))
          case hend =>
            intro listed a u h hall
            have hB : (fun W => ∃ W5 r0 r1 r2, Below wt.heap.size wt W5 ∧ SimP ⟨r0, r1, r2⟩ (vadd (D.B k) p) ∧ W = (((W5.setCell ⟨b2, k * 3, none⟩ (.float .f32 r0)).setCell ⟨b2, k * 3 + 1, none⟩ (.float .f32 r1)).setCell ⟨b2, k * 3 + 2, none⟩ (.float .f32 r2))) u := (Js.past h.world (hall 11 (by decide)))
            obtain ⟨v29, ev29, em29, F29⟩ := h.slot (i := 0) rfl rfl (hall 0 (by decide))
            have f29 := em29.trans (congrArg some (isE.out F29))
            clear ev29 em29 F29
            obtain ⟨v30, ev30, em30, F30⟩ := h.slot (i := 1) rfl rfl (hall 1 (by decide))
            have f30 := em30.trans (congrArg some (isE.out F30))
            clear ev30 em30 F30
            obtain ⟨v31, ev31, em31, F31⟩ := h.slot (i := 2) rfl rfl (hall 2 (by decide))
            have f31 := em31.trans (congrArg some (isE.out F31))
            clear ev31 em31 F31
            obtain ⟨v32, ev32, em32, F32⟩ := h.slot (i := 3) rfl rfl (hall 3 (by decide))
            have f32 := em32.trans (congrArg some (isE.out F32))
            clear ev32 em32 F32
            obtain ⟨v33, ev33, em33, F33⟩ := h.slot (i := 4) rfl rfl (hall 4 (by decide))
            have f33 := em33.trans (congrArg some (isE.out F33))
            clear ev33 em33 F33
            obtain ⟨v34, ev34, em34, F34⟩ := h.slot (i := 5) rfl rfl (hall 5 (by decide))
            have f34 := em34.trans (congrArg some (isE.out F34))
            clear ev34 em34 F34
            obtain ⟨v35, ev35, em35, F35⟩ := h.slot (i := 6) rfl rfl (hall 6 (by decide))
            have f35 := em35.trans (congrArg some (isE.out F35))
            clear ev35 em35 F35
            obtain ⟨v36, ev36, em36, F36⟩ := h.slot (i := 7) rfl rfl (hall 7 (by decide))
            have f36 := em36.trans (congrArg some (isE.out F36))
            clear ev36 em36 F36
            obtain ⟨v37, ev37, em37, F37⟩ := h.slot (i := 8) rfl rfl (hall 8 (by decide))
            have f37 := em37.trans (congrArg some (isE.out F37))
            clear ev37 em37 F37
            obtain ⟨v38, ev38, em38, F38⟩ := h.slot (i := 9) rfl rfl (hall 9 (by decide))
            obtain ⟨x38, y38, z38, q38, s38⟩ := isV.out F38
            have f38 := em38.trans (congrArg some q38)
            clear ev38 em38 F38
            obtain ⟨v39, ev39, em39, F39⟩ := h.slot (i := 10) rfl rfl (hall 10 (by decide))
            have f39 := em39.trans (congrArg some (isE.out F39))
            clear ev39 em39 F39
            have ha := h.act [29, 30, 31, 32, 33, 34, 35, 36, 37, 38, 39] [_, _, _, _, _, _, _, _, _, _, _] (by kernel_rfl) ⟨f29, f30, f31, f32, f33, f34, f35, f36, f37, f38, f39, trivial⟩
            clear f29 f30 f31 f32 f33 f34 f35 f36 f37 f38 f39
            simp only [setAll, List.setIfInBounds_toArray, List.set_cons_zero, List.set_cons_succ] at ha
            subst ha
            clear h hall
            obtain ⟨W5, q0, q1_, q2_, hb5, hs6, rfl⟩ := hB
            have Z5 := Lib.hid hb5
            have S6 := Lib.hid hs6
            have y6 := hb5.size
            clear hb5 hs6 hw0
            go_wp2_with fail
            go_roundw
            case rel =>
              refine ⟨k + 1, setB (setP D1 k ⟨r0, r1, r2⟩) k ⟨q0, q1_, q2_⟩, by omega, by go_num, setB_sim (setP_sim HS.out S5.out) S6.out, (HOq.out.go Z5.out).setB rfl hlt q0 q1_ q2_, (HXq.out.go Z5.out).far3' hn2 _ _ _, Tx.bel3 (HBq.out.trans (Z5.out.mono (by omega))) HB2 _ _ _, ?_⟩
              simp [World.setCell]
              omega
            case measure => simp [intOf]; omega
      · obtain rfl : n3 = k := by omega
        obtain ⟨wm, rfl⟩ : ∃ z : World, z = wr := ⟨wr, rfl⟩
        have XM := Lib.hid hX
        have VM := Lib.hid hV
        have BM := Lib.hid (show Below w.heap.size w wm from B2.out.trans (hB.mono y0))
        have OM := Lib.hid hO
        have SM := Lib.hid hS
        have DM := Lib.hid hO.bds
        clear hX hV hB hO hS hP hY hH DF WF XX0 V2 O2 D2 B2 P2 Z0
        obtain ⟨t0, t1, t2, t3, tf⟩ := XM.out.facts
        have lt := XM.out.lt
        go_wp2_with fail
        refine (spec_l03Give E1 E2 E3 E4 d1 d2 d3 d4 (n3) (n3) (n3) (n4) _ (D1) _ OM.out).mono ?_
        rintro e w4 ⟨rfl, hb4⟩
        have V4 := Lib.hid (VM.out.go hb4)
        have B4 := Lib.hid (below_step BM.out hb4)
        have O4 := Lib.hid (OM.out.go hb4)
        have D4_ := Lib.hid (DM.out.mono (Nat.le_refl _) hb4.size)
        clear hb4 t0 t1 t2 t3 tf lt VM BM OM DM
        obtain ⟨v0, v1, v2, v3, vf⟩ := V4.out.facts
        have lv := V4.out.lt
        rw [okC_sim SM.out]
        cases q3 : okC (n3) (n3) (n3) (n4) (movD D p n3)
        · unfold giveV
          go_wp2_with fail
          obtain ⟨r0, r1, r2, r3, rf⟩ := (V4.out.setAll sn sn sn sn).facts
          refine bodyPost_ret (v := .tuple #[.agg #[sn, sn, sn, sn], .bool false]) (by simp [results, Try.results60, go_sem, r0, r1, r2, r3]) rfl ?_
          rw [q3]
          exact ⟨rfl, Bx.bel B4.out (by omega) _ _ _ _⟩
        · unfold giveV
          have WF := Lib.hid (show Wr (fun k => k = w.heap.size + 1 + 1) w4 ((((w4.setCell ⟨w.heap.size + 1 + 1, 0, none⟩ (.slice E1 (n3) d1)).setCell ⟨w.heap.size + 1 + 1, 1, none⟩ (.slice E2 (n3) d2)).setCell ⟨w.heap.size + 1 + 1, 2, none⟩ (.slice E3 (n3) d3)).setCell ⟨w.heap.size + 1 + 1, 3, none⟩ (.slice E4 (n4) d4)) from by
            refine Wr.setCell (Wr.setCell (Wr.setCell (Wr.setCell (Wr.refl _ _) ?_ _) ?_ _) ?_ _) ?_ _ <;> rfl)
          go_wp2_with fail
          obtain ⟨r0, r1, r2, r3, rf⟩ := (V4.out.setAll (.slice E1 (n3) d1) (.slice E2 (n3) d2) (.slice E3 (n3) d3) (.slice E4 (n4) d4)).facts
          refine bodyPost_ret (v := .tuple #[.agg #[.slice E1 (n3) d1, .slice E2 (n3) d2, .slice E3 (n3) d3, .slice E4 (n4) d4], .bool true]) (by simp [results, Try.results60, go_sem, r0, r1, r2, r3]) rfl ?_
          rw [q3]
          exact ⟨⟨E1, E2, E3, E4, d1, d2, d3, d4, D1, rfl, SM.out, (O4.out.off V4.out WF.out).mono y0, D4_.out.mono y0 WF.out.size⟩, Bx.bel B4.out (by omega) _ _ _ _⟩
end Go.Proofs.Ytlhgaihfghobmaa
