/- MoveChain of the program returns what MoveChain of the reference returns, a chain of its own, and leaves its argument alone. -/
import Derived.Test.YtlhgaihfghobmaaMm
import Derived.Test.YtlhgaihfghobmaaRl
import Derived.Test.YtlhgaihfghobmaaRm
import Derived.Test.YtlhgaihfghobmaaKj
import Derived.Deep.DeepCutAuto
namespace Go.Proofs.Ytlhgaihfghobmaa
open Go.ChangeShapes Go.WideShapes Go.ChangeAt Go.RowKit Go.Deep

set_option maxHeartbeats 8000000 in
set_option maxRecDepth 100000 in
theorem FnExactMoveChain_walk (A1 A2 A3 A4 : Option Addr) (c1 c2 c3 c4 n1 n2 n3 n4 : Nat) (D : D4) (p : V3) (w : World) (hC : Came w A1 A2 A3 A4 n1 n2 n3 n4 D) :
    Calls Try.prog 16 #[.agg #[.slice A1 n1 c1, .slice A2 n2 c2, .slice A3 n3 c3, .slice A4 n4 c4], .agg #[.float .f32 p.x, .float .f32 p.y, .float .f32 p.z]] w (RetV (.bool true) w) := by
  by_cases hn : n1 + n2 + n3 + n4 ≤ 1048576
  · have k1 : n1 ≤ 1048576 := by omega
    have k2 : n2 ≤ 1048576 := by omega
    have k3 : n3 ≤ 1048576 := by omega
    have k4 : n4 ≤ 1048576 := by omega
    have HC := Lib.hid hC
    have g0 : ¬ ((1048576 : Int) - n1 - n2 - n3 - n4 < 0) := by omega
    obtain ⟨l1, hl1⟩ : ∃ l : Nat, l = pk (okC n1 n2 n3 n4 D && (true && okC n1 n2 n3 n4 (movD D p n1))) n1 := ⟨_, rfl⟩
    have j1 : l1 ≤ 1048576 := by rw [hl1]; exact pk_okC.1
    have HL1 := Lib.hid hl1
    clear hl1
    obtain ⟨l2, hl2⟩ : ∃ l : Nat, l = pk (okC n1 n2 n3 n4 D && (true && okC n1 n2 n3 n4 (movD D p n1))) n2 := ⟨_, rfl⟩
    have j2 : l2 ≤ 1048576 := by rw [hl2]; exact pk_okC.2.1
    have HL2 := Lib.hid hl2
    clear hl2
    obtain ⟨l3, hl3⟩ : ∃ l : Nat, l = pk (okC n1 n2 n3 n4 D && (true && okC n1 n2 n3 n4 (movD D p n1))) n3 := ⟨_, rfl⟩
    have j3 : l3 ≤ 1048576 := by rw [hl3]; exact pk_okC.2.2.1
    have HL3 := Lib.hid hl3
    clear hl3
    obtain ⟨l4, hl4⟩ : ∃ l : Nat, l = pk (okC n1 n2 n3 n4 D && (true && okC n1 n2 n3 n4 (movD D p n1))) n4 := ⟨_, rfl⟩
    have j4 : l4 ≤ 1048576 := by rw [hl4]; exact pk_okC.2.2.2
    have HL4 := Lib.hid hl4
    clear hl4
    clear hC
    go_enter Try.func16, Try.ntmps16
    go_wp2_with fail
    refine (laws_szChain_fit A1 A2 A3 A4 c1 c2 c3 c4 n1 n2 n3 n4 hn _).mono ?_
    rintro e w1 ⟨rfl, hb1⟩
    have PP := Lib.hid (((Bx.new_ w 26 (.slice A1 n1 c1) (.slice A2 n2 c2) (.slice A3 n3 c3) (.slice A4 n4 c4)).alloc _).go hb1)
    have VV0 := Lib.hid ((Tx.new_ (w.alloc (.cells #[.slice A1 n1 c1, .slice A2 n2 c2, .slice A3 n3 c3, .slice A4 n4 c4] 26)) 44 (.float .f32 p.x) (.float .f32 p.y) (.float .f32 p.z)).go hb1)
    have z0 : (w.alloc (.cells #[.slice A1 n1 c1, .slice A2 n2 c2, .slice A3 n3 c3, .slice A4 n4 c4] 26)).heap.size = w.heap.size + 1 := by simp
    rw [z0] at VV0
    clear z0
    have BB := Lib.hid (show Below w.heap.size w w1 from below_step (w := w) ((by repeat' (first | with_reducible exact Below.refl _ _ | with_reducible assumption | with_reducible refine below_dn ?_ _ | with_reducible refine Below.drew ?_ | with_reducible refine below_step ?_ (by assumption) | with_reducible refine Below.setCell ?_ ?_ _ | with_reducible refine Below.alloc ?_ ?_ _ | with_reducible exact Nat.le_refl _ | (simp; done) | (simp; omega) | omega))) hb1)
    clear hb1
    have HBB := HL1
    clear HBB
    have hw0 : Below w1.heap.size w1 w1.drew := (Below.refl _ _).drew
    go_upto_region 5 with fail
    refine region_inv3 [fun v _ => isE (.agg #[.slice A1 n1 c1, .slice A2 n2 c2, .slice A3 n3 c3, .slice A4 n4 c4]) v, isT w1.heap.size n1 n2 n3 n4 D, fun v _ => isE (.agg #[.float .f32 p.x, .float .f32 p.y, .float .f32 p.z]) v, fun v _ => isE (.agg #[.float .f32 p.x, .float .f32 p.y, .float .f32 p.z]) v, isCB (okC n1 n2 n3 n4 D && (true && okC n1 n2 n3 n4 (movD D p n1))) w1.heap.size l1 l2 l3 l4 (movD D p n1), isCB (okC n1 n2 n3 n4 D && (true && okC n1 n2 n3 n4 (movD D p n1))) w1.heap.size l1 l2 l3 l4 (movD D p n1), isC w1.heap.size l1 l2 l3 l4 (movD D p n1), fun v _ => isE (.bool (okC n1 n2 n3 n4 D && (true && okC n1 n2 n3 n4 (movD D p n1)))) v, isA w1.heap.size, fun _ _ => True, fun v _ => isE (.bool (okC n1 n2 n3 n4 D && (true && okC n1 n2 n3 n4 (movD D p n1)))) v] (fun l a W => Js [] (fun W => Below w1.heap.size w1 W) l W ∧ Fn 9 6 (isAC w1.heap.size w1.heap.size l1 l2 l3 l4 (movD D p n1)) l a W) (by kernel_rfl) (by kernel_rfl) (by kernel_rfl) ⟨Js.nil hw0, Fn.first⟩ ⟨?r0, ?r1, ?r2, ?r3, ?r4, ?r5, ?r6, ?r7, ?r8, ?r9, ?r10, trivial⟩ ?hend
    case r0 =>
      intro listed a u h hu hd K hK
      have hA : (fun W => Below w1.heap.size w1 W) u := h.world.1
      have e2 : a.tmps.getD 2 undef = .pointer (some ⟨w.heap.size, 0, none⟩) := h.base (by kernel_rfl)
      have f2 : a.tmps[2]? = some (.pointer (some ⟨w.heap.size, 0, none⟩)) := h.old (by kernel_rfl)
      rw [if_pos (by rfl)]
      obtain ⟨p0_, p1_, p2_, p3_, pf_⟩ := (PP.out.go hA).facts
      obtain ⟨v00_, v01_, v02_, v0f_⟩ := (VV0.out.go hA).facts
      go_simp
      exact hK _ _ (fun _ _ _ h => h) (isE.mk rfl) ⟨(Js.nil (hA)), (Fn.neutral h.world.2 (by decide) (by decide) _)⟩
    case r1 =>
      intro listed a u h hu hd K hK
      have hA : (fun W => Below w1.heap.size w1 W) u := h.world.1
      obtain ⟨v22, ev22, em22, F22⟩ := h.slot (i := 0) rfl rfl (hd _ (Array.mem_of_getElem? (i := 0) rfl) rfl)
      have q22 := isE.out F22
      have e22 := ev22.trans q22
      have f22 := em22.trans (congrArg some q22)
      clear ev22 em22 F22
      rw [if_pos (by rfl)]
      go_simp
      refine (laws_toChain A1 A2 A3 A4 c1 c2 c3 c4 n1 n2 n3 n4 D k1 k2 k3 k4 _ ((HC.out.go (below_step BB.out hA)).i1) ((HC.out.go (below_step BB.out hA)).i2) ((HC.out.go (below_step BB.out hA)).i3) ((HC.out.go (below_step BB.out hA)).i4)).mono ?_
      rintro e u2 ⟨y1, y2, y3, y4, rfl, ho, hb⟩
      have hR : Gw u u2 := hb
      exact hK _ _ (fun j v hn hF => AllStX.fact0 (R := Gw) (i := 1) (by exact ⟨fun _ _ _ _ _ h => h, fun hn => absurd rfl hn, fun _ _ _ _ _ h => h, fun _ _ _ _ _ h => h, fun _ _ _ _ hW h => isCB.go h hW, fun _ _ _ _ hW h => isCB.go h hW, fun _ _ _ _ hW h => isC.go h hW, fun _ _ _ _ _ h => h, fun _ _ _ _ hW h => isA.go h hW, fun _ _ _ _ _ h => h, fun _ _ _ _ _ h => h, trivial⟩) hR j v hn hF) ⟨y1, y2, y3, y4, rfl, ho.mono hA.size⟩ ⟨(Js.nil (hA.trans (hb.mono hA.size))), (Fn.no (RI3.wait' h (getD_un hu) (T := 9) rfl (Array.mem_of_getElem? (i := 4) rfl) rfl rfl) (by decide))⟩
    case r2 =>
      intro listed a u h hu hd K hK
      have hA : (fun W => Below w1.heap.size w1 W) u := h.world.1
      have e3 : a.tmps.getD 3 undef = .pointer (some ⟨w.heap.size + 1, 0, none⟩) := h.base (by kernel_rfl)
      have f3 : a.tmps[3]? = some (.pointer (some ⟨w.heap.size + 1, 0, none⟩)) := h.old (by kernel_rfl)
      rw [if_pos (by rfl)]
      obtain ⟨p0_, p1_, p2_, p3_, pf_⟩ := (PP.out.go hA).facts
      obtain ⟨v00_, v01_, v02_, v0f_⟩ := (VV0.out.go hA).facts
      go_simp
      exact hK _ _ (fun _ _ _ h => h) (isE.mk rfl) ⟨(Js.nil (hA)), (Fn.neutral h.world.2 (by decide) (by decide) _)⟩
    case r3 =>
      intro listed a u h hu hd K hK
      have hA : (fun W => Below w1.heap.size w1 W) u := h.world.1
      obtain ⟨v24, ev24, em24, F24⟩ := h.slot (i := 2) rfl rfl (hd _ (Array.mem_of_getElem? (i := 0) rfl) rfl)
      have q24 := isE.out F24
      have e24 := ev24.trans q24
      have f24 := em24.trans (congrArg some q24)
      clear ev24 em24 F24
      rw [if_pos (by rfl)]
      go_simp
      refine (laws_toVector _ _ _ _).mono ?_
      rintro e u2 ⟨rfl, hb⟩
      have hR : Gw u u2 := hb
      exact hK _ _ (fun j v hn hF => AllStX.fact0 (R := Gw) (i := 3) (by exact ⟨fun _ _ _ _ _ h => h, fun _ _ _ _ hW h => isT.go h hW, fun _ _ _ _ _ h => h, fun hn => absurd rfl hn, fun _ _ _ _ hW h => isCB.go h hW, fun _ _ _ _ hW h => isCB.go h hW, fun _ _ _ _ hW h => isC.go h hW, fun _ _ _ _ _ h => h, fun _ _ _ _ hW h => isA.go h hW, fun _ _ _ _ _ h => h, fun _ _ _ _ _ h => h, trivial⟩) hR j v hn hF) (isE.mk rfl) ⟨(Js.nil (hA.trans (hb.mono hA.size))), (Fn.no (RI3.wait' h (getD_un hu) (T := 9) rfl (Array.mem_of_getElem? (i := 6) rfl) rfl rfl) (by decide))⟩
    case r4 =>
      intro listed a u h hu hd K hK
      have hA : (fun W => Below w1.heap.size w1 W) u := h.world.1
      obtain ⟨v23, ev23, em23, F23⟩ := h.slot (i := 1) rfl rfl (hd _ (Array.mem_of_getElem? (i := 0) rfl) rfl)
      obtain ⟨aa23, ab23, ac23, ad23, q23, ho23⟩ : isT w1.heap.size n1 n2 n3 n4 D v23 u := F23
      have e23 := ev23.trans q23
      have f23 := em23.trans (congrArg some q23)
      clear ev23 em23
      obtain ⟨v25, ev25, em25, F25⟩ := h.slot (i := 3) rfl rfl (hd _ (Array.mem_of_getElem? (i := 1) rfl) rfl)
      have q25 := isE.out F25
      have e25 := ev25.trans q25
      have f25 := em25.trans (congrArg some q25)
      clear ev25 em25 F25
      rw [if_pos (by rfl)]
      go_simp
      refine (spec_MoveChain _ _ _ _ _ _ _ _ n1 n2 n3 n4 _ D p u (ho23)).mono ?_
      rintro e u2 hr
      obtain ⟨S1, S2, S3, S4, d1, d2, d3, d4, DS, rfl, hs, ho, _, hb⟩ := hr.g HL1.out HL2.out HL3.out HL4.out
      have hR : Gw u u2 := hb
      exact hK _ _ (fun j v hn hF => AllStX.fact0 (R := Gw) (i := 4) (by exact ⟨fun _ _ _ _ _ h => h, fun _ _ _ _ hW h => isT.go h hW, fun _ _ _ _ _ h => h, fun _ _ _ _ _ h => h, fun hn => absurd rfl hn, fun _ _ _ _ hW h => isCB.go h hW, fun _ _ _ _ hW h => isC.go h hW, fun _ _ _ _ _ h => h, fun _ _ _ _ hW h => isA.go h hW, fun _ _ _ _ _ h => h, fun _ _ _ _ _ h => h, trivial⟩) hR j v hn hF) ⟨S1, S2, S3, S4, d1, d2, d3, d4, DS, rfl, hs, ho.mono hA.size⟩ ⟨(Js.nil (hA.trans (hb.mono hA.size))), (Fn.no (RI3.wait' h (getD_un hu) (T := 9) rfl (Array.mem_of_getElem? (i := 2) rfl) rfl rfl) (by decide))⟩
    case r5 =>
      intro listed a u h hu hd K hK
      obtain ⟨v26, ev26, em26, F26⟩ := h.slot (i := 4) rfl rfl (hd _ (Array.mem_of_getElem? (i := 0) rfl) rfl)
      obtain ⟨CA26, CB26, CC26, CD26, ca26, cb26, cc26, cd26, DD26, q26, sd26, ho26⟩ : isCB (okC n1 n2 n3 n4 D && (true && okC n1 n2 n3 n4 (movD D p n1))) w1.heap.size l1 l2 l3 l4 (movD D p n1) v26 u := F26
      have e26 := ev26.trans q26
      have f26 := em26.trans (congrArg some q26)
      clear ev26 em26
      rw [if_pos (by rfl)]
      go_simp
      exact hK _ _ (fun _ _ _ h => h) (⟨CA26, CB26, CC26, CD26, ca26, cb26, cc26, cd26, DD26, rfl, sd26, ho26⟩) ⟨(Js.neutral h.world.1 rfl), (Fn.neutral h.world.2 (by decide) (by decide) _)⟩
    case r6 =>
      intro listed a u h hu hd K hK
      obtain ⟨v21, ev21, em21, F21⟩ := h.slot (i := 5) rfl rfl (hd _ (Array.mem_of_getElem? (i := 0) rfl) rfl)
      obtain ⟨CA21, CB21, CC21, CD21, ca21, cb21, cc21, cd21, DD21, q21, sd21, ho21⟩ : isCB (okC n1 n2 n3 n4 D && (true && okC n1 n2 n3 n4 (movD D p n1))) w1.heap.size l1 l2 l3 l4 (movD D p n1) v21 u := F21
      have e21 := ev21.trans q21
      have f21 := em21.trans (congrArg some q21)
      clear ev21 em21
      rw [if_pos (by rfl)]
      go_simp
      exact hK _ _ (fun _ _ _ h => h) (⟨CA21, CB21, CC21, CD21, ca21, cb21, cc21, cd21, DD21, rfl, sd21, ho21⟩) ⟨(Js.neutral h.world.1 rfl), (Fn.neutral h.world.2 (by decide) (by decide) _)⟩
    case r7 =>
      intro listed a u h hu hd K hK
      obtain ⟨v21, ev21, em21, F21⟩ := h.slot (i := 5) rfl rfl (hd _ (Array.mem_of_getElem? (i := 0) rfl) rfl)
      obtain ⟨CA21, CB21, CC21, CD21, ca21, cb21, cc21, cd21, DD21, q21, sd21, ho21⟩ : isCB (okC n1 n2 n3 n4 D && (true && okC n1 n2 n3 n4 (movD D p n1))) w1.heap.size l1 l2 l3 l4 (movD D p n1) v21 u := F21
      have e21 := ev21.trans q21
      have f21 := em21.trans (congrArg some q21)
      clear ev21 em21
      rw [if_pos (by rfl)]
      go_simp
      exact hK _ _ (fun _ _ _ h => h) (isE.mk rfl) ⟨(Js.neutral h.world.1 rfl), (Fn.neutral h.world.2 (by decide) (by decide) _)⟩
    case r8 =>
      intro listed a u h hu hd K hK
      have hA : (fun W => Below w1.heap.size w1 W) u := h.world.1
      rw [if_pos (by rfl)]
      go_simp
      have hR : Gw u (u.alloc (.cells #[sn, sn, sn, sn] 32)) := Below.alloc (Below.refl _ _) (Nat.le_refl _) _
      exact hK _ _ (fun j v hn hF => AllStX.fact0 (R := Gw) (i := 8) (by exact ⟨fun _ _ _ _ _ h => h, fun _ _ _ _ hW h => isT.go h hW, fun _ _ _ _ _ h => h, fun _ _ _ _ _ h => h, fun _ _ _ _ hW h => isCB.go h hW, fun _ _ _ _ hW h => isCB.go h hW, fun _ _ _ _ hW h => isC.go h hW, fun _ _ _ _ _ h => h, fun hn => absurd rfl hn, fun _ _ _ _ _ h => h, fun _ _ _ _ _ h => h, trivial⟩) hR j v hn hF) ⟨_, _, _, _, _, rfl, hA.size, Bx.new_ _ _ _ _ _ _⟩ ⟨(Js.nil (Below.alloc hA hA.size _)), (Fn.no (RI3.wait' h (getD_un hu) (T := 9) rfl (Array.mem_of_getElem? (i := 0) rfl) rfl rfl) (by decide))⟩
    case r9 =>
      intro listed a u h hu hd K hK
      have hA : (fun W => Below w1.heap.size w1 W) u := h.world.1
      obtain ⟨v6, ev6, em6, F6⟩ := h.slot (i := 8) rfl rfl (hd _ (Array.mem_of_getElem? (i := 0) rfl) rfl)
      obtain ⟨k6, xa6, xb6, xc6, xd6, q6, hk6, hx6⟩ : isA w1.heap.size v6 u := F6
      have e6 := ev6.trans q6
      have f6 := em6.trans (congrArg some q6)
      clear ev6 em6
      obtain ⟨v27, ev27, em27, F27⟩ := h.slot (i := 6) rfl rfl (hd _ (Array.mem_of_getElem? (i := 1) rfl) rfl)
      obtain ⟨CA27, CB27, CC27, CD27, ca27, cb27, cc27, cd27, DD27, q27, sd27, ho27⟩ : isC w1.heap.size l1 l2 l3 l4 (movD D p n1) v27 u := F27
      have e27 := ev27.trans q27
      have f27 := em27.trans (congrArg some q27)
      clear ev27 em27
      rw [if_pos (by rfl)]
      obtain ⟨p0_, p1_, p2_, p3_, pf_⟩ := (PP.out.go hA).facts
      obtain ⟨v00_, v01_, v02_, v0f_⟩ := (VV0.out.go hA).facts
      obtain ⟨g0, g1, g2, g3, gf⟩ := hx6.facts
      have lg := hx6.lt
      go_simp
      have hY := hx6.setAll (.slice CA27 l1 ca27) (.slice CB27 l2 cb27) (.slice CC27 l3 cc27) (.slice CD27 l4 cd27)
      have hW := Wr.set4 u k6 (.slice CA27 l1 ca27) (.slice CB27 l2 cb27) (.slice CC27 l3 cc27) (.slice CD27 l4 cd27)
      have hR : Cw u ((((u.setCell ⟨k6, 0, none⟩ (.slice CA27 l1 ca27)).setCell ⟨k6, 1, none⟩ (.slice CB27 l2 cb27)).setCell ⟨k6, 2, none⟩ (.slice CC27 l3 cc27)).setCell ⟨k6, 3, none⟩ (.slice CD27 l4 cd27)) := ⟨_, _, _, _, _, _, _, _, _, hx6, hW, hY⟩
      exact hK undef _ (fun j v hn hF => AllStX.fact0 (R := Cw) (i := 9) (by exact ⟨fun _ _ _ _ _ h => h, fun _ _ _ _ hW h => isT.st h hW, fun _ _ _ _ _ h => h, fun _ _ _ _ _ h => h, fun _ _ _ _ hW h => isCB.st h hW, fun _ _ _ _ hW h => isCB.st h hW, fun _ _ _ _ hW h => isC.st h hW, fun _ _ _ _ _ h => h, fun _ _ _ _ hW h => isA.st h hW, fun hn => absurd rfl hn, fun _ _ _ _ _ h => h, trivial⟩) hR j v hn hF) trivial ⟨(Js.nil ((Bx.bel hA hk6 _ _ _ _))), (Fn.hit f6 (⟨k6, CA27, CB27, CC27, CD27, ca27, cb27, cc27, cd27, DD27, rfl, hk6, hY, sd27, ho27.off hx6 hW⟩))⟩
    case r10 =>
      intro listed a u h hu hd K hK
      obtain ⟨v28, ev28, em28, F28⟩ := h.slot (i := 7) rfl rfl (hd _ (Array.mem_of_getElem? (i := 0) rfl) rfl)
      have q28 := isE.out F28
      have e28 := ev28.trans q28
      have f28 := em28.trans (congrArg some q28)
      clear ev28 em28 F28
      rw [if_pos (by rfl)]
      go_simp
      exact hK _ _ (fun _ _ _ h => h) (isE.mk rfl) ⟨(Js.neutral h.world.1 rfl), (Fn.neutral h.world.2 (by decide) (by decide) _)⟩
    case hend =>
      intro listed a u h hall
      have hB : (fun W => Below w1.heap.size w1 W) u := h.world.1
      obtain ⟨m6, hm6, hf6⟩ := h.world.2 (hall 9 (by decide))
      obtain ⟨v6, ev6, em6, F6⟩ := h.slot (i := 8) rfl rfl (hall 8 (by decide))
      obtain ⟨k6, xa6, xb6, xc6, xd6, q6, hk6, hx6⟩ : isA w1.heap.size v6 u := F6
      have f6 := em6.trans (congrArg some q6)
      clear ev6 em6
      obtain ⟨v7, ev7, em7, F7⟩ := h.slot (i := 10) rfl rfl (hall 10 (by decide))
      have q7 := isE.out F7
      have f7 := em7.trans (congrArg some q7)
      clear ev7 em7 F7
      obtain ⟨v21, ev21, em21, F21⟩ := h.slot (i := 5) rfl rfl (hall 5 (by decide))
      obtain ⟨CA21, CB21, CC21, CD21, ca21, cb21, cc21, cd21, DD21, q21, sd21, ho21⟩ : isCB (okC n1 n2 n3 n4 D && (true && okC n1 n2 n3 n4 (movD D p n1))) w1.heap.size l1 l2 l3 l4 (movD D p n1) v21 u := F21
      have f21 := em21.trans (congrArg some q21)
      clear ev21 em21
      obtain ⟨v22, ev22, em22, F22⟩ := h.slot (i := 0) rfl rfl (hall 0 (by decide))
      have q22 := isE.out F22
      have f22 := em22.trans (congrArg some q22)
      clear ev22 em22 F22
      obtain ⟨v23, ev23, em23, F23⟩ := h.slot (i := 1) rfl rfl (hall 1 (by decide))
      obtain ⟨aa23, ab23, ac23, ad23, q23, ho23⟩ : isT w1.heap.size n1 n2 n3 n4 D v23 u := F23
      have f23 := em23.trans (congrArg some q23)
      clear ev23 em23
      obtain ⟨v24, ev24, em24, F24⟩ := h.slot (i := 2) rfl rfl (hall 2 (by decide))
      have q24 := isE.out F24
      have f24 := em24.trans (congrArg some q24)
      clear ev24 em24 F24
      obtain ⟨v25, ev25, em25, F25⟩ := h.slot (i := 3) rfl rfl (hall 3 (by decide))
      have q25 := isE.out F25
      have f25 := em25.trans (congrArg some q25)
      clear ev25 em25 F25
      obtain ⟨v26, ev26, em26, F26⟩ := h.slot (i := 4) rfl rfl (hall 4 (by decide))
      obtain ⟨CA26, CB26, CC26, CD26, ca26, cb26, cc26, cd26, DD26, q26, sd26, ho26⟩ : isCB (okC n1 n2 n3 n4 D && (true && okC n1 n2 n3 n4 (movD D p n1))) w1.heap.size l1 l2 l3 l4 (movD D p n1) v26 u := F26
      have f26 := em26.trans (congrArg some q26)
      clear ev26 em26
      obtain ⟨v27, ev27, em27, F27⟩ := h.slot (i := 6) rfl rfl (hall 6 (by decide))
      obtain ⟨CA27, CB27, CC27, CD27, ca27, cb27, cc27, cd27, DD27, q27, sd27, ho27⟩ : isC w1.heap.size l1 l2 l3 l4 (movD D p n1) v27 u := F27
      have f27 := em27.trans (congrArg some q27)
      clear ev27 em27
      obtain ⟨v28, ev28, em28, F28⟩ := h.slot (i := 7) rfl rfl (hall 7 (by decide))
      have q28 := isE.out F28
      have f28 := em28.trans (congrArg some q28)
      clear ev28 em28 F28
      obtain rfl : m6 = _ := Option.some.inj (hm6.symm.trans f6)
      have ha := h.act [6, 7, 21, 22, 23, 24, 25, 26, 27, 28] [_, _, _, _, _, _, _, _, _, _] (by kernel_rfl) ⟨f6, f7, f21, f22, f23, f24, f25, f26, f27, f28, trivial⟩
      clear f6 f7 f21 f22 f23 f24 f25 f26 f27 f28
      simp only [setAll, List.setIfInBounds_toArray, List.set_cons_zero, List.set_cons_succ] at ha
      subst ha
      clear h hall
      obtain ⟨w3, rfl⟩ : ∃ z : World, z = u := ⟨u, rfl⟩
      obtain ⟨kS, S1, S2, S3, S4, Sc1, Sc2, Sc3, Sc4, DS, hke, hkS, hxS, hsS, hoS⟩ := hf6
      cases hke
      have SS := Lib.hid hsS
      have XS := Lib.hid hxS
      have OS := Lib.hid hoS
      have lS := hxS.lt
      have P3 := Lib.hid (PP.out.go hB)
      have V30 := Lib.hid (VV0.out.go hB)
      have B3 := Lib.hid (below_step BB.out hB)
      have y3 := hB.size
      have lP3 := P3.out.lt
      have lV30 := V30.out.lt
      have DS_ := Lib.hid hoS.bds
      clear hsS hxS hoS hB hw0 PP BB hm6 VV0
      obtain ⟨p0, p1, p2, p3, pf⟩ := P3.out.facts
      go_wp2_with fail
      refine (laws_toChain A1 A2 A3 A4 c1 c2 c3 c4 n1 n2 n3 n4 D k1 k2 k3 k4 _ ((HC.out.go B3.out).i1) ((HC.out.go B3.out).i2) ((HC.out.go B3.out).i3) ((HC.out.go B3.out).i4)).mono ?_
      rintro e w4 ⟨x1, x2, x3, x4, rfl, ho4, hb4⟩
      clear p0 p1 p2 p3 pf
      go_upto_region 7 with fail
      have DX := Lib.hid ho4.bds
      have hb5 : Below w4.heap.size w4 (w4.alloc (.cells #[.slice (some ⟨x1, 0, none⟩) n1 n1, .slice (some ⟨x2, 0, none⟩) n2 n2, .slice (some ⟨x3, 0, none⟩) n3 n3, .slice (some ⟨x4, 0, none⟩) n4 n4] 32)) := Below.alloc (Below.refl _ _) (Nat.le_refl _) _
      have hx5 := Bx.new_ w4 32 (.slice (some ⟨x1, 0, none⟩) n1 n1) (.slice (some ⟨x2, 0, none⟩) n2 n2) (.slice (some ⟨x3, 0, none⟩) n3 n3) (.slice (some ⟨x4, 0, none⟩) n4 n4)
      have y4 := hb4.size
      generalize hw5 : w4.alloc (.cells #[.slice (some ⟨x1, 0, none⟩) n1 n1, .slice (some ⟨x2, 0, none⟩) n2 n2, .slice (some ⟨x3, 0, none⟩) n3 n3, .slice (some ⟨x4, 0, none⟩) n4 n4] 32) = w5 at hb5 hx5 ⊢
      clear hw5
      have y5 := hb5.size
      have l5 := hx5.lt
      have XX := Lib.hid hx5
      have OX := Lib.hid (ho4.go hb5)
      have PP := Lib.hid ((P3.out.go hb4).go hb5)
      have VV0 := Lib.hid ((V30.out.go hb4).go hb5)
      have XS5 := Lib.hid ((XS.out.go hb4).go hb5)
      have OS5 := Lib.hid ((OS.out.go hb4).go hb5)
      have BB := Lib.hid (below_step (below_step B3.out hb4) hb5)
      clear hb4 hb5 ho4 hx5 P3 B3 XS OS V30
      have hw0 : Below w5.heap.size w5 w5.drew := (Below.refl _ _).drew
      refine region_inv3 [fun v _ => isE (.agg #[.slice (some ⟨x1, 0, none⟩) n1 n1, .slice (some ⟨x2, 0, none⟩) n2 n2, .slice (some ⟨x3, 0, none⟩) n3 n3, .slice (some ⟨x4, 0, none⟩) n4 n4]) v, fun v _ => isE (.agg #[.float .f32 p.x, .float .f32 p.y, .float .f32 p.z]) v, fun v _ => isE (.agg #[.float .f32 p.x, .float .f32 p.y, .float .f32 p.z]) v, isCB (okC n1 n2 n3 n4 D && (true && okC n1 n2 n3 n4 (movD D p n1))) w5.heap.size l1 l2 l3 l4 (movD D p n1), isCB (okC n1 n2 n3 n4 D && (true && okC n1 n2 n3 n4 (movD D p n1))) w5.heap.size l1 l2 l3 l4 (movD D p n1), isC w5.heap.size l1 l2 l3 l4 (movD D p n1), fun v _ => isE (.bool (okC n1 n2 n3 n4 D && (true && okC n1 n2 n3 n4 (movD D p n1)))) v, isA w5.heap.size, fun _ _ => True, fun v _ => isE (.bool (okC n1 n2 n3 n4 D && (true && okC n1 n2 n3 n4 (movD D p n1)))) v] (fun l a W => Js [] (fun W => Below w5.heap.size w5 W) l W ∧ Fn 8 9 (isAC w5.heap.size w5.heap.size l1 l2 l3 l4 (movD D p n1)) l a W) (by kernel_rfl) (by kernel_rfl) (by kernel_rfl) ⟨Js.nil hw0, Fn.first⟩ ⟨?r0, ?r1, ?r2, ?r3, ?r4, ?r5, ?r6, ?r7, ?r8, ?r9, trivial⟩ ?hend
      case r0 =>
        intro listed a u h hu hd K hK
        have hA : (fun W => Below w5.heap.size w5 W) u := h.world.1
        have e8 : a.tmps.getD 8 undef = .pointer (some ⟨w4.heap.size, 0, none⟩) := h.base (by kernel_rfl)
        have f8 : a.tmps[8]? = some (.pointer (some ⟨w4.heap.size, 0, none⟩)) := h.old (by kernel_rfl)
        rw [if_pos (by rfl)]
        obtain ⟨p0_, p1_, p2_, p3_, pf_⟩ := (PP.out.go hA).facts
        obtain ⟨v00_, v01_, v02_, v0f_⟩ := (VV0.out.go hA).facts
        obtain ⟨y0_, y1_, y2_, y3_, yf_⟩ := (XX.out.go hA).facts
        go_simp
        exact hK _ _ (fun _ _ _ h => h) (isE.mk rfl) ⟨(Js.nil (hA)), (Fn.neutral h.world.2 (by decide) (by decide) _)⟩
      case r1 =>
        intro listed a u h hu hd K hK
        have hA : (fun W => Below w5.heap.size w5 W) u := h.world.1
        have e3 : a.tmps.getD 3 undef = .pointer (some ⟨w.heap.size + 1, 0, none⟩) := h.base (by kernel_rfl)
        have f3 : a.tmps[3]? = some (.pointer (some ⟨w.heap.size + 1, 0, none⟩)) := h.old (by kernel_rfl)
        rw [if_pos (by rfl)]
        obtain ⟨p0_, p1_, p2_, p3_, pf_⟩ := (PP.out.go hA).facts
        obtain ⟨v00_, v01_, v02_, v0f_⟩ := (VV0.out.go hA).facts
        obtain ⟨y0_, y1_, y2_, y3_, yf_⟩ := (XX.out.go hA).facts
        go_simp
        exact hK _ _ (fun _ _ _ h => h) (isE.mk rfl) ⟨(Js.nil (hA)), (Fn.neutral h.world.2 (by decide) (by decide) _)⟩
      case r2 =>
        intro listed a u h hu hd K hK
        have hA : (fun W => Below w5.heap.size w5 W) u := h.world.1
        obtain ⟨v33, ev33, em33, F33⟩ := h.slot (i := 1) rfl rfl (hd _ (Array.mem_of_getElem? (i := 0) rfl) rfl)
        have q33 := isE.out F33
        have e33 := ev33.trans q33
        have f33 := em33.trans (congrArg some q33)
        clear ev33 em33 F33
        rw [if_pos (by rfl)]
        go_simp
        refine (laws_toVector _ _ _ _).mono ?_
        rintro e u2 ⟨rfl, hb⟩
        have hR : Gw u u2 := hb
        exact hK _ _ (fun j v hn hF => AllStX.fact0 (R := Gw) (i := 2) (by exact ⟨fun _ _ _ _ _ h => h, fun _ _ _ _ _ h => h, fun hn => absurd rfl hn, fun _ _ _ _ hW h => isCB.go h hW, fun _ _ _ _ hW h => isCB.go h hW, fun _ _ _ _ hW h => isC.go h hW, fun _ _ _ _ _ h => h, fun _ _ _ _ hW h => isA.go h hW, fun _ _ _ _ _ h => h, fun _ _ _ _ _ h => h, trivial⟩) hR j v hn hF) (isE.mk rfl) ⟨(Js.nil (hA.trans (hb.mono hA.size))), (Fn.no (RI3.wait' h (getD_un hu) (T := 8) rfl (Array.mem_of_getElem? (i := 5) rfl) rfl rfl) (by decide))⟩
      case r3 =>
        intro listed a u h hu hd K hK
        have hA : (fun W => Below w5.heap.size w5 W) u := h.world.1
        obtain ⟨v32, ev32, em32, F32⟩ := h.slot (i := 0) rfl rfl (hd _ (Array.mem_of_getElem? (i := 0) rfl) rfl)
        have q32 := isE.out F32
        have e32 := ev32.trans q32
        have f32 := em32.trans (congrArg some q32)
        clear ev32 em32 F32
        obtain ⟨v34, ev34, em34, F34⟩ := h.slot (i := 2) rfl rfl (hd _ (Array.mem_of_getElem? (i := 1) rfl) rfl)
        have q34 := isE.out F34
        have e34 := ev34.trans q34
        have f34 := em34.trans (congrArg some q34)
        clear ev34 em34 F34
        rw [if_pos (by rfl)]
        go_simp
        refine (impl_MoveChain _ _ _ _ _ _ _ _ n1 n2 n3 n4 _ D p u (OX.out.go hA)).mono ?_
        rintro e u2 hr
        obtain ⟨S1, S2, S3, S4, d1, d2, d3, d4, DS, rfl, hs, ho, _, hb⟩ := hr.g HL1.out HL2.out HL3.out HL4.out
        have hR : Gw u u2 := hb
        exact hK _ _ (fun j v hn hF => AllStX.fact0 (R := Gw) (i := 3) (by exact ⟨fun _ _ _ _ _ h => h, fun _ _ _ _ _ h => h, fun _ _ _ _ _ h => h, fun hn => absurd rfl hn, fun _ _ _ _ hW h => isCB.go h hW, fun _ _ _ _ hW h => isC.go h hW, fun _ _ _ _ _ h => h, fun _ _ _ _ hW h => isA.go h hW, fun _ _ _ _ _ h => h, fun _ _ _ _ _ h => h, trivial⟩) hR j v hn hF) ⟨S1, S2, S3, S4, d1, d2, d3, d4, DS, rfl, hs, ho.mono hA.size⟩ ⟨(Js.nil (hA.trans (hb.mono hA.size))), (Fn.no (RI3.wait' h (getD_un hu) (T := 8) rfl (Array.mem_of_getElem? (i := 2) rfl) rfl rfl) (by decide))⟩
      case r4 =>
        intro listed a u h hu hd K hK
        obtain ⟨v35, ev35, em35, F35⟩ := h.slot (i := 3) rfl rfl (hd _ (Array.mem_of_getElem? (i := 0) rfl) rfl)
        obtain ⟨CA35, CB35, CC35, CD35, ca35, cb35, cc35, cd35, DD35, q35, sd35, ho35⟩ : isCB (okC n1 n2 n3 n4 D && (true && okC n1 n2 n3 n4 (movD D p n1))) w5.heap.size l1 l2 l3 l4 (movD D p n1) v35 u := F35
        have e35 := ev35.trans q35
        have f35 := em35.trans (congrArg some q35)
        clear ev35 em35
        rw [if_pos (by rfl)]
        go_simp
        exact hK _ _ (fun _ _ _ h => h) (⟨CA35, CB35, CC35, CD35, ca35, cb35, cc35, cd35, DD35, rfl, sd35, ho35⟩) ⟨(Js.neutral h.world.1 rfl), (Fn.neutral h.world.2 (by decide) (by decide) _)⟩
      case r5 =>
        intro listed a u h hu hd K hK
        obtain ⟨v31, ev31, em31, F31⟩ := h.slot (i := 4) rfl rfl (hd _ (Array.mem_of_getElem? (i := 0) rfl) rfl)
        obtain ⟨CA31, CB31, CC31, CD31, ca31, cb31, cc31, cd31, DD31, q31, sd31, ho31⟩ : isCB (okC n1 n2 n3 n4 D && (true && okC n1 n2 n3 n4 (movD D p n1))) w5.heap.size l1 l2 l3 l4 (movD D p n1) v31 u := F31
        have e31 := ev31.trans q31
        have f31 := em31.trans (congrArg some q31)
        clear ev31 em31
        rw [if_pos (by rfl)]
        go_simp
        exact hK _ _ (fun _ _ _ h => h) (⟨CA31, CB31, CC31, CD31, ca31, cb31, cc31, cd31, DD31, rfl, sd31, ho31⟩) ⟨(Js.neutral h.world.1 rfl), (Fn.neutral h.world.2 (by decide) (by decide) _)⟩
      case r6 =>
        intro listed a u h hu hd K hK
        obtain ⟨v31, ev31, em31, F31⟩ := h.slot (i := 4) rfl rfl (hd _ (Array.mem_of_getElem? (i := 0) rfl) rfl)
        obtain ⟨CA31, CB31, CC31, CD31, ca31, cb31, cc31, cd31, DD31, q31, sd31, ho31⟩ : isCB (okC n1 n2 n3 n4 D && (true && okC n1 n2 n3 n4 (movD D p n1))) w5.heap.size l1 l2 l3 l4 (movD D p n1) v31 u := F31
        have e31 := ev31.trans q31
        have f31 := em31.trans (congrArg some q31)
        clear ev31 em31
        rw [if_pos (by rfl)]
        go_simp
        exact hK _ _ (fun _ _ _ h => h) (isE.mk rfl) ⟨(Js.neutral h.world.1 rfl), (Fn.neutral h.world.2 (by decide) (by decide) _)⟩
      case r7 =>
        intro listed a u h hu hd K hK
        have hA : (fun W => Below w5.heap.size w5 W) u := h.world.1
        rw [if_pos (by rfl)]
        go_simp
        have hR : Gw u (u.alloc (.cells #[sn, sn, sn, sn] 32)) := Below.alloc (Below.refl _ _) (Nat.le_refl _) _
        exact hK _ _ (fun j v hn hF => AllStX.fact0 (R := Gw) (i := 7) (by exact ⟨fun _ _ _ _ _ h => h, fun _ _ _ _ _ h => h, fun _ _ _ _ _ h => h, fun _ _ _ _ hW h => isCB.go h hW, fun _ _ _ _ hW h => isCB.go h hW, fun _ _ _ _ hW h => isC.go h hW, fun _ _ _ _ _ h => h, fun hn => absurd rfl hn, fun _ _ _ _ _ h => h, fun _ _ _ _ _ h => h, trivial⟩) hR j v hn hF) ⟨_, _, _, _, _, rfl, hA.size, Bx.new_ _ _ _ _ _ _⟩ ⟨(Js.nil (Below.alloc hA hA.size _)), (Fn.no (RI3.wait' h (getD_un hu) (T := 8) rfl (Array.mem_of_getElem? (i := 0) rfl) rfl rfl) (by decide))⟩
      case r8 =>
        intro listed a u h hu hd K hK
        have hA : (fun W => Below w5.heap.size w5 W) u := h.world.1
        obtain ⟨v9, ev9, em9, F9⟩ := h.slot (i := 7) rfl rfl (hd _ (Array.mem_of_getElem? (i := 0) rfl) rfl)
        obtain ⟨k9, xa9, xb9, xc9, xd9, q9, hk9, hx9⟩ : isA w5.heap.size v9 u := F9
        have e9 := ev9.trans q9
        have f9 := em9.trans (congrArg some q9)
        clear ev9 em9
        obtain ⟨v36, ev36, em36, F36⟩ := h.slot (i := 5) rfl rfl (hd _ (Array.mem_of_getElem? (i := 1) rfl) rfl)
        obtain ⟨CA36, CB36, CC36, CD36, ca36, cb36, cc36, cd36, DD36, q36, sd36, ho36⟩ : isC w5.heap.size l1 l2 l3 l4 (movD D p n1) v36 u := F36
        have e36 := ev36.trans q36
        have f36 := em36.trans (congrArg some q36)
        clear ev36 em36
        rw [if_pos (by rfl)]
        obtain ⟨p0_, p1_, p2_, p3_, pf_⟩ := (PP.out.go hA).facts
        obtain ⟨v00_, v01_, v02_, v0f_⟩ := (VV0.out.go hA).facts
        obtain ⟨y0_, y1_, y2_, y3_, yf_⟩ := (XX.out.go hA).facts
        obtain ⟨g0, g1, g2, g3, gf⟩ := hx9.facts
        have lg := hx9.lt
        go_simp
        have hY := hx9.setAll (.slice CA36 l1 ca36) (.slice CB36 l2 cb36) (.slice CC36 l3 cc36) (.slice CD36 l4 cd36)
        have hW := Wr.set4 u k9 (.slice CA36 l1 ca36) (.slice CB36 l2 cb36) (.slice CC36 l3 cc36) (.slice CD36 l4 cd36)
        have hR : Cw u ((((u.setCell ⟨k9, 0, none⟩ (.slice CA36 l1 ca36)).setCell ⟨k9, 1, none⟩ (.slice CB36 l2 cb36)).setCell ⟨k9, 2, none⟩ (.slice CC36 l3 cc36)).setCell ⟨k9, 3, none⟩ (.slice CD36 l4 cd36)) := ⟨_, _, _, _, _, _, _, _, _, hx9, hW, hY⟩
        exact hK undef _ (fun j v hn hF => AllStX.fact0 (R := Cw) (i := 8) (by exact ⟨fun _ _ _ _ _ h => h, fun _ _ _ _ _ h => h, fun _ _ _ _ _ h => h, fun _ _ _ _ hW h => isCB.st h hW, fun _ _ _ _ hW h => isCB.st h hW, fun _ _ _ _ hW h => isC.st h hW, fun _ _ _ _ _ h => h, fun _ _ _ _ hW h => isA.st h hW, fun hn => absurd rfl hn, fun _ _ _ _ _ h => h, trivial⟩) hR j v hn hF) trivial ⟨(Js.nil ((Bx.bel hA hk9 _ _ _ _))), (Fn.hit f9 (⟨k9, CA36, CB36, CC36, CD36, ca36, cb36, cc36, cd36, DD36, rfl, hk9, hY, sd36, ho36.off hx9 hW⟩))⟩
      case r9 =>
        intro listed a u h hu hd K hK
        obtain ⟨v37, ev37, em37, F37⟩ := h.slot (i := 6) rfl rfl (hd _ (Array.mem_of_getElem? (i := 0) rfl) rfl)
        have q37 := isE.out F37
        have e37 := ev37.trans q37
        have f37 := em37.trans (congrArg some q37)
        clear ev37 em37 F37
        rw [if_pos (by rfl)]
        go_simp
        exact hK _ _ (fun _ _ _ h => h) (isE.mk rfl) ⟨(Js.neutral h.world.1 rfl), (Fn.neutral h.world.2 (by decide) (by decide) _)⟩
      case hend =>
        intro listed a u h hall
        have hB : (fun W => Below w5.heap.size w5 W) u := h.world.1
        obtain ⟨m9, hm9, hf9⟩ := h.world.2 (hall 8 (by decide))
        obtain ⟨v9, ev9, em9, F9⟩ := h.slot (i := 7) rfl rfl (hall 7 (by decide))
        obtain ⟨k9, xa9, xb9, xc9, xd9, q9, hk9, hx9⟩ : isA w5.heap.size v9 u := F9
        have f9 := em9.trans (congrArg some q9)
        clear ev9 em9
        obtain ⟨v10, ev10, em10, F10⟩ := h.slot (i := 9) rfl rfl (hall 9 (by decide))
        have q10 := isE.out F10
        have f10 := em10.trans (congrArg some q10)
        clear ev10 em10 F10
        obtain ⟨v31, ev31, em31, F31⟩ := h.slot (i := 4) rfl rfl (hall 4 (by decide))
        obtain ⟨CA31, CB31, CC31, CD31, ca31, cb31, cc31, cd31, DD31, q31, sd31, ho31⟩ : isCB (okC n1 n2 n3 n4 D && (true && okC n1 n2 n3 n4 (movD D p n1))) w5.heap.size l1 l2 l3 l4 (movD D p n1) v31 u := F31
        have f31 := em31.trans (congrArg some q31)
        clear ev31 em31
        obtain ⟨v32, ev32, em32, F32⟩ := h.slot (i := 0) rfl rfl (hall 0 (by decide))
        have q32 := isE.out F32
        have f32 := em32.trans (congrArg some q32)
        clear ev32 em32 F32
        obtain ⟨v33, ev33, em33, F33⟩ := h.slot (i := 1) rfl rfl (hall 1 (by decide))
        have q33 := isE.out F33
        have f33 := em33.trans (congrArg some q33)
        clear ev33 em33 F33
        obtain ⟨v34, ev34, em34, F34⟩ := h.slot (i := 2) rfl rfl (hall 2 (by decide))
        have q34 := isE.out F34
        have f34 := em34.trans (congrArg some q34)
        clear ev34 em34 F34
        obtain ⟨v35, ev35, em35, F35⟩ := h.slot (i := 3) rfl rfl (hall 3 (by decide))
        obtain ⟨CA35, CB35, CC35, CD35, ca35, cb35, cc35, cd35, DD35, q35, sd35, ho35⟩ : isCB (okC n1 n2 n3 n4 D && (true && okC n1 n2 n3 n4 (movD D p n1))) w5.heap.size l1 l2 l3 l4 (movD D p n1) v35 u := F35
        have f35 := em35.trans (congrArg some q35)
        clear ev35 em35
        obtain ⟨v36, ev36, em36, F36⟩ := h.slot (i := 5) rfl rfl (hall 5 (by decide))
        obtain ⟨CA36, CB36, CC36, CD36, ca36, cb36, cc36, cd36, DD36, q36, sd36, ho36⟩ : isC w5.heap.size l1 l2 l3 l4 (movD D p n1) v36 u := F36
        have f36 := em36.trans (congrArg some q36)
        clear ev36 em36
        obtain ⟨v37, ev37, em37, F37⟩ := h.slot (i := 6) rfl rfl (hall 6 (by decide))
        have q37 := isE.out F37
        have f37 := em37.trans (congrArg some q37)
        clear ev37 em37 F37
        obtain rfl : m9 = _ := Option.some.inj (hm9.symm.trans f9)
        have ha := h.act [9, 10, 31, 32, 33, 34, 35, 36, 37] [_, _, _, _, _, _, _, _, _] (by kernel_rfl) ⟨f9, f10, f31, f32, f33, f34, f35, f36, f37, trivial⟩
        clear f9 f10 f31 f32 f33 f34 f35 f36 f37
        simp only [setAll, List.setIfInBounds_toArray, List.set_cons_zero, List.set_cons_succ] at ha
        subst ha
        clear h hall
        obtain ⟨w6, rfl⟩ : ∃ z : World, z = u := ⟨u, rfl⟩
        obtain ⟨kG, G1, G2, G3, G4, Gc1, Gc2, Gc3, Gc4, DG, hke, hkG, hxG, hsG, hoG⟩ := hf9
        cases hke
        have SG := Lib.hid hsG
        have XG6 := Lib.hid hxG
        have OG6 := Lib.hid hoG
        have DG_ := Lib.hid hoG.bds
        have lG := hxG.lt
        have XX6 := Lib.hid (XX.out.go hB)
        have OX6 := Lib.hid (OX.out.go hB)
        have P6 := Lib.hid (PP.out.go hB)
        have V60 := Lib.hid (VV0.out.go hB)
        have XS6 := Lib.hid (XS5.out.go hB)
        have OS6 := Lib.hid (OS5.out.go hB)
        have B6 := Lib.hid (below_step BB.out hB)
        have y6 := hB.size
        clear hsG hxG hoG hB hw0 PP BB XX OX XS5 OS5 hm9 VV0
        have hbb : ((okC n1 n2 n3 n4 D && (true && okC n1 n2 n3 n4 (movD D p n1))) != (okC n1 n2 n3 n4 D && (true && okC n1 n2 n3 n4 (movD D p n1)))) = false := by simp
        obtain ⟨v0, v1, v2, v3, vf⟩ := XS6.out.facts
        obtain ⟨q0, q1, q2, q3, qf⟩ := XG6.out.facts
        go_wp2_with fail
        refine (laws_eqChain _ _ _ _ _ _ _ _ _ _ _ _ _ _ _ _ l1 l2 l3 l4 _ _ DG DS j1 j2 j3 j4 (SG.out.trans SS.out.symm) _ OG6.out OS6.out).mono ?_
        rintro e w7 ⟨rfl, hb7⟩
        clear v0 v1 v2 v3 vf q0 q1 q2 q3 qf
        have XG7 := Lib.hid (XG6.out.go hb7)
        have XX7 := Lib.hid (XX6.out.go hb7)
        have XS7 := Lib.hid (XS6.out.go hb7)
        have P7 := Lib.hid (P6.out.go hb7)
        have OX7 := Lib.hid (OX6.out.go hb7)
        have OS7 := Lib.hid (OS6.out.go hb7)
        have OG7 := Lib.hid (OG6.out.go hb7)
        have V70 := Lib.hid (V60.out.go hb7)
        have B7 := Lib.hid (below_step B6.out hb7)
        have y7 := hb7.size
        clear hb7 B6
        clear XG6 XX6 XS6 P6 OX6 OS6 OG6 V60
        obtain ⟨p0, p1, p2, p3, pf⟩ := P7.out.facts
        obtain ⟨q0, q1, q2, q3, qf⟩ := XX7.out.facts
        have lP := P7.out.lt
        have lX := XX7.out.lt
        go_upto_region 10 with fail
        go_cut [51] (fun s wx => s = .bool false ∧ Below w7.heap.size w7 wx)
        case first =>
          go_region_with (first | (go_at_call 25; refine (laws_toChain A1 A2 A3 A4 c1 c2 c3 c4 n1 n2 n3 n4 D k1 k2 k3 k4 _ ((HC.out.go B7.out.drew).i1) ((HC.out.go B7.out.drew).i2) ((HC.out.go B7.out.drew).i3) ((HC.out.go B7.out.drew).i4)).mono ?_; rintro e u2 ⟨y1, y2, y3, y4, rfl, ho7, hb7⟩; have O7 := Lib.hid ho7; have BZ := Lib.hid ((Below.refl w7.heap.size w7).drew.trans hb7); obtain ⟨u0, u1, u2, u3, uf⟩ := (XX7.out.go BZ.out).facts; clear ho7 hb7) | (go_at_call 27; refine (laws_eqChain _ _ _ _ _ _ _ _ _ _ _ _ _ _ _ _ n1 n2 n3 n4 _ _ D D k1 k2 k3 k4 (SimD.refl _ _ _ _ _) _ (OX7.out.go BZ.out) O7.out).mono ?_; rintro e w8 ⟨rfl, hb8⟩; have BY := Lib.hid hb8; clear hb8))
          all_goals
            go_wp2_with fail
            go_meet
            exact ⟨rfl, BZ.out.trans (BY.out.mono BZ.out.size)⟩
        obtain ⟨rfl, hb8⟩ := hcut
        clear p0 p1 p2 p3 pf q0 q1 q2 q3 qf lP lX
        have XG8 := Lib.hid (XG7.out.go hb8)
        have XX8 := Lib.hid (XX7.out.go hb8)
        have XS8 := Lib.hid (XS7.out.go hb8)
        have P8 := Lib.hid (P7.out.go hb8)
        have OX8 := Lib.hid (OX7.out.go hb8)
        have OS8 := Lib.hid (OS7.out.go hb8)
        have OG8 := Lib.hid (OG7.out.go hb8)
        have V80 := Lib.hid (V70.out.go hb8)
        have B8 := Lib.hid (below_step B7.out hb8)
        have y8 := hb8.size
        clear hb8 B7
        clear XG7 XX7 XS7 P7 OX7 OS7 OG7 V70
        obtain ⟨q0, q1, q2, q3, qf⟩ := XX8.out.facts
        have lX := XX8.out.lt
        go_wp2_with fail
        refine (laws_markChain _ _ _ _ _ _ _ _ n1 n2 n3 n4 _ D k1 k2 k3 k4 _ OX8.out).mono ?_
        rintro e w9 ⟨rfl, _, hw9⟩
        have W9 := Lib.hid (hw9.mono (S' := fun k => w3.heap.size ≤ k ∧ k < w4.heap.size) (fun k _ h => blkC_bd DX.out h))
        have XS9 := Lib.hid (XS8.out.wr W9.out (fun h => by have := h.1; omega))
        have XG9 := Lib.hid (XG8.out.wr W9.out (fun h => by have := h.2; omega))
        have P9 := Lib.hid (P8.out.wr W9.out (fun h => by have := h.1; omega))
        have V90 := Lib.hid (V80.out.wr W9.out (fun h => by have := h.1; omega))
        have OS9 := Lib.hid (OS8.out.wr W9.out DS_.out (fun k h1 h2 h => by have := h.1; omega))
        have OG9 := Lib.hid (OG8.out.wr W9.out DG_.out (fun k h1 h2 h => by have := h.2; omega))
        have B9 := Lib.hid (B8.out.trans (W9.out.below B8.out.size (fun k hk h => by have := h.1; omega)))
        have y9 := W9.out.size
        clear hw9 q0 q1 q2 q3 qf lX B8
        clear XG8 XX8 XS8 P8 OX8 OS8 OG8 V80
        have hc0 : ¬ (cnt n1 n2 n3 n4 < 0) := by unfold cnt; omega
        have hc1 : ¬ (cnt l1 l2 l3 l4 < 0) := by unfold cnt; omega
        have hc2 : (cnt l1 l2 l3 l4 != cnt l1 l2 l3 l4) = false := by simp
        obtain ⟨v0, v1, v2, v3, vf⟩ := XS9.out.facts
        obtain ⟨q0, q1, q2, q3, qf⟩ := XG9.out.facts
        go_wp2_with fail
        refine (laws_eqChain _ _ _ _ _ _ _ _ _ _ _ _ _ _ _ _ l1 l2 l3 l4 _ _ DG DS j1 j2 j3 j4 (SG.out.trans SS.out.symm) _ OG9.out OS9.out).mono ?_
        rintro e w10 ⟨rfl, hb10⟩
        clear v0 v1 v2 v3 vf q0 q1 q2 q3 qf
        have XG10 := Lib.hid (XG9.out.go hb10)
        have XS10 := Lib.hid (XS9.out.go hb10)
        have P10 := Lib.hid (P9.out.go hb10)
        have OS10 := Lib.hid (OS9.out.go hb10)
        have OG10 := Lib.hid (OG9.out.go hb10)
        have V100 := Lib.hid (V90.out.go hb10)
        have B10 := Lib.hid (below_step B9.out hb10)
        have y10 := hb10.size
        clear hb10 B9
        clear XG9 XS9 P9 OS9 OG9 V90
        obtain ⟨q0, q1, q2, q3, qf⟩ := XG10.out.facts
        go_wp2_with fail
        refine (laws_markChain _ _ _ _ _ _ _ _ l1 l2 l3 l4 _ DG j1 j2 j3 j4 _ OG10.out).mono ?_
        rintro e w11 ⟨rfl, hm11, hw11⟩
        have XG11 := Lib.hid (XG10.out.wr hw11 (OG10.out.chainN XG10.out))
        have W11 := Lib.hid (hw11.mono (S' := fun k => w5.heap.size ≤ k ∧ k < w6.heap.size) (fun k _ h => blkC_bd DG_.out h))
        have M11 := Lib.hid hm11
        have XS11 := Lib.hid (XS10.out.wr W11.out (fun h => by have := h.1; omega))
        have P11 := Lib.hid (P10.out.wr W11.out (fun h => by have := h.1; omega))
        have V110 := Lib.hid (V100.out.wr W11.out (fun h => by have := h.1; omega))
        have OS11 := Lib.hid (OS10.out.wr W11.out DS_.out (fun k h1 h2 h => by have := h.1; omega))
        have B11 := Lib.hid (B10.out.trans (W11.out.below B10.out.size (fun k hk h => by have := h.1; omega)))
        have y11 := W11.out.size
        clear hw11 hm11 q0 q1 q2 q3 qf B10
        clear XG10 XS10 P10 OS10 OG10 V100
        obtain ⟨q0, q1, q2, q3, qf⟩ := XG11.out.facts
        go_wp2_with fail
        refine (laws_heldChain _ _ _ _ _ _ _ _ l1 l2 l3 l4 _ j1 j2 j3 j4 _ M11.out).mono ?_
        rintro e w12 ⟨rfl, hb12⟩
        clear q0 q1 q2 q3 qf
        have XG12 := Lib.hid (XG11.out.go hb12)
        have XS12 := Lib.hid (XS11.out.go hb12)
        have P12 := Lib.hid (P11.out.go hb12)
        have OS12 := Lib.hid (OS11.out.go hb12)
        have M12 := Lib.hid (M11.out.go hb12)
        have V120 := Lib.hid (V110.out.go hb12)
        have BB := Lib.hid (below_step B11.out hb12)
        clear hb12 B11
        clear XG11 XS11 P11 OS11 M11 V110
        have PP := P12
        have VV0 := V120
        have hw0 : Below w12.heap.size w12 w12.drew := (Below.refl _ _).drew
        go_upto_region 24 with fail
        refine region_inv3 [fun v _ => isE (.agg #[.slice A1 n1 c1, .slice A2 n2 c2, .slice A3 n3 c3, .slice A4 n4 c4]) v, isT w12.heap.size n1 n2 n3 n4 D, fun v _ => isE (.agg #[.float .f32 p.x, .float .f32 p.y, .float .f32 p.z]) v, fun v _ => isE (.agg #[.float .f32 p.x, .float .f32 p.y, .float .f32 p.z]) v, isCB (okC n1 n2 n3 n4 D && (true && okC n1 n2 n3 n4 (movD D p n1))) w12.heap.size l1 l2 l3 l4 (movD D p n1), isCB (okC n1 n2 n3 n4 D && (true && okC n1 n2 n3 n4 (movD D p n1))) w12.heap.size l1 l2 l3 l4 (movD D p n1), isC w12.heap.size l1 l2 l3 l4 (movD D p n1), fun v _ => isE (.bool (okC n1 n2 n3 n4 D && (true && okC n1 n2 n3 n4 (movD D p n1)))) v, isA w12.heap.size, fun _ _ => True, fun v _ => isE (.bool (okC n1 n2 n3 n4 D && (true && okC n1 n2 n3 n4 (movD D p n1)))) v] (fun l a W => Js [] (fun W => Below w12.heap.size w12 W) l W ∧ Fn 9 14 (isAC w12.heap.size w12.heap.size l1 l2 l3 l4 (movD D p n1)) l a W) (by kernel_rfl) (by kernel_rfl) (by kernel_rfl) ⟨Js.nil hw0, Fn.first⟩ ⟨?r0, ?r1, ?r2, ?r3, ?r4, ?r5, ?r6, ?r7, ?r8, ?r9, ?r10, trivial⟩ ?hend
        case r0 =>
          intro listed a u h hu hd K hK
          have hA : (fun W => Below w12.heap.size w12 W) u := h.world.1
          have e2 : a.tmps.getD 2 undef = .pointer (some ⟨w.heap.size, 0, none⟩) := h.base (by kernel_rfl)
          have f2 : a.tmps[2]? = some (.pointer (some ⟨w.heap.size, 0, none⟩)) := h.old (by kernel_rfl)
          rw [if_pos (by rfl)]
          obtain ⟨p0_, p1_, p2_, p3_, pf_⟩ := (PP.out.go hA).facts
          obtain ⟨v00_, v01_, v02_, v0f_⟩ := (VV0.out.go hA).facts
          go_simp
          exact hK _ _ (fun _ _ _ h => h) (isE.mk rfl) ⟨(Js.nil (hA)), (Fn.neutral h.world.2 (by decide) (by decide) _)⟩
        case r1 =>
          intro listed a u h hu hd K hK
          have hA : (fun W => Below w12.heap.size w12 W) u := h.world.1
          obtain ⟨v80, ev80, em80, F80⟩ := h.slot (i := 0) rfl rfl (hd _ (Array.mem_of_getElem? (i := 0) rfl) rfl)
          have q80 := isE.out F80
          have e80 := ev80.trans q80
          have f80 := em80.trans (congrArg some q80)
          clear ev80 em80 F80
          rw [if_pos (by rfl)]
          go_simp
          refine (laws_toChain A1 A2 A3 A4 c1 c2 c3 c4 n1 n2 n3 n4 D k1 k2 k3 k4 _ ((HC.out.go (below_step BB.out hA)).i1) ((HC.out.go (below_step BB.out hA)).i2) ((HC.out.go (below_step BB.out hA)).i3) ((HC.out.go (below_step BB.out hA)).i4)).mono ?_
          rintro e u2 ⟨y1, y2, y3, y4, rfl, ho, hb⟩
          have hR : Gw u u2 := hb
          exact hK _ _ (fun j v hn hF => AllStX.fact0 (R := Gw) (i := 1) (by exact ⟨fun _ _ _ _ _ h => h, fun hn => absurd rfl hn, fun _ _ _ _ _ h => h, fun _ _ _ _ _ h => h, fun _ _ _ _ hW h => isCB.go h hW, fun _ _ _ _ hW h => isCB.go h hW, fun _ _ _ _ hW h => isC.go h hW, fun _ _ _ _ _ h => h, fun _ _ _ _ hW h => isA.go h hW, fun _ _ _ _ _ h => h, fun _ _ _ _ _ h => h, trivial⟩) hR j v hn hF) ⟨y1, y2, y3, y4, rfl, ho.mono hA.size⟩ ⟨(Js.nil (hA.trans (hb.mono hA.size))), (Fn.no (RI3.wait' h (getD_un hu) (T := 9) rfl (Array.mem_of_getElem? (i := 4) rfl) rfl rfl) (by decide))⟩
        case r2 =>
          intro listed a u h hu hd K hK
          have hA : (fun W => Below w12.heap.size w12 W) u := h.world.1
          have e3 : a.tmps.getD 3 undef = .pointer (some ⟨w.heap.size + 1, 0, none⟩) := h.base (by kernel_rfl)
          have f3 : a.tmps[3]? = some (.pointer (some ⟨w.heap.size + 1, 0, none⟩)) := h.old (by kernel_rfl)
          rw [if_pos (by rfl)]
          obtain ⟨p0_, p1_, p2_, p3_, pf_⟩ := (PP.out.go hA).facts
          obtain ⟨v00_, v01_, v02_, v0f_⟩ := (VV0.out.go hA).facts
          go_simp
          exact hK _ _ (fun _ _ _ h => h) (isE.mk rfl) ⟨(Js.nil (hA)), (Fn.neutral h.world.2 (by decide) (by decide) _)⟩
        case r3 =>
          intro listed a u h hu hd K hK
          have hA : (fun W => Below w12.heap.size w12 W) u := h.world.1
          obtain ⟨v82, ev82, em82, F82⟩ := h.slot (i := 2) rfl rfl (hd _ (Array.mem_of_getElem? (i := 0) rfl) rfl)
          have q82 := isE.out F82
          have e82 := ev82.trans q82
          have f82 := em82.trans (congrArg some q82)
          clear ev82 em82 F82
          rw [if_pos (by rfl)]
          go_simp
          refine (laws_toVector _ _ _ _).mono ?_
          rintro e u2 ⟨rfl, hb⟩
          have hR : Gw u u2 := hb
          exact hK _ _ (fun j v hn hF => AllStX.fact0 (R := Gw) (i := 3) (by exact ⟨fun _ _ _ _ _ h => h, fun _ _ _ _ hW h => isT.go h hW, fun _ _ _ _ _ h => h, fun hn => absurd rfl hn, fun _ _ _ _ hW h => isCB.go h hW, fun _ _ _ _ hW h => isCB.go h hW, fun _ _ _ _ hW h => isC.go h hW, fun _ _ _ _ _ h => h, fun _ _ _ _ hW h => isA.go h hW, fun _ _ _ _ _ h => h, fun _ _ _ _ _ h => h, trivial⟩) hR j v hn hF) (isE.mk rfl) ⟨(Js.nil (hA.trans (hb.mono hA.size))), (Fn.no (RI3.wait' h (getD_un hu) (T := 9) rfl (Array.mem_of_getElem? (i := 6) rfl) rfl rfl) (by decide))⟩
        case r4 =>
          intro listed a u h hu hd K hK
          have hA : (fun W => Below w12.heap.size w12 W) u := h.world.1
          obtain ⟨v81, ev81, em81, F81⟩ := h.slot (i := 1) rfl rfl (hd _ (Array.mem_of_getElem? (i := 0) rfl) rfl)
          obtain ⟨aa81, ab81, ac81, ad81, q81, ho81⟩ : isT w12.heap.size n1 n2 n3 n4 D v81 u := F81
          have e81 := ev81.trans q81
          have f81 := em81.trans (congrArg some q81)
          clear ev81 em81
          obtain ⟨v83, ev83, em83, F83⟩ := h.slot (i := 3) rfl rfl (hd _ (Array.mem_of_getElem? (i := 1) rfl) rfl)
          have q83 := isE.out F83
          have e83 := ev83.trans q83
          have f83 := em83.trans (congrArg some q83)
          clear ev83 em83 F83
          rw [if_pos (by rfl)]
          go_simp
          refine (impl_MoveChain _ _ _ _ _ _ _ _ n1 n2 n3 n4 _ D p u (ho81)).mono ?_
          rintro e u2 hr
          obtain ⟨S1, S2, S3, S4, d1, d2, d3, d4, DS, rfl, hs, ho, _, hb⟩ := hr.g HL1.out HL2.out HL3.out HL4.out
          have hR : Gw u u2 := hb
          exact hK _ _ (fun j v hn hF => AllStX.fact0 (R := Gw) (i := 4) (by exact ⟨fun _ _ _ _ _ h => h, fun _ _ _ _ hW h => isT.go h hW, fun _ _ _ _ _ h => h, fun _ _ _ _ _ h => h, fun hn => absurd rfl hn, fun _ _ _ _ hW h => isCB.go h hW, fun _ _ _ _ hW h => isC.go h hW, fun _ _ _ _ _ h => h, fun _ _ _ _ hW h => isA.go h hW, fun _ _ _ _ _ h => h, fun _ _ _ _ _ h => h, trivial⟩) hR j v hn hF) ⟨S1, S2, S3, S4, d1, d2, d3, d4, DS, rfl, hs, ho.mono hA.size⟩ ⟨(Js.nil (hA.trans (hb.mono hA.size))), (Fn.no (RI3.wait' h (getD_un hu) (T := 9) rfl (Array.mem_of_getElem? (i := 2) rfl) rfl rfl) (by decide))⟩
        case r5 =>
          intro listed a u h hu hd K hK
          obtain ⟨v84, ev84, em84, F84⟩ := h.slot (i := 4) rfl rfl (hd _ (Array.mem_of_getElem? (i := 0) rfl) rfl)
          obtain ⟨CA84, CB84, CC84, CD84, ca84, cb84, cc84, cd84, DD84, q84, sd84, ho84⟩ : isCB (okC n1 n2 n3 n4 D && (true && okC n1 n2 n3 n4 (movD D p n1))) w12.heap.size l1 l2 l3 l4 (movD D p n1) v84 u := F84
          have e84 := ev84.trans q84
          have f84 := em84.trans (congrArg some q84)
          clear ev84 em84
          rw [if_pos (by rfl)]
          go_simp
          exact hK _ _ (fun _ _ _ h => h) (⟨CA84, CB84, CC84, CD84, ca84, cb84, cc84, cd84, DD84, rfl, sd84, ho84⟩) ⟨(Js.neutral h.world.1 rfl), (Fn.neutral h.world.2 (by decide) (by decide) _)⟩
        case r6 =>
          intro listed a u h hu hd K hK
          obtain ⟨v79, ev79, em79, F79⟩ := h.slot (i := 5) rfl rfl (hd _ (Array.mem_of_getElem? (i := 0) rfl) rfl)
          obtain ⟨CA79, CB79, CC79, CD79, ca79, cb79, cc79, cd79, DD79, q79, sd79, ho79⟩ : isCB (okC n1 n2 n3 n4 D && (true && okC n1 n2 n3 n4 (movD D p n1))) w12.heap.size l1 l2 l3 l4 (movD D p n1) v79 u := F79
          have e79 := ev79.trans q79
          have f79 := em79.trans (congrArg some q79)
          clear ev79 em79
          rw [if_pos (by rfl)]
          go_simp
          exact hK _ _ (fun _ _ _ h => h) (⟨CA79, CB79, CC79, CD79, ca79, cb79, cc79, cd79, DD79, rfl, sd79, ho79⟩) ⟨(Js.neutral h.world.1 rfl), (Fn.neutral h.world.2 (by decide) (by decide) _)⟩
        case r7 =>
          intro listed a u h hu hd K hK
          obtain ⟨v79, ev79, em79, F79⟩ := h.slot (i := 5) rfl rfl (hd _ (Array.mem_of_getElem? (i := 0) rfl) rfl)
          obtain ⟨CA79, CB79, CC79, CD79, ca79, cb79, cc79, cd79, DD79, q79, sd79, ho79⟩ : isCB (okC n1 n2 n3 n4 D && (true && okC n1 n2 n3 n4 (movD D p n1))) w12.heap.size l1 l2 l3 l4 (movD D p n1) v79 u := F79
          have e79 := ev79.trans q79
          have f79 := em79.trans (congrArg some q79)
          clear ev79 em79
          rw [if_pos (by rfl)]
          go_simp
          exact hK _ _ (fun _ _ _ h => h) (isE.mk rfl) ⟨(Js.neutral h.world.1 rfl), (Fn.neutral h.world.2 (by decide) (by decide) _)⟩
        case r8 =>
          intro listed a u h hu hd K hK
          have hA : (fun W => Below w12.heap.size w12 W) u := h.world.1
          rw [if_pos (by rfl)]
          go_simp
          have hR : Gw u (u.alloc (.cells #[sn, sn, sn, sn] 32)) := Below.alloc (Below.refl _ _) (Nat.le_refl _) _
          exact hK _ _ (fun j v hn hF => AllStX.fact0 (R := Gw) (i := 8) (by exact ⟨fun _ _ _ _ _ h => h, fun _ _ _ _ hW h => isT.go h hW, fun _ _ _ _ _ h => h, fun _ _ _ _ _ h => h, fun _ _ _ _ hW h => isCB.go h hW, fun _ _ _ _ hW h => isCB.go h hW, fun _ _ _ _ hW h => isC.go h hW, fun _ _ _ _ _ h => h, fun hn => absurd rfl hn, fun _ _ _ _ _ h => h, fun _ _ _ _ _ h => h, trivial⟩) hR j v hn hF) ⟨_, _, _, _, _, rfl, hA.size, Bx.new_ _ _ _ _ _ _⟩ ⟨(Js.nil (Below.alloc hA hA.size _)), (Fn.no (RI3.wait' h (getD_un hu) (T := 9) rfl (Array.mem_of_getElem? (i := 0) rfl) rfl rfl) (by decide))⟩
        case r9 =>
          intro listed a u h hu hd K hK
          have hA : (fun W => Below w12.heap.size w12 W) u := h.world.1
          obtain ⟨v14, ev14, em14, F14⟩ := h.slot (i := 8) rfl rfl (hd _ (Array.mem_of_getElem? (i := 0) rfl) rfl)
          obtain ⟨k14, xa14, xb14, xc14, xd14, q14, hk14, hx14⟩ : isA w12.heap.size v14 u := F14
          have e14 := ev14.trans q14
          have f14 := em14.trans (congrArg some q14)
          clear ev14 em14
          obtain ⟨v85, ev85, em85, F85⟩ := h.slot (i := 6) rfl rfl (hd _ (Array.mem_of_getElem? (i := 1) rfl) rfl)
          obtain ⟨CA85, CB85, CC85, CD85, ca85, cb85, cc85, cd85, DD85, q85, sd85, ho85⟩ : isC w12.heap.size l1 l2 l3 l4 (movD D p n1) v85 u := F85
          have e85 := ev85.trans q85
          have f85 := em85.trans (congrArg some q85)
          clear ev85 em85
          rw [if_pos (by rfl)]
          obtain ⟨p0_, p1_, p2_, p3_, pf_⟩ := (PP.out.go hA).facts
          obtain ⟨v00_, v01_, v02_, v0f_⟩ := (VV0.out.go hA).facts
          obtain ⟨g0, g1, g2, g3, gf⟩ := hx14.facts
          have lg := hx14.lt
          go_simp
          have hY := hx14.setAll (.slice CA85 l1 ca85) (.slice CB85 l2 cb85) (.slice CC85 l3 cc85) (.slice CD85 l4 cd85)
          have hW := Wr.set4 u k14 (.slice CA85 l1 ca85) (.slice CB85 l2 cb85) (.slice CC85 l3 cc85) (.slice CD85 l4 cd85)
          have hR : Cw u ((((u.setCell ⟨k14, 0, none⟩ (.slice CA85 l1 ca85)).setCell ⟨k14, 1, none⟩ (.slice CB85 l2 cb85)).setCell ⟨k14, 2, none⟩ (.slice CC85 l3 cc85)).setCell ⟨k14, 3, none⟩ (.slice CD85 l4 cd85)) := ⟨_, _, _, _, _, _, _, _, _, hx14, hW, hY⟩
          exact hK undef _ (fun j v hn hF => AllStX.fact0 (R := Cw) (i := 9) (by exact ⟨fun _ _ _ _ _ h => h, fun _ _ _ _ hW h => isT.st h hW, fun _ _ _ _ _ h => h, fun _ _ _ _ _ h => h, fun _ _ _ _ hW h => isCB.st h hW, fun _ _ _ _ hW h => isCB.st h hW, fun _ _ _ _ hW h => isC.st h hW, fun _ _ _ _ _ h => h, fun _ _ _ _ hW h => isA.st h hW, fun hn => absurd rfl hn, fun _ _ _ _ _ h => h, trivial⟩) hR j v hn hF) trivial ⟨(Js.nil ((Bx.bel hA hk14 _ _ _ _))), (Fn.hit f14 (⟨k14, CA85, CB85, CC85, CD85, ca85, cb85, cc85, cd85, DD85, rfl, hk14, hY, sd85, ho85.off hx14 hW⟩))⟩
        case r10 =>
          intro listed a u h hu hd K hK
          obtain ⟨v86, ev86, em86, F86⟩ := h.slot (i := 7) rfl rfl (hd _ (Array.mem_of_getElem? (i := 0) rfl) rfl)
          have q86 := isE.out F86
          have e86 := ev86.trans q86
          have f86 := em86.trans (congrArg some q86)
          clear ev86 em86 F86
          rw [if_pos (by rfl)]
          go_simp
          exact hK _ _ (fun _ _ _ h => h) (isE.mk rfl) ⟨(Js.neutral h.world.1 rfl), (Fn.neutral h.world.2 (by decide) (by decide) _)⟩
        case hend =>
          intro listed a u h hall
          have hB : (fun W => Below w12.heap.size w12 W) u := h.world.1
          obtain ⟨m14, hm14, hf14⟩ := h.world.2 (hall 9 (by decide))
          obtain ⟨v14, ev14, em14, F14⟩ := h.slot (i := 8) rfl rfl (hall 8 (by decide))
          obtain ⟨k14, xa14, xb14, xc14, xd14, q14, hk14, hx14⟩ : isA w12.heap.size v14 u := F14
          have f14 := em14.trans (congrArg some q14)
          clear ev14 em14
          obtain ⟨v15, ev15, em15, F15⟩ := h.slot (i := 10) rfl rfl (hall 10 (by decide))
          have q15 := isE.out F15
          have f15 := em15.trans (congrArg some q15)
          clear ev15 em15 F15
          obtain ⟨v79, ev79, em79, F79⟩ := h.slot (i := 5) rfl rfl (hall 5 (by decide))
          obtain ⟨CA79, CB79, CC79, CD79, ca79, cb79, cc79, cd79, DD79, q79, sd79, ho79⟩ : isCB (okC n1 n2 n3 n4 D && (true && okC n1 n2 n3 n4 (movD D p n1))) w12.heap.size l1 l2 l3 l4 (movD D p n1) v79 u := F79
          have f79 := em79.trans (congrArg some q79)
          clear ev79 em79
          obtain ⟨v80, ev80, em80, F80⟩ := h.slot (i := 0) rfl rfl (hall 0 (by decide))
          have q80 := isE.out F80
          have f80 := em80.trans (congrArg some q80)
          clear ev80 em80 F80
          obtain ⟨v81, ev81, em81, F81⟩ := h.slot (i := 1) rfl rfl (hall 1 (by decide))
          obtain ⟨aa81, ab81, ac81, ad81, q81, ho81⟩ : isT w12.heap.size n1 n2 n3 n4 D v81 u := F81
          have f81 := em81.trans (congrArg some q81)
          clear ev81 em81
          obtain ⟨v82, ev82, em82, F82⟩ := h.slot (i := 2) rfl rfl (hall 2 (by decide))
          have q82 := isE.out F82
          have f82 := em82.trans (congrArg some q82)
          clear ev82 em82 F82
          obtain ⟨v83, ev83, em83, F83⟩ := h.slot (i := 3) rfl rfl (hall 3 (by decide))
          have q83 := isE.out F83
          have f83 := em83.trans (congrArg some q83)
          clear ev83 em83 F83
          obtain ⟨v84, ev84, em84, F84⟩ := h.slot (i := 4) rfl rfl (hall 4 (by decide))
          obtain ⟨CA84, CB84, CC84, CD84, ca84, cb84, cc84, cd84, DD84, q84, sd84, ho84⟩ : isCB (okC n1 n2 n3 n4 D && (true && okC n1 n2 n3 n4 (movD D p n1))) w12.heap.size l1 l2 l3 l4 (movD D p n1) v84 u := F84
          have f84 := em84.trans (congrArg some q84)
          clear ev84 em84
          obtain ⟨v85, ev85, em85, F85⟩ := h.slot (i := 6) rfl rfl (hall 6 (by decide))
          obtain ⟨CA85, CB85, CC85, CD85, ca85, cb85, cc85, cd85, DD85, q85, sd85, ho85⟩ : isC w12.heap.size l1 l2 l3 l4 (movD D p n1) v85 u := F85
          have f85 := em85.trans (congrArg some q85)
          clear ev85 em85
          obtain ⟨v86, ev86, em86, F86⟩ := h.slot (i := 7) rfl rfl (hall 7 (by decide))
          have q86 := isE.out F86
          have f86 := em86.trans (congrArg some q86)
          clear ev86 em86 F86
          obtain rfl : m14 = _ := Option.some.inj (hm14.symm.trans f14)
          have ha := h.act [14, 15, 79, 80, 81, 82, 83, 84, 85, 86] [_, _, _, _, _, _, _, _, _, _] (by kernel_rfl) ⟨f14, f15, f79, f80, f81, f82, f83, f84, f85, f86, trivial⟩
          clear f14 f15 f79 f80 f81 f82 f83 f84 f85 f86
          simp only [setAll, List.setIfInBounds_toArray, List.set_cons_zero, List.set_cons_succ] at ha
          subst ha
          clear h hall
          obtain ⟨w13, rfl⟩ : ∃ z : World, z = u := ⟨u, rfl⟩
          obtain ⟨kH, H1, H2, H3, H4, Hc1, Hc2, Hc3, Hc4, DH, hke, hkH, hxH, hsH, hoH⟩ := hf14
          cases hke
          have SH := Lib.hid hsH
          have XH := Lib.hid hxH
          have OH := Lib.hid hoH
          have XG13 := Lib.hid (XG12.out.go hB)
          have XS13 := Lib.hid (XS12.out.go hB)
          have OS13 := Lib.hid (OS12.out.go hB)
          have M13 := Lib.hid (M12.out.go hB)
          have B13 := Lib.hid (below_step BB.out hB)
          clear hsH hxH hoH hB hw0 PP BB XG12 XS12 P12 OS12 M12 hm14 VV0 V120
          obtain ⟨v0, v1, v2, v3, vf⟩ := XS13.out.facts
          obtain ⟨q0, q1, q2, q3, qf⟩ := XH.out.facts
          go_wp2_with fail
          refine (laws_eqChain _ _ _ _ _ _ _ _ _ _ _ _ _ _ _ _ l1 l2 l3 l4 _ _ DH DS j1 j2 j3 j4 (SH.out.trans SS.out.symm) _ OH.out OS13.out).mono ?_
          rintro e w14 ⟨rfl, hb14⟩
          clear v0 v1 v2 v3 vf q0 q1 q2 q3 qf
          have XG14 := Lib.hid (XG13.out.go hb14)
          have M14 := Lib.hid (M13.out.go hb14)
          have B14 := Lib.hid (below_step B13.out hb14)
          clear hb14 XG13 XS13 OS13 M13 B13 OH XH
          obtain ⟨q0, q1, q2, q3, qf⟩ := XG14.out.facts
          go_wp2_with fail
          refine (laws_heldChain _ _ _ _ _ _ _ _ l1 l2 l3 l4 _ j1 j2 j3 j4 _ M14.out).mono ?_
          rintro e w15 ⟨rfl, hb15⟩
          have B15 := Lib.hid (below_step B14.out hb15)
          clear hb15 q0 q1 q2 q3 qf
          go_wp2_with fail
          go_ret
          exact ⟨rfl, B15.out⟩
  · have h9 := laws_szChain_over A1 A2 A3 A4 c1 c2 c3 c4 n1 n2 n3 n4 hC.m1 hC.m2 hC.m3 hC.m4 (by omega)
    clear hn hC
    go_enter Try.func16, Try.ntmps16
    go_wp2_with fail
    refine (h9 _).mono ?_
    rintro e w1 ⟨rfl, hb1⟩
    go_wp2_with fail
    go_ret
    exact ⟨rfl, (by repeat' (first | with_reducible exact Below.refl _ _ | with_reducible assumption | with_reducible refine below_dn ?_ _ | with_reducible refine Below.drew ?_ | with_reducible refine below_step ?_ (by assumption) | with_reducible refine Below.setCell ?_ ?_ _ | with_reducible refine Below.alloc ?_ ?_ _ | with_reducible exact Nat.le_refl _ | (simp; done) | (simp; omega) | omega))⟩
set_option maxRecDepth 100000 in
theorem FnExactMoveChain_lifted (os : Os) (started : os.Started) (H : Type) (enc : TypeId × Value → H) :
    ReturnsInHanded {} Try.checked os 16 .any (Rows.fnExactMoveChainSpec.pre6 enc Try.prog Try.f16 Rows.fnExactMoveChainRow.domain false) (Rows.fnExactMoveChainSpec.post enc Try.prog Try.f16 false true false false) := by
  refine returnsInHanded_of_change (C := Try.checked) own started (by kernel_rfl) Try.func16
    (ChangeSpec.witness6 (enc := enc) (C := Try.checked) false ⟨#[], #[.agg #[.slice none 0 0, .slice none 0 0, .slice none 0 0, .slice none 0 0], .agg #[.float .f32 0, .float .f32 0, .float .f32 0]], []⟩ 8 (by kernel_rfl) (by kernel_rfl) (by kernel_rfl) (by kernel_rfl)) ?_
  intro W base args ds gs before hval0 hW _ _
  have hval : ∀ (j : Nat) t v, Try.f16.params[j]? = some t → args[j]? = some v → Value.okWide Try.prog W .any base t v := hval0
  have hW0 := hW
  obtain ⟨p, q, hA0, hV, _, _, _⟩ := hW
  obtain ⟨rfl, rfl⟩ := trodVars_none hV
  have hA : DataW.TrodAll enc Try.prog W 0 (fun _ => true) true Try.f16.params.toList args.toList ds p := hA0
  rw [Try.params16] at hA hval
  obtain ⟨v0, vs0, d0, ds0, p0, q0, hargs, rfl, _, h0, r0⟩ := trodAll_cons hA
  obtain ⟨v1, vs1, d1, ds1, p1, q1, rfl, rfl, _, h1, r1⟩ := trodAll_cons r0
  obtain ⟨rfl, rfl, _⟩ := trodAll_nil r1
  obtain rfl : args = #[v0, v1] := by cases args; simp_all
  obtain ⟨P0, B0, W0, R0, c10, c20, c30, c40, n10, n20, n30, n40, D0, rfl, hC0⟩ := open_chain (hval 0 26 v0 rfl rfl) h0
  obtain ⟨x1, y1, z1, rfl, _, _, _⟩ := open_vec Try.underlying44 (by kernel_rfl) (by kernel_rfl) rfl rfl rfl Try.underlying36 (hval 1 44 v1 rfl rfl) h1
  clear hA0 hval0
  refine (FnExactMoveChain_walk P0 B0 W0 R0 c10 c20 c30 c40 n10 n20 n30 n40 D0 ⟨x1, y1, z1⟩ W hC0).mono fun e W' ⟨he, hb⟩ => ?_
  subst he
  exact ⟨_, rfl, law_post Try.laidOut hW0 rfl rfl (by kernel_rfl) Try.underlying4 (by kernel_rfl) hb⟩

theorem FnExactMoveChain_joined : joinedFacts Try.checked.prog 16 Try.f16 Rows.fnExactMoveChainSpec Rows.fnExactMoveChainRow = true := joined_here (by kernel_rfl) (by kernel_rfl) (by kernel_rfl) (by kernel_rfl) (by kernel_rfl) (by kernel_rfl) (by kernel_rfl) (by kernel_rfl) (by kernel_rfl) (by kernel_rfl) (by kernel_rfl) (by kernel_rfl) (by kernel_rfl) (by kernel_rfl) (by kernel_rfl) (by kernel_rfl) (by kernel_rfl) (by kernel_rfl) (by kernel_rfl) (by kernel_rfl) (by kernel_rfl) (by kernel_rfl) (by kernel_rfl) (by kernel_rfl) (by kernel_rfl) (by kernel_rfl)
theorem FnExactMoveChain_holds : Rows.FnExactMoveChainSaid :=
  OpenClaim.holds_of_wide 16 Try.f16 rfl rfl rfl rfl rfl rfl rfl ⟨rfl, rfl, rfl, rfl, rfl⟩ rfl rfl rfl rfl rfl (by kernel_rfl) Try.func16 FnExactMoveChain_joined
    (of_decide_eq_true (by kernel_rfl)) (by unfold Func.isWrapper; first | (rw [if_pos (by decide +kernel)]; kernel_rfl) | (rw [if_neg (by decide +kernel)]; exact ⟨rfl, rfl⟩))
    (fun os started H enc _ => FnExactMoveChain_lifted os started H enc)
#print axioms FnExactMoveChain_holds
end Go.Proofs.Ytlhgaihfghobmaa
