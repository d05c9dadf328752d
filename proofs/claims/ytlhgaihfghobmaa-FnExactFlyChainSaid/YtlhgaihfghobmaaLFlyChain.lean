/- FlyChain of the program returns what FlyChain of the reference returns, a chain of its own, and leaves its argument alone. -/
import Derived.Test.YtlhgaihfghobmaaMz
import Derived.Test.YtlhgaihfghobmaaRl
import Derived.Test.YtlhgaihfghobmaaRm
import Derived.Test.YtlhgaihfghobmaaKj
import Derived.Deep.DeepCutAuto
namespace Go.Proofs.Ytlhgaihfghobmaa
open Go.ChangeShapes Go.WideShapes Go.ChangeAt Go.RowKit Go.Deep

set_option maxHeartbeats 8000000 in
set_option maxRecDepth 100000 in
theorem FnExactFlyChain_walk (A1 A2 A3 A4 : Option Addr) (c1 c2 c3 c4 n1 n2 n3 n4 : Nat) (D : D4) (q : V3) (f : Nat) (_h1f : f < 4294967296) (t : Nat) (_h1t : t < 4294967296) (w : World) (hC : Came w A1 A2 A3 A4 n1 n2 n3 n4 D) :
    Calls Try.prog 19 #[.agg #[.slice A1 n1 c1, .slice A2 n2 c2, .slice A3 n3 c3, .slice A4 n4 c4], .agg #[.float .f32 q.x, .float .f32 q.y, .float .f32 q.z], .float .f32 f, .float .f32 t] w (RetV (.bool true) w) := by
  by_cases hn : n1 + n2 + n3 + n4 ≤ 1048576
  · have k1 : n1 ≤ 1048576 := by omega
    have k2 : n2 ≤ 1048576 := by omega
    have k3 : n3 ≤ 1048576 := by omega
    have k4 : n4 ≤ 1048576 := by omega
    have HC := Lib.hid hC
    have g0 : ¬ ((1048576 : Int) - n1 - n2 - n3 - n4 < 0) := by omega
    obtain ⟨l1, hl1⟩ : ∃ l : Nat, l = pk (okC n1 n2 n3 n4 D && (airB q f t && okC n1 n2 n3 n4 (flyD D q f t n1))) n1 := ⟨_, rfl⟩
    have j1 : l1 ≤ 1048576 := by rw [hl1]; exact pk_okC.1
    have HL1 := Lib.hid hl1
    clear hl1
    obtain ⟨l2, hl2⟩ : ∃ l : Nat, l = pk (okC n1 n2 n3 n4 D && (airB q f t && okC n1 n2 n3 n4 (flyD D q f t n1))) n2 := ⟨_, rfl⟩
    have j2 : l2 ≤ 1048576 := by rw [hl2]; exact pk_okC.2.1
    have HL2 := Lib.hid hl2
    clear hl2
    obtain ⟨l3, hl3⟩ : ∃ l : Nat, l = pk (okC n1 n2 n3 n4 D && (airB q f t && okC n1 n2 n3 n4 (flyD D q f t n1))) n3 := ⟨_, rfl⟩
    have j3 : l3 ≤ 1048576 := by rw [hl3]; exact pk_okC.2.2.1
    have HL3 := Lib.hid hl3
    clear hl3
    obtain ⟨l4, hl4⟩ : ∃ l : Nat, l = pk (okC n1 n2 n3 n4 D && (airB q f t && okC n1 n2 n3 n4 (flyD D q f t n1))) n4 := ⟨_, rfl⟩
    have j4 : l4 ≤ 1048576 := by rw [hl4]; exact pk_okC.2.2.2
    have HL4 := Lib.hid hl4
    clear hl4
    clear hC
    go_enter Try.func19, Try.ntmps19
    go_wp2_with fail
    refine (laws_szChain_fit A1 A2 A3 A4 c1 c2 c3 c4 n1 n2 n3 n4 hn _).mono ?_
    rintro e w1 ⟨rfl, hb1⟩
    have PP := Lib.hid (((Bx.new_ w 26 (.slice A1 n1 c1) (.slice A2 n2 c2) (.slice A3 n3 c3) (.slice A4 n4 c4)).alloc _).go hb1)
    have VV0 := Lib.hid ((Tx.new_ (w.alloc (.cells #[.slice A1 n1 c1, .slice A2 n2 c2, .slice A3 n3 c3, .slice A4 n4 c4] 26)) 44 (.float .f32 q.x) (.float .f32 q.y) (.float .f32 q.z)).go hb1)
    have z0 : (w.alloc (.cells #[.slice A1 n1 c1, .slice A2 n2 c2, .slice A3 n3 c3, .slice A4 n4 c4] 26)).heap.size = w.heap.size + 1 := by simp
    rw [z0] at VV0
    clear z0
    have BB := Lib.hid (show Below w.heap.size w w1 from below_step (w := w) ((by repeat' (first | with_reducible exact Below.refl _ _ | with_reducible assumption | with_reducible refine below_dn ?_ _ | with_reducible refine Below.drew ?_ | with_reducible refine below_step ?_ (by assumption) | with_reducible refine Below.setCell ?_ ?_ _ | with_reducible refine Below.alloc ?_ ?_ _ | with_reducible exact Nat.le_refl _ | (simp; done) | (simp; omega) | omega))) hb1)
    clear hb1
    have HBB := HL1
    clear HBB
    have hw0 : Below w1.heap.size w1 w1.drew := (Below.refl _ _).drew
    go_upto_region 5 with fail
    refine region_inv3 [fun v _ => isE (.agg #[.slice A1 n1 c1, .slice A2 n2 c2, .slice A3 n3 c3, .slice A4 n4 c4]) v, isT w1.heap.size n1 n2 n3 n4 D, fun v _ => isE (.agg #[.float .f32 q.x, .float .f32 q.y, .float .f32 q.z]) v, fun v _ => isE (.agg #[.float .f32 q.x, .float .f32 q.y, .float .f32 q.z]) v, fun v _ => isE (.float .f32 f) v, fun v _ => isE (.float .f32 t) v, isCB (okC n1 n2 n3 n4 D && (airB q f t && okC n1 n2 n3 n4 (flyD D q f t n1))) w1.heap.size l1 l2 l3 l4 (flyD D q f t n1), isCB (okC n1 n2 n3 n4 D && (airB q f t && okC n1 n2 n3 n4 (flyD D q f t n1))) w1.heap.size l1 l2 l3 l4 (flyD D q f t n1), isC w1.heap.size l1 l2 l3 l4 (flyD D q f t n1), fun v _ => isE (.bool (okC n1 n2 n3 n4 D && (airB q f t && okC n1 n2 n3 n4 (flyD D q f t n1)))) v, isA w1.heap.size, fun _ _ => True, fun v _ => isE (.bool (okC n1 n2 n3 n4 D && (airB q f t && okC n1 n2 n3 n4 (flyD D q f t n1)))) v] (fun l a W => Js [] (fun W => Below w1.heap.size w1 W) l W ∧ Fn 11 10 (isAC w1.heap.size w1.heap.size l1 l2 l3 l4 (flyD D q f t n1)) l a W) (by kernel_rfl) (by kernel_rfl) (by kernel_rfl) ⟨Js.nil hw0, Fn.first⟩ ⟨?r0, ?r1, ?r2, ?r3, ?r4, ?r5, ?r6, ?r7, ?r8, ?r9, ?r10, ?r11, ?r12, trivial⟩ ?hend
    case r0 =>
      intro listed a u h hu hd K hK
      have hA : (fun W => Below w1.heap.size w1 W) u := h.world.1
      have e4 : a.tmps.getD 4 undef = .pointer (some ⟨w.heap.size, 0, none⟩) := h.base (by kernel_rfl)
      have f4 : a.tmps[4]? = some (.pointer (some ⟨w.heap.size, 0, none⟩)) := h.old (by kernel_rfl)
      rw [if_pos (by rfl)]
      obtain ⟨p0_, p1_, p2_, p3_, pf_⟩ := (PP.out.go hA).facts
      obtain ⟨v00_, v01_, v02_, v0f_⟩ := (VV0.out.go hA).facts
      go_simp
      exact hK _ _ (fun _ _ _ h => h) (isE.mk rfl) ⟨(Js.nil (hA)), (Fn.neutral h.world.2 (by decide) (by decide) _)⟩
    case r1 =>
      intro listed a u h hu hd K hK
      have hA : (fun W => Below w1.heap.size w1 W) u := h.world.1
      obtain ⟨v26, ev26, em26, F26⟩ := h.slot (i := 0) rfl rfl (hd _ (Array.mem_of_getElem? (i := 0) rfl) rfl)
      have q26 := isE.out F26
      have e26 := ev26.trans q26
      have f26 := em26.trans (congrArg some q26)
      clear ev26 em26 F26
      rw [if_pos (by rfl)]
      go_simp
      refine (laws_toChain A1 A2 A3 A4 c1 c2 c3 c4 n1 n2 n3 n4 D k1 k2 k3 k4 _ ((HC.out.go (below_step BB.out hA)).i1) ((HC.out.go (below_step BB.out hA)).i2) ((HC.out.go (below_step BB.out hA)).i3) ((HC.out.go (below_step BB.out hA)).i4)).mono ?_
      rintro e u2 ⟨y1, y2, y3, y4, rfl, ho, hb⟩
      have hR : Gw u u2 := hb
      exact hK _ _ (fun j v hn hF => AllStX.fact0 (R := Gw) (i := 1) (by exact ⟨fun _ _ _ _ _ h => h, fun hn => absurd rfl hn, fun _ _ _ _ _ h => h, fun _ _ _ _ _ h => h, fun _ _ _ _ _ h => h, fun _ _ _ _ _ h => h, fun _ _ _ _ hW h => isCB.go h hW, fun _ _ _ _ hW h => isCB.go h hW, fun _ _ _ _ hW h => isC.go h hW, fun _ _ _ _ _ h => h, fun _ _ _ _ hW h => isA.go h hW, fun _ _ _ _ _ h => h, fun _ _ _ _ _ h => h, trivial⟩) hR j v hn hF) ⟨y1, y2, y3, y4, rfl, ho.mono hA.size⟩ ⟨(Js.nil (hA.trans (hb.mono hA.size))), (Fn.no (RI3.wait' h (getD_un hu) (T := 11) rfl (Array.mem_of_getElem? (i := 4) rfl) rfl rfl) (by decide))⟩
    case r2 =>
      intro listed a u h hu hd K hK
      have hA : (fun W => Below w1.heap.size w1 W) u := h.world.1
      have e5 : a.tmps.getD 5 undef = .pointer (some ⟨w.heap.size + 1, 0, none⟩) := h.base (by kernel_rfl)
      have f5 : a.tmps[5]? = some (.pointer (some ⟨w.heap.size + 1, 0, none⟩)) := h.old (by kernel_rfl)
      rw [if_pos (by rfl)]
      obtain ⟨p0_, p1_, p2_, p3_, pf_⟩ := (PP.out.go hA).facts
      obtain ⟨v00_, v01_, v02_, v0f_⟩ := (VV0.out.go hA).facts
      go_simp
      exact hK _ _ (fun _ _ _ h => h) (isE.mk rfl) ⟨(Js.nil (hA)), (Fn.neutral h.world.2 (by decide) (by decide) _)⟩
    case r3 =>
      intro listed a u h hu hd K hK
      have hA : (fun W => Below w1.heap.size w1 W) u := h.world.1
      obtain ⟨v28, ev28, em28, F28⟩ := h.slot (i := 2) rfl rfl (hd _ (Array.mem_of_getElem? (i := 0) rfl) rfl)
      have q28 := isE.out F28
      have e28 := ev28.trans q28
      have f28 := em28.trans (congrArg some q28)
      clear ev28 em28 F28
      rw [if_pos (by rfl)]
      go_simp
      refine (laws_toVector _ _ _ _).mono ?_
      rintro e u2 ⟨rfl, hb⟩
      have hR : Gw u u2 := hb
      exact hK _ _ (fun j v hn hF => AllStX.fact0 (R := Gw) (i := 3) (by exact ⟨fun _ _ _ _ _ h => h, fun _ _ _ _ hW h => isT.go h hW, fun _ _ _ _ _ h => h, fun hn => absurd rfl hn, fun _ _ _ _ _ h => h, fun _ _ _ _ _ h => h, fun _ _ _ _ hW h => isCB.go h hW, fun _ _ _ _ hW h => isCB.go h hW, fun _ _ _ _ hW h => isC.go h hW, fun _ _ _ _ _ h => h, fun _ _ _ _ hW h => isA.go h hW, fun _ _ _ _ _ h => h, fun _ _ _ _ _ h => h, trivial⟩) hR j v hn hF) (isE.mk rfl) ⟨(Js.nil (hA.trans (hb.mono hA.size))), (Fn.no (RI3.wait' h (getD_un hu) (T := 11) rfl (Array.mem_of_getElem? (i := 6) rfl) rfl rfl) (by decide))⟩
    case r4 =>
      intro listed a u h hu hd K hK
      have e2 : a.tmps.getD 2 undef = .float .f32 f := h.base (by kernel_rfl)
      have f2 : a.tmps[2]? = some (.float .f32 f) := h.old (by kernel_rfl)
      rw [if_pos (by rfl)]
      go_simp
      exact hK _ _ (fun _ _ _ h => h) (isE.mk rfl) ⟨(Js.neutral h.world.1 rfl), (Fn.neutral h.world.2 (by decide) (by decide) _)⟩
    case r5 =>
      intro listed a u h hu hd K hK
      have e3 : a.tmps.getD 3 undef = .float .f32 t := h.base (by kernel_rfl)
      have f3 : a.tmps[3]? = some (.float .f32 t) := h.old (by kernel_rfl)
      rw [if_pos (by rfl)]
      go_simp
      exact hK _ _ (fun _ _ _ h => h) (isE.mk rfl) ⟨(Js.neutral h.world.1 rfl), (Fn.neutral h.world.2 (by decide) (by decide) _)⟩
    case r6 =>
      intro listed a u h hu hd K hK
      have hA : (fun W => Below w1.heap.size w1 W) u := h.world.1
      obtain ⟨v27, ev27, em27, F27⟩ := h.slot (i := 1) rfl rfl (hd _ (Array.mem_of_getElem? (i := 0) rfl) rfl)
      obtain ⟨aa27, ab27, ac27, ad27, q27, ho27⟩ : isT w1.heap.size n1 n2 n3 n4 D v27 u := F27
      have e27 := ev27.trans q27
      have f27 := em27.trans (congrArg some q27)
      clear ev27 em27
      obtain ⟨v29, ev29, em29, F29⟩ := h.slot (i := 3) rfl rfl (hd _ (Array.mem_of_getElem? (i := 1) rfl) rfl)
      have q29 := isE.out F29
      have e29 := ev29.trans q29
      have f29 := em29.trans (congrArg some q29)
      clear ev29 em29 F29
      obtain ⟨v30, ev30, em30, F30⟩ := h.slot (i := 4) rfl rfl (hd _ (Array.mem_of_getElem? (i := 2) rfl) rfl)
      have q30 := isE.out F30
      have e30 := ev30.trans q30
      have f30 := em30.trans (congrArg some q30)
      clear ev30 em30 F30
      obtain ⟨v31, ev31, em31, F31⟩ := h.slot (i := 5) rfl rfl (hd _ (Array.mem_of_getElem? (i := 3) rfl) rfl)
      have q31 := isE.out F31
      have e31 := ev31.trans q31
      have f31 := em31.trans (congrArg some q31)
      clear ev31 em31 F31
      rw [if_pos (by rfl)]
      go_simp
      refine (spec_FlyChain _ _ _ _ _ _ _ _ n1 n2 n3 n4 _ D q f t u (ho27)).mono ?_
      rintro e u2 hr
      obtain ⟨S1, S2, S3, S4, d1, d2, d3, d4, DS, rfl, hs, ho, _, hb⟩ := hr.g HL1.out HL2.out HL3.out HL4.out
      have hR : Gw u u2 := hb
      exact hK _ _ (fun j v hn hF => AllStX.fact0 (R := Gw) (i := 6) (by exact ⟨fun _ _ _ _ _ h => h, fun _ _ _ _ hW h => isT.go h hW, fun _ _ _ _ _ h => h, fun _ _ _ _ _ h => h, fun _ _ _ _ _ h => h, fun _ _ _ _ _ h => h, fun hn => absurd rfl hn, fun _ _ _ _ hW h => isCB.go h hW, fun _ _ _ _ hW h => isC.go h hW, fun _ _ _ _ _ h => h, fun _ _ _ _ hW h => isA.go h hW, fun _ _ _ _ _ h => h, fun _ _ _ _ _ h => h, trivial⟩) hR j v hn hF) ⟨S1, S2, S3, S4, d1, d2, d3, d4, DS, rfl, hs, ho.mono hA.size⟩ ⟨(Js.nil (hA.trans (hb.mono hA.size))), (Fn.no (RI3.wait' h (getD_un hu) (T := 11) rfl (Array.mem_of_getElem? (i := 2) rfl) rfl rfl) (by decide))⟩
    case r7 =>
      intro listed a u h hu hd K hK
      obtain ⟨v32, ev32, em32, F32⟩ := h.slot (i := 6) rfl rfl (hd _ (Array.mem_of_getElem? (i := 0) rfl) rfl)
      obtain ⟨CA32, CB32, CC32, CD32, ca32, cb32, cc32, cd32, DD32, q32, sd32, ho32⟩ : isCB (okC n1 n2 n3 n4 D && (airB q f t && okC n1 n2 n3 n4 (flyD D q f t n1))) w1.heap.size l1 l2 l3 l4 (flyD D q f t n1) v32 u := F32
      have e32 := ev32.trans q32
      have f32 := em32.trans (congrArg some q32)
      clear ev32 em32
      rw [if_pos (by rfl)]
      go_simp
      exact hK _ _ (fun _ _ _ h => h) (⟨CA32, CB32, CC32, CD32, ca32, cb32, cc32, cd32, DD32, rfl, sd32, ho32⟩) ⟨(Js.neutral h.world.1 rfl), (Fn.neutral h.world.2 (by decide) (by decide) _)⟩
    case r8 =>
      intro listed a u h hu hd K hK
      obtain ⟨v25, ev25, em25, F25⟩ := h.slot (i := 7) rfl rfl (hd _ (Array.mem_of_getElem? (i := 0) rfl) rfl)
      obtain ⟨CA25, CB25, CC25, CD25, ca25, cb25, cc25, cd25, DD25, q25, sd25, ho25⟩ : isCB (okC n1 n2 n3 n4 D && (airB q f t && okC n1 n2 n3 n4 (flyD D q f t n1))) w1.heap.size l1 l2 l3 l4 (flyD D q f t n1) v25 u := F25
      have e25 := ev25.trans q25
      have f25 := em25.trans (congrArg some q25)
      clear ev25 em25
      rw [if_pos (by rfl)]
      go_simp
      exact hK _ _ (fun _ _ _ h => h) (⟨CA25, CB25, CC25, CD25, ca25, cb25, cc25, cd25, DD25, rfl, sd25, ho25⟩) ⟨(Js.neutral h.world.1 rfl), (Fn.neutral h.world.2 (by decide) (by decide) _)⟩
    case r9 =>
      intro listed a u h hu hd K hK
      obtain ⟨v25, ev25, em25, F25⟩ := h.slot (i := 7) rfl rfl (hd _ (Array.mem_of_getElem? (i := 0) rfl) rfl)
      obtain ⟨CA25, CB25, CC25, CD25, ca25, cb25, cc25, cd25, DD25, q25, sd25, ho25⟩ : isCB (okC n1 n2 n3 n4 D && (airB q f t && okC n1 n2 n3 n4 (flyD D q f t n1))) w1.heap.size l1 l2 l3 l4 (flyD D q f t n1) v25 u := F25
      have e25 := ev25.trans q25
      have f25 := em25.trans (congrArg some q25)
      clear ev25 em25
      rw [if_pos (by rfl)]
      go_simp
      exact hK _ _ (fun _ _ _ h => h) (isE.mk rfl) ⟨(Js.neutral h.world.1 rfl), (Fn.neutral h.world.2 (by decide) (by decide) _)⟩
    case r10 =>
      intro listed a u h hu hd K hK
      have hA : (fun W => Below w1.heap.size w1 W) u := h.world.1
      rw [if_pos (by rfl)]
      go_simp
      have hR : Gw u (u.alloc (.cells #[sn, sn, sn, sn] 32)) := Below.alloc (Below.refl _ _) (Nat.le_refl _) _
      exact hK _ _ (fun j v hn hF => AllStX.fact0 (R := Gw) (i := 10) (by exact ⟨fun _ _ _ _ _ h => h, fun _ _ _ _ hW h => isT.go h hW, fun _ _ _ _ _ h => h, fun _ _ _ _ _ h => h, fun _ _ _ _ _ h => h, fun _ _ _ _ _ h => h, fun _ _ _ _ hW h => isCB.go h hW, fun _ _ _ _ hW h => isCB.go h hW, fun _ _ _ _ hW h => isC.go h hW, fun _ _ _ _ _ h => h, fun hn => absurd rfl hn, fun _ _ _ _ _ h => h, fun _ _ _ _ _ h => h, trivial⟩) hR j v hn hF) ⟨_, _, _, _, _, rfl, hA.size, Bx.new_ _ _ _ _ _ _⟩ ⟨(Js.nil (Below.alloc hA hA.size _)), (Fn.no (RI3.wait' h (getD_un hu) (T := 11) rfl (Array.mem_of_getElem? (i := 0) rfl) rfl rfl) (by decide))⟩
    case r11 =>
      intro listed a u h hu hd K hK
      have hA : (fun W => Below w1.heap.size w1 W) u := h.world.1
      obtain ⟨v10, ev10, em10, F10⟩ := h.slot (i := 10) rfl rfl (hd _ (Array.mem_of_getElem? (i := 0) rfl) rfl)
      obtain ⟨k10, xa10, xb10, xc10, xd10, q10, hk10, hx10⟩ : isA w1.heap.size v10 u := F10
      have e10 := ev10.trans q10
      have f10 := em10.trans (congrArg some q10)
      clear ev10 em10
      obtain ⟨v33, ev33, em33, F33⟩ := h.slot (i := 8) rfl rfl (hd _ (Array.mem_of_getElem? (i := 1) rfl) rfl)
      obtain ⟨CA33, CB33, CC33, CD33, ca33, cb33, cc33, cd33, DD33, q33, sd33, ho33⟩ : isC w1.heap.size l1 l2 l3 l4 (flyD D q f t n1) v33 u := F33
      have e33 := ev33.trans q33
      have f33 := em33.trans (congrArg some q33)
      clear ev33 em33
      rw [if_pos (by rfl)]
      obtain ⟨p0_, p1_, p2_, p3_, pf_⟩ := (PP.out.go hA).facts
      obtain ⟨v00_, v01_, v02_, v0f_⟩ := (VV0.out.go hA).facts
      obtain ⟨g0, g1, g2, g3, gf⟩ := hx10.facts
      have lg := hx10.lt
      go_simp
      have hY := hx10.setAll (.slice CA33 l1 ca33) (.slice CB33 l2 cb33) (.slice CC33 l3 cc33) (.slice CD33 l4 cd33)
      have hW := Wr.set4 u k10 (.slice CA33 l1 ca33) (.slice CB33 l2 cb33) (.slice CC33 l3 cc33) (.slice CD33 l4 cd33)
      have hR : Cw u ((((u.setCell ⟨k10, 0, none⟩ (.slice CA33 l1 ca33)).setCell ⟨k10, 1, none⟩ (.slice CB33 l2 cb33)).setCell ⟨k10, 2, none⟩ (.slice CC33 l3 cc33)).setCell ⟨k10, 3, none⟩ (.slice CD33 l4 cd33)) := ⟨_, _, _, _, _, _, _, _, _, hx10, hW, hY⟩
      exact hK undef _ (fun j v hn hF => AllStX.fact0 (R := Cw) (i := 11) (by exact ⟨fun _ _ _ _ _ h => h, fun _ _ _ _ hW h => isT.st h hW, fun _ _ _ _ _ h => h, fun _ _ _ _ _ h => h, fun _ _ _ _ _ h => h, fun _ _ _ _ _ h => h, fun _ _ _ _ hW h => isCB.st h hW, fun _ _ _ _ hW h => isCB.st h hW, fun _ _ _ _ hW h => isC.st h hW, fun _ _ _ _ _ h => h, fun _ _ _ _ hW h => isA.st h hW, fun hn => absurd rfl hn, fun _ _ _ _ _ h => h, trivial⟩) hR j v hn hF) trivial ⟨(Js.nil ((Bx.bel hA hk10 _ _ _ _))), (Fn.hit f10 (⟨k10, CA33, CB33, CC33, CD33, ca33, cb33, cc33, cd33, DD33, rfl, hk10, hY, sd33, ho33.off hx10 hW⟩))⟩
    case r12 =>
      intro listed a u h hu hd K hK
      obtain ⟨v34, ev34, em34, F34⟩ := h.slot (i := 9) rfl rfl (hd _ (Array.mem_of_getElem? (i := 0) rfl) rfl)
      have q34 := isE.out F34
      have e34 := ev34.trans q34
      have f34 := em34.trans (congrArg some q34)
      clear ev34 em34 F34
      rw [if_pos (by rfl)]
      go_simp
      exact hK _ _ (fun _ _ _ h => h) (isE.mk rfl) ⟨(Js.neutral h.world.1 rfl), (Fn.neutral h.world.2 (by decide) (by decide) _)⟩
    case hend =>
      intro listed a u h hall
      have hB : (fun W => Below w1.heap.size w1 W) u := h.world.1
      obtain ⟨m10, hm10, hf10⟩ := h.world.2 (hall 11 (by decide))
      obtain ⟨v10, ev10, em10, F10⟩ := h.slot (i := 10) rfl rfl (hall 10 (by decide))
      obtain ⟨k10, xa10, xb10, xc10, xd10, q10, hk10, hx10⟩ : isA w1.heap.size v10 u := F10
      have f10 := em10.trans (congrArg some q10)
      clear ev10 em10
      obtain ⟨v11, ev11, em11, F11⟩ := h.slot (i := 12) rfl rfl (hall 12 (by decide))
      have q11 := isE.out F11
      have f11 := em11.trans (congrArg some q11)
      clear ev11 em11 F11
      obtain ⟨v25, ev25, em25, F25⟩ := h.slot (i := 7) rfl rfl (hall 7 (by decide))
      obtain ⟨CA25, CB25, CC25, CD25, ca25, cb25, cc25, cd25, DD25, q25, sd25, ho25⟩ : isCB (okC n1 n2 n3 n4 D && (airB q f t && okC n1 n2 n3 n4 (flyD D q f t n1))) w1.heap.size l1 l2 l3 l4 (flyD D q f t n1) v25 u := F25
      have f25 := em25.trans (congrArg some q25)
      clear ev25 em25
      obtain ⟨v26, ev26, em26, F26⟩ := h.slot (i := 0) rfl rfl (hall 0 (by decide))
      have q26 := isE.out F26
      have f26 := em26.trans (congrArg some q26)
      clear ev26 em26 F26
      obtain ⟨v27, ev27, em27, F27⟩ := h.slot (i := 1) rfl rfl (hall 1 (by decide))
      obtain ⟨aa27, ab27, ac27, ad27, q27, ho27⟩ : isT w1.heap.size n1 n2 n3 n4 D v27 u := F27
      have f27 := em27.trans (congrArg some q27)
      clear ev27 em27
      obtain ⟨v28, ev28, em28, F28⟩ := h.slot (i := 2) rfl rfl (hall 2 (by decide))
      have q28 := isE.out F28
      have f28 := em28.trans (congrArg some q28)
      clear ev28 em28 F28
      obtain ⟨v29, ev29, em29, F29⟩ := h.slot (i := 3) rfl rfl (hall 3 (by decide))
      have q29 := isE.out F29
      have f29 := em29.trans (congrArg some q29)
      clear ev29 em29 F29
      obtain ⟨v30, ev30, em30, F30⟩ := h.slot (i := 4) rfl rfl (hall 4 (by decide))
      have q30 := isE.out F30
      have f30 := em30.trans (congrArg some q30)
      clear ev30 em30 F30
      obtain ⟨v31, ev31, em31, F31⟩ := h.slot (i := 5) rfl rfl (hall 5 (by decide))
      have q31 := isE.out F31
      have f31 := em31.trans (congrArg some q31)
      clear ev31 em31 F31
      obtain ⟨v32, ev32, em32, F32⟩ := h.slot (i := 6) rfl rfl (hall 6 (by decide))
      obtain ⟨CA32, CB32, CC32, CD32, ca32, cb32, cc32, cd32, DD32, q32, sd32, ho32⟩ : isCB (okC n1 n2 n3 n4 D && (airB q f t && okC n1 n2 n3 n4 (flyD D q f t n1))) w1.heap.size l1 l2 l3 l4 (flyD D q f t n1) v32 u := F32
      have f32 := em32.trans (congrArg some q32)
      clear ev32 em32
      obtain ⟨v33, ev33, em33, F33⟩ := h.slot (i := 8) rfl rfl (hall 8 (by decide))
      obtain ⟨CA33, CB33, CC33, CD33, ca33, cb33, cc33, cd33, DD33, q33, sd33, ho33⟩ : isC w1.heap.size l1 l2 l3 l4 (flyD D q f t n1) v33 u := F33
      have f33 := em33.trans (congrArg some q33)
      clear ev33 em33
      obtain ⟨v34, ev34, em34, F34⟩ := h.slot (i := 9) rfl rfl (hall 9 (by decide))
      have q34 := isE.out F34
      have f34 := em34.trans (congrArg some q34)
      clear ev34 em34 F34
      obtain rfl : m10 = _ := Option.some.inj (hm10.symm.trans f10)
      have ha := h.act [10, 11, 25, 26, 27, 28, 29, 30, 31, 32, 33, 34] [_, _, _, _, _, _, _, _, _, _, _, _] (by kernel_rfl) ⟨f10, f11, f25, f26, f27, f28, f29, f30, f31, f32, f33, f34, trivial⟩
      clear f10 f11 f25 f26 f27 f28 f29 f30 f31 f32 f33 f34
      simp only [setAll, List.setIfInBounds_toArray, List.set_cons_zero, List.set_cons_succ] at ha
      subst ha
      clear h hall
      obtain ⟨w3, rfl⟩ : ∃ z : World, z = u := ⟨u, rfl⟩
      obtain ⟨kS, S1, S2, S3, S4, Sc1, Sc2, Sc3, Sc4, DS, hke, hkS, hxS, hsS, hoS⟩ := hf10
      cases hke
      have SS := Lib.hid hsS
      have XS := Lib.hid hxS
      have OS := Lib.hid hoS
      have lS := hxS.lt
      have P3 := Lib.hid (PP.out.go hB)
      have V30 := Lib.hid (VV0.out.go hB)
      have B3 := Lib.hid (below_step BB.out hB)
      have y3 := hB.size
      have lP3 := P3.out.lt
      have lV30 := V30.out.lt
      have DS_ := Lib.hid hoS.bds
      clear hsS hxS hoS hB hw0 PP BB hm10 VV0
      obtain ⟨p0, p1, p2, p3, pf⟩ := P3.out.facts
      go_wp2_with fail
      refine (laws_toChain A1 A2 A3 A4 c1 c2 c3 c4 n1 n2 n3 n4 D k1 k2 k3 k4 _ ((HC.out.go B3.out).i1) ((HC.out.go B3.out).i2) ((HC.out.go B3.out).i3) ((HC.out.go B3.out).i4)).mono ?_
      rintro e w4 ⟨x1, x2, x3, x4, rfl, ho4, hb4⟩
      clear p0 p1 p2 p3 pf
      go_upto_region 7 with fail
      have DX := Lib.hid ho4.bds
      have hb5 : Below w4.heap.size w4 (w4.alloc (.cells #[.slice (some ⟨x1, 0, none⟩) n1 n1, .slice (some ⟨x2, 0, none⟩) n2 n2, .slice (some ⟨x3, 0, none⟩) n3 n3, .slice (some ⟨x4, 0, none⟩) n4 n4] 32)) := Below.alloc (Below.refl _ _) (Nat.le_refl _) _
      have hx5 := Bx.new_ w4 32 (.slice (some ⟨x1, 0, none⟩) n1 n1) (.slice (some ⟨x2, 0, none⟩) n2 n2) (.slice (some ⟨x3, 0, none⟩) n3 n3) (.slice (some ⟨x4, 0, none⟩) n4 n4)
      have y4 := hb4.size
      generalize hw5 : w4.alloc (.cells #[.slice (some ⟨x1, 0, none⟩) n1 n1, .slice (some ⟨x2, 0, none⟩) n2 n2, .slice (some ⟨x3, 0, none⟩) n3 n3, .slice (some ⟨x4, 0, none⟩) n4 n4] 32) = w5 at hb5 hx5 ⊢
      clear hw5
      have y5 := hb5.size
      have l5 := hx5.lt
      have XX := Lib.hid hx5
      have OX := Lib.hid (ho4.go hb5)
      have PP := Lib.hid ((P3.out.go hb4).go hb5)
      have VV0 := Lib.hid ((V30.out.go hb4).go hb5)
      have XS5 := Lib.hid ((XS.out.go hb4).go hb5)
      have OS5 := Lib.hid ((OS.out.go hb4).go hb5)
      have BB := Lib.hid (below_step (below_step B3.out hb4) hb5)
      clear hb4 hb5 ho4 hx5 P3 B3 XS OS V30
      have hw0 : Below w5.heap.size w5 w5.drew := (Below.refl _ _).drew
      refine region_inv3 [fun v _ => isE (.agg #[.slice (some ⟨x1, 0, none⟩) n1 n1, .slice (some ⟨x2, 0, none⟩) n2 n2, .slice (some ⟨x3, 0, none⟩) n3 n3, .slice (some ⟨x4, 0, none⟩) n4 n4]) v, fun v _ => isE (.agg #[.float .f32 q.x, .float .f32 q.y, .float .f32 q.z]) v, fun v _ => isE (.agg #[.float .f32 q.x, .float .f32 q.y, .float .f32 q.z]) v, fun v _ => isE (.float .f32 f) v, fun v _ => isE (.float .f32 t) v, isCB (okC n1 n2 n3 n4 D && (airB q f t && okC n1 n2 n3 n4 (flyD D q f t n1))) w5.heap.size l1 l2 l3 l4 (flyD D q f t n1), isCB (okC n1 n2 n3 n4 D && (airB q f t && okC n1 n2 n3 n4 (flyD D q f t n1))) w5.heap.size l1 l2 l3 l4 (flyD D q f t n1), isC w5.heap.size l1 l2 l3 l4 (flyD D q f t n1), fun v _ => isE (.bool (okC n1 n2 n3 n4 D && (airB q f t && okC n1 n2 n3 n4 (flyD D q f t n1)))) v, isA w5.heap.size, fun _ _ => True, fun v _ => isE (.bool (okC n1 n2 n3 n4 D && (airB q f t && okC n1 n2 n3 n4 (flyD D q f t n1)))) v] (fun l a W => Js [] (fun W => Below w5.heap.size w5 W) l W ∧ Fn 10 13 (isAC w5.heap.size w5.heap.size l1 l2 l3 l4 (flyD D q f t n1)) l a W) (by kernel_rfl) (by kernel_rfl) (by kernel_rfl) ⟨Js.nil hw0, Fn.first⟩ ⟨?r0, ?r1, ?r2, ?r3, ?r4, ?r5, ?r6, ?r7, ?r8, ?r9, ?r10, ?r11, trivial⟩ ?hend
      case r0 =>
        intro listed a u h hu hd K hK
        have hA : (fun W => Below w5.heap.size w5 W) u := h.world.1
        have e12 : a.tmps.getD 12 undef = .pointer (some ⟨w4.heap.size, 0, none⟩) := h.base (by kernel_rfl)
        have f12 : a.tmps[12]? = some (.pointer (some ⟨w4.heap.size, 0, none⟩)) := h.old (by kernel_rfl)
        rw [if_pos (by rfl)]
        obtain ⟨p0_, p1_, p2_, p3_, pf_⟩ := (PP.out.go hA).facts
        obtain ⟨v00_, v01_, v02_, v0f_⟩ := (VV0.out.go hA).facts
        obtain ⟨y0_, y1_, y2_, y3_, yf_⟩ := (XX.out.go hA).facts
        go_simp
        exact hK _ _ (fun _ _ _ h => h) (isE.mk rfl) ⟨(Js.nil (hA)), (Fn.neutral h.world.2 (by decide) (by decide) _)⟩
      case r1 =>
        intro listed a u h hu hd K hK
        have hA : (fun W => Below w5.heap.size w5 W) u := h.world.1
        have e5 : a.tmps.getD 5 undef = .pointer (some ⟨w.heap.size + 1, 0, none⟩) := h.base (by kernel_rfl)
        have f5 : a.tmps[5]? = some (.pointer (some ⟨w.heap.size + 1, 0, none⟩)) := h.old (by kernel_rfl)
        rw [if_pos (by rfl)]
        obtain ⟨p0_, p1_, p2_, p3_, pf_⟩ := (PP.out.go hA).facts
        obtain ⟨v00_, v01_, v02_, v0f_⟩ := (VV0.out.go hA).facts
        obtain ⟨y0_, y1_, y2_, y3_, yf_⟩ := (XX.out.go hA).facts
        go_simp
        exact hK _ _ (fun _ _ _ h => h) (isE.mk rfl) ⟨(Js.nil (hA)), (Fn.neutral h.world.2 (by decide) (by decide) _)⟩
      case r2 =>
        intro listed a u h hu hd K hK
        have hA : (fun W => Below w5.heap.size w5 W) u := h.world.1
        obtain ⟨v39, ev39, em39, F39⟩ := h.slot (i := 1) rfl rfl (hd _ (Array.mem_of_getElem? (i := 0) rfl) rfl)
        have q39 := isE.out F39
        have e39 := ev39.trans q39
        have f39 := em39.trans (congrArg some q39)
        clear ev39 em39 F39
        rw [if_pos (by rfl)]
        go_simp
        refine (laws_toVector _ _ _ _).mono ?_
        rintro e u2 ⟨rfl, hb⟩
        have hR : Gw u u2 := hb
        exact hK _ _ (fun j v hn hF => AllStX.fact0 (R := Gw) (i := 2) (by exact ⟨fun _ _ _ _ _ h => h, fun _ _ _ _ _ h => h, fun hn => absurd rfl hn, fun _ _ _ _ _ h => h, fun _ _ _ _ _ h => h, fun _ _ _ _ hW h => isCB.go h hW, fun _ _ _ _ hW h => isCB.go h hW, fun _ _ _ _ hW h => isC.go h hW, fun _ _ _ _ _ h => h, fun _ _ _ _ hW h => isA.go h hW, fun _ _ _ _ _ h => h, fun _ _ _ _ _ h => h, trivial⟩) hR j v hn hF) (isE.mk rfl) ⟨(Js.nil (hA.trans (hb.mono hA.size))), (Fn.no (RI3.wait' h (getD_un hu) (T := 10) rfl (Array.mem_of_getElem? (i := 5) rfl) rfl rfl) (by decide))⟩
      case r3 =>
        intro listed a u h hu hd K hK
        have e2 : a.tmps.getD 2 undef = .float .f32 f := h.base (by kernel_rfl)
        have f2 : a.tmps[2]? = some (.float .f32 f) := h.old (by kernel_rfl)
        rw [if_pos (by rfl)]
        go_simp
        exact hK _ _ (fun _ _ _ h => h) (isE.mk rfl) ⟨(Js.neutral h.world.1 rfl), (Fn.neutral h.world.2 (by decide) (by decide) _)⟩
      case r4 =>
        intro listed a u h hu hd K hK
        have e3 : a.tmps.getD 3 undef = .float .f32 t := h.base (by kernel_rfl)
        have f3 : a.tmps[3]? = some (.float .f32 t) := h.old (by kernel_rfl)
        rw [if_pos (by rfl)]
        go_simp
        exact hK _ _ (fun _ _ _ h => h) (isE.mk rfl) ⟨(Js.neutral h.world.1 rfl), (Fn.neutral h.world.2 (by decide) (by decide) _)⟩
      case r5 =>
        intro listed a u h hu hd K hK
        have hA : (fun W => Below w5.heap.size w5 W) u := h.world.1
        obtain ⟨v38, ev38, em38, F38⟩ := h.slot (i := 0) rfl rfl (hd _ (Array.mem_of_getElem? (i := 0) rfl) rfl)
        have q38 := isE.out F38
        have e38 := ev38.trans q38
        have f38 := em38.trans (congrArg some q38)
        clear ev38 em38 F38
        obtain ⟨v40, ev40, em40, F40⟩ := h.slot (i := 2) rfl rfl (hd _ (Array.mem_of_getElem? (i := 1) rfl) rfl)
        have q40 := isE.out F40
        have e40 := ev40.trans q40
        have f40 := em40.trans (congrArg some q40)
        clear ev40 em40 F40
        obtain ⟨v41, ev41, em41, F41⟩ := h.slot (i := 3) rfl rfl (hd _ (Array.mem_of_getElem? (i := 2) rfl) rfl)
        have q41 := isE.out F41
        have e41 := ev41.trans q41
        have f41 := em41.trans (congrArg some q41)
        clear ev41 em41 F41
        obtain ⟨v42, ev42, em42, F42⟩ := h.slot (i := 4) rfl rfl (hd _ (Array.mem_of_getElem? (i := 3) rfl) rfl)
        have q42 := isE.out F42
        have e42 := ev42.trans q42
        have f42 := em42.trans (congrArg some q42)
        clear ev42 em42 F42
        rw [if_pos (by rfl)]
        go_simp
        refine (impl_FlyChain _ _ _ _ _ _ _ _ n1 n2 n3 n4 _ D q f t u (OX.out.go hA)).mono ?_
        rintro e u2 hr
        obtain ⟨S1, S2, S3, S4, d1, d2, d3, d4, DS, rfl, hs, ho, _, hb⟩ := hr.g HL1.out HL2.out HL3.out HL4.out
        have hR : Gw u u2 := hb
        exact hK _ _ (fun j v hn hF => AllStX.fact0 (R := Gw) (i := 5) (by exact ⟨fun _ _ _ _ _ h => h, fun _ _ _ _ _ h => h, fun _ _ _ _ _ h => h, fun _ _ _ _ _ h => h, fun _ _ _ _ _ h => h, fun hn => absurd rfl hn, fun _ _ _ _ hW h => isCB.go h hW, fun _ _ _ _ hW h => isC.go h hW, fun _ _ _ _ _ h => h, fun _ _ _ _ hW h => isA.go h hW, fun _ _ _ _ _ h => h, fun _ _ _ _ _ h => h, trivial⟩) hR j v hn hF) ⟨S1, S2, S3, S4, d1, d2, d3, d4, DS, rfl, hs, ho.mono hA.size⟩ ⟨(Js.nil (hA.trans (hb.mono hA.size))), (Fn.no (RI3.wait' h (getD_un hu) (T := 10) rfl (Array.mem_of_getElem? (i := 2) rfl) rfl rfl) (by decide))⟩
      case r6 =>
        intro listed a u h hu hd K hK
        obtain ⟨v43, ev43, em43, F43⟩ := h.slot (i := 5) rfl rfl (hd _ (Array.mem_of_getElem? (i := 0) rfl) rfl)
        obtain ⟨CA43, CB43, CC43, CD43, ca43, cb43, cc43, cd43, DD43, q43, sd43, ho43⟩ : isCB (okC n1 n2 n3 n4 D && (airB q f t && okC n1 n2 n3 n4 (flyD D q f t n1))) w5.heap.size l1 l2 l3 l4 (flyD D q f t n1) v43 u := F43
        have e43 := ev43.trans q43
        have f43 := em43.trans (congrArg some q43)
        clear ev43 em43
        rw [if_pos (by rfl)]
        go_simp
        exact hK _ _ (fun _ _ _ h => h) (⟨CA43, CB43, CC43, CD43, ca43, cb43, cc43, cd43, DD43, rfl, sd43, ho43⟩) ⟨(Js.neutral h.world.1 rfl), (Fn.neutral h.world.2 (by decide) (by decide) _)⟩
      case r7 =>
        intro listed a u h hu hd K hK
        obtain ⟨v37, ev37, em37, F37⟩ := h.slot (i := 6) rfl rfl (hd _ (Array.mem_of_getElem? (i := 0) rfl) rfl)
        obtain ⟨CA37, CB37, CC37, CD37, ca37, cb37, cc37, cd37, DD37, q37, sd37, ho37⟩ : isCB (okC n1 n2 n3 n4 D && (airB q f t && okC n1 n2 n3 n4 (flyD D q f t n1))) w5.heap.size l1 l2 l3 l4 (flyD D q f t n1) v37 u := F37
        have e37 := ev37.trans q37
        have f37 := em37.trans (congrArg some q37)
        clear ev37 em37
        rw [if_pos (by rfl)]
        go_simp
        exact hK _ _ (fun _ _ _ h => h) (⟨CA37, CB37, CC37, CD37, ca37, cb37, cc37, cd37, DD37, rfl, sd37, ho37⟩) ⟨(Js.neutral h.world.1 rfl), (Fn.neutral h.world.2 (by decide) (by decide) _)⟩
      case r8 =>
        intro listed a u h hu hd K hK
        obtain ⟨v37, ev37, em37, F37⟩ := h.slot (i := 6) rfl rfl (hd _ (Array.mem_of_getElem? (i := 0) rfl) rfl)
        obtain ⟨CA37, CB37, CC37, CD37, ca37, cb37, cc37, cd37, DD37, q37, sd37, ho37⟩ : isCB (okC n1 n2 n3 n4 D && (airB q f t && okC n1 n2 n3 n4 (flyD D q f t n1))) w5.heap.size l1 l2 l3 l4 (flyD D q f t n1) v37 u := F37
        have e37 := ev37.trans q37
        have f37 := em37.trans (congrArg some q37)
        clear ev37 em37
        rw [if_pos (by rfl)]
        go_simp
        exact hK _ _ (fun _ _ _ h => h) (isE.mk rfl) ⟨(Js.neutral h.world.1 rfl), (Fn.neutral h.world.2 (by decide) (by decide) _)⟩
      case r9 =>
        intro listed a u h hu hd K hK
        have hA : (fun W => Below w5.heap.size w5 W) u := h.world.1
        rw [if_pos (by rfl)]
        go_simp
        have hR : Gw u (u.alloc (.cells #[sn, sn, sn, sn] 32)) := Below.alloc (Below.refl _ _) (Nat.le_refl _) _
        exact hK _ _ (fun j v hn hF => AllStX.fact0 (R := Gw) (i := 9) (by exact ⟨fun _ _ _ _ _ h => h, fun _ _ _ _ _ h => h, fun _ _ _ _ _ h => h, fun _ _ _ _ _ h => h, fun _ _ _ _ _ h => h, fun _ _ _ _ hW h => isCB.go h hW, fun _ _ _ _ hW h => isCB.go h hW, fun _ _ _ _ hW h => isC.go h hW, fun _ _ _ _ _ h => h, fun hn => absurd rfl hn, fun _ _ _ _ _ h => h, fun _ _ _ _ _ h => h, trivial⟩) hR j v hn hF) ⟨_, _, _, _, _, rfl, hA.size, Bx.new_ _ _ _ _ _ _⟩ ⟨(Js.nil (Below.alloc hA hA.size _)), (Fn.no (RI3.wait' h (getD_un hu) (T := 10) rfl (Array.mem_of_getElem? (i := 0) rfl) rfl rfl) (by decide))⟩
      case r10 =>
        intro listed a u h hu hd K hK
        have hA : (fun W => Below w5.heap.size w5 W) u := h.world.1
        obtain ⟨v13, ev13, em13, F13⟩ := h.slot (i := 9) rfl rfl (hd _ (Array.mem_of_getElem? (i := 0) rfl) rfl)
        obtain ⟨k13, xa13, xb13, xc13, xd13, q13, hk13, hx13⟩ : isA w5.heap.size v13 u := F13
        have e13 := ev13.trans q13
        have f13 := em13.trans (congrArg some q13)
        clear ev13 em13
        obtain ⟨v44, ev44, em44, F44⟩ := h.slot (i := 7) rfl rfl (hd _ (Array.mem_of_getElem? (i := 1) rfl) rfl)
        obtain ⟨CA44, CB44, CC44, CD44, ca44, cb44, cc44, cd44, DD44, q44, sd44, ho44⟩ : isC w5.heap.size l1 l2 l3 l4 (flyD D q f t n1) v44 u := F44
        have e44 := ev44.trans q44
        have f44 := em44.trans (congrArg some q44)
        clear ev44 em44
        rw [if_pos (by rfl)]
        obtain ⟨p0_, p1_, p2_, p3_, pf_⟩ := (PP.out.go hA).facts
        obtain ⟨v00_, v01_, v02_, v0f_⟩ := (VV0.out.go hA).facts
        obtain ⟨y0_, y1_, y2_, y3_, yf_⟩ := (XX.out.go hA).facts
        obtain ⟨g0, g1, g2, g3, gf⟩ := hx13.facts
        have lg := hx13.lt
        go_simp
        have hY := hx13.setAll (.slice CA44 l1 ca44) (.slice CB44 l2 cb44) (.slice CC44 l3 cc44) (.slice CD44 l4 cd44)
        have hW := Wr.set4 u k13 (.slice CA44 l1 ca44) (.slice CB44 l2 cb44) (.slice CC44 l3 cc44) (.slice CD44 l4 cd44)
        have hR : Cw u ((((u.setCell ⟨k13, 0, none⟩ (.slice CA44 l1 ca44)).setCell ⟨k13, 1, none⟩ (.slice CB44 l2 cb44)).setCell ⟨k13, 2, none⟩ (.slice CC44 l3 cc44)).setCell ⟨k13, 3, none⟩ (.slice CD44 l4 cd44)) := ⟨_, _, _, _, _, _, _, _, _, hx13, hW, hY⟩
        exact hK undef _ (fun j v hn hF => AllStX.fact0 (R := Cw) (i := 10) (by exact ⟨fun _ _ _ _ _ h => h, fun _ _ _ _ _ h => h, fun _ _ _ _ _ h => h, fun _ _ _ _ _ h => h, fun _ _ _ _ _ h => h, fun _ _ _ _ hW h => isCB.st h hW, fun _ _ _ _ hW h => isCB.st h hW, fun _ _ _ _ hW h => isC.st h hW, fun _ _ _ _ _ h => h, fun _ _ _ _ hW h => isA.st h hW, fun hn => absurd rfl hn, fun _ _ _ _ _ h => h, trivial⟩) hR j v hn hF) trivial ⟨(Js.nil ((Bx.bel hA hk13 _ _ _ _))), (Fn.hit f13 (⟨k13, CA44, CB44, CC44, CD44, ca44, cb44, cc44, cd44, DD44, rfl, hk13, hY, sd44, ho44.off hx13 hW⟩))⟩
      case r11 =>
        intro listed a u h hu hd K hK
        obtain ⟨v45, ev45, em45, F45⟩ := h.slot (i := 8) rfl rfl (hd _ (Array.mem_of_getElem? (i := 0) rfl) rfl)
        have q45 := isE.out F45
        have e45 := ev45.trans q45
        have f45 := em45.trans (congrArg some q45)
        clear ev45 em45 F45
        rw [if_pos (by rfl)]
        go_simp
        exact hK _ _ (fun _ _ _ h => h) (isE.mk rfl) ⟨(Js.neutral h.world.1 rfl), (Fn.neutral h.world.2 (by decide) (by decide) _)⟩
      case hend =>
        intro listed a u h hall
        have hB : (fun W => Below w5.heap.size w5 W) u := h.world.1
        obtain ⟨m13, hm13, hf13⟩ := h.world.2 (hall 10 (by decide))
        obtain ⟨v13, ev13, em13, F13⟩ := h.slot (i := 9) rfl rfl (hall 9 (by decide))
        obtain ⟨k13, xa13, xb13, xc13, xd13, q13, hk13, hx13⟩ : isA w5.heap.size v13 u := F13
        have f13 := em13.trans (congrArg some q13)
        clear ev13 em13
        obtain ⟨v14, ev14, em14, F14⟩ := h.slot (i := 11) rfl rfl (hall 11 (by decide))
        have q14 := isE.out F14
        have f14 := em14.trans (congrArg some q14)
        clear ev14 em14 F14
        obtain ⟨v37, ev37, em37, F37⟩ := h.slot (i := 6) rfl rfl (hall 6 (by decide))
        obtain ⟨CA37, CB37, CC37, CD37, ca37, cb37, cc37, cd37, DD37, q37, sd37, ho37⟩ : isCB (okC n1 n2 n3 n4 D && (airB q f t && okC n1 n2 n3 n4 (flyD D q f t n1))) w5.heap.size l1 l2 l3 l4 (flyD D q f t n1) v37 u := F37
        have f37 := em37.trans (congrArg some q37)
        clear ev37 em37
        obtain ⟨v38, ev38, em38, F38⟩ := h.slot (i := 0) rfl rfl (hall 0 (by decide))
        have q38 := isE.out F38
        have f38 := em38.trans (congrArg some q38)
        clear ev38 em38 F38
        obtain ⟨v39, ev39, em39, F39⟩ := h.slot (i := 1) rfl rfl (hall 1 (by decide))
        have q39 := isE.out F39
        have f39 := em39.trans (congrArg some q39)
        clear ev39 em39 F39
        obtain ⟨v40, ev40, em40, F40⟩ := h.slot (i := 2) rfl rfl (hall 2 (by decide))
        have q40 := isE.out F40
        have f40 := em40.trans (congrArg some q40)
        clear ev40 em40 F40
        obtain ⟨v41, ev41, em41, F41⟩ := h.slot (i := 3) rfl rfl (hall 3 (by decide))
        have q41 := isE.out F41
        have f41 := em41.trans (congrArg some q41)
        clear ev41 em41 F41
        obtain ⟨v42, ev42, em42, F42⟩ := h.slot (i := 4) rfl rfl (hall 4 (by decide))
        have q42 := isE.out F42
        have f42 := em42.trans (congrArg some q42)
        clear ev42 em42 F42
        obtain ⟨v43, ev43, em43, F43⟩ := h.slot (i := 5) rfl rfl (hall 5 (by decide))
        obtain ⟨CA43, CB43, CC43, CD43, ca43, cb43, cc43, cd43, DD43, q43, sd43, ho43⟩ : isCB (okC n1 n2 n3 n4 D && (airB q f t && okC n1 n2 n3 n4 (flyD D q f t n1))) w5.heap.size l1 l2 l3 l4 (flyD D q f t n1) v43 u := F43
        have f43 := em43.trans (congrArg some q43)
        clear ev43 em43
        obtain ⟨v44, ev44, em44, F44⟩ := h.slot (i := 7) rfl rfl (hall 7 (by decide))
        obtain ⟨CA44, CB44, CC44, CD44, ca44, cb44, cc44, cd44, DD44, q44, sd44, ho44⟩ : isC w5.heap.size l1 l2 l3 l4 (flyD D q f t n1) v44 u := F44
        have f44 := em44.trans (congrArg some q44)
        clear ev44 em44
        obtain ⟨v45, ev45, em45, F45⟩ := h.slot (i := 8) rfl rfl (hall 8 (by decide))
        have q45 := isE.out F45
        have f45 := em45.trans (congrArg some q45)
        clear ev45 em45 F45
        obtain rfl : m13 = _ := Option.some.inj (hm13.symm.trans f13)
        have ha := h.act [13, 14, 37, 38, 39, 40, 41, 42, 43, 44, 45] [_, _, _, _, _, _, _, _, _, _, _] (by kernel_rfl) ⟨f13, f14, f37, f38, f39, f40, f41, f42, f43, f44, f45, trivial⟩
        clear f13 f14 f37 f38 f39 f40 f41 f42 f43 f44 f45
        simp only [setAll, List.setIfInBounds_toArray, List.set_cons_zero, List.set_cons_succ] at ha
        subst ha
        clear h hall
        obtain ⟨w6, rfl⟩ : ∃ z : World, z = u := ⟨u, rfl⟩
        obtain ⟨kG, G1, G2, G3, G4, Gc1, Gc2, Gc3, Gc4, DG, hke, hkG, hxG, hsG, hoG⟩ := hf13
        cases hke
        have SG := Lib.hid hsG
        have XG6 := Lib.hid hxG
        have OG6 := Lib.hid hoG
        have DG_ := Lib.hid hoG.bds
        have lG := hxG.lt
        have XX6 := Lib.hid (XX.out.go hB)
        have OX6 := Lib.hid (OX.out.go hB)
        have P6 := Lib.hid (PP.out.go hB)
        have V60 := Lib.hid (VV0.out.go hB)
        have XS6 := Lib.hid (XS5.out.go hB)
        have OS6 := Lib.hid (OS5.out.go hB)
        have B6 := Lib.hid (below_step BB.out hB)
        have y6 := hB.size
        clear hsG hxG hoG hB hw0 PP BB XX OX XS5 OS5 hm13 VV0
        have hbb : ((okC n1 n2 n3 n4 D && (airB q f t && okC n1 n2 n3 n4 (flyD D q f t n1))) != (okC n1 n2 n3 n4 D && (airB q f t && okC n1 n2 n3 n4 (flyD D q f t n1)))) = false := by simp
        obtain ⟨v0, v1, v2, v3, vf⟩ := XS6.out.facts
        obtain ⟨q0, q1, q2, q3, qf⟩ := XG6.out.facts
        go_wp2_with fail
        refine (laws_eqChain _ _ _ _ _ _ _ _ _ _ _ _ _ _ _ _ l1 l2 l3 l4 _ _ DG DS j1 j2 j3 j4 (SG.out.trans SS.out.symm) _ OG6.out OS6.out).mono ?_
        rintro e w7 ⟨rfl, hb7⟩
        clear v0 v1 v2 v3 vf q0 q1 q2 q3 qf
        have XG7 := Lib.hid (XG6.out.go hb7)
        have XX7 := Lib.hid (XX6.out.go hb7)
        have XS7 := Lib.hid (XS6.out.go hb7)
        have P7 := Lib.hid (P6.out.go hb7)
        have OX7 := Lib.hid (OX6.out.go hb7)
        have OS7 := Lib.hid (OS6.out.go hb7)
        have OG7 := Lib.hid (OG6.out.go hb7)
        have V70 := Lib.hid (V60.out.go hb7)
        have B7 := Lib.hid (below_step B6.out hb7)
        have y7 := hb7.size
        clear hb7 B6
        clear XG6 XX6 XS6 P6 OX6 OS6 OG6 V60
        obtain ⟨p0, p1, p2, p3, pf⟩ := P7.out.facts
        obtain ⟨q0, q1, q2, q3, qf⟩ := XX7.out.facts
        have lP := P7.out.lt
        have lX := XX7.out.lt
        go_upto_region 10 with fail
        go_cut [59] (fun s wx => s = .bool false ∧ Below w7.heap.size w7 wx)
        case first =>
          go_region_with (first | (go_at_call 25; refine (laws_toChain A1 A2 A3 A4 c1 c2 c3 c4 n1 n2 n3 n4 D k1 k2 k3 k4 _ ((HC.out.go B7.out.drew).i1) ((HC.out.go B7.out.drew).i2) ((HC.out.go B7.out.drew).i3) ((HC.out.go B7.out.drew).i4)).mono ?_; rintro e u2 ⟨y1, y2, y3, y4, rfl, ho7, hb7⟩; have O7 := Lib.hid ho7; have BZ := Lib.hid ((Below.refl w7.heap.size w7).drew.trans hb7); obtain ⟨u0, u1, u2, u3, uf⟩ := (XX7.out.go BZ.out).facts; clear ho7 hb7) | (go_at_call 27; refine (laws_eqChain _ _ _ _ _ _ _ _ _ _ _ _ _ _ _ _ n1 n2 n3 n4 _ _ D D k1 k2 k3 k4 (SimD.refl _ _ _ _ _) _ (OX7.out.go BZ.out) O7.out).mono ?_; rintro e w8 ⟨rfl, hb8⟩; have BY := Lib.hid hb8; clear hb8))
          all_goals
            go_wp2_with fail
            go_meet
            exact ⟨rfl, BZ.out.trans (BY.out.mono BZ.out.size)⟩
        obtain ⟨rfl, hb8⟩ := hcut
        clear p0 p1 p2 p3 pf q0 q1 q2 q3 qf lP lX
        have XG8 := Lib.hid (XG7.out.go hb8)
        have XX8 := Lib.hid (XX7.out.go hb8)
        have XS8 := Lib.hid (XS7.out.go hb8)
        have P8 := Lib.hid (P7.out.go hb8)
        have OX8 := Lib.hid (OX7.out.go hb8)
        have OS8 := Lib.hid (OS7.out.go hb8)
        have OG8 := Lib.hid (OG7.out.go hb8)
        have V80 := Lib.hid (V70.out.go hb8)
        have B8 := Lib.hid (below_step B7.out hb8)
        have y8 := hb8.size
        clear hb8 B7
        clear XG7 XX7 XS7 P7 OX7 OS7 OG7 V70
        obtain ⟨q0, q1, q2, q3, qf⟩ := XX8.out.facts
        have lX := XX8.out.lt
        go_wp2_with fail
        refine (laws_markChain _ _ _ _ _ _ _ _ n1 n2 n3 n4 _ D k1 k2 k3 k4 _ OX8.out).mono ?_
        rintro e w9 ⟨rfl, _, hw9⟩
        have W9 := Lib.hid (hw9.mono (S' := fun k => w3.heap.size ≤ k ∧ k < w4.heap.size) (fun k _ h => blkC_bd DX.out h))
        have XS9 := Lib.hid (XS8.out.wr W9.out (fun h => by have := h.1; omega))
        have XG9 := Lib.hid (XG8.out.wr W9.out (fun h => by have := h.2; omega))
        have P9 := Lib.hid (P8.out.wr W9.out (fun h => by have := h.1; omega))
        have V90 := Lib.hid (V80.out.wr W9.out (fun h => by have := h.1; omega))
        have OS9 := Lib.hid (OS8.out.wr W9.out DS_.out (fun k h1 h2 h => by have := h.1; omega))
        have OG9 := Lib.hid (OG8.out.wr W9.out DG_.out (fun k h1 h2 h => by have := h.2; omega))
        have B9 := Lib.hid (B8.out.trans (W9.out.below B8.out.size (fun k hk h => by have := h.1; omega)))
        have y9 := W9.out.size
        clear hw9 q0 q1 q2 q3 qf lX B8
        clear XG8 XX8 XS8 P8 OX8 OS8 OG8 V80
        have hc0 : ¬ (cnt n1 n2 n3 n4 < 0) := by unfold cnt; omega
        have hc1 : ¬ (cnt l1 l2 l3 l4 < 0) := by unfold cnt; omega
        have hc2 : (cnt l1 l2 l3 l4 != cnt l1 l2 l3 l4) = false := by simp
        obtain ⟨v0, v1, v2, v3, vf⟩ := XS9.out.facts
        obtain ⟨q0, q1, q2, q3, qf⟩ := XG9.out.facts
        go_wp2_with fail
        refine (laws_eqChain _ _ _ _ _ _ _ _ _ _ _ _ _ _ _ _ l1 l2 l3 l4 _ _ DG DS j1 j2 j3 j4 (SG.out.trans SS.out.symm) _ OG9.out OS9.out).mono ?_
        rintro e w10 ⟨rfl, hb10⟩
        clear v0 v1 v2 v3 vf q0 q1 q2 q3 qf
        have XG10 := Lib.hid (XG9.out.go hb10)
        have XS10 := Lib.hid (XS9.out.go hb10)
        have P10 := Lib.hid (P9.out.go hb10)
        have OS10 := Lib.hid (OS9.out.go hb10)
        have OG10 := Lib.hid (OG9.out.go hb10)
        have V100 := Lib.hid (V90.out.go hb10)
        have B10 := Lib.hid (below_step B9.out hb10)
        have y10 := hb10.size
        clear hb10 B9
        clear XG9 XS9 P9 OS9 OG9 V90
        obtain ⟨q0, q1, q2, q3, qf⟩ := XG10.out.facts
        go_wp2_with fail
        refine (laws_markChain _ _ _ _ _ _ _ _ l1 l2 l3 l4 _ DG j1 j2 j3 j4 _ OG10.out).mono ?_
        rintro e w11 ⟨rfl, hm11, hw11⟩
        have XG11 := Lib.hid (XG10.out.wr hw11 (OG10.out.chainN XG10.out))
        have W11 := Lib.hid (hw11.mono (S' := fun k => w5.heap.size ≤ k ∧ k < w6.heap.size) (fun k _ h => blkC_bd DG_.out h))
        have M11 := Lib.hid hm11
        have XS11 := Lib.hid (XS10.out.wr W11.out (fun h => by have := h.1; omega))
        have P11 := Lib.hid (P10.out.wr W11.out (fun h => by have := h.1; omega))
        have V110 := Lib.hid (V100.out.wr W11.out (fun h => by have := h.1; omega))
        have OS11 := Lib.hid (OS10.out.wr W11.out DS_.out (fun k h1 h2 h => by have := h.1; omega))
        have B11 := Lib.hid (B10.out.trans (W11.out.below B10.out.size (fun k hk h => by have := h.1; omega)))
        have y11 := W11.out.size
        clear hw11 hm11 q0 q1 q2 q3 qf B10
        clear XG10 XS10 P10 OS10 OG10 V100
        obtain ⟨q0, q1, q2, q3, qf⟩ := XG11.out.facts
        go_wp2_with fail
        refine (laws_heldChain _ _ _ _ _ _ _ _ l1 l2 l3 l4 _ j1 j2 j3 j4 _ M11.out).mono ?_
        rintro e w12 ⟨rfl, hb12⟩
        clear q0 q1 q2 q3 qf
        have XG12 := Lib.hid (XG11.out.go hb12)
        have XS12 := Lib.hid (XS11.out.go hb12)
        have P12 := Lib.hid (P11.out.go hb12)
        have OS12 := Lib.hid (OS11.out.go hb12)
        have M12 := Lib.hid (M11.out.go hb12)
        have V120 := Lib.hid (V110.out.go hb12)
        have BB := Lib.hid (below_step B11.out hb12)
        clear hb12 B11
        clear XG11 XS11 P11 OS11 M11 V110
        have PP := P12
        have VV0 := V120
        have hw0 : Below w12.heap.size w12 w12.drew := (Below.refl _ _).drew
        go_upto_region 24 with fail
        refine region_inv3 [fun v _ => isE (.agg #[.slice A1 n1 c1, .slice A2 n2 c2, .slice A3 n3 c3, .slice A4 n4 c4]) v, isT w12.heap.size n1 n2 n3 n4 D, fun v _ => isE (.agg #[.float .f32 q.x, .float .f32 q.y, .float .f32 q.z]) v, fun v _ => isE (.agg #[.float .f32 q.x, .float .f32 q.y, .float .f32 q.z]) v, fun v _ => isE (.float .f32 f) v, fun v _ => isE (.float .f32 t) v, isCB (okC n1 n2 n3 n4 D && (airB q f t && okC n1 n2 n3 n4 (flyD D q f t n1))) w12.heap.size l1 l2 l3 l4 (flyD D q f t n1), isCB (okC n1 n2 n3 n4 D && (airB q f t && okC n1 n2 n3 n4 (flyD D q f t n1))) w12.heap.size l1 l2 l3 l4 (flyD D q f t n1), isC w12.heap.size l1 l2 l3 l4 (flyD D q f t n1), fun v _ => isE (.bool (okC n1 n2 n3 n4 D && (airB q f t && okC n1 n2 n3 n4 (flyD D q f t n1)))) v, isA w12.heap.size, fun _ _ => True, fun v _ => isE (.bool (okC n1 n2 n3 n4 D && (airB q f t && okC n1 n2 n3 n4 (flyD D q f t n1)))) v] (fun l a W => Js [] (fun W => Below w12.heap.size w12 W) l W ∧ Fn 11 18 (isAC w12.heap.size w12.heap.size l1 l2 l3 l4 (flyD D q f t n1)) l a W) (by kernel_rfl) (by kernel_rfl) (by kernel_rfl) ⟨Js.nil hw0, Fn.first⟩ ⟨?r0, ?r1, ?r2, ?r3, ?r4, ?r5, ?r6, ?r7, ?r8, ?r9, ?r10, ?r11, ?r12, trivial⟩ ?hend
        case r0 =>
          intro listed a u h hu hd K hK
          have hA : (fun W => Below w12.heap.size w12 W) u := h.world.1
          have e4 : a.tmps.getD 4 undef = .pointer (some ⟨w.heap.size, 0, none⟩) := h.base (by kernel_rfl)
          have f4 : a.tmps[4]? = some (.pointer (some ⟨w.heap.size, 0, none⟩)) := h.old (by kernel_rfl)
          rw [if_pos (by rfl)]
          obtain ⟨p0_, p1_, p2_, p3_, pf_⟩ := (PP.out.go hA).facts
          obtain ⟨v00_, v01_, v02_, v0f_⟩ := (VV0.out.go hA).facts
          go_simp
          exact hK _ _ (fun _ _ _ h => h) (isE.mk rfl) ⟨(Js.nil (hA)), (Fn.neutral h.world.2 (by decide) (by decide) _)⟩
        case r1 =>
          intro listed a u h hu hd K hK
          have hA : (fun W => Below w12.heap.size w12 W) u := h.world.1
          obtain ⟨v88, ev88, em88, F88⟩ := h.slot (i := 0) rfl rfl (hd _ (Array.mem_of_getElem? (i := 0) rfl) rfl)
          have q88 := isE.out F88
          have e88 := ev88.trans q88
          have f88 := em88.trans (congrArg some q88)
          clear ev88 em88 F88
          rw [if_pos (by rfl)]
          go_simp
          refine (laws_toChain A1 A2 A3 A4 c1 c2 c3 c4 n1 n2 n3 n4 D k1 k2 k3 k4 _ ((HC.out.go (below_step BB.out hA)).i1) ((HC.out.go (below_step BB.out hA)).i2) ((HC.out.go (below_step BB.out hA)).i3) ((HC.out.go (below_step BB.out hA)).i4)).mono ?_
          rintro e u2 ⟨y1, y2, y3, y4, rfl, ho, hb⟩
          have hR : Gw u u2 := hb
          exact hK _ _ (fun j v hn hF => AllStX.fact0 (R := Gw) (i := 1) (by exact ⟨fun _ _ _ _ _ h => h, fun hn => absurd rfl hn, fun _ _ _ _ _ h => h, fun _ _ _ _ _ h => h, fun _ _ _ _ _ h => h, fun _ _ _ _ _ h => h, fun _ _ _ _ hW h => isCB.go h hW, fun _ _ _ _ hW h => isCB.go h hW, fun _ _ _ _ hW h => isC.go h hW, fun _ _ _ _ _ h => h, fun _ _ _ _ hW h => isA.go h hW, fun _ _ _ _ _ h => h, fun _ _ _ _ _ h => h, trivial⟩) hR j v hn hF) ⟨y1, y2, y3, y4, rfl, ho.mono hA.size⟩ ⟨(Js.nil (hA.trans (hb.mono hA.size))), (Fn.no (RI3.wait' h (getD_un hu) (T := 11) rfl (Array.mem_of_getElem? (i := 4) rfl) rfl rfl) (by decide))⟩
        case r2 =>
          intro listed a u h hu hd K hK
          have hA : (fun W => Below w12.heap.size w12 W) u := h.world.1
          have e5 : a.tmps.getD 5 undef = .pointer (some ⟨w.heap.size + 1, 0, none⟩) := h.base (by kernel_rfl)
          have f5 : a.tmps[5]? = some (.pointer (some ⟨w.heap.size + 1, 0, none⟩)) := h.old (by kernel_rfl)
          rw [if_pos (by rfl)]
          obtain ⟨p0_, p1_, p2_, p3_, pf_⟩ := (PP.out.go hA).facts
          obtain ⟨v00_, v01_, v02_, v0f_⟩ := (VV0.out.go hA).facts
          go_simp
          exact hK _ _ (fun _ _ _ h => h) (isE.mk rfl) ⟨(Js.nil (hA)), (Fn.neutral h.world.2 (by decide) (by decide) _)⟩
        case r3 =>
          intro listed a u h hu hd K hK
          have hA : (fun W => Below w12.heap.size w12 W) u := h.world.1
          obtain ⟨v90, ev90, em90, F90⟩ := h.slot (i := 2) rfl rfl (hd _ (Array.mem_of_getElem? (i := 0) rfl) rfl)
          have q90 := isE.out F90
          have e90 := ev90.trans q90
          have f90 := em90.trans (congrArg some q90)
          clear ev90 em90 F90
          rw [if_pos (by rfl)]
          go_simp
          refine (laws_toVector _ _ _ _).mono ?_
          rintro e u2 ⟨rfl, hb⟩
          have hR : Gw u u2 := hb
          exact hK _ _ (fun j v hn hF => AllStX.fact0 (R := Gw) (i := 3) (by exact ⟨fun _ _ _ _ _ h => h, fun _ _ _ _ hW h => isT.go h hW, fun _ _ _ _ _ h => h, fun hn => absurd rfl hn, fun _ _ _ _ _ h => h, fun _ _ _ _ _ h => h, fun _ _ _ _ hW h => isCB.go h hW, fun _ _ _ _ hW h => isCB.go h hW, fun _ _ _ _ hW h => isC.go h hW, fun _ _ _ _ _ h => h, fun _ _ _ _ hW h => isA.go h hW, fun _ _ _ _ _ h => h, fun _ _ _ _ _ h => h, trivial⟩) hR j v hn hF) (isE.mk rfl) ⟨(Js.nil (hA.trans (hb.mono hA.size))), (Fn.no (RI3.wait' h (getD_un hu) (T := 11) rfl (Array.mem_of_getElem? (i := 6) rfl) rfl rfl) (by decide))⟩
        case r4 =>
          intro listed a u h hu hd K hK
          have e2 : a.tmps.getD 2 undef = .float .f32 f := h.base (by kernel_rfl)
          have f2 : a.tmps[2]? = some (.float .f32 f) := h.old (by kernel_rfl)
          rw [if_pos (by rfl)]
          go_simp
          exact hK _ _ (fun _ _ _ h => h) (isE.mk rfl) ⟨(Js.neutral h.world.1 rfl), (Fn.neutral h.world.2 (by decide) (by decide) _)⟩
        case r5 =>
          intro listed a u h hu hd K hK
          have e3 : a.tmps.getD 3 undef = .float .f32 t := h.base (by kernel_rfl)
          have f3 : a.tmps[3]? = some (.float .f32 t) := h.old (by kernel_rfl)
          rw [if_pos (by rfl)]
          go_simp
          exact hK _ _ (fun _ _ _ h => h) (isE.mk rfl) ⟨(Js.neutral h.world.1 rfl), (Fn.neutral h.world.2 (by decide) (by decide) _)⟩
        case r6 =>
          intro listed a u h hu hd K hK
          have hA : (fun W => Below w12.heap.size w12 W) u := h.world.1
          obtain ⟨v89, ev89, em89, F89⟩ := h.slot (i := 1) rfl rfl (hd _ (Array.mem_of_getElem? (i := 0) rfl) rfl)
          obtain ⟨aa89, ab89, ac89, ad89, q89, ho89⟩ : isT w12.heap.size n1 n2 n3 n4 D v89 u := F89
          have e89 := ev89.trans q89
          have f89 := em89.trans (congrArg some q89)
          clear ev89 em89
          obtain ⟨v91, ev91, em91, F91⟩ := h.slot (i := 3) rfl rfl (hd _ (Array.mem_of_getElem? (i := 1) rfl) rfl)
          have q91 := isE.out F91
          have e91 := ev91.trans q91
          have f91 := em91.trans (congrArg some q91)
          clear ev91 em91 F91
          obtain ⟨v92, ev92, em92, F92⟩ := h.slot (i := 4) rfl rfl (hd _ (Array.mem_of_getElem? (i := 2) rfl) rfl)
          have q92 := isE.out F92
          have e92 := ev92.trans q92
          have f92 := em92.trans (congrArg some q92)
          clear ev92 em92 F92
          obtain ⟨v93, ev93, em93, F93⟩ := h.slot (i := 5) rfl rfl (hd _ (Array.mem_of_getElem? (i := 3) rfl) rfl)
          have q93 := isE.out F93
          have e93 := ev93.trans q93
          have f93 := em93.trans (congrArg some q93)
          clear ev93 em93 F93
          rw [if_pos (by rfl)]
          go_simp
          refine (impl_FlyChain _ _ _ _ _ _ _ _ n1 n2 n3 n4 _ D q f t u (ho89)).mono ?_
          rintro e u2 hr
          obtain ⟨S1, S2, S3, S4, d1, d2, d3, d4, DS, rfl, hs, ho, _, hb⟩ := hr.g HL1.out HL2.out HL3.out HL4.out
          have hR : Gw u u2 := hb
          exact hK _ _ (fun j v hn hF => AllStX.fact0 (R := Gw) (i := 6) (by exact ⟨fun _ _ _ _ _ h => h, fun _ _ _ _ hW h => isT.go h hW, fun _ _ _ _ _ h => h, fun _ _ _ _ _ h => h, fun _ _ _ _ _ h => h, fun _ _ _ _ _ h => h, fun hn => absurd rfl hn, fun _ _ _ _ hW h => isCB.go h hW, fun _ _ _ _ hW h => isC.go h hW, fun _ _ _ _ _ h => h, fun _ _ _ _ hW h => isA.go h hW, fun _ _ _ _ _ h => h, fun _ _ _ _ _ h => h, trivial⟩) hR j v hn hF) ⟨S1, S2, S3, S4, d1, d2, d3, d4, DS, rfl, hs, ho.mono hA.size⟩ ⟨(Js.nil (hA.trans (hb.mono hA.size))), (Fn.no (RI3.wait' h (getD_un hu) (T := 11) rfl (Array.mem_of_getElem? (i := 2) rfl) rfl rfl) (by decide))⟩
        case r7 =>
          intro listed a u h hu hd K hK
          obtain ⟨v94, ev94, em94, F94⟩ := h.slot (i := 6) rfl rfl (hd _ (Array.mem_of_getElem? (i := 0) rfl) rfl)
          obtain ⟨CA94, CB94, CC94, CD94, ca94, cb94, cc94, cd94, DD94, q94, sd94, ho94⟩ : isCB (okC n1 n2 n3 n4 D && (airB q f t && okC n1 n2 n3 n4 (flyD D q f t n1))) w12.heap.size l1 l2 l3 l4 (flyD D q f t n1) v94 u := F94
          have e94 := ev94.trans q94
          have f94 := em94.trans (congrArg some q94)
          clear ev94 em94
          rw [if_pos (by rfl)]
          go_simp
          exact hK _ _ (fun _ _ _ h => h) (⟨CA94, CB94, CC94, CD94, ca94, cb94, cc94, cd94, DD94, rfl, sd94, ho94⟩) ⟨(Js.neutral h.world.1 rfl), (Fn.neutral h.world.2 (by decide) (by decide) _)⟩
        case r8 =>
          intro listed a u h hu hd K hK
          obtain ⟨v87, ev87, em87, F87⟩ := h.slot (i := 7) rfl rfl (hd _ (Array.mem_of_getElem? (i := 0) rfl) rfl)
          obtain ⟨CA87, CB87, CC87, CD87, ca87, cb87, cc87, cd87, DD87, q87, sd87, ho87⟩ : isCB (okC n1 n2 n3 n4 D && (airB q f t && okC n1 n2 n3 n4 (flyD D q f t n1))) w12.heap.size l1 l2 l3 l4 (flyD D q f t n1) v87 u := F87
          have e87 := ev87.trans q87
          have f87 := em87.trans (congrArg some q87)
          clear ev87 em87
          rw [if_pos (by rfl)]
          go_simp
          exact hK _ _ (fun _ _ _ h => h) (⟨CA87, CB87, CC87, CD87, ca87, cb87, cc87, cd87, DD87, rfl, sd87, ho87⟩) ⟨(Js.neutral h.world.1 rfl), (Fn.neutral h.world.2 (by decide) (by decide) _)⟩
        case r9 =>
          intro listed a u h hu hd K hK
          obtain ⟨v87, ev87, em87, F87⟩ := h.slot (i := 7) rfl rfl (hd _ (Array.mem_of_getElem? (i := 0) rfl) rfl)
          obtain ⟨CA87, CB87, CC87, CD87, ca87, cb87, cc87, cd87, DD87, q87, sd87, ho87⟩ : isCB (okC n1 n2 n3 n4 D && (airB q f t && okC n1 n2 n3 n4 (flyD D q f t n1))) w12.heap.size l1 l2 l3 l4 (flyD D q f t n1) v87 u := F87
          have e87 := ev87.trans q87
          have f87 := em87.trans (congrArg some q87)
          clear ev87 em87
          rw [if_pos (by rfl)]
          go_simp
          exact hK _ _ (fun _ _ _ h => h) (isE.mk rfl) ⟨(Js.neutral h.world.1 rfl), (Fn.neutral h.world.2 (by decide) (by decide) _)⟩
        case r10 =>
          intro listed a u h hu hd K hK
          have hA : (fun W => Below w12.heap.size w12 W) u := h.world.1
          rw [if_pos (by rfl)]
          go_simp
          have hR : Gw u (u.alloc (.cells #[sn, sn, sn, sn] 32)) := Below.alloc (Below.refl _ _) (Nat.le_refl _) _
          exact hK _ _ (fun j v hn hF => AllStX.fact0 (R := Gw) (i := 10) (by exact ⟨fun _ _ _ _ _ h => h, fun _ _ _ _ hW h => isT.go h hW, fun _ _ _ _ _ h => h, fun _ _ _ _ _ h => h, fun _ _ _ _ _ h => h, fun _ _ _ _ _ h => h, fun _ _ _ _ hW h => isCB.go h hW, fun _ _ _ _ hW h => isCB.go h hW, fun _ _ _ _ hW h => isC.go h hW, fun _ _ _ _ _ h => h, fun hn => absurd rfl hn, fun _ _ _ _ _ h => h, fun _ _ _ _ _ h => h, trivial⟩) hR j v hn hF) ⟨_, _, _, _, _, rfl, hA.size, Bx.new_ _ _ _ _ _ _⟩ ⟨(Js.nil (Below.alloc hA hA.size _)), (Fn.no (RI3.wait' h (getD_un hu) (T := 11) rfl (Array.mem_of_getElem? (i := 0) rfl) rfl rfl) (by decide))⟩
        case r11 =>
          intro listed a u h hu hd K hK
          have hA : (fun W => Below w12.heap.size w12 W) u := h.world.1
          obtain ⟨v18, ev18, em18, F18⟩ := h.slot (i := 10) rfl rfl (hd _ (Array.mem_of_getElem? (i := 0) rfl) rfl)
          obtain ⟨k18, xa18, xb18, xc18, xd18, q18, hk18, hx18⟩ : isA w12.heap.size v18 u := F18
          have e18 := ev18.trans q18
          have f18 := em18.trans (congrArg some q18)
          clear ev18 em18
          obtain ⟨v95, ev95, em95, F95⟩ := h.slot (i := 8) rfl rfl (hd _ (Array.mem_of_getElem? (i := 1) rfl) rfl)
          obtain ⟨CA95, CB95, CC95, CD95, ca95, cb95, cc95, cd95, DD95, q95, sd95, ho95⟩ : isC w12.heap.size l1 l2 l3 l4 (flyD D q f t n1) v95 u := F95
          have e95 := ev95.trans q95
          have f95 := em95.trans (congrArg some q95)
          clear ev95 em95
          rw [if_pos (by rfl)]
          obtain ⟨p0_, p1_, p2_, p3_, pf_⟩ := (PP.out.go hA).facts
          obtain ⟨v00_, v01_, v02_, v0f_⟩ := (VV0.out.go hA).facts
          obtain ⟨g0, g1, g2, g3, gf⟩ := hx18.facts
          have lg := hx18.lt
          go_simp
          have hY := hx18.setAll (.slice CA95 l1 ca95) (.slice CB95 l2 cb95) (.slice CC95 l3 cc95) (.slice CD95 l4 cd95)
          have hW := Wr.set4 u k18 (.slice CA95 l1 ca95) (.slice CB95 l2 cb95) (.slice CC95 l3 cc95) (.slice CD95 l4 cd95)
          have hR : Cw u ((((u.setCell ⟨k18, 0, none⟩ (.slice CA95 l1 ca95)).setCell ⟨k18, 1, none⟩ (.slice CB95 l2 cb95)).setCell ⟨k18, 2, none⟩ (.slice CC95 l3 cc95)).setCell ⟨k18, 3, none⟩ (.slice CD95 l4 cd95)) := ⟨_, _, _, _, _, _, _, _, _, hx18, hW, hY⟩
          exact hK undef _ (fun j v hn hF => AllStX.fact0 (R := Cw) (i := 11) (by exact ⟨fun _ _ _ _ _ h => h, fun _ _ _ _ hW h => isT.st h hW, fun _ _ _ _ _ h => h, fun _ _ _ _ _ h => h, fun _ _ _ _ _ h => h, fun _ _ _ _ _ h => h, fun _ _ _ _ hW h => isCB.st h hW, fun _ _ _ _ hW h => isCB.st h hW, fun _ _ _ _ hW h => isC.st h hW, fun _ _ _ _ _ h => h, fun _ _ _ _ hW h => isA.st h hW, fun hn => absurd rfl hn, fun _ _ _ _ _ h => h, trivial⟩) hR j v hn hF) trivial ⟨(Js.nil ((Bx.bel hA hk18 _ _ _ _))), (Fn.hit f18 (⟨k18, CA95, CB95, CC95, CD95, ca95, cb95, cc95, cd95, DD95, rfl, hk18, hY, sd95, ho95.off hx18 hW⟩))⟩
        case r12 =>
          intro listed a u h hu hd K hK
          obtain ⟨v96, ev96, em96, F96⟩ := h.slot (i := 9) rfl rfl (hd _ (Array.mem_of_getElem? (i := 0) rfl) rfl)
          have q96 := isE.out F96
          have e96 := ev96.trans q96
          have f96 := em96.trans (congrArg some q96)
          clear ev96 em96 F96
          rw [if_pos (by rfl)]
          go_simp
          exact hK _ _ (fun _ _ _ h => h) (isE.mk rfl) ⟨(Js.neutral h.world.1 rfl), (Fn.neutral h.world.2 (by decide) (by decide) _)⟩
        case hend =>
          intro listed a u h hall
          have hB : (fun W => Below w12.heap.size w12 W) u := h.world.1
          obtain ⟨m18, hm18, hf18⟩ := h.world.2 (hall 11 (by decide))
          obtain ⟨v18, ev18, em18, F18⟩ := h.slot (i := 10) rfl rfl (hall 10 (by decide))
          obtain ⟨k18, xa18, xb18, xc18, xd18, q18, hk18, hx18⟩ : isA w12.heap.size v18 u := F18
          have f18 := em18.trans (congrArg some q18)
          clear ev18 em18
          obtain ⟨v19, ev19, em19, F19⟩ := h.slot (i := 12) rfl rfl (hall 12 (by decide))
          have q19 := isE.out F19
          have f19 := em19.trans (congrArg some q19)
          clear ev19 em19 F19
          obtain ⟨v87, ev87, em87, F87⟩ := h.slot (i := 7) rfl rfl (hall 7 (by decide))
          obtain ⟨CA87, CB87, CC87, CD87, ca87, cb87, cc87, cd87, DD87, q87, sd87, ho87⟩ : isCB (okC n1 n2 n3 n4 D && (airB q f t && okC n1 n2 n3 n4 (flyD D q f t n1))) w12.heap.size l1 l2 l3 l4 (flyD D q f t n1) v87 u := F87
          have f87 := em87.trans (congrArg some q87)
          clear ev87 em87
          obtain ⟨v88, ev88, em88, F88⟩ := h.slot (i := 0) rfl rfl (hall 0 (by decide))
          have q88 := isE.out F88
          have f88 := em88.trans (congrArg some q88)
          clear ev88 em88 F88
          obtain ⟨v89, ev89, em89, F89⟩ := h.slot (i := 1) rfl rfl (hall 1 (by decide))
          obtain ⟨aa89, ab89, ac89, ad89, q89, ho89⟩ : isT w12.heap.size n1 n2 n3 n4 D v89 u := F89
          have f89 := em89.trans (congrArg some q89)
          clear ev89 em89
          obtain ⟨v90, ev90, em90, F90⟩ := h.slot (i := 2) rfl rfl (hall 2 (by decide))
          have q90 := isE.out F90
          have f90 := em90.trans (congrArg some q90)
          clear ev90 em90 F90
          obtain ⟨v91, ev91, em91, F91⟩ := h.slot (i := 3) rfl rfl (hall 3 (by decide))
          have q91 := isE.out F91
          have f91 := em91.trans (congrArg some q91)
          clear ev91 em91 F91
          obtain ⟨v92, ev92, em92, F92⟩ := h.slot (i := 4) rfl rfl (hall 4 (by decide))
          have q92 := isE.out F92
          have f92 := em92.trans (congrArg some q92)
          clear ev92 em92 F92
          obtain ⟨v93, ev93, em93, F93⟩ := h.slot (i := 5) rfl rfl (hall 5 (by decide))
          have q93 := isE.out F93
          have f93 := em93.trans (congrArg some q93)
          clear ev93 em93 F93
          obtain ⟨v94, ev94, em94, F94⟩ := h.slot (i := 6) rfl rfl (hall 6 (by decide))
          obtain ⟨CA94, CB94, CC94, CD94, ca94, cb94, cc94, cd94, DD94, q94, sd94, ho94⟩ : isCB (okC n1 n2 n3 n4 D && (airB q f t && okC n1 n2 n3 n4 (flyD D q f t n1))) w12.heap.size l1 l2 l3 l4 (flyD D q f t n1) v94 u := F94
          have f94 := em94.trans (congrArg some q94)
          clear ev94 em94
          obtain ⟨v95, ev95, em95, F95⟩ := h.slot (i := 8) rfl rfl (hall 8 (by decide))
          obtain ⟨CA95, CB95, CC95, CD95, ca95, cb95, cc95, cd95, DD95, q95, sd95, ho95⟩ : isC w12.heap.size l1 l2 l3 l4 (flyD D q f t n1) v95 u := F95
          have f95 := em95.trans (congrArg some q95)
          clear ev95 em95
          obtain ⟨v96, ev96, em96, F96⟩ := h.slot (i := 9) rfl rfl (hall 9 (by decide))
          have q96 := isE.out F96
          have f96 := em96.trans (congrArg some q96)
          clear ev96 em96 F96
          obtain rfl : m18 = _ := Option.some.inj (hm18.symm.trans f18)
          have ha := h.act [18, 19, 87, 88, 89, 90, 91, 92, 93, 94, 95, 96] [_, _, _, _, _, _, _, _, _, _, _, _] (by kernel_rfl) ⟨f18, f19, f87, f88, f89, f90, f91, f92, f93, f94, f95, f96, trivial⟩
          clear f18 f19 f87 f88 f89 f90 f91 f92 f93 f94 f95 f96
          simp only [setAll, List.setIfInBounds_toArray, List.set_cons_zero, List.set_cons_succ] at ha
          subst ha
          clear h hall
          obtain ⟨w13, rfl⟩ : ∃ z : World, z = u := ⟨u, rfl⟩
          obtain ⟨kH, H1, H2, H3, H4, Hc1, Hc2, Hc3, Hc4, DH, hke, hkH, hxH, hsH, hoH⟩ := hf18
          cases hke
          have SH := Lib.hid hsH
          have XH := Lib.hid hxH
          have OH := Lib.hid hoH
          have XG13 := Lib.hid (XG12.out.go hB)
          have XS13 := Lib.hid (XS12.out.go hB)
          have OS13 := Lib.hid (OS12.out.go hB)
          have M13 := Lib.hid (M12.out.go hB)
          have B13 := Lib.hid (below_step BB.out hB)
          clear hsH hxH hoH hB hw0 PP BB XG12 XS12 P12 OS12 M12 hm18 VV0 V120
          obtain ⟨v0, v1, v2, v3, vf⟩ := XS13.out.facts
          obtain ⟨q0, q1, q2, q3, qf⟩ := XH.out.facts
          go_wp2_with fail
          refine (laws_eqChain _ _ _ _ _ _ _ _ _ _ _ _ _ _ _ _ l1 l2 l3 l4 _ _ DH DS j1 j2 j3 j4 (SH.out.trans SS.out.symm) _ OH.out OS13.out).mono ?_
          rintro e w14 ⟨rfl, hb14⟩
          clear v0 v1 v2 v3 vf q0 q1 q2 q3 qf
          have XG14 := Lib.hid (XG13.out.go hb14)
          have M14 := Lib.hid (M13.out.go hb14)
          have B14 := Lib.hid (below_step B13.out hb14)
          clear hb14 XG13 XS13 OS13 M13 B13 OH XH
          obtain ⟨q0, q1, q2, q3, qf⟩ := XG14.out.facts
          go_wp2_with fail
          refine (laws_heldChain _ _ _ _ _ _ _ _ l1 l2 l3 l4 _ j1 j2 j3 j4 _ M14.out).mono ?_
          rintro e w15 ⟨rfl, hb15⟩
          have B15 := Lib.hid (below_step B14.out hb15)
          clear hb15 q0 q1 q2 q3 qf
          go_wp2_with fail
          go_ret
          exact ⟨rfl, B15.out⟩
  · have h9 := laws_szChain_over A1 A2 A3 A4 c1 c2 c3 c4 n1 n2 n3 n4 hC.m1 hC.m2 hC.m3 hC.m4 (by omega)
    clear hn hC
    go_enter Try.func19, Try.ntmps19
    go_wp2_with fail
    refine (h9 _).mono ?_
    rintro e w1 ⟨rfl, hb1⟩
    go_wp2_with fail
    go_ret
    exact ⟨rfl, (by repeat' (first | with_reducible exact Below.refl _ _ | with_reducible assumption | with_reducible refine below_dn ?_ _ | with_reducible refine Below.drew ?_ | with_reducible refine below_step ?_ (by assumption) | with_reducible refine Below.setCell ?_ ?_ _ | with_reducible refine Below.alloc ?_ ?_ _ | with_reducible exact Nat.le_refl _ | (simp; done) | (simp; omega) | omega))⟩
set_option maxRecDepth 100000 in
theorem FnExactFlyChain_lifted (os : Os) (started : os.Started) (H : Type) (enc : TypeId × Value → H) :
    ReturnsInHanded {} Try.checked os 19 .any (Rows.fnExactFlyChainSpec.pre6 enc Try.prog Try.f19 Rows.fnExactFlyChainRow.domain false) (Rows.fnExactFlyChainSpec.post enc Try.prog Try.f19 false true false false) := by
  refine returnsInHanded_of_change (C := Try.checked) own started (by kernel_rfl) Try.func19
    (ChangeSpec.witness6 (enc := enc) (C := Try.checked) false ⟨#[], #[.agg #[.slice none 0 0, .slice none 0 0, .slice none 0 0, .slice none 0 0], .agg #[.float .f32 0, .float .f32 0, .float .f32 0], .float .f32 0, .float .f32 0], []⟩ 8 (by kernel_rfl) (by kernel_rfl) (by kernel_rfl) (by kernel_rfl)) ?_
  intro W base args ds gs before hval0 hW _ _
  have hval : ∀ (j : Nat) t v, Try.f19.params[j]? = some t → args[j]? = some v → Value.okWide Try.prog W .any base t v := hval0
  have hW0 := hW
  obtain ⟨p, q, hA0, hV, _, _, _⟩ := hW
  obtain ⟨rfl, rfl⟩ := trodVars_none hV
  have hA : DataW.TrodAll enc Try.prog W 0 (fun _ => true) true Try.f19.params.toList args.toList ds p := hA0
  rw [Try.params19] at hA hval
  obtain ⟨v0, vs0, d0, ds0, p0, q0, hargs, rfl, _, h0, r0⟩ := trodAll_cons hA
  obtain ⟨v1, vs1, d1, ds1, p1, q1, rfl, rfl, _, h1, r1⟩ := trodAll_cons r0
  obtain ⟨v2, vs2, d2, ds2, p2, q2, rfl, rfl, _, h2, r2⟩ := trodAll_cons r1
  obtain ⟨v3, vs3, d3, ds3, p3, q3, rfl, rfl, _, h3, r3⟩ := trodAll_cons r2
  obtain ⟨rfl, rfl, _⟩ := trodAll_nil r3
  obtain rfl : args = #[v0, v1, v2, v3] := by cases args; simp_all
  obtain ⟨P0, B0, W0, R0, c10, c20, c30, c40, n10, n20, n30, n40, D0, rfl, hC0⟩ := open_chain (hval 0 26 v0 rfl rfl) h0
  obtain ⟨x1, y1, z1, rfl, _, _, _⟩ := open_vec Try.underlying44 (by kernel_rfl) (by kernel_rfl) rfl rfl rfl Try.underlying36 (hval 1 44 v1 rfl rfl) h1
  obtain ⟨a2, rfl, _, _, w2⟩ := open_float Try.underlying36 (hval 2 36 v2 rfl rfl) h2
  obtain ⟨a3, rfl, _, _, w3⟩ := open_float Try.underlying36 (hval 3 36 v3 rfl rfl) h3
  clear hA0 hval0
  refine (FnExactFlyChain_walk P0 B0 W0 R0 c10 c20 c30 c40 n10 n20 n30 n40 D0 ⟨x1, y1, z1⟩ a2 (f32_lt w2) a3 (f32_lt w3) W hC0).mono fun e W' ⟨he, hb⟩ => ?_
  subst he
  exact ⟨_, rfl, law_post Try.laidOut hW0 rfl rfl (by kernel_rfl) Try.underlying4 (by kernel_rfl) hb⟩

theorem FnExactFlyChain_joined : joinedFacts Try.checked.prog 19 Try.f19 Rows.fnExactFlyChainSpec Rows.fnExactFlyChainRow = true := joined_here (by kernel_rfl) (by kernel_rfl) (by kernel_rfl) (by kernel_rfl) (by kernel_rfl) (by kernel_rfl) (by kernel_rfl) (by kernel_rfl) (by kernel_rfl) (by kernel_rfl) (by kernel_rfl) (by kernel_rfl) (by kernel_rfl) (by kernel_rfl) (by kernel_rfl) (by kernel_rfl) (by kernel_rfl) (by kernel_rfl) (by kernel_rfl) (by kernel_rfl) (by kernel_rfl) (by kernel_rfl) (by kernel_rfl) (by kernel_rfl) (by kernel_rfl) (by kernel_rfl)
theorem FnExactFlyChain_holds : Rows.FnExactFlyChainSaid :=
  OpenClaim.holds_of_wide 19 Try.f19 rfl rfl rfl rfl rfl rfl rfl ⟨rfl, rfl, rfl, rfl, rfl⟩ rfl rfl rfl rfl rfl (by kernel_rfl) Try.func19 FnExactFlyChain_joined
    (of_decide_eq_true (by kernel_rfl)) (by unfold Func.isWrapper; first | (rw [if_pos (by decide +kernel)]; kernel_rfl) | (rw [if_neg (by decide +kernel)]; exact ⟨rfl, rfl⟩))
    (fun os started H enc _ => FnExactFlyChain_lifted os started H enc)
#print axioms FnExactFlyChain_holds
end Go.Proofs.Ytlhgaihfghobmaa
