/- KickChain of the program returns what KickChain of the reference returns, a chain of its own, and leaves its argument alone. -/
import Derived.Test.YtlhgaihfghobmaaMk
import Derived.Test.YtlhgaihfghobmaaRl
import Derived.Test.YtlhgaihfghobmaaRm
import Derived.Test.YtlhgaihfghobmaaKj
import Derived.Deep.DeepCutAuto
namespace Go.Proofs.Ytlhgaihfghobmaa
open Go.ChangeShapes Go.WideShapes Go.ChangeAt Go.RowKit Go.Deep

set_option maxHeartbeats 8000000 in
set_option maxRecDepth 100000 in
theorem FnExactKickChain_walk (A1 A2 A3 A4 : Option Addr) (c1 c2 c3 c4 n1 n2 n3 n4 : Nat) (D : D4) (i : Int) (_h1i : -9223372036854775808 ≤ i) (_h2i : i ≤ 9223372036854775807) (p : V3) (w : World) (hC : Came w A1 A2 A3 A4 n1 n2 n3 n4 D) :
    Calls Try.prog 17 #[.agg #[.slice A1 n1 c1, .slice A2 n2 c2, .slice A3 n3 c3, .slice A4 n4 c4], .int .i64 i, .agg #[.float .f32 p.x, .float .f32 p.y, .float .f32 p.z]] w (RetV (.bool true) w) := by
  by_cases hn : n1 + n2 + n3 + n4 ≤ 1048576
  · have k1 : n1 ≤ 1048576 := by omega
    have k2 : n2 ≤ 1048576 := by omega
    have k3 : n3 ≤ 1048576 := by omega
    have k4 : n4 ≤ 1048576 := by omega
    have HC := Lib.hid hC
    have g0 : ¬ ((1048576 : Int) - n1 - n2 - n3 - n4 < 0) := by omega
    obtain ⟨l1, hl1⟩ : ∃ l : Nat, l = pk (okC n1 n2 n3 n4 D && (inI i 0 ((n1 : Int) - 1) && okC n1 n2 n3 n4 (setB D i.toNat (vsub (D.B i.toNat) p)))) n1 := ⟨_, rfl⟩
    have j1 : l1 ≤ 1048576 := by rw [hl1]; exact pk_okC.1
    have HL1 := Lib.hid hl1
    clear hl1
    obtain ⟨l2, hl2⟩ : ∃ l : Nat, l = pk (okC n1 n2 n3 n4 D && (inI i 0 ((n1 : Int) - 1) && okC n1 n2 n3 n4 (setB D i.toNat (vsub (D.B i.toNat) p)))) n2 := ⟨_, rfl⟩
    have j2 : l2 ≤ 1048576 := by rw [hl2]; exact pk_okC.2.1
    have HL2 := Lib.hid hl2
    clear hl2
    obtain ⟨l3, hl3⟩ : ∃ l : Nat, l = pk (okC n1 n2 n3 n4 D && (inI i 0 ((n1 : Int) - 1) && okC n1 n2 n3 n4 (setB D i.toNat (vsub (D.B i.toNat) p)))) n3 := ⟨_, rfl⟩
    have j3 : l3 ≤ 1048576 := by rw [hl3]; exact pk_okC.2.2.1
    have HL3 := Lib.hid hl3
    clear hl3
    obtain ⟨l4, hl4⟩ : ∃ l : Nat, l = pk (okC n1 n2 n3 n4 D && (inI i 0 ((n1 : Int) - 1) && okC n1 n2 n3 n4 (setB D i.toNat (vsub (D.B i.toNat) p)))) n4 := ⟨_, rfl⟩
    have j4 : l4 ≤ 1048576 := by rw [hl4]; exact pk_okC.2.2.2
    have HL4 := Lib.hid hl4
    clear hl4
    clear hC
    go_enter Try.func17, Try.ntmps17
    go_wp2_with fail
    refine (laws_szChain_fit A1 A2 A3 A4 c1 c2 c3 c4 n1 n2 n3 n4 hn _).mono ?_
    rintro e w1 ⟨rfl, hb1⟩
    have PP := Lib.hid (((Bx.new_ w 26 (.slice A1 n1 c1) (.slice A2 n2 c2) (.slice A3 n3 c3) (.slice A4 n4 c4)).alloc _).go hb1)
    have VV0 := Lib.hid ((Tx.new_ (w.alloc (.cells #[.slice A1 n1 c1, .slice A2 n2 c2, .slice A3 n3 c3, .slice A4 n4 c4] 26)) 44 (.float .f32 p.x) (.float .f32 p.y) (.float .f32 p.z)).go hb1)
    have z0 : (w.alloc (.cells #[.slice A1 n1 c1, .slice A2 n2 c2, .slice A3 n3 c3, .slice A4 n4 c4] 26)).heap.size = w.heap.size + 1 := by simp
    rw [z0] at VV0
    clear z0
    have BB := Lib.hid (show Below w.heap.size w w1 from below_step (w := w) ((by repeat' (first | with_reducible exact Below.refl _ _ | with_reducible assumption | with_reducible refine below_dn ?_ _ | with_reducible refine Below.drew ?_ | with_reducible refine below_step ?_ (by assumption) | with_reducible refine Below.setCell ?_ ?_ _ | with_reducible refine Below.alloc ?_ ?_ _ | with_reducible exact Nat.le_refl _ | (simp; done) | (simp; omega) | omega))) hb1)
    clear hb1
    have HBB := HL1
    clear HBB
    have hw0 : Below w1.heap.size w1 w1.drew := (Below.refl _ _).drew
    go_upto_region 5 with fail
    refine region_inv3 [fun v _ => isE (.agg #[.slice A1 n1 c1, .slice A2 n2 c2, .slice A3 n3 c3, .slice A4 n4 c4]) v, isT w1.heap.size n1 n2 n3 n4 D, fun v _ => isE (.int .i64 i) v, fun v _ => isE (.agg #[.float .f32 p.x, .float .f32 p.y, .float .f32 p.z]) v, fun v _ => isE (.agg #[.float .f32 p.x, .float .f32 p.y, .float .f32 p.z]) v, isCB (okC n1 n2 n3 n4 D && (inI i 0 ((n1 : Int) - 1) && okC n1 n2 n3 n4 (setB D i.toNat (vsub (D.B i.toNat) p)))) w1.heap.size l1 l2 l3 l4 (setB D i.toNat (vsub (D.B i.toNat) p)), isCB (okC n1 n2 n3 n4 D && (inI i 0 ((n1 : Int) - 1) && okC n1 n2 n3 n4 (setB D i.toNat (vsub (D.B i.toNat) p)))) w1.heap.size l1 l2 l3 l4 (setB D i.toNat (vsub (D.B i.toNat) p)), isC w1.heap.size l1 l2 l3 l4 (setB D i.toNat (vsub (D.B i.toNat) p)), fun v _ => isE (.bool (okC n1 n2 n3 n4 D && (inI i 0 ((n1 : Int) - 1) && okC n1 n2 n3 n4 (setB D i.toNat (vsub (D.B i.toNat) p))))) v, isA w1.heap.size, fun _ _ => True, fun v _ => isE (.bool (okC n1 n2 n3 n4 D && (inI i 0 ((n1 : Int) - 1) && okC n1 n2 n3 n4 (setB D i.toNat (vsub (D.B i.toNat) p))))) v] (fun l a W => Js [] (fun W => Below w1.heap.size w1 W) l W ∧ Fn 10 8 (isAC w1.heap.size w1.heap.size l1 l2 l3 l4 (setB D i.toNat (vsub (D.B i.toNat) p))) l a W) (by kernel_rfl) (by kernel_rfl) (by kernel_rfl) ⟨Js.nil hw0, Fn.first⟩ ⟨?r0, ?r1, ?r2, ?r3, ?r4, ?r5, ?r6, ?r7, ?r8, ?r9, ?r10, ?r11, trivial⟩ ?hend
    case r0 =>
      intro listed a u h hu hd K hK
      have hA : (fun W => Below w1.heap.size w1 W) u := h.world.1
      have e3 : a.tmps.getD 3 undef = .pointer (some ⟨w.heap.size, 0, none⟩) := h.base (by kernel_rfl)
      have f3 : a.tmps[3]? = some (.pointer (some ⟨w.heap.size, 0, none⟩)) := h.old (by kernel_rfl)
      rw [if_pos (by rfl)]
      obtain ⟨p0_, p1_, p2_, p3_, pf_⟩ := (PP.out.go hA).facts
      obtain ⟨v00_, v01_, v02_, v0f_⟩ := (VV0.out.go hA).facts
      go_simp
      exact hK _ _ (fun _ _ _ h => h) (isE.mk rfl) ⟨(Js.nil (hA)), (Fn.neutral h.world.2 (by decide) (by decide) _)⟩
    case r1 =>
      intro listed a u h hu hd K hK
      have hA : (fun W => Below w1.heap.size w1 W) u := h.world.1
      obtain ⟨v24, ev24, em24, F24⟩ := h.slot (i := 0) rfl rfl (hd _ (Array.mem_of_getElem? (i := 0) rfl) rfl)
      have q24 := isE.out F24
      have e24 := ev24.trans q24
      have f24 := em24.trans (congrArg some q24)
      clear ev24 em24 F24
      rw [if_pos (by rfl)]
      go_simp
      refine (laws_toChain A1 A2 A3 A4 c1 c2 c3 c4 n1 n2 n3 n4 D k1 k2 k3 k4 _ ((HC.out.go (below_step BB.out hA)).i1) ((HC.out.go (below_step BB.out hA)).i2) ((HC.out.go (below_step BB.out hA)).i3) ((HC.out.go (below_step BB.out hA)).i4)).mono ?_
      rintro e u2 ⟨y1, y2, y3, y4, rfl, ho, hb⟩
      have hR : Gw u u2 := hb
      exact hK _ _ (fun j v hn hF => AllStX.fact0 (R := Gw) (i := 1) (by exact ⟨fun _ _ _ _ _ h => h, fun hn => absurd rfl hn, fun _ _ _ _ _ h => h, fun _ _ _ _ _ h => h, fun _ _ _ _ _ h => h, fun _ _ _ _ hW h => isCB.go h hW, fun _ _ _ _ hW h => isCB.go h hW, fun _ _ _ _ hW h => isC.go h hW, fun _ _ _ _ _ h => h, fun _ _ _ _ hW h => isA.go h hW, fun _ _ _ _ _ h => h, fun _ _ _ _ _ h => h, trivial⟩) hR j v hn hF) ⟨y1, y2, y3, y4, rfl, ho.mono hA.size⟩ ⟨(Js.nil (hA.trans (hb.mono hA.size))), (Fn.no (RI3.wait' h (getD_un hu) (T := 10) rfl (Array.mem_of_getElem? (i := 4) rfl) rfl rfl) (by decide))⟩
    case r2 =>
      intro listed a u h hu hd K hK
      have e1 : a.tmps.getD 1 undef = .int .i64 i := h.base (by kernel_rfl)
      have f1 : a.tmps[1]? = some (.int .i64 i) := h.old (by kernel_rfl)
      rw [if_pos (by rfl)]
      go_simp
      exact hK _ _ (fun _ _ _ h => h) (isE.mk rfl) ⟨(Js.neutral h.world.1 rfl), (Fn.neutral h.world.2 (by decide) (by decide) _)⟩
    case r3 =>
      intro listed a u h hu hd K hK
      have hA : (fun W => Below w1.heap.size w1 W) u := h.world.1
      have e5 : a.tmps.getD 5 undef = .pointer (some ⟨w.heap.size + 1, 0, none⟩) := h.base (by kernel_rfl)
      have f5 : a.tmps[5]? = some (.pointer (some ⟨w.heap.size + 1, 0, none⟩)) := h.old (by kernel_rfl)
      rw [if_pos (by rfl)]
      obtain ⟨p0_, p1_, p2_, p3_, pf_⟩ := (PP.out.go hA).facts
      obtain ⟨v00_, v01_, v02_, v0f_⟩ := (VV0.out.go hA).facts
      go_simp
      exact hK _ _ (fun _ _ _ h => h) (isE.mk rfl) ⟨(Js.nil (hA)), (Fn.neutral h.world.2 (by decide) (by decide) _)⟩
    case r4 =>
      intro listed a u h hu hd K hK
      have hA : (fun W => Below w1.heap.size w1 W) u := h.world.1
      obtain ⟨v27, ev27, em27, F27⟩ := h.slot (i := 3) rfl rfl (hd _ (Array.mem_of_getElem? (i := 0) rfl) rfl)
      have q27 := isE.out F27
      have e27 := ev27.trans q27
      have f27 := em27.trans (congrArg some q27)
      clear ev27 em27 F27
      rw [if_pos (by rfl)]
      go_simp
      refine (laws_toVector _ _ _ _).mono ?_
      rintro e u2 ⟨rfl, hb⟩
      have hR : Gw u u2 := hb
      exact hK _ _ (fun j v hn hF => AllStX.fact0 (R := Gw) (i := 4) (by exact ⟨fun _ _ _ _ _ h => h, fun _ _ _ _ hW h => isT.go h hW, fun _ _ _ _ _ h => h, fun _ _ _ _ _ h => h, fun hn => absurd rfl hn, fun _ _ _ _ hW h => isCB.go h hW, fun _ _ _ _ hW h => isCB.go h hW, fun _ _ _ _ hW h => isC.go h hW, fun _ _ _ _ _ h => h, fun _ _ _ _ hW h => isA.go h hW, fun _ _ _ _ _ h => h, fun _ _ _ _ _ h => h, trivial⟩) hR j v hn hF) (isE.mk rfl) ⟨(Js.nil (hA.trans (hb.mono hA.size))), (Fn.no (RI3.wait' h (getD_un hu) (T := 10) rfl (Array.mem_of_getElem? (i := 7) rfl) rfl rfl) (by decide))⟩
    case r5 =>
      intro listed a u h hu hd K hK
      have hA : (fun W => Below w1.heap.size w1 W) u := h.world.1
      obtain ⟨v25, ev25, em25, F25⟩ := h.slot (i := 1) rfl rfl (hd _ (Array.mem_of_getElem? (i := 0) rfl) rfl)
      obtain ⟨aa25, ab25, ac25, ad25, q25, ho25⟩ : isT w1.heap.size n1 n2 n3 n4 D v25 u := F25
      have e25 := ev25.trans q25
      have f25 := em25.trans (congrArg some q25)
      clear ev25 em25
      obtain ⟨v26, ev26, em26, F26⟩ := h.slot (i := 2) rfl rfl (hd _ (Array.mem_of_getElem? (i := 1) rfl) rfl)
      have q26 := isE.out F26
      have e26 := ev26.trans q26
      have f26 := em26.trans (congrArg some q26)
      clear ev26 em26 F26
      obtain ⟨v28, ev28, em28, F28⟩ := h.slot (i := 4) rfl rfl (hd _ (Array.mem_of_getElem? (i := 2) rfl) rfl)
      have q28 := isE.out F28
      have e28 := ev28.trans q28
      have f28 := em28.trans (congrArg some q28)
      clear ev28 em28 F28
      rw [if_pos (by rfl)]
      go_simp
      refine (spec_KickChain _ _ _ _ _ _ _ _ n1 n2 n3 n4 _ D i p u (ho25)).mono ?_
      rintro e u2 hr
      obtain ⟨S1, S2, S3, S4, d1, d2, d3, d4, DS, rfl, hs, ho, _, hb⟩ := hr.g HL1.out HL2.out HL3.out HL4.out
      have hR : Gw u u2 := hb
      exact hK _ _ (fun j v hn hF => AllStX.fact0 (R := Gw) (i := 5) (by exact ⟨fun _ _ _ _ _ h => h, fun _ _ _ _ hW h => isT.go h hW, fun _ _ _ _ _ h => h, fun _ _ _ _ _ h => h, fun _ _ _ _ _ h => h, fun hn => absurd rfl hn, fun _ _ _ _ hW h => isCB.go h hW, fun _ _ _ _ hW h => isC.go h hW, fun _ _ _ _ _ h => h, fun _ _ _ _ hW h => isA.go h hW, fun _ _ _ _ _ h => h, fun _ _ _ _ _ h => h, trivial⟩) hR j v hn hF) ⟨S1, S2, S3, S4, d1, d2, d3, d4, DS, rfl, hs, ho.mono hA.size⟩ ⟨(Js.nil (hA.trans (hb.mono hA.size))), (Fn.no (RI3.wait' h (getD_un hu) (T := 10) rfl (Array.mem_of_getElem? (i := 2) rfl) rfl rfl) (by decide))⟩
    case r6 =>
      intro listed a u h hu hd K hK
      obtain ⟨v29, ev29, em29, F29⟩ := h.slot (i := 5) rfl rfl (hd _ (Array.mem_of_getElem? (i := 0) rfl) rfl)
      obtain ⟨CA29, CB29, CC29, CD29, ca29, cb29, cc29, cd29, DD29, q29, sd29, ho29⟩ : isCB (okC n1 n2 n3 n4 D && (inI i 0 ((n1 : Int) - 1) && okC n1 n2 n3 n4 (setB D i.toNat (vsub (D.B i.toNat) p)))) w1.heap.size l1 l2 l3 l4 (setB D i.toNat (vsub (D.B i.toNat) p)) v29 u := F29
      have e29 := ev29.trans q29
      have f29 := em29.trans (congrArg some q29)
      clear ev29 em29
      rw [if_pos (by rfl)]
      go_simp
      exact hK _ _ (fun _ _ _ h => h) (⟨CA29, CB29, CC29, CD29, ca29, cb29, cc29, cd29, DD29, rfl, sd29, ho29⟩) ⟨(Js.neutral h.world.1 rfl), (Fn.neutral h.world.2 (by decide) (by decide) _)⟩
    case r7 =>
      intro listed a u h hu hd K hK
      obtain ⟨v23, ev23, em23, F23⟩ := h.slot (i := 6) rfl rfl (hd _ (Array.mem_of_getElem? (i := 0) rfl) rfl)
      obtain ⟨CA23, CB23, CC23, CD23, ca23, cb23, cc23, cd23, DD23, q23, sd23, ho23⟩ : isCB (okC n1 n2 n3 n4 D && (inI i 0 ((n1 : Int) - 1) && okC n1 n2 n3 n4 (setB D i.toNat (vsub (D.B i.toNat) p)))) w1.heap.size l1 l2 l3 l4 (setB D i.toNat (vsub (D.B i.toNat) p)) v23 u := F23
      have e23 := ev23.trans q23
      have f23 := em23.trans (congrArg some q23)
      clear ev23 em23
      rw [if_pos (by rfl)]
      go_simp
      exact hK _ _ (fun _ _ _ h => h) (⟨CA23, CB23, CC23, CD23, ca23, cb23, cc23, cd23, DD23, rfl, sd23, ho23⟩) ⟨(Js.neutral h.world.1 rfl), (Fn.neutral h.world.2 (by decide) (by decide) _)⟩
    case r8 =>
      intro listed a u h hu hd K hK
      obtain ⟨v23, ev23, em23, F23⟩ := h.slot (i := 6) rfl rfl (hd _ (Array.mem_of_getElem? (i := 0) rfl) rfl)
      obtain ⟨CA23, CB23, CC23, CD23, ca23, cb23, cc23, cd23, DD23, q23, sd23, ho23⟩ : isCB (okC n1 n2 n3 n4 D && (inI i 0 ((n1 : Int) - 1) && okC n1 n2 n3 n4 (setB D i.toNat (vsub (D.B i.toNat) p)))) w1.heap.size l1 l2 l3 l4 (setB D i.toNat (vsub (D.B i.toNat) p)) v23 u := F23
      have e23 := ev23.trans q23
      have f23 := em23.trans (congrArg some q23)
      clear ev23 em23
      rw [if_pos (by rfl)]
      go_simp
      exact hK _ _ (fun _ _ _ h => h) (isE.mk rfl) ⟨(Js.neutral h.world.1 rfl), (Fn.neutral h.world.2 (by decide) (by decide) _)⟩
    case r9 =>
      intro listed a u h hu hd K hK
      have hA : (fun W => Below w1.heap.size w1 W) u := h.world.1
      rw [if_pos (by rfl)]
      go_simp
      have hR : Gw u (u.alloc (.cells #[sn, sn, sn, sn] 32)) := Below.alloc (Below.refl _ _) (Nat.le_refl _) _
      exact hK _ _ (fun j v hn hF => AllStX.fact0 (R := Gw) (i := 9) (by exact ⟨fun _ _ _ _ _ h => h, fun _ _ _ _ hW h => isT.go h hW, fun _ _ _ _ _ h => h, fun _ _ _ _ _ h => h, fun _ _ _ _ _ h => h, fun _ _ _ _ hW h => isCB.go h hW, fun _ _ _ _ hW h => isCB.go h hW, fun _ _ _ _ hW h => isC.go h hW, fun _ _ _ _ _ h => h, fun hn => absurd rfl hn, fun _ _ _ _ _ h => h, fun _ _ _ _ _ h => h, trivial⟩) hR j v hn hF) ⟨_, _, _, _, _, rfl, hA.size, Bx.new_ _ _ _ _ _ _⟩ ⟨(Js.nil (Below.alloc hA hA.size _)), (Fn.no (RI3.wait' h (getD_un hu) (T := 10) rfl (Array.mem_of_getElem? (i := 0) rfl) rfl rfl) (by decide))⟩
    case r10 =>
      intro listed a u h hu hd K hK
      have hA : (fun W => Below w1.heap.size w1 W) u := h.world.1
      obtain ⟨v8, ev8, em8, F8⟩ := h.slot (i := 9) rfl rfl (hd _ (Array.mem_of_getElem? (i := 0) rfl) rfl)
      obtain ⟨k8, xa8, xb8, xc8, xd8, q8, hk8, hx8⟩ : isA w1.heap.size v8 u := F8
      have e8 := ev8.trans q8
      have f8 := em8.trans (congrArg some q8)
      clear ev8 em8
      obtain ⟨v30, ev30, em30, F30⟩ := h.slot (i := 7) rfl rfl (hd _ (Array.mem_of_getElem? (i := 1) rfl) rfl)
      obtain ⟨CA30, CB30, CC30, CD30, ca30, cb30, cc30, cd30, DD30, q30, sd30, ho30⟩ : isC w1.heap.size l1 l2 l3 l4 (setB D i.toNat (vsub (D.B i.toNat) p)) v30 u := F30
      have e30 := ev30.trans q30
      have f30 := em30.trans (congrArg some q30)
      clear ev30 em30
      rw [if_pos (by rfl)]
      obtain ⟨p0_, p1_, p2_, p3_, pf_⟩ := (PP.out.go hA).facts
      obtain ⟨v00_, v01_, v02_, v0f_⟩ := (VV0.out.go hA).facts
      obtain ⟨g0, g1, g2, g3, gf⟩ := hx8.facts
      have lg := hx8.lt
      go_simp
      have hY := hx8.setAll (.slice CA30 l1 ca30) (.slice CB30 l2 cb30) (.slice CC30 l3 cc30) (.slice CD30 l4 cd30)
      have hW := Wr.set4 u k8 (.slice CA30 l1 ca30) (.slice CB30 l2 cb30) (.slice CC30 l3 cc30) (.slice CD30 l4 cd30)
      have hR : Cw u ((((u.setCell ⟨k8, 0, none⟩ (.slice CA30 l1 ca30)).setCell ⟨k8, 1, none⟩ (.slice CB30 l2 cb30)).setCell ⟨k8, 2, none⟩ (.slice CC30 l3 cc30)).setCell ⟨k8, 3, none⟩ (.slice CD30 l4 cd30)) := ⟨_, _, _, _, _, _, _, _, _, hx8, hW, hY⟩
      exact hK undef _ (fun j v hn hF => AllStX.fact0 (R := Cw) (i := 10) (by exact ⟨fun _ _ _ _ _ h => h, fun _ _ _ _ hW h => isT.st h hW, fun _ _ _ _ _ h => h, fun _ _ _ _ _ h => h, fun _ _ _ _ _ h => h, fun _ _ _ _ hW h => isCB.st h hW, fun _ _ _ _ hW h => isCB.st h hW, fun _ _ _ _ hW h => isC.st h hW, fun _ _ _ _ _ h => h, fun _ _ _ _ hW h => isA.st h hW, fun hn => absurd rfl hn, fun _ _ _ _ _ h => h, trivial⟩) hR j v hn hF) trivial ⟨(Js.nil ((Bx.bel hA hk8 _ _ _ _))), (Fn.hit f8 (⟨k8, CA30, CB30, CC30, CD30, ca30, cb30, cc30, cd30, DD30, rfl, hk8, hY, sd30, ho30.off hx8 hW⟩))⟩
    case r11 =>
      intro listed a u h hu hd K hK
      obtain ⟨v31, ev31, em31, F31⟩ := h.slot (i := 8) rfl rfl (hd _ (Array.mem_of_getElem? (i := 0) rfl) rfl)
      have q31 := isE.out F31
      have e31 := ev31.trans q31
      have f31 := em31.trans (congrArg some q31)
      clear ev31 em31 F31
      rw [if_pos (by rfl)]
      go_simp
      exact hK _ _ (fun _ _ _ h => h) (isE.mk rfl) ⟨(Js.neutral h.world.1 rfl), (Fn.neutral h.world.2 (by decide) (by decide) _)⟩
    case hend =>
      intro listed a u h hall
      have hB : (fun W => Below w1.heap.size w1 W) u := h.world.1
      obtain ⟨m8, hm8, hf8⟩ := h.world.2 (hall 10 (by decide))
      obtain ⟨v8, ev8, em8, F8⟩ := h.slot (i := 9) rfl rfl (hall 9 (by decide))
      obtain ⟨k8, xa8, xb8, xc8, xd8, q8, hk8, hx8⟩ : isA w1.heap.size v8 u := F8
      have f8 := em8.trans (congrArg some q8)
      clear ev8 em8
      obtain ⟨v9, ev9, em9, F9⟩ := h.slot (i := 11) rfl rfl (hall 11 (by decide))
      have q9 := isE.out F9
      have f9 := em9.trans (congrArg some q9)
      clear ev9 em9 F9
      obtain ⟨v23, ev23, em23, F23⟩ := h.slot (i := 6) rfl rfl (hall 6 (by decide))
      obtain ⟨CA23, CB23, CC23, CD23, ca23, cb23, cc23, cd23, DD23, q23, sd23, ho23⟩ : isCB (okC n1 n2 n3 n4 D && (inI i 0 ((n1 : Int) - 1) && okC n1 n2 n3 n4 (setB D i.toNat (vsub (D.B i.toNat) p)))) w1.heap.size l1 l2 l3 l4 (setB D i.toNat (vsub (D.B i.toNat) p)) v23 u := F23
      have f23 := em23.trans (congrArg some q23)
      clear ev23 em23
      obtain ⟨v24, ev24, em24, F24⟩ := h.slot (i := 0) rfl rfl (hall 0 (by decide))
      have q24 := isE.out F24
      have f24 := em24.trans (congrArg some q24)
      clear ev24 em24 F24
      obtain ⟨v25, ev25, em25, F25⟩ := h.slot (i := 1) rfl rfl (hall 1 (by decide))
      obtain ⟨aa25, ab25, ac25, ad25, q25, ho25⟩ : isT w1.heap.size n1 n2 n3 n4 D v25 u := F25
      have f25 := em25.trans (congrArg some q25)
      clear ev25 em25
      obtain ⟨v26, ev26, em26, F26⟩ := h.slot (i := 2) rfl rfl (hall 2 (by decide))
      have q26 := isE.out F26
      have f26 := em26.trans (congrArg some q26)
      clear ev26 em26 F26
      obtain ⟨v27, ev27, em27, F27⟩ := h.slot (i := 3) rfl rfl (hall 3 (by decide))
      have q27 := isE.out F27
      have f27 := em27.trans (congrArg some q27)
      clear ev27 em27 F27
      obtain ⟨v28, ev28, em28, F28⟩ := h.slot (i := 4) rfl rfl (hall 4 (by decide))
      have q28 := isE.out F28
      have f28 := em28.trans (congrArg some q28)
      clear ev28 em28 F28
      obtain ⟨v29, ev29, em29, F29⟩ := h.slot (i := 5) rfl rfl (hall 5 (by decide))
      obtain ⟨CA29, CB29, CC29, CD29, ca29, cb29, cc29, cd29, DD29, q29, sd29, ho29⟩ : isCB (okC n1 n2 n3 n4 D && (inI i 0 ((n1 : Int) - 1) && okC n1 n2 n3 n4 (setB D i.toNat (vsub (D.B i.toNat) p)))) w1.heap.size l1 l2 l3 l4 (setB D i.toNat (vsub (D.B i.toNat) p)) v29 u := F29
      have f29 := em29.trans (congrArg some q29)
      clear ev29 em29
      obtain ⟨v30, ev30, em30, F30⟩ := h.slot (i := 7) rfl rfl (hall 7 (by decide))
      obtain ⟨CA30, CB30, CC30, CD30, ca30, cb30, cc30, cd30, DD30, q30, sd30, ho30⟩ : isC w1.heap.size l1 l2 l3 l4 (setB D i.toNat (vsub (D.B i.toNat) p)) v30 u := F30
      have f30 := em30.trans (congrArg some q30)
      clear ev30 em30
      obtain ⟨v31, ev31, em31, F31⟩ := h.slot (i := 8) rfl rfl (hall 8 (by decide))
      have q31 := isE.out F31
      have f31 := em31.trans (congrArg some q31)
      clear ev31 em31 F31
      obtain rfl : m8 = _ := Option.some.inj (hm8.symm.trans f8)
      have ha := h.act [8, 9, 23, 24, 25, 26, 27, 28, 29, 30, 31] [_, _, _, _, _, _, _, _, _, _, _] (by kernel_rfl) ⟨f8, f9, f23, f24, f25, f26, f27, f28, f29, f30, f31, trivial⟩
      clear f8 f9 f23 f24 f25 f26 f27 f28 f29 f30 f31
      simp only [setAll, List.setIfInBounds_toArray, List.set_cons_zero, List.set_cons_succ] at ha
      subst ha
      clear h hall
      obtain ⟨w3, rfl⟩ : ∃ z : World, z = u := ⟨u, rfl⟩
      obtain ⟨kS, S1, S2, S3, S4, Sc1, Sc2, Sc3, Sc4, DS, hke, hkS, hxS, hsS, hoS⟩ := hf8
      cases hke
      have SS := Lib.hid hsS
      have XS := Lib.hid hxS
      have OS := Lib.hid hoS
      have lS := hxS.lt
      have P3 := Lib.hid (PP.out.go hB)
      have V30 := Lib.hid (VV0.out.go hB)
      have B3 := Lib.hid (below_step BB.out hB)
      have y3 := hB.size
      have lP3 := P3.out.lt
      have lV30 := V30.out.lt
      have DS_ := Lib.hid hoS.bds
      clear hsS hxS hoS hB hw0 PP BB hm8 VV0
      obtain ⟨p0, p1, p2, p3, pf⟩ := P3.out.facts
      go_wp2_with fail
      refine (laws_toChain A1 A2 A3 A4 c1 c2 c3 c4 n1 n2 n3 n4 D k1 k2 k3 k4 _ ((HC.out.go B3.out).i1) ((HC.out.go B3.out).i2) ((HC.out.go B3.out).i3) ((HC.out.go B3.out).i4)).mono ?_
      rintro e w4 ⟨x1, x2, x3, x4, rfl, ho4, hb4⟩
      clear p0 p1 p2 p3 pf
      go_upto_region 7 with fail
      have DX := Lib.hid ho4.bds
      have hb5 : Below w4.heap.size w4 (w4.alloc (.cells #[.slice (some ⟨x1, 0, none⟩) n1 n1, .slice (some ⟨x2, 0, none⟩) n2 n2, .slice (some ⟨x3, 0, none⟩) n3 n3, .slice (some ⟨x4, 0, none⟩) n4 n4] 32)) := Below.alloc (Below.refl _ _) (Nat.le_refl _) _
      have hx5 := Bx.new_ w4 32 (.slice (some ⟨x1, 0, none⟩) n1 n1) (.slice (some ⟨x2, 0, none⟩) n2 n2) (.slice (some ⟨x3, 0, none⟩) n3 n3) (.slice (some ⟨x4, 0, none⟩) n4 n4)
      have y4 := hb4.size
      generalize hw5 : w4.alloc (.cells #[.slice (some ⟨x1, 0, none⟩) n1 n1, .slice (some ⟨x2, 0, none⟩) n2 n2, .slice (some ⟨x3, 0, none⟩) n3 n3, .slice (some ⟨x4, 0, none⟩) n4 n4] 32) = w5 at hb5 hx5 ⊢
      clear hw5
      have y5 := hb5.size
      have l5 := hx5.lt
      have XX := Lib.hid hx5
      have OX := Lib.hid (ho4.go hb5)
      have PP := Lib.hid ((P3.out.go hb4).go hb5)
      have VV0 := Lib.hid ((V30.out.go hb4).go hb5)
      have XS5 := Lib.hid ((XS.out.go hb4).go hb5)
      have OS5 := Lib.hid ((OS.out.go hb4).go hb5)
      have BB := Lib.hid (below_step (below_step B3.out hb4) hb5)
      clear hb4 hb5 ho4 hx5 P3 B3 XS OS V30
      have hw0 : Below w5.heap.size w5 w5.drew := (Below.refl _ _).drew
      refine region_inv3 [fun v _ => isE (.agg #[.slice (some ⟨x1, 0, none⟩) n1 n1, .slice (some ⟨x2, 0, none⟩) n2 n2, .slice (some ⟨x3, 0, none⟩) n3 n3, .slice (some ⟨x4, 0, none⟩) n4 n4]) v, fun v _ => isE (.int .i64 i) v, fun v _ => isE (.agg #[.float .f32 p.x, .float .f32 p.y, .float .f32 p.z]) v, fun v _ => isE (.agg #[.float .f32 p.x, .float .f32 p.y, .float .f32 p.z]) v, isCB (okC n1 n2 n3 n4 D && (inI i 0 ((n1 : Int) - 1) && okC n1 n2 n3 n4 (setB D i.toNat (vsub (D.B i.toNat) p)))) w5.heap.size l1 l2 l3 l4 (setB D i.toNat (vsub (D.B i.toNat) p)), isCB (okC n1 n2 n3 n4 D && (inI i 0 ((n1 : Int) - 1) && okC n1 n2 n3 n4 (setB D i.toNat (vsub (D.B i.toNat) p)))) w5.heap.size l1 l2 l3 l4 (setB D i.toNat (vsub (D.B i.toNat) p)), isC w5.heap.size l1 l2 l3 l4 (setB D i.toNat (vsub (D.B i.toNat) p)), fun v _ => isE (.bool (okC n1 n2 n3 n4 D && (inI i 0 ((n1 : Int) - 1) && okC n1 n2 n3 n4 (setB D i.toNat (vsub (D.B i.toNat) p))))) v, isA w5.heap.size, fun _ _ => True, fun v _ => isE (.bool (okC n1 n2 n3 n4 D && (inI i 0 ((n1 : Int) - 1) && okC n1 n2 n3 n4 (setB D i.toNat (vsub (D.B i.toNat) p))))) v] (fun l a W => Js [] (fun W => Below w5.heap.size w5 W) l W ∧ Fn 9 11 (isAC w5.heap.size w5.heap.size l1 l2 l3 l4 (setB D i.toNat (vsub (D.B i.toNat) p))) l a W) (by kernel_rfl) (by kernel_rfl) (by kernel_rfl) ⟨Js.nil hw0, Fn.first⟩ ⟨?r0, ?r1, ?r2, ?r3, ?r4, ?r5, ?r6, ?r7, ?r8, ?r9, ?r10, trivial⟩ ?hend
      case r0 =>
        intro listed a u h hu hd K hK
        have hA : (fun W => Below w5.heap.size w5 W) u := h.world.1
        have e10 : a.tmps.getD 10 undef = .pointer (some ⟨w4.heap.size, 0, none⟩) := h.base (by kernel_rfl)
        have f10 : a.tmps[10]? = some (.pointer (some ⟨w4.heap.size, 0, none⟩)) := h.old (by kernel_rfl)
        rw [if_pos (by rfl)]
        obtain ⟨p0_, p1_, p2_, p3_, pf_⟩ := (PP.out.go hA).facts
        obtain ⟨v00_, v01_, v02_, v0f_⟩ := (VV0.out.go hA).facts
        obtain ⟨y0_, y1_, y2_, y3_, yf_⟩ := (XX.out.go hA).facts
        go_simp
        exact hK _ _ (fun _ _ _ h => h) (isE.mk rfl) ⟨(Js.nil (hA)), (Fn.neutral h.world.2 (by decide) (by decide) _)⟩
      case r1 =>
        intro listed a u h hu hd K hK
        have e1 : a.tmps.getD 1 undef = .int .i64 i := h.base (by kernel_rfl)
        have f1 : a.tmps[1]? = some (.int .i64 i) := h.old (by kernel_rfl)
        rw [if_pos (by rfl)]
        go_simp
        exact hK _ _ (fun _ _ _ h => h) (isE.mk rfl) ⟨(Js.neutral h.world.1 rfl), (Fn.neutral h.world.2 (by decide) (by decide) _)⟩
      case r2 =>
        intro listed a u h hu hd K hK
        have hA : (fun W => Below w5.heap.size w5 W) u := h.world.1
        have e5 : a.tmps.getD 5 undef = .pointer (some ⟨w.heap.size + 1, 0, none⟩) := h.base (by kernel_rfl)
        have f5 : a.tmps[5]? = some (.pointer (some ⟨w.heap.size + 1, 0, none⟩)) := h.old (by kernel_rfl)
        rw [if_pos (by rfl)]
        obtain ⟨p0_, p1_, p2_, p3_, pf_⟩ := (PP.out.go hA).facts
        obtain ⟨v00_, v01_, v02_, v0f_⟩ := (VV0.out.go hA).facts
        obtain ⟨y0_, y1_, y2_, y3_, yf_⟩ := (XX.out.go hA).facts
        go_simp
        exact hK _ _ (fun _ _ _ h => h) (isE.mk rfl) ⟨(Js.nil (hA)), (Fn.neutral h.world.2 (by decide) (by decide) _)⟩
      case r3 =>
        intro listed a u h hu hd K hK
        have hA : (fun W => Below w5.heap.size w5 W) u := h.world.1
        obtain ⟨v37, ev37, em37, F37⟩ := h.slot (i := 2) rfl rfl (hd _ (Array.mem_of_getElem? (i := 0) rfl) rfl)
        have q37 := isE.out F37
        have e37 := ev37.trans q37
        have f37 := em37.trans (congrArg some q37)
        clear ev37 em37 F37
        rw [if_pos (by rfl)]
        go_simp
        refine (laws_toVector _ _ _ _).mono ?_
        rintro e u2 ⟨rfl, hb⟩
        have hR : Gw u u2 := hb
        exact hK _ _ (fun j v hn hF => AllStX.fact0 (R := Gw) (i := 3) (by exact ⟨fun _ _ _ _ _ h => h, fun _ _ _ _ _ h => h, fun _ _ _ _ _ h => h, fun hn => absurd rfl hn, fun _ _ _ _ hW h => isCB.go h hW, fun _ _ _ _ hW h => isCB.go h hW, fun _ _ _ _ hW h => isC.go h hW, fun _ _ _ _ _ h => h, fun _ _ _ _ hW h => isA.go h hW, fun _ _ _ _ _ h => h, fun _ _ _ _ _ h => h, trivial⟩) hR j v hn hF) (isE.mk rfl) ⟨(Js.nil (hA.trans (hb.mono hA.size))), (Fn.no (RI3.wait' h (getD_un hu) (T := 9) rfl (Array.mem_of_getElem? (i := 6) rfl) rfl rfl) (by decide))⟩
      case r4 =>
        intro listed a u h hu hd K hK
        have hA : (fun W => Below w5.heap.size w5 W) u := h.world.1
        obtain ⟨v35, ev35, em35, F35⟩ := h.slot (i := 0) rfl rfl (hd _ (Array.mem_of_getElem? (i := 0) rfl) rfl)
        have q35 := isE.out F35
        have e35 := ev35.trans q35
        have f35 := em35.trans (congrArg some q35)
        clear ev35 em35 F35
        obtain ⟨v36, ev36, em36, F36⟩ := h.slot (i := 1) rfl rfl (hd _ (Array.mem_of_getElem? (i := 1) rfl) rfl)
        have q36 := isE.out F36
        have e36 := ev36.trans q36
        have f36 := em36.trans (congrArg some q36)
        clear ev36 em36 F36
        obtain ⟨v38, ev38, em38, F38⟩ := h.slot (i := 3) rfl rfl (hd _ (Array.mem_of_getElem? (i := 2) rfl) rfl)
        have q38 := isE.out F38
        have e38 := ev38.trans q38
        have f38 := em38.trans (congrArg some q38)
        clear ev38 em38 F38
        rw [if_pos (by rfl)]
        go_simp
        refine (impl_KickChain _ _ _ _ _ _ _ _ n1 n2 n3 n4 _ D i p u (OX.out.go hA)).mono ?_
        rintro e u2 hr
        obtain ⟨S1, S2, S3, S4, d1, d2, d3, d4, DS, rfl, hs, ho, _, hb⟩ := hr.g HL1.out HL2.out HL3.out HL4.out
        have hR : Gw u u2 := hb
        exact hK _ _ (fun j v hn hF => AllStX.fact0 (R := Gw) (i := 4) (by exact ⟨fun _ _ _ _ _ h => h, fun _ _ _ _ _ h => h, fun _ _ _ _ _ h => h, fun _ _ _ _ _ h => h, fun hn => absurd rfl hn, fun _ _ _ _ hW h => isCB.go h hW, fun _ _ _ _ hW h => isC.go h hW, fun _ _ _ _ _ h => h, fun _ _ _ _ hW h => isA.go h hW, fun _ _ _ _ _ h => h, fun _ _ _ _ _ h => h, trivial⟩) hR j v hn hF) ⟨S1, S2, S3, S4, d1, d2, d3, d4, DS, rfl, hs, ho.mono hA.size⟩ ⟨(Js.nil (hA.trans (hb.mono hA.size))), (Fn.no (RI3.wait' h (getD_un hu) (T := 9) rfl (Array.mem_of_getElem? (i := 2) rfl) rfl rfl) (by decide))⟩
      case r5 =>
        intro listed a u h hu hd K hK
        obtain ⟨v39, ev39, em39, F39⟩ := h.slot (i := 4) rfl rfl (hd _ (Array.mem_of_getElem? (i := 0) rfl) rfl)
        obtain ⟨CA39, CB39, CC39, CD39, ca39, cb39, cc39, cd39, DD39, q39, sd39, ho39⟩ : isCB (okC n1 n2 n3 n4 D && (inI i 0 ((n1 : Int) - 1) && okC n1 n2 n3 n4 (setB D i.toNat (vsub (D.B i.toNat) p)))) w5.heap.size l1 l2 l3 l4 (setB D i.toNat (vsub (D.B i.toNat) p)) v39 u := F39
        have e39 := ev39.trans q39
        have f39 := em39.trans (congrArg some q39)
        clear ev39 em39
        rw [if_pos (by rfl)]
        go_simp
        exact hK _ _ (fun _ _ _ h => h) (⟨CA39, CB39, CC39, CD39, ca39, cb39, cc39, cd39, DD39, rfl, sd39, ho39⟩) ⟨(Js.neutral h.world.1 rfl), (Fn.neutral h.world.2 (by decide) (by decide) _)⟩
      case r6 =>
        intro listed a u h hu hd K hK
        obtain ⟨v34, ev34, em34, F34⟩ := h.slot (i := 5) rfl rfl (hd _ (Array.mem_of_getElem? (i := 0) rfl) rfl)
        obtain ⟨CA34, CB34, CC34, CD34, ca34, cb34, cc34, cd34, DD34, q34, sd34, ho34⟩ : isCB (okC n1 n2 n3 n4 D && (inI i 0 ((n1 : Int) - 1) && okC n1 n2 n3 n4 (setB D i.toNat (vsub (D.B i.toNat) p)))) w5.heap.size l1 l2 l3 l4 (setB D i.toNat (vsub (D.B i.toNat) p)) v34 u := F34
        have e34 := ev34.trans q34
        have f34 := em34.trans (congrArg some q34)
        clear ev34 em34
        rw [if_pos (by rfl)]
        go_simp
        exact hK _ _ (fun _ _ _ h => h) (⟨CA34, CB34, CC34, CD34, ca34, cb34, cc34, cd34, DD34, rfl, sd34, ho34⟩) ⟨(Js.neutral h.world.1 rfl), (Fn.neutral h.world.2 (by decide) (by decide) _)⟩
      case r7 =>
        intro listed a u h hu hd K hK
        obtain ⟨v34, ev34, em34, F34⟩ := h.slot (i := 5) rfl rfl (hd _ (Array.mem_of_getElem? (i := 0) rfl) rfl)
        obtain ⟨CA34, CB34, CC34, CD34, ca34, cb34, cc34, cd34, DD34, q34, sd34, ho34⟩ : isCB (okC n1 n2 n3 n4 D && (inI i 0 ((n1 : Int) - 1) && okC n1 n2 n3 n4 (setB D i.toNat (vsub (D.B i.toNat) p)))) w5.heap.size l1 l2 l3 l4 (setB D i.toNat (vsub (D.B i.toNat) p)) v34 u := F34
        have e34 := ev34.trans q34
        have f34 := em34.trans (congrArg some q34)
        clear ev34 em34
        rw [if_pos (by rfl)]
        go_simp
        exact hK _ _ (fun _ _ _ h => h) (isE.mk rfl) ⟨(Js.neutral h.world.1 rfl), (Fn.neutral h.world.2 (by decide) (by decide) _)⟩
      case r8 =>
        intro listed a u h hu hd K hK
        have hA : (fun W => Below w5.heap.size w5 W) u := h.world.1
        rw [if_pos (by rfl)]
        go_simp
        have hR : Gw u (u.alloc (.cells #[sn, sn, sn, sn] 32)) := Below.alloc (Below.refl _ _) (Nat.le_refl _) _
        exact hK _ _ (fun j v hn hF => AllStX.fact0 (R := Gw) (i := 8) (by exact ⟨fun _ _ _ _ _ h => h, fun _ _ _ _ _ h => h, fun _ _ _ _ _ h => h, fun _ _ _ _ _ h => h, fun _ _ _ _ hW h => isCB.go h hW, fun _ _ _ _ hW h => isCB.go h hW, fun _ _ _ _ hW h => isC.go h hW, fun _ _ _ _ _ h => h, fun hn => absurd rfl hn, fun _ _ _ _ _ h => h, fun _ _ _ _ _ h => h, trivial⟩) hR j v hn hF) ⟨_, _, _, _, _, rfl, hA.size, Bx.new_ _ _ _ _ _ _⟩ ⟨(Js.nil (Below.alloc hA hA.size _)), (Fn.no (RI3.wait' h (getD_un hu) (T := 9) rfl (Array.mem_of_getElem? (i := 0) rfl) rfl rfl) (by decide))⟩
      case r9 =>
        intro listed a u h hu hd K hK
        have hA : (fun W => Below w5.heap.size w5 W) u := h.world.1
        obtain ⟨v11, ev11, em11, F11⟩ := h.slot (i := 8) rfl rfl (hd _ (Array.mem_of_getElem? (i := 0) rfl) rfl)
        obtain ⟨k11, xa11, xb11, xc11, xd11, q11, hk11, hx11⟩ : isA w5.heap.size v11 u := F11
        have e11 := ev11.trans q11
        have f11 := em11.trans (congrArg some q11)
        clear ev11 em11
        obtain ⟨v40, ev40, em40, F40⟩ := h.slot (i := 6) rfl rfl (hd _ (Array.mem_of_getElem? (i := 1) rfl) rfl)
        obtain ⟨CA40, CB40, CC40, CD40, ca40, cb40, cc40, cd40, DD40, q40, sd40, ho40⟩ : isC w5.heap.size l1 l2 l3 l4 (setB D i.toNat (vsub (D.B i.toNat) p)) v40 u := F40
        have e40 := ev40.trans q40
        have f40 := em40.trans (congrArg some q40)
        clear ev40 em40
        rw [if_pos (by rfl)]
        obtain ⟨p0_, p1_, p2_, p3_, pf_⟩ := (PP.out.go hA).facts
        obtain ⟨v00_, v01_, v02_, v0f_⟩ := (VV0.out.go hA).facts
        obtain ⟨y0_, y1_, y2_, y3_, yf_⟩ := (XX.out.go hA).facts
        obtain ⟨g0, g1, g2, g3, gf⟩ := hx11.facts
        have lg := hx11.lt
        go_simp
        have hY := hx11.setAll (.slice CA40 l1 ca40) (.slice CB40 l2 cb40) (.slice CC40 l3 cc40) (.slice CD40 l4 cd40)
        have hW := Wr.set4 u k11 (.slice CA40 l1 ca40) (.slice CB40 l2 cb40) (.slice CC40 l3 cc40) (.slice CD40 l4 cd40)
        have hR : Cw u ((((u.setCell ⟨k11, 0, none⟩ (.slice CA40 l1 ca40)).setCell ⟨k11, 1, none⟩ (.slice CB40 l2 cb40)).setCell ⟨k11, 2, none⟩ (.slice CC40 l3 cc40)).setCell ⟨k11, 3, none⟩ (.slice CD40 l4 cd40)) := ⟨_, _, _, _, _, _, _, _, _, hx11, hW, hY⟩
        exact hK undef _ (fun j v hn hF => AllStX.fact0 (R := Cw) (i := 9) (by exact ⟨fun _ _ _ _ _ h => h, fun _ _ _ _ _ h => h, fun _ _ _ _ _ h => h, fun _ _ _ _ _ h => h, fun _ _ _ _ hW h => isCB.st h hW, fun _ _ _ _ hW h => isCB.st h hW, fun _ _ _ _ hW h => isC.st h hW, fun _ _ _ _ _ h => h, fun _ _ _ _ hW h => isA.st h hW, fun hn => absurd rfl hn, fun _ _ _ _ _ h => h, trivial⟩) hR j v hn hF) trivial ⟨(Js.nil ((Bx.bel hA hk11 _ _ _ _))), (Fn.hit f11 (⟨k11, CA40, CB40, CC40, CD40, ca40, cb40, cc40, cd40, DD40, rfl, hk11, hY, sd40, ho40.off hx11 hW⟩))⟩
      case r10 =>
        intro listed a u h hu hd K hK
        obtain ⟨v41, ev41, em41, F41⟩ := h.slot (i := 7) rfl rfl (hd _ (Array.mem_of_getElem? (i := 0) rfl) rfl)
        have q41 := isE.out F41
        have e41 := ev41.trans q41
        have f41 := em41.trans (congrArg some q41)
        clear ev41 em41 F41
        rw [if_pos (by rfl)]
        go_simp
        exact hK _ _ (fun _ _ _ h => h) (isE.mk rfl) ⟨(Js.neutral h.world.1 rfl), (Fn.neutral h.world.2 (by decide) (by decide) _)⟩
      case hend =>
        intro listed a u h hall
        have hB : (fun W => Below w5.heap.size w5 W) u := h.world.1
        obtain ⟨m11, hm11, hf11⟩ := h.world.2 (hall 9 (by decide))
        obtain ⟨v11, ev11, em11, F11⟩ := h.slot (i := 8) rfl rfl (hall 8 (by decide))
        obtain ⟨k11, xa11, xb11, xc11, xd11, q11, hk11, hx11⟩ : isA w5.heap.size v11 u := F11
        have f11 := em11.trans (congrArg some q11)
        clear ev11 em11
        obtain ⟨v12, ev12, em12, F12⟩ := h.slot (i := 10) rfl rfl (hall 10 (by decide))
        have q12 := isE.out F12
        have f12 := em12.trans (congrArg some q12)
        clear ev12 em12 F12
        obtain ⟨v34, ev34, em34, F34⟩ := h.slot (i := 5) rfl rfl (hall 5 (by decide))
        obtain ⟨CA34, CB34, CC34, CD34, ca34, cb34, cc34, cd34, DD34, q34, sd34, ho34⟩ : isCB (okC n1 n2 n3 n4 D && (inI i 0 ((n1 : Int) - 1) && okC n1 n2 n3 n4 (setB D i.toNat (vsub (D.B i.toNat) p)))) w5.heap.size l1 l2 l3 l4 (setB D i.toNat (vsub (D.B i.toNat) p)) v34 u := F34
        have f34 := em34.trans (congrArg some q34)
        clear ev34 em34
        obtain ⟨v35, ev35, em35, F35⟩ := h.slot (i := 0) rfl rfl (hall 0 (by decide))
        have q35 := isE.out F35
        have f35 := em35.trans (congrArg some q35)
        clear ev35 em35 F35
        obtain ⟨v36, ev36, em36, F36⟩ := h.slot (i := 1) rfl rfl (hall 1 (by decide))
        have q36 := isE.out F36
        have f36 := em36.trans (congrArg some q36)
        clear ev36 em36 F36
        obtain ⟨v37, ev37, em37, F37⟩ := h.slot (i := 2) rfl rfl (hall 2 (by decide))
        have q37 := isE.out F37
        have f37 := em37.trans (congrArg some q37)
        clear ev37 em37 F37
        obtain ⟨v38, ev38, em38, F38⟩ := h.slot (i := 3) rfl rfl (hall 3 (by decide))
        have q38 := isE.out F38
        have f38 := em38.trans (congrArg some q38)
        clear ev38 em38 F38
        obtain ⟨v39, ev39, em39, F39⟩ := h.slot (i := 4) rfl rfl (hall 4 (by decide))
        obtain ⟨CA39, CB39, CC39, CD39, ca39, cb39, cc39, cd39, DD39, q39, sd39, ho39⟩ : isCB (okC n1 n2 n3 n4 D && (inI i 0 ((n1 : Int) - 1) && okC n1 n2 n3 n4 (setB D i.toNat (vsub (D.B i.toNat) p)))) w5.heap.size l1 l2 l3 l4 (setB D i.toNat (vsub (D.B i.toNat) p)) v39 u := F39
        have f39 := em39.trans (congrArg some q39)
        clear ev39 em39
        obtain ⟨v40, ev40, em40, F40⟩ := h.slot (i := 6) rfl rfl (hall 6 (by decide))
        obtain ⟨CA40, CB40, CC40, CD40, ca40, cb40, cc40, cd40, DD40, q40, sd40, ho40⟩ : isC w5.heap.size l1 l2 l3 l4 (setB D i.toNat (vsub (D.B i.toNat) p)) v40 u := F40
        have f40 := em40.trans (congrArg some q40)
        clear ev40 em40
        obtain ⟨v41, ev41, em41, F41⟩ := h.slot (i := 7) rfl rfl (hall 7 (by decide))
        have q41 := isE.out F41
        have f41 := em41.trans (congrArg some q41)
        clear ev41 em41 F41
        obtain rfl : m11 = _ := Option.some.inj (hm11.symm.trans f11)
        have ha := h.act [11, 12, 34, 35, 36, 37, 38, 39, 40, 41] [_, _, _, _, _, _, _, _, _, _] (by kernel_rfl) ⟨f11, f12, f34, f35, f36, f37, f38, f39, f40, f41, trivial⟩
        clear f11 f12 f34 f35 f36 f37 f38 f39 f40 f41
        simp only [setAll, List.setIfInBounds_toArray, List.set_cons_zero, List.set_cons_succ] at ha
        subst ha
        clear h hall
        obtain ⟨w6, rfl⟩ : ∃ z : World, z = u := ⟨u, rfl⟩
        obtain ⟨kG, G1, G2, G3, G4, Gc1, Gc2, Gc3, Gc4, DG, hke, hkG, hxG, hsG, hoG⟩ := hf11
        cases hke
        have SG := Lib.hid hsG
        have XG6 := Lib.hid hxG
        have OG6 := Lib.hid hoG
        have DG_ := Lib.hid hoG.bds
        have lG := hxG.lt
        have XX6 := Lib.hid (XX.out.go hB)
        have OX6 := Lib.hid (OX.out.go hB)
        have P6 := Lib.hid (PP.out.go hB)
        have V60 := Lib.hid (VV0.out.go hB)
        have XS6 := Lib.hid (XS5.out.go hB)
        have OS6 := Lib.hid (OS5.out.go hB)
        have B6 := Lib.hid (below_step BB.out hB)
        have y6 := hB.size
        clear hsG hxG hoG hB hw0 PP BB XX OX XS5 OS5 hm11 VV0
        have hbb : ((okC n1 n2 n3 n4 D && (inI i 0 ((n1 : Int) - 1) && okC n1 n2 n3 n4 (setB D i.toNat (vsub (D.B i.toNat) p)))) != (okC n1 n2 n3 n4 D && (inI i 0 ((n1 : Int) - 1) && okC n1 n2 n3 n4 (setB D i.toNat (vsub (D.B i.toNat) p))))) = false := by simp
        obtain ⟨v0, v1, v2, v3, vf⟩ := XS6.out.facts
        obtain ⟨q0, q1, q2, q3, qf⟩ := XG6.out.facts
        go_wp2_with fail
        refine (laws_eqChain _ _ _ _ _ _ _ _ _ _ _ _ _ _ _ _ l1 l2 l3 l4 _ _ DG DS j1 j2 j3 j4 (SG.out.trans SS.out.symm) _ OG6.out OS6.out).mono ?_
        rintro e w7 ⟨rfl, hb7⟩
        clear v0 v1 v2 v3 vf q0 q1 q2 q3 qf
        have XG7 := Lib.hid (XG6.out.go hb7)
        have XX7 := Lib.hid (XX6.out.go hb7)
        have XS7 := Lib.hid (XS6.out.go hb7)
        have P7 := Lib.hid (P6.out.go hb7)
        have OX7 := Lib.hid (OX6.out.go hb7)
        have OS7 := Lib.hid (OS6.out.go hb7)
        have OG7 := Lib.hid (OG6.out.go hb7)
        have V70 := Lib.hid (V60.out.go hb7)
        have B7 := Lib.hid (below_step B6.out hb7)
        have y7 := hb7.size
        clear hb7 B6
        clear XG6 XX6 XS6 P6 OX6 OS6 OG6 V60
        obtain ⟨p0, p1, p2, p3, pf⟩ := P7.out.facts
        obtain ⟨q0, q1, q2, q3, qf⟩ := XX7.out.facts
        have lP := P7.out.lt
        have lX := XX7.out.lt
        go_upto_region 10 with fail
        go_cut [55] (fun s wx => s = .bool false ∧ Below w7.heap.size w7 wx)
        case first =>
          go_region_with (first | (go_at_call 25; refine (laws_toChain A1 A2 A3 A4 c1 c2 c3 c4 n1 n2 n3 n4 D k1 k2 k3 k4 _ ((HC.out.go B7.out.drew).i1) ((HC.out.go B7.out.drew).i2) ((HC.out.go B7.out.drew).i3) ((HC.out.go B7.out.drew).i4)).mono ?_; rintro e u2 ⟨y1, y2, y3, y4, rfl, ho7, hb7⟩; have O7 := Lib.hid ho7; have BZ := Lib.hid ((Below.refl w7.heap.size w7).drew.trans hb7); obtain ⟨u0, u1, u2, u3, uf⟩ := (XX7.out.go BZ.out).facts; clear ho7 hb7) | (go_at_call 27; refine (laws_eqChain _ _ _ _ _ _ _ _ _ _ _ _ _ _ _ _ n1 n2 n3 n4 _ _ D D k1 k2 k3 k4 (SimD.refl _ _ _ _ _) _ (OX7.out.go BZ.out) O7.out).mono ?_; rintro e w8 ⟨rfl, hb8⟩; have BY := Lib.hid hb8; clear hb8))
          all_goals
            go_wp2_with fail
            go_meet
            exact ⟨rfl, BZ.out.trans (BY.out.mono BZ.out.size)⟩
        obtain ⟨rfl, hb8⟩ := hcut
        clear p0 p1 p2 p3 pf q0 q1 q2 q3 qf lP lX
        have XG8 := Lib.hid (XG7.out.go hb8)
        have XX8 := Lib.hid (XX7.out.go hb8)
        have XS8 := Lib.hid (XS7.out.go hb8)
        have P8 := Lib.hid (P7.out.go hb8)
        have OX8 := Lib.hid (OX7.out.go hb8)
        have OS8 := Lib.hid (OS7.out.go hb8)
        have OG8 := Lib.hid (OG7.out.go hb8)
        have V80 := Lib.hid (V70.out.go hb8)
        have B8 := Lib.hid (below_step B7.out hb8)
        have y8 := hb8.size
        clear hb8 B7
        clear XG7 XX7 XS7 P7 OX7 OS7 OG7 V70
        obtain ⟨q0, q1, q2, q3, qf⟩ := XX8.out.facts
        have lX := XX8.out.lt
        go_wp2_with fail
        refine (laws_markChain _ _ _ _ _ _ _ _ n1 n2 n3 n4 _ D k1 k2 k3 k4 _ OX8.out).mono ?_
        rintro e w9 ⟨rfl, _, hw9⟩
        have W9 := Lib.hid (hw9.mono (S' := fun k => w3.heap.size ≤ k ∧ k < w4.heap.size) (fun k _ h => blkC_bd DX.out h))
        have XS9 := Lib.hid (XS8.out.wr W9.out (fun h => by have := h.1; omega))
        have XG9 := Lib.hid (XG8.out.wr W9.out (fun h => by have := h.2; omega))
        have P9 := Lib.hid (P8.out.wr W9.out (fun h => by have := h.1; omega))
        have V90 := Lib.hid (V80.out.wr W9.out (fun h => by have := h.1; omega))
        have OS9 := Lib.hid (OS8.out.wr W9.out DS_.out (fun k h1 h2 h => by have := h.1; omega))
        have OG9 := Lib.hid (OG8.out.wr W9.out DG_.out (fun k h1 h2 h => by have := h.2; omega))
        have B9 := Lib.hid (B8.out.trans (W9.out.below B8.out.size (fun k hk h => by have := h.1; omega)))
        have y9 := W9.out.size
        clear hw9 q0 q1 q2 q3 qf lX B8
        clear XG8 XX8 XS8 P8 OX8 OS8 OG8 V80
        have hc0 : ¬ (cnt n1 n2 n3 n4 < 0) := by unfold cnt; omega
        have hc1 : ¬ (cnt l1 l2 l3 l4 < 0) := by unfold cnt; omega
        have hc2 : (cnt l1 l2 l3 l4 != cnt l1 l2 l3 l4) = false := by simp
        obtain ⟨v0, v1, v2, v3, vf⟩ := XS9.out.facts
        obtain ⟨q0, q1, q2, q3, qf⟩ := XG9.out.facts
        go_wp2_with fail
        refine (laws_eqChain _ _ _ _ _ _ _ _ _ _ _ _ _ _ _ _ l1 l2 l3 l4 _ _ DG DS j1 j2 j3 j4 (SG.out.trans SS.out.symm) _ OG9.out OS9.out).mono ?_
        rintro e w10 ⟨rfl, hb10⟩
        clear v0 v1 v2 v3 vf q0 q1 q2 q3 qf
        have XG10 := Lib.hid (XG9.out.go hb10)
        have XS10 := Lib.hid (XS9.out.go hb10)
        have P10 := Lib.hid (P9.out.go hb10)
        have OS10 := Lib.hid (OS9.out.go hb10)
        have OG10 := Lib.hid (OG9.out.go hb10)
        have V100 := Lib.hid (V90.out.go hb10)
        have B10 := Lib.hid (below_step B9.out hb10)
        have y10 := hb10.size
        clear hb10 B9
        clear XG9 XS9 P9 OS9 OG9 V90
        obtain ⟨q0, q1, q2, q3, qf⟩ := XG10.out.facts
        go_wp2_with fail
        refine (laws_markChain _ _ _ _ _ _ _ _ l1 l2 l3 l4 _ DG j1 j2 j3 j4 _ OG10.out).mono ?_
        rintro e w11 ⟨rfl, hm11, hw11⟩
        have XG11 := Lib.hid (XG10.out.wr hw11 (OG10.out.chainN XG10.out))
        have W11 := Lib.hid (hw11.mono (S' := fun k => w5.heap.size ≤ k ∧ k < w6.heap.size) (fun k _ h => blkC_bd DG_.out h))
        have M11 := Lib.hid hm11
        have XS11 := Lib.hid (XS10.out.wr W11.out (fun h => by have := h.1; omega))
        have P11 := Lib.hid (P10.out.wr W11.out (fun h => by have := h.1; omega))
        have V110 := Lib.hid (V100.out.wr W11.out (fun h => by have := h.1; omega))
        have OS11 := Lib.hid (OS10.out.wr W11.out DS_.out (fun k h1 h2 h => by have := h.1; omega))
        have B11 := Lib.hid (B10.out.trans (W11.out.below B10.out.size (fun k hk h => by have := h.1; omega)))
        have y11 := W11.out.size
        clear hw11 hm11 q0 q1 q2 q3 qf B10
        clear XG10 XS10 P10 OS10 OG10 V100
        obtain ⟨q0, q1, q2, q3, qf⟩ := XG11.out.facts
        go_wp2_with fail
        refine (laws_heldChain _ _ _ _ _ _ _ _ l1 l2 l3 l4 _ j1 j2 j3 j4 _ M11.out).mono ?_
        rintro e w12 ⟨rfl, hb12⟩
        clear q0 q1 q2 q3 qf
        have XG12 := Lib.hid (XG11.out.go hb12)
        have XS12 := Lib.hid (XS11.out.go hb12)
        have P12 := Lib.hid (P11.out.go hb12)
        have OS12 := Lib.hid (OS11.out.go hb12)
        have M12 := Lib.hid (M11.out.go hb12)
        have V120 := Lib.hid (V110.out.go hb12)
        have BB := Lib.hid (below_step B11.out hb12)
        clear hb12 B11
        clear XG11 XS11 P11 OS11 M11 V110
        have PP := P12
        have VV0 := V120
        have hw0 : Below w12.heap.size w12 w12.drew := (Below.refl _ _).drew
        go_upto_region 24 with fail
        refine region_inv3 [fun v _ => isE (.agg #[.slice A1 n1 c1, .slice A2 n2 c2, .slice A3 n3 c3, .slice A4 n4 c4]) v, isT w12.heap.size n1 n2 n3 n4 D, fun v _ => isE (.int .i64 i) v, fun v _ => isE (.agg #[.float .f32 p.x, .float .f32 p.y, .float .f32 p.z]) v, fun v _ => isE (.agg #[.float .f32 p.x, .float .f32 p.y, .float .f32 p.z]) v, isCB (okC n1 n2 n3 n4 D && (inI i 0 ((n1 : Int) - 1) && okC n1 n2 n3 n4 (setB D i.toNat (vsub (D.B i.toNat) p)))) w12.heap.size l1 l2 l3 l4 (setB D i.toNat (vsub (D.B i.toNat) p)), isCB (okC n1 n2 n3 n4 D && (inI i 0 ((n1 : Int) - 1) && okC n1 n2 n3 n4 (setB D i.toNat (vsub (D.B i.toNat) p)))) w12.heap.size l1 l2 l3 l4 (setB D i.toNat (vsub (D.B i.toNat) p)), isC w12.heap.size l1 l2 l3 l4 (setB D i.toNat (vsub (D.B i.toNat) p)), fun v _ => isE (.bool (okC n1 n2 n3 n4 D && (inI i 0 ((n1 : Int) - 1) && okC n1 n2 n3 n4 (setB D i.toNat (vsub (D.B i.toNat) p))))) v, isA w12.heap.size, fun _ _ => True, fun v _ => isE (.bool (okC n1 n2 n3 n4 D && (inI i 0 ((n1 : Int) - 1) && okC n1 n2 n3 n4 (setB D i.toNat (vsub (D.B i.toNat) p))))) v] (fun l a W => Js [] (fun W => Below w12.heap.size w12 W) l W ∧ Fn 10 16 (isAC w12.heap.size w12.heap.size l1 l2 l3 l4 (setB D i.toNat (vsub (D.B i.toNat) p))) l a W) (by kernel_rfl) (by kernel_rfl) (by kernel_rfl) ⟨Js.nil hw0, Fn.first⟩ ⟨?r0, ?r1, ?r2, ?r3, ?r4, ?r5, ?r6, ?r7, ?r8, ?r9, ?r10, ?r11, trivial⟩ ?hend
        case r0 =>
          intro listed a u h hu hd K hK
          have hA : (fun W => Below w12.heap.size w12 W) u := h.world.1
          have e3 : a.tmps.getD 3 undef = .pointer (some ⟨w.heap.size, 0, none⟩) := h.base (by kernel_rfl)
          have f3 : a.tmps[3]? = some (.pointer (some ⟨w.heap.size, 0, none⟩)) := h.old (by kernel_rfl)
          rw [if_pos (by rfl)]
          obtain ⟨p0_, p1_, p2_, p3_, pf_⟩ := (PP.out.go hA).facts
          obtain ⟨v00_, v01_, v02_, v0f_⟩ := (VV0.out.go hA).facts
          go_simp
          exact hK _ _ (fun _ _ _ h => h) (isE.mk rfl) ⟨(Js.nil (hA)), (Fn.neutral h.world.2 (by decide) (by decide) _)⟩
        case r1 =>
          intro listed a u h hu hd K hK
          have hA : (fun W => Below w12.heap.size w12 W) u := h.world.1
          obtain ⟨v84, ev84, em84, F84⟩ := h.slot (i := 0) rfl rfl (hd _ (Array.mem_of_getElem? (i := 0) rfl) rfl)
          have q84 := isE.out F84
          have e84 := ev84.trans q84
          have f84 := em84.trans (congrArg some q84)
          clear ev84 em84 F84
          rw [if_pos (by rfl)]
          go_simp
          refine (laws_toChain A1 A2 A3 A4 c1 c2 c3 c4 n1 n2 n3 n4 D k1 k2 k3 k4 _ ((HC.out.go (below_step BB.out hA)).i1) ((HC.out.go (below_step BB.out hA)).i2) ((HC.out.go (below_step BB.out hA)).i3) ((HC.out.go (below_step BB.out hA)).i4)).mono ?_
          rintro e u2 ⟨y1, y2, y3, y4, rfl, ho, hb⟩
          have hR : Gw u u2 := hb
          exact hK _ _ (fun j v hn hF => AllStX.fact0 (R := Gw) (i := 1) (by exact ⟨fun _ _ _ _ _ h => h, fun hn => absurd rfl hn, fun _ _ _ _ _ h => h, fun _ _ _ _ _ h => h, fun _ _ _ _ _ h => h, fun _ _ _ _ hW h => isCB.go h hW, fun _ _ _ _ hW h => isCB.go h hW, fun _ _ _ _ hW h => isC.go h hW, fun _ _ _ _ _ h => h, fun _ _ _ _ hW h => isA.go h hW, fun _ _ _ _ _ h => h, fun _ _ _ _ _ h => h, trivial⟩) hR j v hn hF) ⟨y1, y2, y3, y4, rfl, ho.mono hA.size⟩ ⟨(Js.nil (hA.trans (hb.mono hA.size))), (Fn.no (RI3.wait' h (getD_un hu) (T := 10) rfl (Array.mem_of_getElem? (i := 4) rfl) rfl rfl) (by decide))⟩
        case r2 =>
          intro listed a u h hu hd K hK
          have e1 : a.tmps.getD 1 undef = .int .i64 i := h.base (by kernel_rfl)
          have f1 : a.tmps[1]? = some (.int .i64 i) := h.old (by kernel_rfl)
          rw [if_pos (by rfl)]
          go_simp
          exact hK _ _ (fun _ _ _ h => h) (isE.mk rfl) ⟨(Js.neutral h.world.1 rfl), (Fn.neutral h.world.2 (by decide) (by decide) _)⟩
        case r3 =>
          intro listed a u h hu hd K hK
          have hA : (fun W => Below w12.heap.size w12 W) u := h.world.1
          have e5 : a.tmps.getD 5 undef = .pointer (some ⟨w.heap.size + 1, 0, none⟩) := h.base (by kernel_rfl)
          have f5 : a.tmps[5]? = some (.pointer (some ⟨w.heap.size + 1, 0, none⟩)) := h.old (by kernel_rfl)
          rw [if_pos (by rfl)]
          obtain ⟨p0_, p1_, p2_, p3_, pf_⟩ := (PP.out.go hA).facts
          obtain ⟨v00_, v01_, v02_, v0f_⟩ := (VV0.out.go hA).facts
          go_simp
          exact hK _ _ (fun _ _ _ h => h) (isE.mk rfl) ⟨(Js.nil (hA)), (Fn.neutral h.world.2 (by decide) (by decide) _)⟩
        case r4 =>
          intro listed a u h hu hd K hK
          have hA : (fun W => Below w12.heap.size w12 W) u := h.world.1
          obtain ⟨v87, ev87, em87, F87⟩ := h.slot (i := 3) rfl rfl (hd _ (Array.mem_of_getElem? (i := 0) rfl) rfl)
          have q87 := isE.out F87
          have e87 := ev87.trans q87
          have f87 := em87.trans (congrArg some q87)
          clear ev87 em87 F87
          rw [if_pos (by rfl)]
          go_simp
          refine (laws_toVector _ _ _ _).mono ?_
          rintro e u2 ⟨rfl, hb⟩
          have hR : Gw u u2 := hb
          exact hK _ _ (fun j v hn hF => AllStX.fact0 (R := Gw) (i := 4) (by exact ⟨fun _ _ _ _ _ h => h, fun _ _ _ _ hW h => isT.go h hW, fun _ _ _ _ _ h => h, fun _ _ _ _ _ h => h, fun hn => absurd rfl hn, fun _ _ _ _ hW h => isCB.go h hW, fun _ _ _ _ hW h => isCB.go h hW, fun _ _ _ _ hW h => isC.go h hW, fun _ _ _ _ _ h => h, fun _ _ _ _ hW h => isA.go h hW, fun _ _ _ _ _ h => h, fun _ _ _ _ _ h => h, trivial⟩) hR j v hn hF) (isE.mk rfl) ⟨(Js.nil (hA.trans (hb.mono hA.size))), (Fn.no (RI3.wait' h (getD_un hu) (T := 10) rfl (Array.mem_of_getElem? (i := 7) rfl) rfl rfl) (by decide))⟩
        case r5 =>
          intro listed a u h hu hd K hK
          have hA : (fun W => Below w12.heap.size w12 W) u := h.world.1
          obtain ⟨v85, ev85, em85, F85⟩ := h.slot (i := 1) rfl rfl (hd _ (Array.mem_of_getElem? (i := 0) rfl) rfl)
          obtain ⟨aa85, ab85, ac85, ad85, q85, ho85⟩ : isT w12.heap.size n1 n2 n3 n4 D v85 u := F85
          have e85 := ev85.trans q85
          have f85 := em85.trans (congrArg some q85)
          clear ev85 em85
          obtain ⟨v86, ev86, em86, F86⟩ := h.slot (i := 2) rfl rfl (hd _ (Array.mem_of_getElem? (i := 1) rfl) rfl)
          have q86 := isE.out F86
          have e86 := ev86.trans q86
          have f86 := em86.trans (congrArg some q86)
          clear ev86 em86 F86
          obtain ⟨v88, ev88, em88, F88⟩ := h.slot (i := 4) rfl rfl (hd _ (Array.mem_of_getElem? (i := 2) rfl) rfl)
          have q88 := isE.out F88
          have e88 := ev88.trans q88
          have f88 := em88.trans (congrArg some q88)
          clear ev88 em88 F88
          rw [if_pos (by rfl)]
          go_simp
          refine (impl_KickChain _ _ _ _ _ _ _ _ n1 n2 n3 n4 _ D i p u (ho85)).mono ?_
          rintro e u2 hr
          obtain ⟨S1, S2, S3, S4, d1, d2, d3, d4, DS, rfl, hs, ho, _, hb⟩ := hr.g HL1.out HL2.out HL3.out HL4.out
          have hR : Gw u u2 := hb
          exact hK _ _ (fun j v hn hF => AllStX.fact0 (R := Gw) (i := 5) (by exact ⟨fun _ _ _ _ _ h => h, fun _ _ _ _ hW h => isT.go h hW, fun _ _ _ _ _ h => h, fun _ _ _ _ _ h => h, fun _ _ _ _ _ h => h, fun hn => absurd rfl hn, fun _ _ _ _ hW h => isCB.go h hW, fun _ _ _ _ hW h => isC.go h hW, fun _ _ _ _ _ h => h, fun _ _ _ _ hW h => isA.go h hW, fun _ _ _ _ _ h => h, fun _ _ _ _ _ h => h, trivial⟩) hR j v hn hF) ⟨S1, S2, S3, S4, d1, d2, d3, d4, DS, rfl, hs, ho.mono hA.size⟩ ⟨(Js.nil (hA.trans (hb.mono hA.size))), (Fn.no (RI3.wait' h (getD_un hu) (T := 10) rfl (Array.mem_of_getElem? (i := 2) rfl) rfl rfl) (by decide))⟩
        case r6 =>
          intro listed a u h hu hd K hK
          obtain ⟨v89, ev89, em89, F89⟩ := h.slot (i := 5) rfl rfl (hd _ (Array.mem_of_getElem? (i := 0) rfl) rfl)
          obtain ⟨CA89, CB89, CC89, CD89, ca89, cb89, cc89, cd89, DD89, q89, sd89, ho89⟩ : isCB (okC n1 n2 n3 n4 D && (inI i 0 ((n1 : Int) - 1) && okC n1 n2 n3 n4 (setB D i.toNat (vsub (D.B i.toNat) p)))) w12.heap.size l1 l2 l3 l4 (setB D i.toNat (vsub (D.B i.toNat) p)) v89 u := F89
          have e89 := ev89.trans q89
          have f89 := em89.trans (congrArg some q89)
          clear ev89 em89
          rw [if_pos (by rfl)]
          go_simp
          exact hK _ _ (fun _ _ _ h => h) (⟨CA89, CB89, CC89, CD89, ca89, cb89, cc89, cd89, DD89, rfl, sd89, ho89⟩) ⟨(Js.neutral h.world.1 rfl), (Fn.neutral h.world.2 (by decide) (by decide) _)⟩
        case r7 =>
          intro listed a u h hu hd K hK
          obtain ⟨v83, ev83, em83, F83⟩ := h.slot (i := 6) rfl rfl (hd _ (Array.mem_of_getElem? (i := 0) rfl) rfl)
          obtain ⟨CA83, CB83, CC83, CD83, ca83, cb83, cc83, cd83, DD83, q83, sd83, ho83⟩ : isCB (okC n1 n2 n3 n4 D && (inI i 0 ((n1 : Int) - 1) && okC n1 n2 n3 n4 (setB D i.toNat (vsub (D.B i.toNat) p)))) w12.heap.size l1 l2 l3 l4 (setB D i.toNat (vsub (D.B i.toNat) p)) v83 u := F83
          have e83 := ev83.trans q83
          have f83 := em83.trans (congrArg some q83)
          clear ev83 em83
          rw [if_pos (by rfl)]
          go_simp
          exact hK _ _ (fun _ _ _ h => h) (⟨CA83, CB83, CC83, CD83, ca83, cb83, cc83, cd83, DD83, rfl, sd83, ho83⟩) ⟨(Js.neutral h.world.1 rfl), (Fn.neutral h.world.2 (by decide) (by decide) _)⟩
        case r8 =>
          intro listed a u h hu hd K hK
          obtain ⟨v83, ev83, em83, F83⟩ := h.slot (i := 6) rfl rfl (hd _ (Array.mem_of_getElem? (i := 0) rfl) rfl)
          obtain ⟨CA83, CB83, CC83, CD83, ca83, cb83, cc83, cd83, DD83, q83, sd83, ho83⟩ : isCB (okC n1 n2 n3 n4 D && (inI i 0 ((n1 : Int) - 1) && okC n1 n2 n3 n4 (setB D i.toNat (vsub (D.B i.toNat) p)))) w12.heap.size l1 l2 l3 l4 (setB D i.toNat (vsub (D.B i.toNat) p)) v83 u := F83
          have e83 := ev83.trans q83
          have f83 := em83.trans (congrArg some q83)
          clear ev83 em83
          rw [if_pos (by rfl)]
          go_simp
          exact hK _ _ (fun _ _ _ h => h) (isE.mk rfl) ⟨(Js.neutral h.world.1 rfl), (Fn.neutral h.world.2 (by decide) (by decide) _)⟩
        case r9 =>
          intro listed a u h hu hd K hK
          have hA : (fun W => Below w12.heap.size w12 W) u := h.world.1
          rw [if_pos (by rfl)]
          go_simp
          have hR : Gw u (u.alloc (.cells #[sn, sn, sn, sn] 32)) := Below.alloc (Below.refl _ _) (Nat.le_refl _) _
          exact hK _ _ (fun j v hn hF => AllStX.fact0 (R := Gw) (i := 9) (by exact ⟨fun _ _ _ _ _ h => h, fun _ _ _ _ hW h => isT.go h hW, fun _ _ _ _ _ h => h, fun _ _ _ _ _ h => h, fun _ _ _ _ _ h => h, fun _ _ _ _ hW h => isCB.go h hW, fun _ _ _ _ hW h => isCB.go h hW, fun _ _ _ _ hW h => isC.go h hW, fun _ _ _ _ _ h => h, fun hn => absurd rfl hn, fun _ _ _ _ _ h => h, fun _ _ _ _ _ h => h, trivial⟩) hR j v hn hF) ⟨_, _, _, _, _, rfl, hA.size, Bx.new_ _ _ _ _ _ _⟩ ⟨(Js.nil (Below.alloc hA hA.size _)), (Fn.no (RI3.wait' h (getD_un hu) (T := 10) rfl (Array.mem_of_getElem? (i := 0) rfl) rfl rfl) (by decide))⟩
        case r10 =>
          intro listed a u h hu hd K hK
          have hA : (fun W => Below w12.heap.size w12 W) u := h.world.1
          obtain ⟨v16, ev16, em16, F16⟩ := h.slot (i := 9) rfl rfl (hd _ (Array.mem_of_getElem? (i := 0) rfl) rfl)
          obtain ⟨k16, xa16, xb16, xc16, xd16, q16, hk16, hx16⟩ : isA w12.heap.size v16 u := F16
          have e16 := ev16.trans q16
          have f16 := em16.trans (congrArg some q16)
          clear ev16 em16
          obtain ⟨v90, ev90, em90, F90⟩ := h.slot (i := 7) rfl rfl (hd _ (Array.mem_of_getElem? (i := 1) rfl) rfl)
          obtain ⟨CA90, CB90, CC90, CD90, ca90, cb90, cc90, cd90, DD90, q90, sd90, ho90⟩ : isC w12.heap.size l1 l2 l3 l4 (setB D i.toNat (vsub (D.B i.toNat) p)) v90 u := F90
          have e90 := ev90.trans q90
          have f90 := em90.trans (congrArg some q90)
          clear ev90 em90
          rw [if_pos (by rfl)]
          obtain ⟨p0_, p1_, p2_, p3_, pf_⟩ := (PP.out.go hA).facts
          obtain ⟨v00_, v01_, v02_, v0f_⟩ := (VV0.out.go hA).facts
          obtain ⟨g0, g1, g2, g3, gf⟩ := hx16.facts
          have lg := hx16.lt
          go_simp
          have hY := hx16.setAll (.slice CA90 l1 ca90) (.slice CB90 l2 cb90) (.slice CC90 l3 cc90) (.slice CD90 l4 cd90)
          have hW := Wr.set4 u k16 (.slice CA90 l1 ca90) (.slice CB90 l2 cb90) (.slice CC90 l3 cc90) (.slice CD90 l4 cd90)
          have hR : Cw u ((((u.setCell ⟨k16, 0, none⟩ (.slice CA90 l1 ca90)).setCell ⟨k16, 1, none⟩ (.slice CB90 l2 cb90)).setCell ⟨k16, 2, none⟩ (.slice CC90 l3 cc90)).setCell ⟨k16, 3, none⟩ (.slice CD90 l4 cd90)) := ⟨_, _, _, _, _, _, _, _, _, hx16, hW, hY⟩
          exact hK undef _ (fun j v hn hF => AllStX.fact0 (R := Cw) (i := 10) (by exact ⟨fun _ _ _ _ _ h => h, fun _ _ _ _ hW h => isT.st h hW, fun _ _ _ _ _ h => h, fun _ _ _ _ _ h => h, fun _ _ _ _ _ h => h, fun _ _ _ _ hW h => isCB.st h hW, fun _ _ _ _ hW h => isCB.st h hW, fun _ _ _ _ hW h => isC.st h hW, fun _ _ _ _ _ h => h, fun _ _ _ _ hW h => isA.st h hW, fun hn => absurd rfl hn, fun _ _ _ _ _ h => h, trivial⟩) hR j v hn hF) trivial ⟨(Js.nil ((Bx.bel hA hk16 _ _ _ _))), (Fn.hit f16 (⟨k16, CA90, CB90, CC90, CD90, ca90, cb90, cc90, cd90, DD90, rfl, hk16, hY, sd90, ho90.off hx16 hW⟩))⟩
        case r11 =>
          intro listed a u h hu hd K hK
          obtain ⟨v91, ev91, em91, F91⟩ := h.slot (i := 8) rfl rfl (hd _ (Array.mem_of_getElem? (i := 0) rfl) rfl)
          have q91 := isE.out F91
          have e91 := ev91.trans q91
          have f91 := em91.trans (congrArg some q91)
          clear ev91 em91 F91
          rw [if_pos (by rfl)]
          go_simp
          exact hK _ _ (fun _ _ _ h => h) (isE.mk rfl) ⟨(Js.neutral h.world.1 rfl), (Fn.neutral h.world.2 (by decide) (by decide) _)⟩
        case hend =>
          intro listed a u h hall
          have hB : (fun W => Below w12.heap.size w12 W) u := h.world.1
          obtain ⟨m16, hm16, hf16⟩ := h.world.2 (hall 10 (by decide))
          obtain ⟨v16, ev16, em16, F16⟩ := h.slot (i := 9) rfl rfl (hall 9 (by decide))
          obtain ⟨k16, xa16, xb16, xc16, xd16, q16, hk16, hx16⟩ : isA w12.heap.size v16 u := F16
          have f16 := em16.trans (congrArg some q16)
          clear ev16 em16
          obtain ⟨v17, ev17, em17, F17⟩ := h.slot (i := 11) rfl rfl (hall 11 (by decide))
          have q17 := isE.out F17
          have f17 := em17.trans (congrArg some q17)
          clear ev17 em17 F17
          obtain ⟨v83, ev83, em83, F83⟩ := h.slot (i := 6) rfl rfl (hall 6 (by decide))
          obtain ⟨CA83, CB83, CC83, CD83, ca83, cb83, cc83, cd83, DD83, q83, sd83, ho83⟩ : isCB (okC n1 n2 n3 n4 D && (inI i 0 ((n1 : Int) - 1) && okC n1 n2 n3 n4 (setB D i.toNat (vsub (D.B i.toNat) p)))) w12.heap.size l1 l2 l3 l4 (setB D i.toNat (vsub (D.B i.toNat) p)) v83 u := F83
          have f83 := em83.trans (congrArg some q83)
          clear ev83 em83
          obtain ⟨v84, ev84, em84, F84⟩ := h.slot (i := 0) rfl rfl (hall 0 (by decide))
          have q84 := isE.out F84
          have f84 := em84.trans (congrArg some q84)
          clear ev84 em84 F84
          obtain ⟨v85, ev85, em85, F85⟩ := h.slot (i := 1) rfl rfl (hall 1 (by decide))
          obtain ⟨aa85, ab85, ac85, ad85, q85, ho85⟩ : isT w12.heap.size n1 n2 n3 n4 D v85 u := F85
          have f85 := em85.trans (congrArg some q85)
          clear ev85 em85
          obtain ⟨v86, ev86, em86, F86⟩ := h.slot (i := 2) rfl rfl (hall 2 (by decide))
          have q86 := isE.out F86
          have f86 := em86.trans (congrArg some q86)
          clear ev86 em86 F86
          obtain ⟨v87, ev87, em87, F87⟩ := h.slot (i := 3) rfl rfl (hall 3 (by decide))
          have q87 := isE.out F87
          have f87 := em87.trans (congrArg some q87)
          clear ev87 em87 F87
          obtain ⟨v88, ev88, em88, F88⟩ := h.slot (i := 4) rfl rfl (hall 4 (by decide))
          have q88 := isE.out F88
          have f88 := em88.trans (congrArg some q88)
          clear ev88 em88 F88
          obtain ⟨v89, ev89, em89, F89⟩ := h.slot (i := 5) rfl rfl (hall 5 (by decide))
          obtain ⟨CA89, CB89, CC89, CD89, ca89, cb89, cc89, cd89, DD89, q89, sd89, ho89⟩ : isCB (okC n1 n2 n3 n4 D && (inI i 0 ((n1 : Int) - 1) && okC n1 n2 n3 n4 (setB D i.toNat (vsub (D.B i.toNat) p)))) w12.heap.size l1 l2 l3 l4 (setB D i.toNat (vsub (D.B i.toNat) p)) v89 u := F89
          have f89 := em89.trans (congrArg some q89)
          clear ev89 em89
          obtain ⟨v90, ev90, em90, F90⟩ := h.slot (i := 7) rfl rfl (hall 7 (by decide))
          obtain ⟨CA90, CB90, CC90, CD90, ca90, cb90, cc90, cd90, DD90, q90, sd90, ho90⟩ : isC w12.heap.size l1 l2 l3 l4 (setB D i.toNat (vsub (D.B i.toNat) p)) v90 u := F90
          have f90 := em90.trans (congrArg some q90)
          clear ev90 em90
          obtain ⟨v91, ev91, em91, F91⟩ := h.slot (i := 8) rfl rfl (hall 8 (by decide))
          have q91 := isE.out F91
          have f91 := em91.trans (congrArg some q91)
          clear ev91 em91 F91
          obtain rfl : m16 = _ := Option.some.inj (hm16.symm.trans f16)
          have ha := h.act [16, 17, 83, 84, 85, 86, 87, 88, 89, 90, 91] [_, _, _, _, _, _, _, _, _, _, _] (by kernel_rfl) ⟨f16, f17, f83, f84, f85, f86, f87, f88, f89, f90, f91, trivial⟩
          clear f16 f17 f83 f84 f85 f86 f87 f88 f89 f90 f91
          simp only [setAll, List.setIfInBounds_toArray, List.set_cons_zero, List.set_cons_succ] at ha
          subst ha
          clear h hall
          obtain ⟨w13, rfl⟩ : ∃ z : World, z = u := ⟨u, rfl⟩
          obtain ⟨kH, H1, H2, H3, H4, Hc1, Hc2, Hc3, Hc4, DH, hke, hkH, hxH, hsH, hoH⟩ := hf16
          cases hke
          have SH := Lib.hid hsH
          have XH := Lib.hid hxH
          have OH := Lib.hid hoH
          have XG13 := Lib.hid (XG12.out.go hB)
          have XS13 := Lib.hid (XS12.out.go hB)
          have OS13 := Lib.hid (OS12.out.go hB)
          have M13 := Lib.hid (M12.out.go hB)
          have B13 := Lib.hid (below_step BB.out hB)
          clear hsH hxH hoH hB hw0 PP BB XG12 XS12 P12 OS12 M12 hm16 VV0 V120
          obtain ⟨v0, v1, v2, v3, vf⟩ := XS13.out.facts
          obtain ⟨q0, q1, q2, q3, qf⟩ := XH.out.facts
          go_wp2_with fail
          refine (laws_eqChain _ _ _ _ _ _ _ _ _ _ _ _ _ _ _ _ l1 l2 l3 l4 _ _ DH DS j1 j2 j3 j4 (SH.out.trans SS.out.symm) _ OH.out OS13.out).mono ?_
          rintro e w14 ⟨rfl, hb14⟩
          clear v0 v1 v2 v3 vf q0 q1 q2 q3 qf
          have XG14 := Lib.hid (XG13.out.go hb14)
          have M14 := Lib.hid (M13.out.go hb14)
          have B14 := Lib.hid (below_step B13.out hb14)
          clear hb14 XG13 XS13 OS13 M13 B13 OH XH
          obtain ⟨q0, q1, q2, q3, qf⟩ := XG14.out.facts
          go_wp2_with fail
          refine (laws_heldChain _ _ _ _ _ _ _ _ l1 l2 l3 l4 _ j1 j2 j3 j4 _ M14.out).mono ?_
          rintro e w15 ⟨rfl, hb15⟩
          have B15 := Lib.hid (below_step B14.out hb15)
          clear hb15 q0 q1 q2 q3 qf
          go_wp2_with fail
          go_ret
          exact ⟨rfl, B15.out⟩
  · have h9 := laws_szChain_over A1 A2 A3 A4 c1 c2 c3 c4 n1 n2 n3 n4 hC.m1 hC.m2 hC.m3 hC.m4 (by omega)
    clear hn hC
    go_enter Try.func17, Try.ntmps17
    go_wp2_with fail
    refine (h9 _).mono ?_
    rintro e w1 ⟨rfl, hb1⟩
    go_wp2_with fail
    go_ret
    exact ⟨rfl, (by repeat' (first | with_reducible exact Below.refl _ _ | with_reducible assumption | with_reducible refine below_dn ?_ _ | with_reducible refine Below.drew ?_ | with_reducible refine below_step ?_ (by assumption) | with_reducible refine Below.setCell ?_ ?_ _ | with_reducible refine Below.alloc ?_ ?_ _ | with_reducible exact Nat.le_refl _ | (simp; done) | (simp; omega) | omega))⟩
set_option maxRecDepth 100000 in
theorem FnExactKickChain_lifted (os : Os) (started : os.Started) (H : Type) (enc : TypeId × Value → H) :
    ReturnsInHanded {} Try.checked os 17 .any (Rows.fnExactKickChainSpec.pre6 enc Try.prog Try.f17 Rows.fnExactKickChainRow.domain false) (Rows.fnExactKickChainSpec.post enc Try.prog Try.f17 false true false false) := by
  refine returnsInHanded_of_change (C := Try.checked) own started (by kernel_rfl) Try.func17
    (ChangeSpec.witness6 (enc := enc) (C := Try.checked) false ⟨#[], #[.agg #[.slice none 0 0, .slice none 0 0, .slice none 0 0, .slice none 0 0], .int .i64 0, .agg #[.float .f32 0, .float .f32 0, .float .f32 0]], []⟩ 8 (by kernel_rfl) (by kernel_rfl) (by kernel_rfl) (by kernel_rfl)) ?_
  intro W base args ds gs before hval0 hW _ _
  have hval : ∀ (j : Nat) t v, Try.f17.params[j]? = some t → args[j]? = some v → Value.okWide Try.prog W .any base t v := hval0
  have hW0 := hW
  obtain ⟨p, q, hA0, hV, _, _, _⟩ := hW
  obtain ⟨rfl, rfl⟩ := trodVars_none hV
  have hA : DataW.TrodAll enc Try.prog W 0 (fun _ => true) true Try.f17.params.toList args.toList ds p := hA0
  rw [Try.params17] at hA hval
  obtain ⟨v0, vs0, d0, ds0, p0, q0, hargs, rfl, _, h0, r0⟩ := trodAll_cons hA
  obtain ⟨v1, vs1, d1, ds1, p1, q1, rfl, rfl, _, h1, r1⟩ := trodAll_cons r0
  obtain ⟨v2, vs2, d2, ds2, p2, q2, rfl, rfl, _, h2, r2⟩ := trodAll_cons r1
  obtain ⟨rfl, rfl, _⟩ := trodAll_nil r2
  obtain rfl : args = #[v0, v1, v2] := by cases args; simp_all
  obtain ⟨P0, B0, W0, R0, c10, c20, c30, c40, n10, n20, n30, n40, D0, rfl, hC0⟩ := open_chain (hval 0 26 v0 rfl rfl) h0
  obtain ⟨a1, rfl, _, _, w1⟩ := open_int Try.underlying2 (hval 1 2 v1 rfl rfl) h1
  obtain ⟨x2, y2, z2, rfl, _, _, _⟩ := open_vec Try.underlying44 (by kernel_rfl) (by kernel_rfl) rfl rfl rfl Try.underlying36 (hval 2 44 v2 rfl rfl) h2
  clear hA0 hval0
  refine (FnExactKickChain_walk P0 B0 W0 R0 c10 c20 c30 c40 n10 n20 n30 n40 D0 a1 (i64_range w1).1 (i64_range w1).2 ⟨x2, y2, z2⟩ W hC0).mono fun e W' ⟨he, hb⟩ => ?_
  subst he
  exact ⟨_, rfl, law_post Try.laidOut hW0 rfl rfl (by kernel_rfl) Try.underlying4 (by kernel_rfl) hb⟩

theorem FnExactKickChain_joined : joinedFacts Try.checked.prog 17 Try.f17 Rows.fnExactKickChainSpec Rows.fnExactKickChainRow = true := joined_here (by kernel_rfl) (by kernel_rfl) (by kernel_rfl) (by kernel_rfl) (by kernel_rfl) (by kernel_rfl) (by kernel_rfl) (by kernel_rfl) (by kernel_rfl) (by kernel_rfl) (by kernel_rfl) (by kernel_rfl) (by kernel_rfl) (by kernel_rfl) (by kernel_rfl) (by kernel_rfl) (by kernel_rfl) (by kernel_rfl) (by kernel_rfl) (by kernel_rfl) (by kernel_rfl) (by kernel_rfl) (by kernel_rfl) (by kernel_rfl) (by kernel_rfl) (by kernel_rfl)
theorem FnExactKickChain_holds : Rows.FnExactKickChainSaid :=
  OpenClaim.holds_of_wide 17 Try.f17 rfl rfl rfl rfl rfl rfl rfl ⟨rfl, rfl, rfl, rfl, rfl⟩ rfl rfl rfl rfl rfl (by kernel_rfl) Try.func17 FnExactKickChain_joined
    (of_decide_eq_true (by kernel_rfl)) (by unfold Func.isWrapper; first | (rw [if_pos (by decide +kernel)]; kernel_rfl) | (rw [if_neg (by decide +kernel)]; exact ⟨rfl, rfl⟩))
    (fun os started H enc _ => FnExactKickChain_lifted os started H enc)
#print axioms FnExactKickChain_holds
end Go.Proofs.Ytlhgaihfghobmaa
