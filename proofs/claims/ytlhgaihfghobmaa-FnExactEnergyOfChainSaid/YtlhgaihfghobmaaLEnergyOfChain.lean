/- EnergyOfChain of the program returns what EnergyOfChain of the reference returns, and leaves its argument alone. -/
import Derived.Test.YtlhgaihfghobmaaMf
import Derived.Test.YtlhgaihfghobmaaRm
import Derived.Test.YtlhgaihfghobmaaKj
import Derived.Deep.DeepCutAuto
namespace Go.Proofs.Ytlhgaihfghobmaa
open Go.ChangeShapes Go.WideShapes Go.ChangeAt Go.RowKit Go.Deep

set_option maxHeartbeats 8000000 in
set_option maxRecDepth 100000 in
theorem FnExactEnergyOfChain_walk (A1 A2 A3 A4 : Option Addr) (c1 c2 c3 c4 n1 n2 n3 n4 : Nat) (D : D4) (q : V3) (t : Nat) (_h1t : t < 4294967296) (w : World) (hC : Came w A1 A2 A3 A4 n1 n2 n3 n4 D) :
    Calls Try.prog 6 #[.agg #[.slice A1 n1 c1, .slice A2 n2 c2, .slice A3 n3 c3, .slice A4 n4 c4], .agg #[.float .f32 q.x, .float .f32 q.y, .float .f32 q.z], .float .f32 t] w (RetV (.bool true) w) := by
  by_cases hn : n1 + n2 + n3 + n4 ≤ 1048576
  · have k1 : n1 ≤ 1048576 := by omega
    have k2 : n2 ≤ 1048576 := by omega
    have k3 : n3 ≤ 1048576 := by omega
    have k4 : n4 ≤ 1048576 := by omega
    have HC := Lib.hid hC
    have g0 : ¬ ((1048576 : Int) - n1 - n2 - n3 - n4 < 0) := by omega
    have hbb : ((enB n1 n2 n3 n4 D q t) != (enB n1 n2 n3 n4 D q t)) = false := by simp
    clear hC
    go_enter Try.func6, Try.ntmps6
    go_wp2_with fail
    refine (laws_szChain_fit A1 A2 A3 A4 c1 c2 c3 c4 n1 n2 n3 n4 hn _).mono ?_
    rintro e w1 ⟨rfl, hb1⟩
    have PP := Lib.hid (((Bx.new_ w 26 (.slice A1 n1 c1) (.slice A2 n2 c2) (.slice A3 n3 c3) (.slice A4 n4 c4)).alloc _).go hb1)
    have VV0 := Lib.hid ((Tx.new_ (w.alloc (.cells #[.slice A1 n1 c1, .slice A2 n2 c2, .slice A3 n3 c3, .slice A4 n4 c4] 26)) 44 (.float .f32 q.x) (.float .f32 q.y) (.float .f32 q.z)).go hb1)
    have z0 : (w.alloc (.cells #[.slice A1 n1 c1, .slice A2 n2 c2, .slice A3 n3 c3, .slice A4 n4 c4] 26)).heap.size = w.heap.size + 1 := by simp
    rw [z0] at VV0
    clear z0
    have BB := Lib.hid (show Below w.heap.size w w1 from below_step (w := w) ((by repeat' (first | with_reducible exact Below.refl _ _ | with_reducible assumption | with_reducible refine below_dn ?_ _ | with_reducible refine Below.drew ?_ | with_reducible refine below_step ?_ (by assumption) | with_reducible refine Below.setCell ?_ ?_ _ | with_reducible refine Below.alloc ?_ ?_ _ | with_reducible exact Nat.le_refl _ | (simp; done) | (simp; omega) | omega))) hb1)
    clear hb1
    have hw0 : Below w1.heap.size w1 w1.drew := (Below.refl _ _).drew
    go_upto_region 5 with fail
    refine region_inv3 [fun v _ => isE (.agg #[.slice A1 n1 c1, .slice A2 n2 c2, .slice A3 n3 c3, .slice A4 n4 c4]) v, isT w1.heap.size n1 n2 n3 n4 D, fun v _ => isE (.agg #[.float .f32 q.x, .float .f32 q.y, .float .f32 q.z]) v, fun v _ => isE (.agg #[.float .f32 q.x, .float .f32 q.y, .float .f32 q.z]) v, fun v _ => isE (.float .f32 t) v, isNB ((enB n1 n2 n3 n4 D q t)) ((pickN (enB n1 n2 n3 n4 D q t) (sumF (enQ D q t) n1))), isNB ((enB n1 n2 n3 n4 D q t)) ((pickN (enB n1 n2 n3 n4 D q t) (sumF (enQ D q t) n1))), fun v _ => isF ((pickN (enB n1 n2 n3 n4 D q t) (sumF (enQ D q t) n1))) v, fun v _ => isE (.bool (enB n1 n2 n3 n4 D q t)) v, fun v _ => isF ((pickN (enB n1 n2 n3 n4 D q t) (sumF (enQ D q t) n1))) v, fun v _ => isE (.bool (enB n1 n2 n3 n4 D q t)) v] (fun l _ W => Js [] (fun W => Below w1.heap.size w1 W) l W) (by kernel_rfl) (by kernel_rfl) (by kernel_rfl) (Js.nil hw0) ⟨?r0, ?r1, ?r2, ?r3, ?r4, ?r5, ?r6, ?r7, ?r8, ?r9, ?r10, trivial⟩ ?hend
    case r0 =>
      intro listed a u h hu hd K hK
      have hA : (fun W => Below w1.heap.size w1 W) u := h.world
      have e3 : a.tmps.getD 3 undef = .pointer (some ⟨w.heap.size, 0, none⟩) := h.base (by kernel_rfl)
      have f3 : a.tmps[3]? = some (.pointer (some ⟨w.heap.size, 0, none⟩)) := h.old (by kernel_rfl)
      rw [if_pos (by rfl)]
      obtain ⟨p0_, p1_, p2_, p3_, pf_⟩ := (PP.out.go hA).facts
      obtain ⟨v00_, v01_, v02_, v0f_⟩ := (VV0.out.go hA).facts
      go_simp
      exact hK _ _ (fun _ _ _ h => h) (isE.mk rfl) (Js.nil (hA))
    case r1 =>
      intro listed a u h hu hd K hK
      have hA : (fun W => Below w1.heap.size w1 W) u := h.world
      obtain ⟨v19, ev19, em19, F19⟩ := h.slot (i := 0) rfl rfl (hd _ (Array.mem_of_getElem? (i := 0) rfl) rfl)
      have q19 := isE.out F19
      have e19 := ev19.trans q19
      have f19 := em19.trans (congrArg some q19)
      clear ev19 em19 F19
      rw [if_pos (by rfl)]
      go_simp
      refine (laws_toChain A1 A2 A3 A4 c1 c2 c3 c4 n1 n2 n3 n4 D k1 k2 k3 k4 _ ((HC.out.go (below_step BB.out hA)).i1) ((HC.out.go (below_step BB.out hA)).i2) ((HC.out.go (below_step BB.out hA)).i3) ((HC.out.go (below_step BB.out hA)).i4)).mono ?_
      rintro e u2 ⟨y1, y2, y3, y4, rfl, ho, hb⟩
      have hR : Gw u u2 := hb
      exact hK _ _ (fun j v hn hF => AllStX.fact0 (R := Gw) (i := 1) (by exact ⟨fun _ _ _ _ _ h => h, fun hn => absurd rfl hn, fun _ _ _ _ _ h => h, fun _ _ _ _ _ h => h, fun _ _ _ _ _ h => h, fun _ _ _ _ _ h => h, fun _ _ _ _ _ h => h, fun _ _ _ _ _ h => h, fun _ _ _ _ _ h => h, fun _ _ _ _ _ h => h, fun _ _ _ _ _ h => h, trivial⟩) hR j v hn hF) ⟨y1, y2, y3, y4, rfl, ho.mono hA.size⟩ (Js.nil (hA.trans (hb.mono hA.size)))
    case r2 =>
      intro listed a u h hu hd K hK
      have hA : (fun W => Below w1.heap.size w1 W) u := h.world
      have e4 : a.tmps.getD 4 undef = .pointer (some ⟨w.heap.size + 1, 0, none⟩) := h.base (by kernel_rfl)
      have f4 : a.tmps[4]? = some (.pointer (some ⟨w.heap.size + 1, 0, none⟩)) := h.old (by kernel_rfl)
      rw [if_pos (by rfl)]
      obtain ⟨p0_, p1_, p2_, p3_, pf_⟩ := (PP.out.go hA).facts
      obtain ⟨v00_, v01_, v02_, v0f_⟩ := (VV0.out.go hA).facts
      go_simp
      exact hK _ _ (fun _ _ _ h => h) (isE.mk rfl) (Js.nil (hA))
    case r3 =>
      intro listed a u h hu hd K hK
      have hA : (fun W => Below w1.heap.size w1 W) u := h.world
      obtain ⟨v21, ev21, em21, F21⟩ := h.slot (i := 2) rfl rfl (hd _ (Array.mem_of_getElem? (i := 0) rfl) rfl)
      have q21 := isE.out F21
      have e21 := ev21.trans q21
      have f21 := em21.trans (congrArg some q21)
      clear ev21 em21 F21
      rw [if_pos (by rfl)]
      go_simp
      refine (laws_toVector _ _ _ _).mono ?_
      rintro e u2 ⟨rfl, hb⟩
      have hR : Gw u u2 := hb
      exact hK _ _ (fun j v hn hF => AllStX.fact0 (R := Gw) (i := 3) (by exact ⟨fun _ _ _ _ _ h => h, fun _ _ _ _ hW h => isT.go h hW, fun _ _ _ _ _ h => h, fun hn => absurd rfl hn, fun _ _ _ _ _ h => h, fun _ _ _ _ _ h => h, fun _ _ _ _ _ h => h, fun _ _ _ _ _ h => h, fun _ _ _ _ _ h => h, fun _ _ _ _ _ h => h, fun _ _ _ _ _ h => h, trivial⟩) hR j v hn hF) (isE.mk rfl) (Js.nil (hA.trans (hb.mono hA.size)))
    case r4 =>
      intro listed a u h hu hd K hK
      have e2 : a.tmps.getD 2 undef = .float .f32 t := h.base (by kernel_rfl)
      have f2 : a.tmps[2]? = some (.float .f32 t) := h.old (by kernel_rfl)
      rw [if_pos (by rfl)]
      go_simp
      exact hK _ _ (fun _ _ _ h => h) (isE.mk rfl) (Js.neutral h.world rfl)
    case r5 =>
      intro listed a u h hu hd K hK
      have hA : (fun W => Below w1.heap.size w1 W) u := h.world
      obtain ⟨v20, ev20, em20, F20⟩ := h.slot (i := 1) rfl rfl (hd _ (Array.mem_of_getElem? (i := 0) rfl) rfl)
      obtain ⟨aa20, ab20, ac20, ad20, q20, ho20⟩ : isT w1.heap.size n1 n2 n3 n4 D v20 u := F20
      have e20 := ev20.trans q20
      have f20 := em20.trans (congrArg some q20)
      clear ev20 em20
      obtain ⟨v22, ev22, em22, F22⟩ := h.slot (i := 3) rfl rfl (hd _ (Array.mem_of_getElem? (i := 1) rfl) rfl)
      have q22 := isE.out F22
      have e22 := ev22.trans q22
      have f22 := em22.trans (congrArg some q22)
      clear ev22 em22 F22
      obtain ⟨v23, ev23, em23, F23⟩ := h.slot (i := 4) rfl rfl (hd _ (Array.mem_of_getElem? (i := 2) rfl) rfl)
      have q23 := isE.out F23
      have e23 := ev23.trans q23
      have f23 := em23.trans (congrArg some q23)
      clear ev23 em23 F23
      rw [if_pos (by rfl)]
      go_simp
      refine (spec_EnergyOfChain _ _ _ _ _ _ _ _ n1 n2 n3 n4 _ D q t u (ho20)).mono ?_
      rintro e u2 ⟨r, rfl, hlt, hs, hb⟩
      have hR : Gw u u2 := hb
      exact hK _ _ (fun j v hn hF => AllStX.fact0 (R := Gw) (i := 5) (by exact ⟨fun _ _ _ _ _ h => h, fun _ _ _ _ hW h => isT.go h hW, fun _ _ _ _ _ h => h, fun _ _ _ _ _ h => h, fun _ _ _ _ _ h => h, fun hn => absurd rfl hn, fun _ _ _ _ _ h => h, fun _ _ _ _ _ h => h, fun _ _ _ _ _ h => h, fun _ _ _ _ _ h => h, fun _ _ _ _ _ h => h, trivial⟩) hR j v hn hF) ⟨r, rfl, hlt, hs⟩ (Js.nil (hA.trans (hb.mono hA.size)))
    case r6 =>
      intro listed a u h hu hd K hK
      obtain ⟨v24, ev24, em24, F24⟩ := h.slot (i := 5) rfl rfl (hd _ (Array.mem_of_getElem? (i := 0) rfl) rfl)
      obtain ⟨x24, q24, l24, s24⟩ : isNB ((enB n1 n2 n3 n4 D q t)) ((pickN (enB n1 n2 n3 n4 D q t) (sumF (enQ D q t) n1))) v24 u := F24
      have e24 := ev24.trans q24
      have f24 := em24.trans (congrArg some q24)
      clear ev24 em24
      rw [if_pos (by rfl)]
      go_simp
      exact hK _ _ (fun _ _ _ h => h) (⟨x24, rfl, l24, s24⟩) (Js.neutral h.world rfl)
    case r7 =>
      intro listed a u h hu hd K hK
      obtain ⟨v18, ev18, em18, F18⟩ := h.slot (i := 6) rfl rfl (hd _ (Array.mem_of_getElem? (i := 0) rfl) rfl)
      obtain ⟨x18, q18, l18, s18⟩ : isNB ((enB n1 n2 n3 n4 D q t)) ((pickN (enB n1 n2 n3 n4 D q t) (sumF (enQ D q t) n1))) v18 u := F18
      have e18 := ev18.trans q18
      have f18 := em18.trans (congrArg some q18)
      clear ev18 em18
      rw [if_pos (by rfl)]
      go_simp
      exact hK _ _ (fun _ _ _ h => h) (isF.mk l18 s18) (Js.neutral h.world rfl)
    case r8 =>
      intro listed a u h hu hd K hK
      obtain ⟨v18, ev18, em18, F18⟩ := h.slot (i := 6) rfl rfl (hd _ (Array.mem_of_getElem? (i := 0) rfl) rfl)
      obtain ⟨x18, q18, l18, s18⟩ : isNB ((enB n1 n2 n3 n4 D q t)) ((pickN (enB n1 n2 n3 n4 D q t) (sumF (enQ D q t) n1))) v18 u := F18
      have e18 := ev18.trans q18
      have f18 := em18.trans (congrArg some q18)
      clear ev18 em18
      rw [if_pos (by rfl)]
      go_simp
      exact hK _ _ (fun _ _ _ h => h) (isE.mk rfl) (Js.neutral h.world rfl)
    case r9 =>
      intro listed a u h hu hd K hK
      obtain ⟨v25, ev25, em25, F25⟩ := h.slot (i := 7) rfl rfl (hd _ (Array.mem_of_getElem? (i := 0) rfl) rfl)
      obtain ⟨x25, q25, l25, s25⟩ := isF.out F25
      have e25 := ev25.trans q25
      have f25 := em25.trans (congrArg some q25)
      clear ev25 em25 F25
      rw [if_pos (by rfl)]
      go_simp
      exact hK _ _ (fun _ _ _ h => h) (isF.mk l25 s25) (Js.neutral h.world rfl)
    case r10 =>
      intro listed a u h hu hd K hK
      obtain ⟨v26, ev26, em26, F26⟩ := h.slot (i := 8) rfl rfl (hd _ (Array.mem_of_getElem? (i := 0) rfl) rfl)
      have q26 := isE.out F26
      have e26 := ev26.trans q26
      have f26 := em26.trans (congrArg some q26)
      clear ev26 em26 F26
      rw [if_pos (by rfl)]
      go_simp
      exact hK _ _ (fun _ _ _ h => h) (isE.mk rfl) (Js.neutral h.world rfl)
    case hend =>
      intro listed a u h hall
      have hB : (fun W => Below w1.heap.size w1 W) u := h.world
      obtain ⟨v8, ev8, em8, F8⟩ := h.slot (i := 9) rfl rfl (hall 9 (by decide))
      obtain ⟨x8, q8, l8, s8⟩ := isF.out F8
      have f8 := em8.trans (congrArg some q8)
      clear ev8 em8 F8
      obtain ⟨v9, ev9, em9, F9⟩ := h.slot (i := 10) rfl rfl (hall 10 (by decide))
      have q9 := isE.out F9
      have f9 := em9.trans (congrArg some q9)
      clear ev9 em9 F9
      obtain ⟨v18, ev18, em18, F18⟩ := h.slot (i := 6) rfl rfl (hall 6 (by decide))
      obtain ⟨x18, q18, l18, s18⟩ : isNB ((enB n1 n2 n3 n4 D q t)) ((pickN (enB n1 n2 n3 n4 D q t) (sumF (enQ D q t) n1))) v18 u := F18
      have f18 := em18.trans (congrArg some q18)
      clear ev18 em18
      obtain ⟨v19, ev19, em19, F19⟩ := h.slot (i := 0) rfl rfl (hall 0 (by decide))
      have q19 := isE.out F19
      have f19 := em19.trans (congrArg some q19)
      clear ev19 em19 F19
      obtain ⟨v20, ev20, em20, F20⟩ := h.slot (i := 1) rfl rfl (hall 1 (by decide))
      obtain ⟨aa20, ab20, ac20, ad20, q20, ho20⟩ : isT w1.heap.size n1 n2 n3 n4 D v20 u := F20
      have f20 := em20.trans (congrArg some q20)
      clear ev20 em20
      obtain ⟨v21, ev21, em21, F21⟩ := h.slot (i := 2) rfl rfl (hall 2 (by decide))
      have q21 := isE.out F21
      have f21 := em21.trans (congrArg some q21)
      clear ev21 em21 F21
      obtain ⟨v22, ev22, em22, F22⟩ := h.slot (i := 3) rfl rfl (hall 3 (by decide))
      have q22 := isE.out F22
      have f22 := em22.trans (congrArg some q22)
      clear ev22 em22 F22
      obtain ⟨v23, ev23, em23, F23⟩ := h.slot (i := 4) rfl rfl (hall 4 (by decide))
      have q23 := isE.out F23
      have f23 := em23.trans (congrArg some q23)
      clear ev23 em23 F23
      obtain ⟨v24, ev24, em24, F24⟩ := h.slot (i := 5) rfl rfl (hall 5 (by decide))
      obtain ⟨x24, q24, l24, s24⟩ : isNB ((enB n1 n2 n3 n4 D q t)) ((pickN (enB n1 n2 n3 n4 D q t) (sumF (enQ D q t) n1))) v24 u := F24
      have f24 := em24.trans (congrArg some q24)
      clear ev24 em24
      obtain ⟨v25, ev25, em25, F25⟩ := h.slot (i := 7) rfl rfl (hall 7 (by decide))
      obtain ⟨x25, q25, l25, s25⟩ := isF.out F25
      have f25 := em25.trans (congrArg some q25)
      clear ev25 em25 F25
      obtain ⟨v26, ev26, em26, F26⟩ := h.slot (i := 8) rfl rfl (hall 8 (by decide))
      have q26 := isE.out F26
      have f26 := em26.trans (congrArg some q26)
      clear ev26 em26 F26
      have ha := h.act [8, 9, 18, 19, 20, 21, 22, 23, 24, 25, 26] [_, _, _, _, _, _, _, _, _, _, _] (by kernel_rfl) ⟨f8, f9, f18, f19, f20, f21, f22, f23, f24, f25, f26, trivial⟩
      clear f8 f9 f18 f19 f20 f21 f22 f23 f24 f25 f26
      simp only [setAll, List.setIfInBounds_toArray, List.set_cons_zero, List.set_cons_succ] at ha
      subst ha
      clear h hall
      obtain ⟨w3, rfl⟩ : ∃ z : World, z = u := ⟨u, rfl⟩
      have SS := Lib.hid s8
      have P3 := Lib.hid (PP.out.go hB)
      have V30 := Lib.hid (VV0.out.go hB)
      have B3 := Lib.hid (below_step BB.out hB)
      clear hB hw0 PP BB VV0
      obtain ⟨p0, p1, p2, p3, pf⟩ := P3.out.facts
      go_wp2_with fail
      refine (laws_toChain A1 A2 A3 A4 c1 c2 c3 c4 n1 n2 n3 n4 D k1 k2 k3 k4 _ ((HC.out.go B3.out).i1) ((HC.out.go B3.out).i2) ((HC.out.go B3.out).i3) ((HC.out.go B3.out).i4)).mono ?_
      rintro e w4 ⟨x1, x2, x3, x4, rfl, ho4, hb4⟩
      clear p0 p1 p2 p3 pf
      go_upto_region 7 with fail
      have hb5 : Below w4.heap.size w4 (w4.alloc (.cells #[.slice (some ⟨x1, 0, none⟩) n1 n1, .slice (some ⟨x2, 0, none⟩) n2 n2, .slice (some ⟨x3, 0, none⟩) n3 n3, .slice (some ⟨x4, 0, none⟩) n4 n4] 32)) := Below.alloc (Below.refl _ _) (Nat.le_refl _) _
      have hx5 := Bx.new_ w4 32 (.slice (some ⟨x1, 0, none⟩) n1 n1) (.slice (some ⟨x2, 0, none⟩) n2 n2) (.slice (some ⟨x3, 0, none⟩) n3 n3) (.slice (some ⟨x4, 0, none⟩) n4 n4)
      generalize hw5 : w4.alloc (.cells #[.slice (some ⟨x1, 0, none⟩) n1 n1, .slice (some ⟨x2, 0, none⟩) n2 n2, .slice (some ⟨x3, 0, none⟩) n3 n3, .slice (some ⟨x4, 0, none⟩) n4 n4] 32) = w5 at hb5 hx5 ⊢
      clear hw5
      have XX := Lib.hid hx5
      have OX := Lib.hid (ho4.go hb5)
      have PP := Lib.hid ((P3.out.go hb4).go hb5)
      have VV0 := Lib.hid ((V30.out.go hb4).go hb5)
      have BB := Lib.hid (below_step (below_step B3.out hb4) hb5)
      clear hb4 hb5 ho4 hx5 P3 B3 V30
      have hw0 : Below w5.heap.size w5 w5.drew := (Below.refl _ _).drew
      refine region_inv3 [fun v _ => isE (.agg #[.slice (some ⟨x1, 0, none⟩) n1 n1, .slice (some ⟨x2, 0, none⟩) n2 n2, .slice (some ⟨x3, 0, none⟩) n3 n3, .slice (some ⟨x4, 0, none⟩) n4 n4]) v, fun v _ => isE (.agg #[.float .f32 q.x, .float .f32 q.y, .float .f32 q.z]) v, fun v _ => isE (.agg #[.float .f32 q.x, .float .f32 q.y, .float .f32 q.z]) v, fun v _ => isE (.float .f32 t) v, isNB ((enB n1 n2 n3 n4 D q t)) ((pickN (enB n1 n2 n3 n4 D q t) (sumF (enQ D q t) n1))), isNB ((enB n1 n2 n3 n4 D q t)) ((pickN (enB n1 n2 n3 n4 D q t) (sumF (enQ D q t) n1))), fun v _ => isF ((pickN (enB n1 n2 n3 n4 D q t) (sumF (enQ D q t) n1))) v, fun v _ => isE (.bool (enB n1 n2 n3 n4 D q t)) v, fun v _ => isF ((pickN (enB n1 n2 n3 n4 D q t) (sumF (enQ D q t) n1))) v, fun v _ => isE (.bool (enB n1 n2 n3 n4 D q t)) v] (fun l _ W => Js [] (fun W => Below w5.heap.size w5 W) l W) (by kernel_rfl) (by kernel_rfl) (by kernel_rfl) (Js.nil hw0) ⟨?r0, ?r1, ?r2, ?r3, ?r4, ?r5, ?r6, ?r7, ?r8, ?r9, trivial⟩ ?hend
      case r0 =>
        intro listed a u h hu hd K hK
        have hA : (fun W => Below w5.heap.size w5 W) u := h.world
        have e10 : a.tmps.getD 10 undef = .pointer (some ⟨w4.heap.size, 0, none⟩) := h.base (by kernel_rfl)
        have f10 : a.tmps[10]? = some (.pointer (some ⟨w4.heap.size, 0, none⟩)) := h.old (by kernel_rfl)
        rw [if_pos (by rfl)]
        obtain ⟨p0_, p1_, p2_, p3_, pf_⟩ := (PP.out.go hA).facts
        obtain ⟨v00_, v01_, v02_, v0f_⟩ := (VV0.out.go hA).facts
        obtain ⟨y0_, y1_, y2_, y3_, yf_⟩ := (XX.out.go hA).facts
        go_simp
        exact hK _ _ (fun _ _ _ h => h) (isE.mk rfl) (Js.nil (hA))
      case r1 =>
        intro listed a u h hu hd K hK
        have hA : (fun W => Below w5.heap.size w5 W) u := h.world
        have e4 : a.tmps.getD 4 undef = .pointer (some ⟨w.heap.size + 1, 0, none⟩) := h.base (by kernel_rfl)
        have f4 : a.tmps[4]? = some (.pointer (some ⟨w.heap.size + 1, 0, none⟩)) := h.old (by kernel_rfl)
        rw [if_pos (by rfl)]
        obtain ⟨p0_, p1_, p2_, p3_, pf_⟩ := (PP.out.go hA).facts
        obtain ⟨v00_, v01_, v02_, v0f_⟩ := (VV0.out.go hA).facts
        obtain ⟨y0_, y1_, y2_, y3_, yf_⟩ := (XX.out.go hA).facts
        go_simp
        exact hK _ _ (fun _ _ _ h => h) (isE.mk rfl) (Js.nil (hA))
      case r2 =>
        intro listed a u h hu hd K hK
        have hA : (fun W => Below w5.heap.size w5 W) u := h.world
        obtain ⟨v31, ev31, em31, F31⟩ := h.slot (i := 1) rfl rfl (hd _ (Array.mem_of_getElem? (i := 0) rfl) rfl)
        have q31 := isE.out F31
        have e31 := ev31.trans q31
        have f31 := em31.trans (congrArg some q31)
        clear ev31 em31 F31
        rw [if_pos (by rfl)]
        go_simp
        refine (laws_toVector _ _ _ _).mono ?_
        rintro e u2 ⟨rfl, hb⟩
        have hR : Gw u u2 := hb
        exact hK _ _ (fun j v hn hF => AllStX.fact0 (R := Gw) (i := 2) (by exact ⟨fun _ _ _ _ _ h => h, fun _ _ _ _ _ h => h, fun hn => absurd rfl hn, fun _ _ _ _ _ h => h, fun _ _ _ _ _ h => h, fun _ _ _ _ _ h => h, fun _ _ _ _ _ h => h, fun _ _ _ _ _ h => h, fun _ _ _ _ _ h => h, fun _ _ _ _ _ h => h, trivial⟩) hR j v hn hF) (isE.mk rfl) (Js.nil (hA.trans (hb.mono hA.size)))
      case r3 =>
        intro listed a u h hu hd K hK
        have e2 : a.tmps.getD 2 undef = .float .f32 t := h.base (by kernel_rfl)
        have f2 : a.tmps[2]? = some (.float .f32 t) := h.old (by kernel_rfl)
        rw [if_pos (by rfl)]
        go_simp
        exact hK _ _ (fun _ _ _ h => h) (isE.mk rfl) (Js.neutral h.world rfl)
      case r4 =>
        intro listed a u h hu hd K hK
        have hA : (fun W => Below w5.heap.size w5 W) u := h.world
        obtain ⟨v30, ev30, em30, F30⟩ := h.slot (i := 0) rfl rfl (hd _ (Array.mem_of_getElem? (i := 0) rfl) rfl)
        have q30 := isE.out F30
        have e30 := ev30.trans q30
        have f30 := em30.trans (congrArg some q30)
        clear ev30 em30 F30
        obtain ⟨v32, ev32, em32, F32⟩ := h.slot (i := 2) rfl rfl (hd _ (Array.mem_of_getElem? (i := 1) rfl) rfl)
        have q32 := isE.out F32
        have e32 := ev32.trans q32
        have f32 := em32.trans (congrArg some q32)
        clear ev32 em32 F32
        obtain ⟨v33, ev33, em33, F33⟩ := h.slot (i := 3) rfl rfl (hd _ (Array.mem_of_getElem? (i := 2) rfl) rfl)
        have q33 := isE.out F33
        have e33 := ev33.trans q33
        have f33 := em33.trans (congrArg some q33)
        clear ev33 em33 F33
        rw [if_pos (by rfl)]
        go_simp
        refine (impl_EnergyOfChain _ _ _ _ _ _ _ _ n1 n2 n3 n4 _ D q t u (OX.out.go hA)).mono ?_
        rintro e u2 ⟨r, rfl, hlt, hs, hb⟩
        have hR : Gw u u2 := hb
        exact hK _ _ (fun j v hn hF => AllStX.fact0 (R := Gw) (i := 4) (by exact ⟨fun _ _ _ _ _ h => h, fun _ _ _ _ _ h => h, fun _ _ _ _ _ h => h, fun _ _ _ _ _ h => h, fun hn => absurd rfl hn, fun _ _ _ _ _ h => h, fun _ _ _ _ _ h => h, fun _ _ _ _ _ h => h, fun _ _ _ _ _ h => h, fun _ _ _ _ _ h => h, trivial⟩) hR j v hn hF) ⟨r, rfl, hlt, hs⟩ (Js.nil (hA.trans (hb.mono hA.size)))
      case r5 =>
        intro listed a u h hu hd K hK
        obtain ⟨v34, ev34, em34, F34⟩ := h.slot (i := 4) rfl rfl (hd _ (Array.mem_of_getElem? (i := 0) rfl) rfl)
        obtain ⟨x34, q34, l34, s34⟩ : isNB ((enB n1 n2 n3 n4 D q t)) ((pickN (enB n1 n2 n3 n4 D q t) (sumF (enQ D q t) n1))) v34 u := F34
        have e34 := ev34.trans q34
        have f34 := em34.trans (congrArg some q34)
        clear ev34 em34
        rw [if_pos (by rfl)]
        go_simp
        exact hK _ _ (fun _ _ _ h => h) (⟨x34, rfl, l34, s34⟩) (Js.neutral h.world rfl)
      case r6 =>
        intro listed a u h hu hd K hK
        obtain ⟨v29, ev29, em29, F29⟩ := h.slot (i := 5) rfl rfl (hd _ (Array.mem_of_getElem? (i := 0) rfl) rfl)
        obtain ⟨x29, q29, l29, s29⟩ : isNB ((enB n1 n2 n3 n4 D q t)) ((pickN (enB n1 n2 n3 n4 D q t) (sumF (enQ D q t) n1))) v29 u := F29
        have e29 := ev29.trans q29
        have f29 := em29.trans (congrArg some q29)
        clear ev29 em29
        rw [if_pos (by rfl)]
        go_simp
        exact hK _ _ (fun _ _ _ h => h) (isF.mk l29 s29) (Js.neutral h.world rfl)
      case r7 =>
        intro listed a u h hu hd K hK
        obtain ⟨v29, ev29, em29, F29⟩ := h.slot (i := 5) rfl rfl (hd _ (Array.mem_of_getElem? (i := 0) rfl) rfl)
        obtain ⟨x29, q29, l29, s29⟩ : isNB ((enB n1 n2 n3 n4 D q t)) ((pickN (enB n1 n2 n3 n4 D q t) (sumF (enQ D q t) n1))) v29 u := F29
        have e29 := ev29.trans q29
        have f29 := em29.trans (congrArg some q29)
        clear ev29 em29
        rw [if_pos (by rfl)]
        go_simp
        exact hK _ _ (fun _ _ _ h => h) (isE.mk rfl) (Js.neutral h.world rfl)
      case r8 =>
        intro listed a u h hu hd K hK
        obtain ⟨v35, ev35, em35, F35⟩ := h.slot (i := 6) rfl rfl (hd _ (Array.mem_of_getElem? (i := 0) rfl) rfl)
        obtain ⟨x35, q35, l35, s35⟩ := isF.out F35
        have e35 := ev35.trans q35
        have f35 := em35.trans (congrArg some q35)
        clear ev35 em35 F35
        rw [if_pos (by rfl)]
        go_simp
        exact hK _ _ (fun _ _ _ h => h) (isF.mk l35 s35) (Js.neutral h.world rfl)
      case r9 =>
        intro listed a u h hu hd K hK
        obtain ⟨v36, ev36, em36, F36⟩ := h.slot (i := 7) rfl rfl (hd _ (Array.mem_of_getElem? (i := 0) rfl) rfl)
        have q36 := isE.out F36
        have e36 := ev36.trans q36
        have f36 := em36.trans (congrArg some q36)
        clear ev36 em36 F36
        rw [if_pos (by rfl)]
        go_simp
        exact hK _ _ (fun _ _ _ h => h) (isE.mk rfl) (Js.neutral h.world rfl)
      case hend =>
        intro listed a u h hall
        have hB : (fun W => Below w5.heap.size w5 W) u := h.world
        obtain ⟨v11, ev11, em11, F11⟩ := h.slot (i := 8) rfl rfl (hall 8 (by decide))
        obtain ⟨x11, q11, l11, s11⟩ := isF.out F11
        have f11 := em11.trans (congrArg some q11)
        clear ev11 em11 F11
        obtain ⟨v12, ev12, em12, F12⟩ := h.slot (i := 9) rfl rfl (hall 9 (by decide))
        have q12 := isE.out F12
        have f12 := em12.trans (congrArg some q12)
        clear ev12 em12 F12
        obtain ⟨v29, ev29, em29, F29⟩ := h.slot (i := 5) rfl rfl (hall 5 (by decide))
        obtain ⟨x29, q29, l29, s29⟩ : isNB ((enB n1 n2 n3 n4 D q t)) ((pickN (enB n1 n2 n3 n4 D q t) (sumF (enQ D q t) n1))) v29 u := F29
        have f29 := em29.trans (congrArg some q29)
        clear ev29 em29
        obtain ⟨v30, ev30, em30, F30⟩ := h.slot (i := 0) rfl rfl (hall 0 (by decide))
        have q30 := isE.out F30
        have f30 := em30.trans (congrArg some q30)
        clear ev30 em30 F30
        obtain ⟨v31, ev31, em31, F31⟩ := h.slot (i := 1) rfl rfl (hall 1 (by decide))
        have q31 := isE.out F31
        have f31 := em31.trans (congrArg some q31)
        clear ev31 em31 F31
        obtain ⟨v32, ev32, em32, F32⟩ := h.slot (i := 2) rfl rfl (hall 2 (by decide))
        have q32 := isE.out F32
        have f32 := em32.trans (congrArg some q32)
        clear ev32 em32 F32
        obtain ⟨v33, ev33, em33, F33⟩ := h.slot (i := 3) rfl rfl (hall 3 (by decide))
        have q33 := isE.out F33
        have f33 := em33.trans (congrArg some q33)
        clear ev33 em33 F33
        obtain ⟨v34, ev34, em34, F34⟩ := h.slot (i := 4) rfl rfl (hall 4 (by decide))
        obtain ⟨x34, q34, l34, s34⟩ : isNB ((enB n1 n2 n3 n4 D q t)) ((pickN (enB n1 n2 n3 n4 D q t) (sumF (enQ D q t) n1))) v34 u := F34
        have f34 := em34.trans (congrArg some q34)
        clear ev34 em34
        obtain ⟨v35, ev35, em35, F35⟩ := h.slot (i := 6) rfl rfl (hall 6 (by decide))
        obtain ⟨x35, q35, l35, s35⟩ := isF.out F35
        have f35 := em35.trans (congrArg some q35)
        clear ev35 em35 F35
        obtain ⟨v36, ev36, em36, F36⟩ := h.slot (i := 7) rfl rfl (hall 7 (by decide))
        have q36 := isE.out F36
        have f36 := em36.trans (congrArg some q36)
        clear ev36 em36 F36
        have ha := h.act [11, 12, 29, 30, 31, 32, 33, 34, 35, 36] [_, _, _, _, _, _, _, _, _, _] (by kernel_rfl) ⟨f11, f12, f29, f30, f31, f32, f33, f34, f35, f36, trivial⟩
        clear f11 f12 f29 f30 f31 f32 f33 f34 f35 f36
        simp only [setAll, List.setIfInBounds_toArray, List.set_cons_zero, List.set_cons_succ] at ha
        subst ha
        clear h hall
        obtain ⟨w6, rfl⟩ : ∃ z : World, z = u := ⟨u, rfl⟩
        have SG := Lib.hid s11
        have XX6 := Lib.hid (XX.out.go hB)
        have OX6 := Lib.hid (OX.out.go hB)
        have P6 := Lib.hid (PP.out.go hB)
        have B6 := Lib.hid (below_step BB.out hB)
        clear hB hw0 PP BB XX OX VV0
        go_wp2_with fail
        refine (laws_sameFloat _ _ (widen_sim (SG.out.trans SS.out.symm) _ _ _ _) _).mono ?_
        rintro e w7 hq7
        obtain ⟨rfl, hb7a⟩ := RetQ.v hq7
        have hb7 : Below w6.heap.size w6 w7 := by first | exact hb7a | exact below_of hb7a | exact below_of (below_of hb7a)
        clear hq7 hb7a
        have XX7 := Lib.hid (XX6.out.go hb7)
        have OX7 := Lib.hid (OX6.out.go hb7)
        have P7 := Lib.hid (P6.out.go hb7)
        have B7 := Lib.hid (below_step B6.out hb7)
        clear hb7 XX6 OX6 P6 B6
        obtain ⟨p0, p1, p2, p3, pf⟩ := P7.out.facts
        obtain ⟨q0, q1, q2, q3, qf⟩ := XX7.out.facts
        have lP := P7.out.lt
        have lX := XX7.out.lt
        go_upto_region 10 with fail
        go_cut [52] (fun s wx => s = .bool false ∧ Below w7.heap.size w7 wx)
        case first =>
          go_region_with (first | (go_at_call 25; refine (laws_toChain A1 A2 A3 A4 c1 c2 c3 c4 n1 n2 n3 n4 D k1 k2 k3 k4 _ ((HC.out.go B7.out.drew).i1) ((HC.out.go B7.out.drew).i2) ((HC.out.go B7.out.drew).i3) ((HC.out.go B7.out.drew).i4)).mono ?_; rintro e uu ⟨y1, y2, y3, y4, rfl, ho7, hb7⟩; have O7 := Lib.hid ho7; have BZ := Lib.hid ((Below.refl w7.heap.size w7).drew.trans hb7); obtain ⟨u0, u1, uu, u3, uf⟩ := (XX7.out.go BZ.out).facts; clear ho7 hb7) | (go_at_call 27; refine (laws_eqChain _ _ _ _ _ _ _ _ _ _ _ _ _ _ _ _ n1 n2 n3 n4 _ _ D D k1 k2 k3 k4 (SimD.refl _ _ _ _ _) _ (OX7.out.go BZ.out) O7.out).mono ?_; rintro e w8 ⟨rfl, hb8⟩; have BY := Lib.hid hb8; clear hb8))
          all_goals
            go_wp2_with fail
            go_meet
            exact ⟨rfl, BZ.out.trans (BY.out.mono BZ.out.size)⟩
        obtain ⟨rfl, hb8⟩ := hcut
        go_wp2_with fail
        go_ret
        exact ⟨rfl, below_step B7.out hb8⟩
  · have h9 := laws_szChain_over A1 A2 A3 A4 c1 c2 c3 c4 n1 n2 n3 n4 hC.m1 hC.m2 hC.m3 hC.m4 (by omega)
    clear hn hC
    go_enter Try.func6, Try.ntmps6
    go_wp2_with fail
    refine (h9 _).mono ?_
    rintro e w1 ⟨rfl, hb1⟩
    go_wp2_with fail
    go_ret
    exact ⟨rfl, (by repeat' (first | with_reducible exact Below.refl _ _ | with_reducible assumption | with_reducible refine below_dn ?_ _ | with_reducible refine Below.drew ?_ | with_reducible refine below_step ?_ (by assumption) | with_reducible refine Below.setCell ?_ ?_ _ | with_reducible refine Below.alloc ?_ ?_ _ | with_reducible exact Nat.le_refl _ | (simp; done) | (simp; omega) | omega))⟩
set_option maxRecDepth 100000 in
theorem FnExactEnergyOfChain_lifted (os : Os) (started : os.Started) (H : Type) (enc : TypeId × Value → H) :
    ReturnsInHanded {} Try.checked os 6 .any (Rows.fnExactEnergyOfChainSpec.pre6 enc Try.prog Try.f6 Rows.fnExactEnergyOfChainRow.domain false) (Rows.fnExactEnergyOfChainSpec.post enc Try.prog Try.f6 false true false false) := by
  refine returnsInHanded_of_change (C := Try.checked) own started (by kernel_rfl) Try.func6
    (ChangeSpec.witness6 (enc := enc) (C := Try.checked) false ⟨#[], #[.agg #[.slice none 0 0, .slice none 0 0, .slice none 0 0, .slice none 0 0], .agg #[.float .f32 0, .float .f32 0, .float .f32 0], .float .f32 0], []⟩ 8 (by kernel_rfl) (by kernel_rfl) (by kernel_rfl) (by kernel_rfl)) ?_
  intro W base args ds gs before hval0 hW _ _
  have hval : ∀ (j : Nat) t v, Try.f6.params[j]? = some t → args[j]? = some v → Value.okWide Try.prog W .any base t v := hval0
  have hW0 := hW
  obtain ⟨p, q, hA0, hV, _, _, _⟩ := hW
  obtain ⟨rfl, rfl⟩ := trodVars_none hV
  have hA : DataW.TrodAll enc Try.prog W 0 (fun _ => true) true Try.f6.params.toList args.toList ds p := hA0
  rw [Try.params6] at hA hval
  obtain ⟨v0, vs0, d0, ds0, p0, q0, hargs, rfl, _, h0, r0⟩ := trodAll_cons hA
  obtain ⟨v1, vs1, d1, ds1, p1, q1, rfl, rfl, _, h1, r1⟩ := trodAll_cons r0
  obtain ⟨v2, vs2, d2, ds2, p2, q2, rfl, rfl, _, h2, r2⟩ := trodAll_cons r1
  obtain ⟨rfl, rfl, _⟩ := trodAll_nil r2
  obtain rfl : args = #[v0, v1, v2] := by cases args; simp_all
  obtain ⟨P0, B0, W0, R0, c10, c20, c30, c40, n10, n20, n30, n40, D0, rfl, hC0⟩ := open_chain (hval 0 26 v0 rfl rfl) h0
  obtain ⟨x1, y1, z1, rfl, _, _, _⟩ := open_vec Try.underlying44 (by kernel_rfl) (by kernel_rfl) rfl rfl rfl Try.underlying36 (hval 1 44 v1 rfl rfl) h1
  obtain ⟨a2, rfl, _, _, w2⟩ := open_float Try.underlying36 (hval 2 36 v2 rfl rfl) h2
  clear hA0 hval0
  refine (FnExactEnergyOfChain_walk P0 B0 W0 R0 c10 c20 c30 c40 n10 n20 n30 n40 D0 ⟨x1, y1, z1⟩ a2 (f32_lt w2) W hC0).mono fun e W' ⟨he, hb⟩ => ?_
  subst he
  exact ⟨_, rfl, law_post Try.laidOut hW0 rfl rfl (by kernel_rfl) Try.underlying4 (by kernel_rfl) hb⟩

theorem FnExactEnergyOfChain_joined : joinedFacts Try.checked.prog 6 Try.f6 Rows.fnExactEnergyOfChainSpec Rows.fnExactEnergyOfChainRow = true := joined_here (by kernel_rfl) (by kernel_rfl) (by kernel_rfl) (by kernel_rfl) (by kernel_rfl) (by kernel_rfl) (by kernel_rfl) (by kernel_rfl) (by kernel_rfl) (by kernel_rfl) (by kernel_rfl) (by kernel_rfl) (by kernel_rfl) (by kernel_rfl) (by kernel_rfl) (by kernel_rfl) (by kernel_rfl) (by kernel_rfl) (by kernel_rfl) (by kernel_rfl) (by kernel_rfl) (by kernel_rfl) (by kernel_rfl) (by kernel_rfl) (by kernel_rfl) (by kernel_rfl)
theorem FnExactEnergyOfChain_holds : Rows.FnExactEnergyOfChainSaid :=
  OpenClaim.holds_of_wide 6 Try.f6 rfl rfl rfl rfl rfl rfl rfl ⟨rfl, rfl, rfl, rfl, rfl⟩ rfl rfl rfl rfl rfl (by kernel_rfl) Try.func6 FnExactEnergyOfChain_joined
    (of_decide_eq_true (by kernel_rfl)) (by unfold Func.isWrapper; first | (rw [if_pos (by decide +kernel)]; kernel_rfl) | (rw [if_neg (by decide +kernel)]; exact ⟨rfl, rfl⟩))
    (fun os started H enc _ => FnExactEnergyOfChain_lifted os started H enc)
#print axioms FnExactEnergyOfChain_holds
end Go.Proofs.Ytlhgaihfghobmaa
