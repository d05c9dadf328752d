/- A chain of its own: spec.l03Own. -/
import Derived.Test.YtlhgaihfghobmaaEb
namespace Go.Proofs.Ytlhgaihfghobmaa
open Go.ChangeShapes Go.WideShapes Go.ChangeAt Go.RowKit Go.Deep

structure In4 (wq : World) (A1 A2 A3 A4 : Option Addr) (n1 n2 n3 n4 : Nat) (D : D4) : Prop where
  i1 : ∀ u, Below wq.heap.size wq u → In u u.heap.size 3 A1 n1 (vc D.P)
  i2 : ∀ u, Below wq.heap.size wq u → In u u.heap.size 3 A2 n2 (vc D.B)
  i3 : ∀ u, Below wq.heap.size wq u → In u u.heap.size 1 A3 n3 (fc D.W)
  i4 : ∀ u, Below wq.heap.size wq u → In u u.heap.size 3 A4 n4 (rc D.R)
set_option maxHeartbeats 8000000 in
set_option maxRecDepth 100000 in
theorem spec_l03Own (ca : Nat) (A1 A2 A3 A4 : Option Addr) (c1 c2 c3 c4 n1 n2 n3 n4 : Nat) (D : D4) (k1 : n1 ≤ 1048576) (k2 : n2 ≤ 1048576) (k3 : n3 ≤ 1048576) (k4 : n4 ≤ 1048576) (w : World) (hp : Bx w ca 32 (.slice A1 n1 c1) (.slice A2 n2 c2) (.slice A3 n3 c3) (.slice A4 n4 c4)) (h1 : In w w.heap.size 3 A1 n1 (vc D.P)) (h2 : In w w.heap.size 3 A2 n2 (vc D.B)) (h3 : In w w.heap.size 1 A3 n3 (fc D.W)) (h4 : In w w.heap.size 3 A4 n4 (rc D.R)) :
    Calls Try.prog 124 #[.pointer (some ⟨ca, 0, none⟩)] w (RetOw n1 n2 n3 n4 D w) := by
  have H1 := Lib.hid h1
  have H2 := Lib.hid h2
  have H3 := Lib.hid h3
  have H4 := Lib.hid h4
  have HP0 := Lib.hid hp
  clear h1 h2 h3 h4 hp
  have hbsV := fun w => run_empty (P := Try.prog) w 29 38 (info_parts infoV).choose Try.underlying29 (info_parts infoV).choose_spec.1
  have hbsF := fun w => run_empty (P := Try.prog) w 23 36 (info_parts infoF).choose Try.underlying23 (info_parts infoF).choose_spec.1
  have hbsR := fun w => run_empty (P := Try.prog) w 30 91 (info_parts infoR).choose Try.underlying30 (info_parts infoR).choose_spec.1
  go_enter Try.func124, Try.ntmps124
  go_upto_region 1 with fail
  obtain ⟨wq, hwq⟩ : ∃ wq : World, wq = w.alloc (.cells #[sn, sn, sn, sn] 32) := ⟨_, rfl⟩
  have hP : Bx wq ca 32 (.slice A1 n1 c1) (.slice A2 n2 c2) (.slice A3 n3 c3) (.slice A4 n4 c4) := by rw [hwq]; exact HP0.out.alloc _
  have hR : Bx wq w.heap.size 32 sn sn sn sn := by rw [hwq]; exact Bx.new_ _ _ _ _ _ _
  have hB : Below w.heap.size w wq := by rw [hwq]; exact Below.alloc (Below.refl _ _) (Nat.le_refl _) _
  have hz : wq.heap.size = w.heap.size + 1 := by rw [hwq]; simp
  rw [← hwq]
  clear hwq
  have HP := Lib.hid hP
  have HR := Lib.hid hR
  have HB := Lib.hid hB
  have IN := Lib.hid (show In4 wq A1 A2 A3 A4 n1 n2 n3 n4 D from ⟨fun u hu => H1.out.go (below_step hB hu), fun u hu => H2.out.go (below_step hB hu), fun u hu => H3.out.go (below_step hB hu), fun u hu => H4.out.go (below_step hB hu)⟩)
  have CS := Lib.hid (fun (W : World) (hW : Below wq.heap.size wq W) => (HP.out.go hW).facts)
  have RS := Lib.hid (fun (W : World) (hW : Below wq.heap.size wq W) => (HR.out.go hW).facts)
  have RL := Lib.hid (fun (W : World) (hW : Below wq.heap.size wq W) => (HR.out.go hW).lt)
  have hw0 : Below wq.heap.size wq wq.drew := (Below.refl _ _).drew
  have wset : ∀ (u : World) (v0 v1 v2 v3 : Value), Wr (fun k => k < wq.heap.size) u ((((u.setCell ⟨w.heap.size, 0, none⟩ v0).setCell ⟨w.heap.size, 1, none⟩ v1).setCell ⟨w.heap.size, 2, none⟩ v2).setCell ⟨w.heap.size, 3, none⟩ v3) := fun u v0 v1 v2 v3 =>
    (((((Wr.refl _ _).setCell (by simp; omega) _).setCell (by simp; omega) _).setCell (by simp; omega) _).setCell (by simp; omega) _)
  have SF := Lib.hid (fun (W W' : World) (hW : Wr (fun k => k < wq.heap.size) W W') => AllSt.fact (Fs := [fun v _ => isEm v, fun v _ => isE (.pointer (some ⟨ca, 0, none⟩)) v, fun v _ => isE (.pointer (some ⟨ca, 0, none⟩)) v, fun v _ => isE (.pointer (some ⟨ca, 0, none⟩)) v, fun v _ => isE (.slice A1 n1 c1) v, isSl wq.heap.size 38 3 n1 (vc D.P), fun v _ => isEm v, fun v _ => isE (.pointer (some ⟨ca, 0, none⟩)) v, fun v _ => isE (.pointer (some ⟨ca, 0, none⟩)) v, fun v _ => isE (.pointer (some ⟨ca, 1, none⟩)) v, fun v _ => isE (.slice A2 n2 c2) v, isSl wq.heap.size 38 3 n2 (vc D.B), fun v _ => isEm v, fun v _ => isE (.pointer (some ⟨ca, 0, none⟩)) v, fun v _ => isE (.pointer (some ⟨ca, 0, none⟩)) v, fun v _ => isE (.pointer (some ⟨ca, 2, none⟩)) v, fun v _ => isE (.slice A3 n3 c3) v, isSl wq.heap.size 36 1 n3 (fc D.W), fun v _ => isEm v, fun v _ => isE (.pointer (some ⟨ca, 0, none⟩)) v, fun v _ => isE (.pointer (some ⟨ca, 0, none⟩)) v, fun v _ => isE (.pointer (some ⟨ca, 3, none⟩)) v, fun v _ => isE (.slice A4 n4 c4) v, isSl wq.heap.size 91 3 n4 (rc D.R), isCh wq.heap.size n1 n2 n3 n4 D, fun _ _ => True]) (R := Wr (fun k => k < wq.heap.size)) ⟨fun _ _ _ _ h => h, fun _ _ _ _ h => h, fun _ _ _ _ h => h, fun _ _ _ _ h => h, fun _ _ _ _ h => h, isSl.keep, fun _ _ _ _ h => h, fun _ _ _ _ h => h, fun _ _ _ _ h => h, fun _ _ _ _ h => h, fun _ _ _ _ h => h, isSl.keep, fun _ _ _ _ h => h, fun _ _ _ _ h => h, fun _ _ _ _ h => h, fun _ _ _ _ h => h, fun _ _ _ _ h => h, isSl.keep, fun _ _ _ _ h => h, fun _ _ _ _ h => h, fun _ _ _ _ h => h, fun _ _ _ _ h => h, fun _ _ _ _ h => h, isSl.keep, isCh.keep, fun _ _ _ _ h => h, trivial⟩ hW)
  clear hP hR hB
  refine region_inv2 ([fun v _ => isEm v, fun v _ => isE (.pointer (some ⟨ca, 0, none⟩)) v, fun v _ => isE (.pointer (some ⟨ca, 0, none⟩)) v, fun v _ => isE (.pointer (some ⟨ca, 0, none⟩)) v, fun v _ => isE (.slice A1 n1 c1) v, isSl wq.heap.size 38 3 n1 (vc D.P), fun v _ => isEm v, fun v _ => isE (.pointer (some ⟨ca, 0, none⟩)) v, fun v _ => isE (.pointer (some ⟨ca, 0, none⟩)) v, fun v _ => isE (.pointer (some ⟨ca, 1, none⟩)) v, fun v _ => isE (.slice A2 n2 c2) v, isSl wq.heap.size 38 3 n2 (vc D.B), fun v _ => isEm v, fun v _ => isE (.pointer (some ⟨ca, 0, none⟩)) v, fun v _ => isE (.pointer (some ⟨ca, 0, none⟩)) v, fun v _ => isE (.pointer (some ⟨ca, 2, none⟩)) v, fun v _ => isE (.slice A3 n3 c3) v, isSl wq.heap.size 36 1 n3 (fc D.W), fun v _ => isEm v, fun v _ => isE (.pointer (some ⟨ca, 0, none⟩)) v, fun v _ => isE (.pointer (some ⟨ca, 0, none⟩)) v, fun v _ => isE (.pointer (some ⟨ca, 3, none⟩)) v, fun v _ => isE (.slice A4 n4 c4) v, isSl wq.heap.size 91 3 n4 (rc D.R), isCh wq.heap.size n1 n2 n3 n4 D, fun _ _ => True]) (J3 25 11 (fun W => Below wq.heap.size wq W) (fun W => ∃ W5 E1 E2 E3 E4 d1 d2 d3 d4, Below wq.heap.size wq W5 ∧ Own W5 wq.heap.size E1 E2 E3 E4 d1 d2 d3 d4 n1 n2 n3 n4 D ∧ Bds wq.heap.size W5.heap.size E1 E2 E3 E4 n1 n2 n3 n4 ∧ Zc d1 d2 d3 d4 n1 n2 n3 n4 ∧ W = ((((W5.setCell ⟨w.heap.size, 0, none⟩ (.slice E1 n1 d1)).setCell ⟨w.heap.size, 1, none⟩ (.slice E2 n2 d2)).setCell ⟨w.heap.size, 2, none⟩ (.slice E3 n3 d3)).setCell ⟨w.heap.size, 3, none⟩ (.slice E4 n4 d4))) (Dif 8 14 n1 n2)) (by kernel_rfl) (by kernel_rfl) (by kernel_rfl) (J3.first hw0) ⟨?r0, ?r1, ?r2, ?r3, ?r4, ?r5, ?r6, ?r7, ?r8, ?r9, ?r10, ?r11, ?r12, ?r13, ?r14, ?r15, ?r16, ?r17, ?r18, ?r19, ?r20, ?r21, ?r22, ?r23, ?r24, ?r25, trivial⟩ ?hend
  case r0 =>
    intro listed a u h hu hd K hK
    have hw := h.wait hu (T := 25) rfl (Array.mem_of_getElem? (i := 2) rfl) rfl rfl
    have hA := h.world.1.1 hw
    rw [if_pos (by rfl)]
    go_simp
    have hal : Below u.heap.size u (u.alloc (.cells #[] 38)) := Below.alloc (Below.refl _ _) (Nat.le_refl _) _
    exact hK _ _ (SF.out _ _ (Wr.of_go hal _)) ⟨_, rfl⟩ (J3.next h.world hw (by decide) (by decide) (hA.trans (hal.mono hA.size)) (Dif.put (by decide) (by decide)))
  case r1 =>
    intro listed a u h hu hd K hK
    have hw := h.wait hu (T := 25) rfl (Array.mem_of_getElem? (i := 3) rfl) rfl rfl
    have hA := h.world.1.1 hw
    have e0 : a.tmps.getD 0 undef = .pointer (some ⟨ca, 0, none⟩) := h.base (by kernel_rfl)
    have f0 : a.tmps[0]? = some (.pointer (some ⟨ca, 0, none⟩)) := h.old (by kernel_rfl)
    rw [if_pos (by rfl)]
    go_simp
    exact hK _ _ (SF.out _ _ (Wr.refl _ _)) (isE.mk rfl) (J3.next h.world hw (by decide) (by decide) hA (Dif.put (by decide) (by decide)))
  case r2 =>
    intro listed a u h hu hd K hK
    have hw := h.wait hu (T := 25) rfl (Array.mem_of_getElem? (i := 4) rfl) rfl rfl
    have hA := h.world.1.1 hw
    obtain ⟨v4, ev4, em4, F4⟩ := h.slot (i := 1) rfl rfl (hd _ (Array.mem_of_getElem? (i := 0) rfl) rfl)
    have e4 := ev4.trans (isE.out F4)
    have f4 := em4.trans (congrArg some (isE.out F4))
    clear ev4 em4 F4
    rw [if_pos (by rfl)]
    go_simp
    exact hK _ _ (SF.out _ _ (Wr.refl _ _)) (isE.mk rfl) (J3.next h.world hw (by decide) (by decide) hA (Dif.put (by decide) (by decide)))
  case r3 =>
    intro listed a u h hu hd K hK
    have hw := h.wait hu (T := 25) rfl (Array.mem_of_getElem? (i := 5) rfl) rfl rfl
    have hA := h.world.1.1 hw
    obtain ⟨v5, ev5, em5, F5⟩ := h.slot (i := 2) rfl rfl (hd _ (Array.mem_of_getElem? (i := 0) rfl) rfl)
    have e5 := ev5.trans (isE.out F5)
    have f5 := em5.trans (congrArg some (isE.out F5))
    clear ev5 em5 F5
    rw [if_pos (by rfl)]
    go_simp
    exact hK _ _ (SF.out _ _ (Wr.refl _ _)) (isE.mk rfl) (J3.next h.world hw (by decide) (by decide) hA (Dif.put (by decide) (by decide)))
  case r4 =>
    intro listed a u h hu hd K hK
    have hw := h.wait hu (T := 25) rfl (Array.mem_of_getElem? (i := 6) rfl) rfl rfl
    have hA := h.world.1.1 hw
    obtain ⟨v6, ev6, em6, F6⟩ := h.slot (i := 3) rfl rfl (hd _ (Array.mem_of_getElem? (i := 0) rfl) rfl)
    have e6 := ev6.trans (isE.out F6)
    have f6 := em6.trans (congrArg some (isE.out F6))
    clear ev6 em6 F6
    rw [if_pos (by rfl)]
    obtain ⟨g0, g1, g2, g3, gf⟩ := CS.out u hA
    go_simp
    exact hK _ _ (SF.out _ _ (Wr.refl _ _)) (isE.mk rfl) (J3.next h.world hw (by decide) (by decide) hA (Dif.put (by decide) (by decide)))
  case r5 =>
    intro listed a u h hu hd K hK
    have hw := h.wait hu (T := 25) rfl (Array.mem_of_getElem? (i := 7) rfl) rfl rfl
    have hA := h.world.1.1 hw
    obtain ⟨v3, ev3, em3, F3⟩ := h.slot (i := 0) rfl rfl (hd _ (Array.mem_of_getElem? (i := 0) rfl) rfl)
    obtain ⟨g3, q3⟩ : isEm v3 := F3
    have e3 := ev3.trans q3
    have f3 := em3.trans (congrArg some q3)
    clear ev3 em3
    obtain ⟨v7, ev7, em7, F7⟩ := h.slot (i := 4) rfl rfl (hd _ (Array.mem_of_getElem? (i := 1) rfl) rfl)
    have e7 := ev7.trans (isE.out F7)
    have f7 := em7.trans (congrArg some (isE.out F7))
    clear ev7 em7 F7
    obtain ⟨i0, hi, hz0, hz1, hz2⟩ := info_parts infoV
    rw [if_pos (by rfl)]
    refine wp_copy (.tmp 3) (.tmp 7) 29 rfl 38 i0 _ 3 12 Try.underlying29 hi hz0 hz1 hz2 rfl (by decide) g3 e3 A1 n1 c1 u.heap.size (vc D.P) e7 (IN.out.i1 u hA) (by simp only [maxLen]; omega) (by omega) ?_
    intro E d u2 hs hb2 hbd hzz
    have hA2 := hA.trans (hb2.mono hA.size)
    have hz2 := hA.size
    exact hK _ _ (SF.out _ _ (Wr.of_go hb2 _)) ⟨E, d, rfl, hs.mono hz2, hbd.mono hz2 (Nat.le_refl _), hzz⟩ (J3.skip hw (by decide) (by decide) (h.wait hu (T := 11) rfl (Array.mem_of_getElem? (i := 2) rfl) rfl rfl) hA2)
  case r6 =>
    intro listed a u h hu hd K hK
    have hw := h.wait hu (T := 25) rfl (Array.mem_of_getElem? (i := 8) rfl) rfl rfl
    have hA := h.world.1.1 hw
    rw [if_pos (by rfl)]
    go_simp
    have hal : Below u.heap.size u (u.alloc (.cells #[] 38)) := Below.alloc (Below.refl _ _) (Nat.le_refl _) _
    exact hK _ _ (SF.out _ _ (Wr.of_go hal _)) ⟨_, rfl⟩ (J3.next h.world hw (by decide) (by decide) (hA.trans (hal.mono hA.size)) (Dif.put (by decide) (by decide)))
  case r7 =>
    intro listed a u h hu hd K hK
    have hw := h.wait hu (T := 25) rfl (Array.mem_of_getElem? (i := 9) rfl) rfl rfl
    have hA := h.world.1.1 hw
    have e0 : a.tmps.getD 0 undef = .pointer (some ⟨ca, 0, none⟩) := h.base (by kernel_rfl)
    have f0 : a.tmps[0]? = some (.pointer (some ⟨ca, 0, none⟩)) := h.old (by kernel_rfl)
    rw [if_pos (by rfl)]
    go_simp
    exact hK _ _ (SF.out _ _ (Wr.refl _ _)) (isE.mk rfl) (J3.next h.world hw (by decide) (by decide) hA (Dif.put (by decide) (by decide)))
  case r8 =>
    intro listed a u h hu hd K hK
    have hw := h.wait hu (T := 25) rfl (Array.mem_of_getElem? (i := 10) rfl) rfl rfl
    have hA := h.world.1.1 hw
    obtain ⟨v10, ev10, em10, F10⟩ := h.slot (i := 7) rfl rfl (hd _ (Array.mem_of_getElem? (i := 0) rfl) rfl)
    have e10 := ev10.trans (isE.out F10)
    have f10 := em10.trans (congrArg some (isE.out F10))
    clear ev10 em10 F10
    rw [if_pos (by rfl)]
    go_simp
    exact hK _ _ (SF.out _ _ (Wr.refl _ _)) (isE.mk rfl) (J3.next h.world hw (by decide) (by decide) hA (Dif.put (by decide) (by decide)))
  case r9 =>
    intro listed a u h hu hd K hK
    have hw := h.wait hu (T := 25) rfl (Array.mem_of_getElem? (i := 11) rfl) rfl rfl
    have hA := h.world.1.1 hw
    obtain ⟨v11, ev11, em11, F11⟩ := h.slot (i := 8) rfl rfl (hd _ (Array.mem_of_getElem? (i := 0) rfl) rfl)
    have e11 := ev11.trans (isE.out F11)
    have f11 := em11.trans (congrArg some (isE.out F11))
    clear ev11 em11 F11
    rw [if_pos (by rfl)]
    go_simp
    exact hK _ _ (SF.out _ _ (Wr.refl _ _)) (isE.mk rfl) (J3.next h.world hw (by decide) (by decide) hA (Dif.put (by decide) (by decide)))
  case r10 =>
    intro listed a u h hu hd K hK
    have hw := h.wait hu (T := 25) rfl (Array.mem_of_getElem? (i := 12) rfl) rfl rfl
    have hA := h.world.1.1 hw
    obtain ⟨v12, ev12, em12, F12⟩ := h.slot (i := 9) rfl rfl (hd _ (Array.mem_of_getElem? (i := 0) rfl) rfl)
    have e12 := ev12.trans (isE.out F12)
    have f12 := em12.trans (congrArg some (isE.out F12))
    clear ev12 em12 F12
    rw [if_pos (by rfl)]
    obtain ⟨g0, g1, g2, g3, gf⟩ := CS.out u hA
    go_simp
    exact hK _ _ (SF.out _ _ (Wr.refl _ _)) (isE.mk rfl) (J3.next h.world hw (by decide) (by decide) hA (Dif.put (by decide) (by decide)))
  case r11 =>
    intro listed a u h hu hd K hK
    have hw := h.wait hu (T := 25) rfl (Array.mem_of_getElem? (i := 13) rfl) rfl rfl
    have hA := h.world.1.1 hw
    obtain ⟨v9, ev9, em9, F9⟩ := h.slot (i := 6) rfl rfl (hd _ (Array.mem_of_getElem? (i := 0) rfl) rfl)
    obtain ⟨g9, q9⟩ : isEm v9 := F9
    have e9 := ev9.trans q9
    have f9 := em9.trans (congrArg some q9)
    clear ev9 em9
    obtain ⟨v13, ev13, em13, F13⟩ := h.slot (i := 10) rfl rfl (hd _ (Array.mem_of_getElem? (i := 1) rfl) rfl)
    have e13 := ev13.trans (isE.out F13)
    have f13 := em13.trans (congrArg some (isE.out F13))
    clear ev13 em13 F13
    obtain ⟨i0, hi, hz0, hz1, hz2⟩ := info_parts infoV
    rw [if_pos (by rfl)]
    refine wp_copy (.tmp 9) (.tmp 13) 29 rfl 38 i0 _ 3 12 Try.underlying29 hi hz0 hz1 hz2 rfl (by decide) g9 e9 A2 n2 c2 u.heap.size (vc D.B) e13 (IN.out.i2 u hA) (by simp only [maxLen]; omega) (by omega) ?_
    intro E d u2 hs hb2 hbd hzz
    have hA2 := hA.trans (hb2.mono hA.size)
    have hz2 := hA.size
    obtain ⟨v8, ev8, em8, F8⟩ := h.slot (i := 5) rfl rfl (hd _ (Array.mem_of_getElem? (i := 2) rfl) rfl)
    obtain ⟨E8, d8, q8, hs8, hb8, _⟩ : isSl wq.heap.size 38 3 n1 (vc D.P) v8 u := F8
    have hdif : Dif 8 14 n1 n2 (a.put (some 14) (.slice E n2 d)) := by
      intro k k2 x x2 hx hx2 hn1 hn2
      rw [put_ne a (by decide), em8, q8] at hx
      rw [put_self a (by rw [h.tmps]; simp)] at hx2
      cases hx
      cases hx2
      have := hb8 k rfl hn1
      have := hbd k2 rfl hn2
      omega
    exact hK _ _ (SF.out _ _ (Wr.of_go hb2 _)) ⟨E, d, rfl, hs.mono hz2, hbd.mono hz2 (Nat.le_refl _), hzz⟩ (J3.hit hw (by decide) hA2 hdif)
  case r12 =>
    intro listed a u h hu hd K hK
    have hw := h.wait hu (T := 25) rfl (Array.mem_of_getElem? (i := 14) rfl) rfl rfl
    have hA := h.world.1.1 hw
    rw [if_pos (by rfl)]
    go_simp
    have hal : Below u.heap.size u (u.alloc (.cells #[] 36)) := Below.alloc (Below.refl _ _) (Nat.le_refl _) _
    exact hK _ _ (SF.out _ _ (Wr.of_go hal _)) ⟨_, rfl⟩ (J3.next h.world hw (by decide) (by decide) (hA.trans (hal.mono hA.size)) (Dif.put (by decide) (by decide)))
  case r13 =>
    intro listed a u h hu hd K hK
    have hw := h.wait hu (T := 25) rfl (Array.mem_of_getElem? (i := 15) rfl) rfl rfl
    have hA := h.world.1.1 hw
    have e0 : a.tmps.getD 0 undef = .pointer (some ⟨ca, 0, none⟩) := h.base (by kernel_rfl)
    have f0 : a.tmps[0]? = some (.pointer (some ⟨ca, 0, none⟩)) := h.old (by kernel_rfl)
    rw [if_pos (by rfl)]
    go_simp
    exact hK _ _ (SF.out _ _ (Wr.refl _ _)) (isE.mk rfl) (J3.next h.world hw (by decide) (by decide) hA (Dif.put (by decide) (by decide)))
  case r14 =>
    intro listed a u h hu hd K hK
    have hw := h.wait hu (T := 25) rfl (Array.mem_of_getElem? (i := 16) rfl) rfl rfl
    have hA := h.world.1.1 hw
    obtain ⟨v16, ev16, em16, F16⟩ := h.slot (i := 13) rfl rfl (hd _ (Array.mem_of_getElem? (i := 0) rfl) rfl)
    have e16 := ev16.trans (isE.out F16)
    have f16 := em16.trans (congrArg some (isE.out F16))
    clear ev16 em16 F16
    rw [if_pos (by rfl)]
    go_simp
    exact hK _ _ (SF.out _ _ (Wr.refl _ _)) (isE.mk rfl) (J3.next h.world hw (by decide) (by decide) hA (Dif.put (by decide) (by decide)))
  case r15 =>
    intro listed a u h hu hd K hK
    have hw := h.wait hu (T := 25) rfl (Array.mem_of_getElem? (i := 17) rfl) rfl rfl
    have hA := h.world.1.1 hw
    obtain ⟨v17, ev17, em17, F17⟩ := h.slot (i := 14) rfl rfl (hd _ (Array.mem_of_getElem? (i := 0) rfl) rfl)
    have e17 := ev17.trans (isE.out F17)
    have f17 := em17.trans (congrArg some (isE.out F17))
    clear ev17 em17 F17
    rw [if_pos (by rfl)]
    go_simp
    exact hK _ _ (SF.out _ _ (Wr.refl _ _)) (isE.mk rfl) (J3.next h.world hw (by decide) (by decide) hA (Dif.put (by decide) (by decide)))
  case r16 =>
    intro listed a u h hu hd K hK
    have hw := h.wait hu (T := 25) rfl (Array.mem_of_getElem? (i := 18) rfl) rfl rfl
    have hA := h.world.1.1 hw
    obtain ⟨v18, ev18, em18, F18⟩ := h.slot (i := 15) rfl rfl (hd _ (Array.mem_of_getElem? (i := 0) rfl) rfl)
    have e18 := ev18.trans (isE.out F18)
    have f18 := em18.trans (congrArg some (isE.out F18))
    clear ev18 em18 F18
    rw [if_pos (by rfl)]
    obtain ⟨g0, g1, g2, g3, gf⟩ := CS.out u hA
    go_simp
    exact hK _ _ (SF.out _ _ (Wr.refl _ _)) (isE.mk rfl) (J3.next h.world hw (by decide) (by decide) hA (Dif.put (by decide) (by decide)))
  case r17 =>
    intro listed a u h hu hd K hK
    have hw := h.wait hu (T := 25) rfl (Array.mem_of_getElem? (i := 19) rfl) rfl rfl
    have hA := h.world.1.1 hw
    obtain ⟨v15, ev15, em15, F15⟩ := h.slot (i := 12) rfl rfl (hd _ (Array.mem_of_getElem? (i := 0) rfl) rfl)
    obtain ⟨g15, q15⟩ : isEm v15 := F15
    have e15 := ev15.trans q15
    have f15 := em15.trans (congrArg some q15)
    clear ev15 em15
    obtain ⟨v19, ev19, em19, F19⟩ := h.slot (i := 16) rfl rfl (hd _ (Array.mem_of_getElem? (i := 1) rfl) rfl)
    have e19 := ev19.trans (isE.out F19)
    have f19 := em19.trans (congrArg some (isE.out F19))
    clear ev19 em19 F19
    obtain ⟨i0, hi, hz0, hz1, hz2⟩ := info_parts infoF
    rw [if_pos (by rfl)]
    refine wp_copy (.tmp 15) (.tmp 19) 23 rfl 36 i0 _ 1 4 Try.underlying23 hi hz0 hz1 hz2 rfl (by decide) g15 e15 A3 n3 c3 u.heap.size (fc D.W) e19 (IN.out.i3 u hA) (by simp only [maxLen]; omega) (by omega) ?_
    intro E d u2 hs hb2 hbd hzz
    have hA2 := hA.trans (hb2.mono hA.size)
    have hz2 := hA.size
    exact hK _ _ (SF.out _ _ (Wr.of_go hb2 _)) ⟨E, d, rfl, hs.mono hz2, hbd.mono hz2 (Nat.le_refl _), hzz⟩ (J3.next h.world hw (by decide) (by decide) hA2 (Dif.put (by decide) (by decide)))
  case r18 =>
    intro listed a u h hu hd K hK
    have hw := h.wait hu (T := 25) rfl (Array.mem_of_getElem? (i := 20) rfl) rfl rfl
    have hA := h.world.1.1 hw
    rw [if_pos (by rfl)]
    go_simp
    have hal : Below u.heap.size u (u.alloc (.cells #[] 91)) := Below.alloc (Below.refl _ _) (Nat.le_refl _) _
    exact hK _ _ (SF.out _ _ (Wr.of_go hal _)) ⟨_, rfl⟩ (J3.next h.world hw (by decide) (by decide) (hA.trans (hal.mono hA.size)) (Dif.put (by decide) (by decide)))
  case r19 =>
    intro listed a u h hu hd K hK
    have hw := h.wait hu (T := 25) rfl (Array.mem_of_getElem? (i := 21) rfl) rfl rfl
    have hA := h.world.1.1 hw
    have e0 : a.tmps.getD 0 undef = .pointer (some ⟨ca, 0, none⟩) := h.base (by kernel_rfl)
    have f0 : a.tmps[0]? = some (.pointer (some ⟨ca, 0, none⟩)) := h.old (by kernel_rfl)
    rw [if_pos (by rfl)]
    go_simp
    exact hK _ _ (SF.out _ _ (Wr.refl _ _)) (isE.mk rfl) (J3.next h.world hw (by decide) (by decide) hA (Dif.put (by decide) (by decide)))
  case r20 =>
    intro listed a u h hu hd K hK
    have hw := h.wait hu (T := 25) rfl (Array.mem_of_getElem? (i := 22) rfl) rfl rfl
    have hA := h.world.1.1 hw
    obtain ⟨v22, ev22, em22, F22⟩ := h.slot (i := 19) rfl rfl (hd _ (Array.mem_of_getElem? (i := 0) rfl) rfl)
    have e22 := ev22.trans (isE.out F22)
    have f22 := em22.trans (congrArg some (isE.out F22))
    clear ev22 em22 F22
    rw [if_pos (by rfl)]
    go_simp
    exact hK _ _ (SF.out _ _ (Wr.refl _ _)) (isE.mk rfl) (J3.next h.world hw (by decide) (by decide) hA (Dif.put (by decide) (by decide)))
  case r21 =>
    intro listed a u h hu hd K hK
    have hw := h.wait hu (T := 25) rfl (Array.mem_of_getElem? (i := 23) rfl) rfl rfl
    have hA := h.world.1.1 hw
    obtain ⟨v23, ev23, em23, F23⟩ := h.slot (i := 20) rfl rfl (hd _ (Array.mem_of_getElem? (i := 0) rfl) rfl)
    have e23 := ev23.trans (isE.out F23)
    have f23 := em23.trans (congrArg some (isE.out F23))
    clear ev23 em23 F23
    rw [if_pos (by rfl)]
    go_simp
    exact hK _ _ (SF.out _ _ (Wr.refl _ _)) (isE.mk rfl) (J3.next h.world hw (by decide) (by decide) hA (Dif.put (by decide) (by decide)))
  case r22 =>
    intro listed a u h hu hd K hK
    have hw := h.wait hu (T := 25) rfl (Array.mem_of_getElem? (i := 24) rfl) rfl rfl
    have hA := h.world.1.1 hw
    obtain ⟨v24, ev24, em24, F24⟩ := h.slot (i := 21) rfl rfl (hd _ (Array.mem_of_getElem? (i := 0) rfl) rfl)
    have e24 := ev24.trans (isE.out F24)
    have f24 := em24.trans (congrArg some (isE.out F24))
    clear ev24 em24 F24
    rw [if_pos (by rfl)]
    obtain ⟨g0, g1, g2, g3, gf⟩ := CS.out u hA
    go_simp
    exact hK _ _ (SF.out _ _ (Wr.refl _ _)) (isE.mk rfl) (J3.next h.world hw (by decide) (by decide) hA (Dif.put (by decide) (by decide)))
  case r23 =>
    intro listed a u h hu hd K hK
    have hw := h.wait hu (T := 25) rfl (Array.mem_of_getElem? (i := 1) rfl) rfl rfl
    have hA := h.world.1.1 hw
    obtain ⟨v21, ev21, em21, F21⟩ := h.slot (i := 18) rfl rfl (hd _ (Array.mem_of_getElem? (i := 0) rfl) rfl)
    obtain ⟨g21, q21⟩ : isEm v21 := F21
    have e21 := ev21.trans q21
    have f21 := em21.trans (congrArg some q21)
    clear ev21 em21
    obtain ⟨v25, ev25, em25, F25⟩ := h.slot (i := 22) rfl rfl (hd _ (Array.mem_of_getElem? (i := 1) rfl) rfl)
    have e25 := ev25.trans (isE.out F25)
    have f25 := em25.trans (congrArg some (isE.out F25))
    clear ev25 em25 F25
    obtain ⟨i0, hi, hz0, hz1, hz2⟩ := info_parts infoR
    rw [if_pos (by rfl)]
    refine wp_copy (.tmp 21) (.tmp 25) 30 rfl 91 i0 _ 3 24 Try.underlying30 hi hz0 hz1 hz2 rfl (by decide) g21 e21 A4 n4 c4 u.heap.size (rc D.R) e25 (IN.out.i4 u hA) (by simp only [maxLen]; omega) (by omega) ?_
    intro E d u2 hs hb2 hbd hzz
    have hA2 := hA.trans (hb2.mono hA.size)
    have hz2 := hA.size
    exact hK _ _ (SF.out _ _ (Wr.of_go hb2 _)) ⟨E, d, rfl, hs.mono hz2, hbd.mono hz2 (Nat.le_refl _), hzz⟩ (J3.next h.world hw (by decide) (by decide) hA2 (Dif.put (by decide) (by decide)))
  case r24 =>
    intro listed a u h hu hd K hK
    have hw := h.wait hu (T := 25) rfl (Array.mem_of_getElem? (i := 0) rfl) rfl rfl
    have hA := h.world.1.1 hw
    obtain ⟨v8, ev8, em8, F8⟩ := h.slot (i := 5) rfl rfl (hd _ (Array.mem_of_getElem? (i := 0) rfl) rfl)
    obtain ⟨E8, d8, q8, hs8, hb8, hz8⟩ : isSl wq.heap.size 38 3 n1 (vc D.P) v8 u := F8
    have e8 := ev8.trans q8
    have f8 := em8.trans (congrArg some q8)
    clear ev8 em8
    obtain ⟨v14, ev14, em14, F14⟩ := h.slot (i := 11) rfl rfl (hd _ (Array.mem_of_getElem? (i := 1) rfl) rfl)
    obtain ⟨E14, d14, q14, hs14, hb14, hz14⟩ : isSl wq.heap.size 38 3 n2 (vc D.B) v14 u := F14
    have e14 := ev14.trans q14
    have f14 := em14.trans (congrArg some q14)
    clear ev14 em14
    obtain ⟨v20, ev20, em20, F20⟩ := h.slot (i := 17) rfl rfl (hd _ (Array.mem_of_getElem? (i := 2) rfl) rfl)
    obtain ⟨E20, d20, q20, hs20, hb20, hz20⟩ : isSl wq.heap.size 36 1 n3 (fc D.W) v20 u := F20
    have e20 := ev20.trans q20
    have f20 := em20.trans (congrArg some q20)
    clear ev20 em20
    obtain ⟨v26, ev26, em26, F26⟩ := h.slot (i := 23) rfl rfl (hd _ (Array.mem_of_getElem? (i := 3) rfl) rfl)
    obtain ⟨E26, d26, q26, hs26, hb26, hz26⟩ : isSl wq.heap.size 91 3 n4 (rc D.R) v26 u := F26
    have e26 := ev26.trans q26
    have f26 := em26.trans (congrArg some q26)
    clear ev26 em26
    have hdf := h.world.2 (hd _ (Array.mem_of_getElem? (i := 1) rfl) rfl)
    rw [if_pos (by rfl)]
    go_simp
    refine hK _ _ (SF.out _ _ (Wr.refl _ _)) ⟨E8, E14, E20, E26, d8, d14, d20, d26, rfl, ⟨hs8, hs14, hs20, hs26, fun g e1 e2 m1 m2 => ?_⟩, ⟨hb8, hb14, hb20, hb26⟩, ⟨hz8, hz14, hz20, hz26⟩⟩ (J3.next h.world hw (by decide) (by decide) hA (Dif.put (by decide) (by decide)))
    subst e1
    subst e2
    exact hdf g g d8 d14 f8 f14 m1 m2 rfl
  case r25 =>
    intro listed a u h hu hd K hK
    have hA := h.world.1.1 (getD_un hu)
    have e2 : a.tmps.getD 2 undef = .pointer (some ⟨w.heap.size, 0, none⟩) := h.base (by kernel_rfl)
    have f2 : a.tmps[2]? = some (.pointer (some ⟨w.heap.size, 0, none⟩)) := h.old (by kernel_rfl)
    obtain ⟨v27, ev27, em27, F27⟩ := h.slot (i := 24) rfl rfl (hd _ (Array.mem_of_getElem? (i := 0) rfl) rfl)
    obtain ⟨E1, E2, E3, E4, d1, d2, d3, d4, q27, ho, hbd, hzd⟩ : isCh wq.heap.size n1 n2 n3 n4 D v27 u := F27
    have e27 := ev27.trans q27
    have f27 := em27.trans (congrArg some q27)
    clear ev27 em27
    rw [if_pos (by rfl)]
    obtain ⟨g0, g1, g2, g3, gr⟩ := RS.out u hA
    have lr := RL.out u hA
    go_simp
    exact hK undef _ (SF.out _ _ (wset u _ _ _ _)) trivial (J3.last h.world (un_lt hu) (by decide) ⟨u, E1, E2, E3, E4, d1, d2, d3, d4, hA, ho, hbd, hzd, rfl⟩ (fun h => h))
  case hend =>
    intro listed a u h hall
    have hB := h.world.1.2 (hall 25 (by decide))
    obtain ⟨v3, ev3, em3, F3⟩ := h.slot (i := 0) rfl rfl (hall 0 (by decide))
    obtain ⟨v4, ev4, em4, F4⟩ := h.slot (i := 1) rfl rfl (hall 1 (by decide))
    obtain ⟨v5, ev5, em5, F5⟩ := h.slot (i := 2) rfl rfl (hall 2 (by decide))
    obtain ⟨v6, ev6, em6, F6⟩ := h.slot (i := 3) rfl rfl (hall 3 (by decide))
    obtain ⟨v7, ev7, em7, F7⟩ := h.slot (i := 4) rfl rfl (hall 4 (by decide))
    obtain ⟨v8, ev8, em8, F8⟩ := h.slot (i := 5) rfl rfl (hall 5 (by decide))
    obtain ⟨v9, ev9, em9, F9⟩ := h.slot (i := 6) rfl rfl (hall 6 (by decide))
    obtain ⟨v10, ev10, em10, F10⟩ := h.slot (i := 7) rfl rfl (hall 7 (by decide))
    obtain ⟨v11, ev11, em11, F11⟩ := h.slot (i := 8) rfl rfl (hall 8 (by decide))
    obtain ⟨v12, ev12, em12, F12⟩ := h.slot (i := 9) rfl rfl (hall 9 (by decide))
    obtain ⟨v13, ev13, em13, F13⟩ := h.slot (i := 10) rfl rfl (hall 10 (by decide))
    obtain ⟨v14, ev14, em14, F14⟩ := h.slot (i := 11) rfl rfl (hall 11 (by decide))
    obtain ⟨v15, ev15, em15, F15⟩ := h.slot (i := 12) rfl rfl (hall 12 (by decide))
    obtain ⟨v16, ev16, em16, F16⟩ := h.slot (i := 13) rfl rfl (hall 13 (by decide))
    obtain ⟨v17, ev17, em17, F17⟩ := h.slot (i := 14) rfl rfl (hall 14 (by decide))
    obtain ⟨v18, ev18, em18, F18⟩ := h.slot (i := 15) rfl rfl (hall 15 (by decide))
    obtain ⟨v19, ev19, em19, F19⟩ := h.slot (i := 16) rfl rfl (hall 16 (by decide))
    obtain ⟨v20, ev20, em20, F20⟩ := h.slot (i := 17) rfl rfl (hall 17 (by decide))
    obtain ⟨v21, ev21, em21, F21⟩ := h.slot (i := 18) rfl rfl (hall 18 (by decide))
    obtain ⟨v22, ev22, em22, F22⟩ := h.slot (i := 19) rfl rfl (hall 19 (by decide))
    obtain ⟨v23, ev23, em23, F23⟩ := h.slot (i := 20) rfl rfl (hall 20 (by decide))
    obtain ⟨v24, ev24, em24, F24⟩ := h.slot (i := 21) rfl rfl (hall 21 (by decide))
    obtain ⟨v25, ev25, em25, F25⟩ := h.slot (i := 22) rfl rfl (hall 22 (by decide))
    obtain ⟨v26, ev26, em26, F26⟩ := h.slot (i := 23) rfl rfl (hall 23 (by decide))
    obtain ⟨v27, ev27, em27, F27⟩ := h.slot (i := 24) rfl rfl (hall 24 (by decide))
    have ha := h.act [3, 4, 5, 6, 7, 8, 9, 10, 11, 12, 13, 14, 15, 16, 17, 18, 19, 20, 21, 22, 23, 24, 25, 26, 27] [_, _, _, _, _, _, _, _, _, _, _, _, _, _, _, _, _, _, _, _, _, _, _, _, _] (by kernel_rfl) ⟨em3, em4, em5, em6, em7, em8, em9, em10, em11, em12, em13, em14, em15, em16, em17, em18, em19, em20, em21, em22, em23, em24, em25, em26, em27, trivial⟩
    clear ev3 em3 F3 ev4 em4 F4 ev5 em5 F5 ev6 em6 F6 ev7 em7 F7 ev8 em8 F8 ev9 em9 F9 ev10 em10 F10 ev11 em11 F11 ev12 em12 F12 ev13 em13 F13 ev14 em14 F14 ev15 em15 F15 ev16 em16 F16 ev17 em17 F17 ev18 em18 F18 ev19 em19 F19 ev20 em20 F20 ev21 em21 F21 ev22 em22 F22 ev23 em23 F23 ev24 em24 F24 ev25 em25 F25 ev26 em26 F26 ev27 em27 F27
    simp only [setAll, List.setIfInBounds_toArray, List.set_cons_zero, List.set_cons_succ] at ha
    subst ha
    clear h hall
    obtain ⟨W5, E1, E2, E3, E4, d1, d2, d3, d4, hb5, ho5, hbd5, hz5, rfl⟩ := hB
    have RF := Lib.hid ((HR.out.go hb5).setAll (.slice E1 n1 d1) (.slice E2 n2 d2) (.slice E3 n3 d3) (.slice E4 n4 d4))
    have HO := Lib.hid ho5
    have HD := Lib.hid hbd5
    have HZ := Lib.hid hz5
    clear hz5
    have B5 := Lib.hid (below_step HB.out hb5)
    have V := Lib.hid (wset W5 (.slice E1 n1 d1) (.slice E2 n2 d2) (.slice E3 n3 d3) (.slice E4 n4 d4))
    have y5 := hb5.size
    clear hb5 ho5 hbd5
    go_wp2_with fail
    obtain ⟨r0, r1, r2, r3, rf⟩ := RF.out.facts
    refine bodyPost_ret (v := .agg #[.slice E1 n1 d1, .slice E2 n2 d2, .slice E3 n3 d3, .slice E4 n4 d4]) (by simp [results, Try.results124, go_sem, r0, r1, r2, r3]) rfl ?_
    have yv := V.out.size
    refine ⟨E1, E2, E3, E4, d1, d2, d3, d4, rfl, ⟨?_, ?_, ?_, ?_, HO.out.ne⟩, ⟨?_, ?_, ?_, ?_⟩, HZ.out, ((((B5.out.setCell (by first | exact Nat.le_refl _ | (simp; done) | (simp; omega) | omega) _).setCell (by first | exact Nat.le_refl _ | (simp; done) | (simp; omega) | omega) _).setCell (by first | exact Nat.le_refl _ | (simp; done) | (simp; omega) | omega) _).setCell (by first | exact Nat.le_refl _ | (simp; done) | (simp; omega) | omega) _)⟩
    · exact (HO.out.s1.wr V.out (fun g e hn => by have := HD.out.b1 g e hn; omega)).mono (by omega)
    · exact (HO.out.s2.wr V.out (fun g e hn => by have := HD.out.b2 g e hn; omega)).mono (by omega)
    · exact (HO.out.s3.wr V.out (fun g e hn => by have := HD.out.b3 g e hn; omega)).mono (by omega)
    · exact (HO.out.s4.wr V.out (fun g e hn => by have := HD.out.b4 g e hn; omega)).mono (by omega)
    · exact HD.out.b1.mono (by omega) yv
    · exact HD.out.b2.mono (by omega) yv
    · exact HD.out.b3.mono (by omega) yv
    · exact HD.out.b4.mono (by omega) yv
end Go.Proofs.Ytlhgaihfghobmaa
