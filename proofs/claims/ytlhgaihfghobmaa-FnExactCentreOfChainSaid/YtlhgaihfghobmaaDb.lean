/- The momentum of a chain, reference and program. -/
import Derived.Test.YtlhgaihfghobmaaDa
namespace Go.Proofs.Ytlhgaihfghobmaa
open Go.ChangeShapes Go.WideShapes Go.ChangeAt Go.RowKit Go.Deep

def momQ (D : D4) (t : Nat) (k : Nat) : V3 := vmul (vsub (D.P k) (D.B k)) (F.quo (D.W k) t)
theorem spec_MomentumOf_no (A1 A2 A3 A4 : Option Addr) (c1 c2 c3 c4 n1 n2 n3 n4 B t : Nat) (D : D4) (w : World) (h : Own w B A1 A2 A3 A4 c1 c2 c3 c4 n1 n2 n3 n4 D) (hz : (okC n1 n2 n3 n4 D && abv t) = false) :
    Calls Try.prog 28 #[.agg #[.slice A1 n1 c1, .slice A2 n2 c2, .slice A3 n3 c3, .slice A4 n4 c4], .float .f32 t] w (RetVB ⟨0, 0, 0⟩ false w) := by
  have H := Lib.hid h
  clear h
  cases q1 : okC n1 n2 n3 n4 D <;> cases q2 : abv t <;> rw [q1, q2] at hz <;> first | (cases hz; done) | skip
  all_goals
    clear hz
    go_enter Try.func28, Try.ntmps28
    go_wp2_with fail
    refine (spec_l03Is w.heap.size A1 A2 A3 A4 c1 c2 c3 c4 n1 n2 n3 n4 B D _ ((Bx.new_ _ _ _ _ _ _).alloc _) (H.out.go (by repeat' (first | with_reducible exact Below.refl _ _ | with_reducible assumption | with_reducible refine below_dn ?_ _ | with_reducible refine Below.drew ?_ | with_reducible refine below_step ?_ (by assumption) | with_reducible refine Below.setCell ?_ ?_ _ | with_reducible refine Below.alloc ?_ ?_ _ | with_reducible exact Nat.le_refl _ | (simp; done) | (simp; omega) | omega)))).mono ?_
    rintro e w1 ⟨rfl, hb1⟩
    have V1 := Lib.hid ((Tx.new_ (w.alloc (.cells #[.slice A1 n1 c1, .slice A2 n2 c2, .slice A3 n3 c3, .slice A4 n4 c4] 32)) 38 (.float .f32 0) (.float .f32 0) (.float .f32 0)).go hb1)
    have B1 := Lib.hid (show Below w.heap.size w w1 from below_step (w := w) ((by repeat' (first | with_reducible exact Below.refl _ _ | with_reducible assumption | with_reducible refine below_dn ?_ _ | with_reducible refine Below.drew ?_ | with_reducible refine below_step ?_ (by assumption) | with_reducible refine Below.setCell ?_ ?_ _ | with_reducible refine Below.alloc ?_ ?_ _ | with_reducible exact Nat.le_refl _ | (simp; done) | (simp; omega) | omega))) hb1)
    clear hb1
    obtain ⟨v0, v1, v2, vf⟩ := V1.out.facts
    have lv := V1.out.lt
    simp only [World.size_alloc] at v0 v1 v2 vf lv
    rw [q1]
    go_wp2_with (go_at_call 91; refine (spec_l03Above t _).mono ?_; rintro e w' ⟨rfl, n, rfl⟩; rw [q2])
    first
      | (obtain ⟨r0, r1, r2, rf⟩ := ((V1.out.drewN n).setAll (.float .f32 0) (.float .f32 0) (.float .f32 0)).facts
         simp only [World.size_alloc] at r0 r1 r2
         refine bodyPost_ret (v := .tuple #[.agg #[.float .f32 0, .float .f32 0, .float .f32 0], .bool false]) (by simp [results, Try.results28, go_sem, r0, r1, r2]) rfl ?_
         exact ⟨0, 0, 0, rfl, SimP.refl _, Tx.bel (below_dn B1.out n) (by omega) _ _ _⟩)
      | (obtain ⟨r0, r1, r2, rf⟩ := (V1.out.setAll (.float .f32 0) (.float .f32 0) (.float .f32 0)).facts
         simp only [World.size_alloc] at r0 r1 r2
         refine bodyPost_ret (v := .tuple #[.agg #[.float .f32 0, .float .f32 0, .float .f32 0], .bool false]) (by simp [results, Try.results28, go_sem, r0, r1, r2]) rfl ?_
         exact ⟨0, 0, 0, rfl, SimP.refl _, Tx.bel B1.out (by omega) _ _ _⟩)
set_option maxHeartbeats 4000000 in
set_option maxRecDepth 100000 in
theorem spec_MomentumOf_ok (A1 A2 A3 A4 : Option Addr) (c1 c2 c3 c4 n1 n2 n3 n4 B t : Nat) (D : D4) (w : World) (h : Own w B A1 A2 A3 A4 c1 c2 c3 c4 n1 n2 n3 n4 D) (q1 : okC n1 n2 n3 n4 D = true) (q2 : abv t = true) :
    Calls Try.prog 28 #[.agg #[.slice A1 n1 c1, .slice A2 n2 c2, .slice A3 n3 c3, .slice A4 n4 c4], .float .f32 t] w (RetVB (sumV (momQ D t) n1) true w) := by
  have H := Lib.hid h
  obtain ⟨z1, rfl, rfl, z4⟩ := okC_sz q1
  clear h
  go_enter Try.func28, Try.ntmps28
  go_wp2_with fail
  refine (spec_l03Is w.heap.size A1 A2 A3 A4 c1 c2 c3 c4 n3 n3 n3 n4 B D _ ((Bx.new_ _ _ _ _ _ _).alloc _) (H.out.go (by repeat' (first | with_reducible exact Below.refl _ _ | with_reducible assumption | with_reducible refine below_dn ?_ _ | with_reducible refine Below.drew ?_ | with_reducible refine below_step ?_ (by assumption) | with_reducible refine Below.setCell ?_ ?_ _ | with_reducible refine Below.alloc ?_ ?_ _ | with_reducible exact Nat.le_refl _ | (simp; done) | (simp; omega) | omega)))).mono ?_
  rintro e w1 ⟨rfl, hb1⟩
  have P1 := Lib.hid (((Bx.new_ w 32 (.slice A1 n3 c1) (.slice A2 n3 c2) (.slice A3 n3 c3) (.slice A4 n4 c4)).alloc _).go hb1)
  have V1 := Lib.hid ((Tx.new_ (w.alloc (.cells #[.slice A1 n3 c1, .slice A2 n3 c2, .slice A3 n3 c3, .slice A4 n4 c4] 32)) 38 (.float .f32 0) (.float .f32 0) (.float .f32 0)).go hb1)
  have B1 := Lib.hid (show Below w.heap.size w w1 from below_step (w := w) ((by repeat' (first | with_reducible exact Below.refl _ _ | with_reducible assumption | with_reducible refine below_dn ?_ _ | with_reducible refine Below.drew ?_ | with_reducible refine below_step ?_ (by assumption) | with_reducible refine Below.setCell ?_ ?_ _ | with_reducible refine Below.alloc ?_ ?_ _ | with_reducible exact Nat.le_refl _ | (simp; done) | (simp; omega) | omega))) hb1)
  have z6 : w.heap.size + 1 < w1.heap.size := by have := hb1.size; simp at this; omega
  have e1 : (w.alloc (.cells #[.slice A1 n3 c1, .slice A2 n3 c2, .slice A3 n3 c3, .slice A4 n4 c4] 32)).heap.size = w.heap.size + 1 := by simp
  rw [e1] at V1
  clear hb1 e1
  obtain ⟨p0, p1, p2, p3, pf⟩ := P1.out.facts
  have lp := P1.out.lt
  rw [q1]
  go_wp2_with fail
  refine (spec_l03Above t _).mono ?_
  rintro e w2 hq
  obtain ⟨rfl, hb2⟩ := RetQ.v hq
  clear p0 p1 p2 p3 pf lp hq
  have P2 := Lib.hid (P1.out.go hb2)
  have V2 := Lib.hid (V1.out.go hb2)
  have B2 := Lib.hid (below_step B1.out hb2)
  have z7 : w.heap.size + 1 < w2.heap.size := by have := hb2.size; omega
  clear hb2 P1 V1 B1 z6
  rw [q2]
  obtain ⟨p0, p1, p2, p3, pf⟩ := P2.out.facts
  have lp := P2.out.lt
  go_wp2_with fail
  clear p0 p1 p2 p3 pf lp
  go_loopw [20] (fun i wr => ∃ k : Nat, k ≤ n3 ∧ i = .int .i64 k ∧ (∃ x y z, SimP ⟨x, y, z⟩ (sumV (momQ D t) k) ∧ Tx wr w2.heap.size 38 (.float .f32 x) (.float .f32 y) (.float .f32 z)) ∧ Bx wr w.heap.size 32 (.slice A1 n3 c1) (.slice A2 n3 c2) (.slice A3 n3 c3) (.slice A4 n4 c4) ∧ Tx wr (w.heap.size + 1) 38 (.float .f32 0) (.float .f32 0) (.float .f32 0) ∧ Below w.heap.size w wr) (fun i _ => n3 - (intOf i).toNat)
  case atStart => exact ⟨0, Nat.zero_le _, rfl, ⟨0, 0, 0, SimP.refl _, Tx.new_ w2 _ _ _ _⟩, P2.out.alloc _, V2.out.alloc _, Below.alloc B2.out (by omega) _⟩
  case round =>
    obtain ⟨k, hk, rfl, ⟨x, y, z, hs, hT⟩, hP, hV, hB⟩ := hrel
    have HT := Lib.hid hT
    have HP := Lib.hid hP
    have HV := Lib.hid hV
    have HB := Lib.hid hB
    have HS := Lib.hid hs
    by_cases hlt : k < n3
    · obtain ⟨b1, off1, rfl, l1, d0, d1, d2⟩ := H.out.s1.in_.at3 hlt
      obtain ⟨b2, off2, rfl, l2, e0, e1, e2⟩ := H.out.s2.in_.at3 hlt
      obtain ⟨b3, off3, rfl, l3, hc3⟩ := H.out.s3.in_ (by omega)
      have i0 := hc3 k (by omega)
      rw [vc0] at d0 e0
      rw [vc1] at d1 e1
      rw [vc2] at d2 e2
      unfold fc at i0
      obtain ⟨p0, p1, p2, p3, pf⟩ := hP.facts
      obtain ⟨t0, t1, t2, tf⟩ := hT.facts
      have lp := hP.lt
      have lt := hT.lt
      have hk0 : (0 : Int) ≤ (k : Int) := by omega
      have hk1 : (k : Int) < (n3 : Int) := by omega
      have ne1 : b1 ≠ w2.heap.size := by omega
      have ne2 : b2 ≠ w2.heap.size := by omega
      have ne3 : b3 ≠ w2.heap.size := by omega
      have hzB := hB.size
      have m1 : b1 < wr.heap.size := by omega
      have m2 : b2 < wr.heap.size := by omega
      have m3 : b3 < wr.heap.size := by omega
      obtain ⟨bc, bf⟩ := bcell hB
      have ne4 : w.heap.size ≠ w2.heap.size := by omega
      have hd0 := (bc _ _ l1).trans d0
      have hd1 := (bc _ _ l1).trans d1
      have hd2 := (bc _ _ l1).trans d2
      have he0 := (bc _ _ l2).trans e0
      have he1 := (bc _ _ l2).trans e1
      have he2 := (bc _ _ l2).trans e2
      have hi0 := (bc _ _ l3).trans i0
      have CS := Lib.hid (fun (W : World) (hW : Below wr.heap.size wr W) => (show W.cell? ⟨w.heap.size, 0, none⟩ = some (.slice (some ⟨b1, off1, none⟩) n3 c1) ∧ W.cell? ⟨w.heap.size, 1, none⟩ = some (.slice (some ⟨b2, off2, none⟩) n3 c2) ∧ W.cell? ⟨w.heap.size, 2, none⟩ = some (.slice (some ⟨b3, off3, none⟩) n3 c3) ∧ W.cell? ⟨b1, off1 + k * 3, none⟩ = some (.float .f32 (D.P k).x) ∧ W.cell? ⟨b1, off1 + k * 3 + 1, none⟩ = some (.float .f32 (D.P k).y) ∧ W.cell? ⟨b1, off1 + k * 3 + 2, none⟩ = some (.float .f32 (D.P k).z) ∧ W.cell? ⟨b2, off2 + k * 3, none⟩ = some (.float .f32 (D.B k).x) ∧ W.cell? ⟨b2, off2 + k * 3 + 1, none⟩ = some (.float .f32 (D.B k).y) ∧ W.cell? ⟨b2, off2 + k * 3 + 2, none⟩ = some (.float .f32 (D.B k).z) ∧ W.cell? ⟨b3, off3 + k, none⟩ = some (.float .f32 (D.W k)) ∧ W.cell? ⟨w2.heap.size, 0, none⟩ = some (.float .f32 x) ∧ W.cell? ⟨w2.heap.size, 1, none⟩ = some (.float .f32 y) ∧ W.cell? ⟨w2.heap.size, 2, none⟩ = some (.float .f32 z) ∧ (∀ j, W.frozen? ⟨w2.heap.size, j, none⟩ = false) from
        ⟨((bcell hW).1 _ _ lp).trans p0, ((bcell hW).1 _ _ lp).trans p1, ((bcell hW).1 _ _ lp).trans p2, ((bcell hW).1 _ _ m1).trans hd0, ((bcell hW).1 _ _ m1).trans hd1, ((bcell hW).1 _ _ m1).trans hd2, ((bcell hW).1 _ _ m2).trans he0, ((bcell hW).1 _ _ m2).trans he1, ((bcell hW).1 _ _ m2).trans he2, ((bcell hW).1 _ _ m3).trans hi0, ((bcell hW).1 _ _ lt).trans t0, ((bcell hW).1 _ _ lt).trans t1, ((bcell hW).1 _ _ lt).trans t2, fun j => ((bcell hW).2 _ _ lt).trans (tf j)⟩))
      have hw0 : Below wr.heap.size wr wr.drew := (Below.refl _ _).drew
      clear hT hP hV hB hs hc3 bc bf d0 d1 d2 e0 e1 e2 i0 hzB
      go_upto_region 7 with fail
      refine region_inv (stat [isE (.agg #[.float .f32 x, .float .f32 y, .float .f32 z]), isE (.pointer (some ⟨w.heap.size, 0, none⟩)), isE (.slice (some ⟨b1, off1, none⟩) n3 c1), isE (.int .i64 (k : Int)), isE (.pointer (some ⟨b1, off1 + k * 3, none⟩)), isE (.agg #[.float .f32 (D.P k).x, .float .f32 (D.P k).y, .float .f32 (D.P k).z]), isE (.pointer (some ⟨w.heap.size, 1, none⟩)), isE (.slice (some ⟨b2, off2, none⟩) n3 c2), isE (.int .i64 (k : Int)), isE (.pointer (some ⟨b2, off2 + k * 3, none⟩)), isE (.agg #[.float .f32 (D.B k).x, .float .f32 (D.B k).y, .float .f32 (D.B k).z]), isV (vsub (D.P k) (D.B k)), isE (.pointer (some ⟨w.heap.size, 2, none⟩)), isE (.slice (some ⟨b3, off3, none⟩) n3 c3), isE (.int .i64 (k : Int)), isE (.pointer (some ⟨b3, off3 + k, none⟩)), isE (.float .f32 (D.W k)), isE (.float .f32 t), isF (F.quo (D.W k) t), isV (momQ D t k), isV (sumV (momQ D t) (k + 1)), fun _ => True]) (Jt 21 (fun W => Below wr.heap.size wr W) (fun W => ∃ W5 a0 a1 a2, Below wr.heap.size wr W5 ∧ SimP ⟨a0, a1, a2⟩ (sumV (momQ D t) (k + 1)) ∧ W = (((W5.setCell ⟨w2.heap.size, 0, none⟩ (.float .f32 a0)).setCell ⟨w2.heap.size, 1, none⟩ (.float .f32 a1)).setCell ⟨w2.heap.size, 2, none⟩ (.float .f32 a2)))) (by kernel_rfl) (by kernel_rfl) (by kernel_rfl) (Jt.first (hw0)) ⟨?r0, ?r1, ?r2, ?r3, ?r4, ?r5, ?r6, ?r7, ?r8, ?r9, ?r10, ?r11, ?r12, ?r13, ?r14, ?r15, ?r16, ?r17, ?r18, ?r19, ?r20, ?r21, trivial⟩ ?hend
      case r0 =>
        intro listed a u h hu hd K hK
        have hw := h.wait hu (T := 21) rfl (Array.mem_of_getElem? (i := 2) rfl) rfl rfl
        have hA := h.world.1 hw
        have e6 : a.tmps.getD 6 undef = .pointer (some ⟨w2.heap.size, 0, none⟩) := h.base (by kernel_rfl)
        have f6 : a.tmps[6]? = some (.pointer (some ⟨w2.heap.size, 0, none⟩)) := h.old (by kernel_rfl)
        rw [if_pos (by rfl)]
        obtain ⟨g0, g1, g2, g3, g4, g5, g6, g7, g8, g9, g10, g11, g12, g13⟩ := CS.out u hA
        go_simp
        exact hK _ _ (fact_stat _ _ _) (isE.mk rfl) (Jt.next hw (by decide) hA)
      case r1 =>
        intro listed a u h hu hd K hK
        have hw := h.wait hu (T := 21) rfl (Array.mem_of_getElem? (i := 3) rfl) rfl rfl
        have hA := h.world.1 hw
        have e2 : a.tmps.getD 2 undef = .pointer (some ⟨w.heap.size, 0, none⟩) := h.base (by kernel_rfl)
        have f2 : a.tmps[2]? = some (.pointer (some ⟨w.heap.size, 0, none⟩)) := h.old (by kernel_rfl)
        rw [if_pos (by rfl)]
        go_simp
        exact hK _ _ (fact_stat _ _ _) (isE.mk rfl) (Jt.next hw (by decide) hA)
      case r2 =>
        intro listed a u h hu hd K hK
        have hw := h.wait hu (T := 21) rfl (Array.mem_of_getElem? (i := 4) rfl) rfl rfl
        have hA := h.world.1 hw
        obtain ⟨v24, ev24, em24, F24⟩ := h.slot (i := 1) rfl rfl (hd _ (Array.mem_of_getElem? (i := 0) rfl) rfl)
        have e24 := ev24.trans (isE.out F24)
        have f24 := em24.trans (congrArg some (isE.out F24))
        clear ev24 em24 F24
        rw [if_pos (by rfl)]
        obtain ⟨g0, g1, g2, g3, g4, g5, g6, g7, g8, g9, g10, g11, g12, g13⟩ := CS.out u hA
        go_simp
        exact hK _ _ (fact_stat _ _ _) (isE.mk rfl) (Jt.next hw (by decide) hA)
      case r3 =>
        intro listed a u h hu hd K hK
        have hw := h.wait hu (T := 21) rfl (Array.mem_of_getElem? (i := 5) rfl) rfl rfl
        have hA := h.world.1 hw
        have e7 : a.tmps.getD 7 undef = .int .i64 (k : Int) := h.base (by kernel_rfl)
        have f7 : a.tmps[7]? = some (.int .i64 (k : Int)) := h.old (by kernel_rfl)
        rw [if_pos (by rfl)]
        go_simp
        exact hK _ _ (fact_stat _ _ _) (isE.mk rfl) (Jt.next hw (by decide) hA)
      case r4 =>
        intro listed a u h hu hd K hK
        have hw := h.wait hu (T := 21) rfl (Array.mem_of_getElem? (i := 6) rfl) rfl rfl
        have hA := h.world.1 hw
        obtain ⟨v25, ev25, em25, F25⟩ := h.slot (i := 2) rfl rfl (hd _ (Array.mem_of_getElem? (i := 0) rfl) rfl)
        have e25 := ev25.trans (isE.out F25)
        have f25 := em25.trans (congrArg some (isE.out F25))
        clear ev25 em25 F25
        obtain ⟨v26, ev26, em26, F26⟩ := h.slot (i := 3) rfl rfl (hd _ (Array.mem_of_getElem? (i := 1) rfl) rfl)
        have e26 := ev26.trans (isE.out F26)
        have f26 := em26.trans (congrArg some (isE.out F26))
        clear ev26 em26 F26
        rw [if_pos (by rfl)]
        go_simp
        exact hK _ _ (fact_stat _ _ _) (isE.mk rfl) (Jt.next hw (by decide) hA)
      case r5 =>
        intro listed a u h hu hd K hK
        have hw := h.wait hu (T := 21) rfl (Array.mem_of_getElem? (i := 7) rfl) rfl rfl
        have hA := h.world.1 hw
        obtain ⟨v27, ev27, em27, F27⟩ := h.slot (i := 4) rfl rfl (hd _ (Array.mem_of_getElem? (i := 0) rfl) rfl)
        have e27 := ev27.trans (isE.out F27)
        have f27 := em27.trans (congrArg some (isE.out F27))
        clear ev27 em27 F27
        rw [if_pos (by rfl)]
        obtain ⟨g0, g1, g2, g3, g4, g5, g6, g7, g8, g9, g10, g11, g12, g13⟩ := CS.out u hA
        go_simp
        exact hK _ _ (fact_stat _ _ _) (isE.mk rfl) (Jt.next hw (by decide) hA)
      case r6 =>
        intro listed a u h hu hd K hK
        have hw := h.wait hu (T := 21) rfl (Array.mem_of_getElem? (i := 8) rfl) rfl rfl
        have hA := h.world.1 hw
        have e2 : a.tmps.getD 2 undef = .pointer (some ⟨w.heap.size, 0, none⟩) := h.base (by kernel_rfl)
        have f2 : a.tmps[2]? = some (.pointer (some ⟨w.heap.size, 0, none⟩)) := h.old (by kernel_rfl)
        rw [if_pos (by rfl)]
        go_simp
        exact hK _ _ (fact_stat _ _ _) (isE.mk rfl) (Jt.next hw (by decide) hA)
      case r7 =>
        intro listed a u h hu hd K hK
        have hw := h.wait hu (T := 21) rfl (Array.mem_of_getElem? (i := 9) rfl) rfl rfl
        have hA := h.world.1 hw
        obtain ⟨v29, ev29, em29, F29⟩ := h.slot (i := 6) rfl rfl (hd _ (Array.mem_of_getElem? (i := 0) rfl) rfl)
        have e29 := ev29.trans (isE.out F29)
        have f29 := em29.trans (congrArg some (isE.out F29))
        clear ev29 em29 F29
        rw [if_pos (by rfl)]
        obtain ⟨g0, g1, g2, g3, g4, g5, g6, g7, g8, g9, g10, g11, g12, g13⟩ := CS.out u hA
        go_simp
        exact hK _ _ (fact_stat _ _ _) (isE.mk rfl) (Jt.next hw (by decide) hA)
      case r8 =>
        intro listed a u h hu hd K hK
        have hw := h.wait hu (T := 21) rfl (Array.mem_of_getElem? (i := 10) rfl) rfl rfl
        have hA := h.world.1 hw
        have e7 : a.tmps.getD 7 undef = .int .i64 (k : Int) := h.base (by kernel_rfl)
        have f7 : a.tmps[7]? = some (.int .i64 (k : Int)) := h.old (by kernel_rfl)
        rw [if_pos (by rfl)]
        go_simp
        exact hK _ _ (fact_stat _ _ _) (isE.mk rfl) (Jt.next hw (by decide) hA)
      case r9 =>
        intro listed a u h hu hd K hK
        have hw := h.wait hu (T := 21) rfl (Array.mem_of_getElem? (i := 11) rfl) rfl rfl
        have hA := h.world.1 hw
        obtain ⟨v30, ev30, em30, F30⟩ := h.slot (i := 7) rfl rfl (hd _ (Array.mem_of_getElem? (i := 0) rfl) rfl)
        have e30 := ev30.trans (isE.out F30)
        have f30 := em30.trans (congrArg some (isE.out F30))
        clear ev30 em30 F30
        obtain ⟨v31, ev31, em31, F31⟩ := h.slot (i := 8) rfl rfl (hd _ (Array.mem_of_getElem? (i := 1) rfl) rfl)
        have e31 := ev31.trans (isE.out F31)
        have f31 := em31.trans (congrArg some (isE.out F31))
        clear ev31 em31 F31
        rw [if_pos (by rfl)]
        go_simp
        exact hK _ _ (fact_stat _ _ _) (isE.mk rfl) (Jt.next hw (by decide) hA)
      case r10 =>
        intro listed a u h hu hd K hK
        have hw := h.wait hu (T := 21) rfl (Array.mem_of_getElem? (i := 12) rfl) rfl rfl
        have hA := h.world.1 hw
        obtain ⟨v32, ev32, em32, F32⟩ := h.slot (i := 9) rfl rfl (hd _ (Array.mem_of_getElem? (i := 0) rfl) rfl)
        have e32 := ev32.trans (isE.out F32)
        have f32 := em32.trans (congrArg some (isE.out F32))
        clear ev32 em32 F32
        rw [if_pos (by rfl)]
        obtain ⟨g0, g1, g2, g3, g4, g5, g6, g7, g8, g9, g10, g11, g12, g13⟩ := CS.out u hA
        go_simp
        exact hK _ _ (fact_stat _ _ _) (isE.mk rfl) (Jt.next hw (by decide) hA)
      case r11 =>
        intro listed a u h hu hd K hK
        have hw := h.wait hu (T := 21) rfl (Array.mem_of_getElem? (i := 13) rfl) rfl rfl
        have hA := h.world.1 hw
        obtain ⟨v28, ev28, em28, F28⟩ := h.slot (i := 5) rfl rfl (hd _ (Array.mem_of_getElem? (i := 0) rfl) rfl)
        have e28 := ev28.trans (isE.out F28)
        have f28 := em28.trans (congrArg some (isE.out F28))
        clear ev28 em28 F28
        obtain ⟨v33, ev33, em33, F33⟩ := h.slot (i := 10) rfl rfl (hd _ (Array.mem_of_getElem? (i := 1) rfl) rfl)
        have e33 := ev33.trans (isE.out F33)
        have f33 := em33.trans (congrArg some (isE.out F33))
        clear ev33 em33 F33
        rw [if_pos (by rfl)]
        go_simp
        refine Calls.mono (spec_l01Less _ _ _ _ _ _ u) ?_
        rintro e u2 ⟨a0, a1, a2, rfl, _, r0, r1, r2, hb⟩
        exact hK _ _ (fact_stat _ _ _) (isV.mk ⟨r0, r1, r2⟩) (Jt.next hw (by decide) (hA.trans (hb.mono hA.size)))
      case r12 =>
        intro listed a u h hu hd K hK
        have hw := h.wait hu (T := 21) rfl (Array.mem_of_getElem? (i := 14) rfl) rfl rfl
        have hA := h.world.1 hw
        have e2 : a.tmps.getD 2 undef = .pointer (some ⟨w.heap.size, 0, none⟩) := h.base (by kernel_rfl)
        have f2 : a.tmps[2]? = some (.pointer (some ⟨w.heap.size, 0, none⟩)) := h.old (by kernel_rfl)
        rw [if_pos (by rfl)]
        go_simp
        exact hK _ _ (fact_stat _ _ _) (isE.mk rfl) (Jt.next hw (by decide) hA)
      case r13 =>
        intro listed a u h hu hd K hK
        have hw := h.wait hu (T := 21) rfl (Array.mem_of_getElem? (i := 15) rfl) rfl rfl
        have hA := h.world.1 hw
        obtain ⟨v35, ev35, em35, F35⟩ := h.slot (i := 12) rfl rfl (hd _ (Array.mem_of_getElem? (i := 0) rfl) rfl)
        have e35 := ev35.trans (isE.out F35)
        have f35 := em35.trans (congrArg some (isE.out F35))
        clear ev35 em35 F35
        rw [if_pos (by rfl)]
        obtain ⟨g0, g1, g2, g3, g4, g5, g6, g7, g8, g9, g10, g11, g12, g13⟩ := CS.out u hA
        go_simp
        exact hK _ _ (fact_stat _ _ _) (isE.mk rfl) (Jt.next hw (by decide) hA)
      case r14 =>
        intro listed a u h hu hd K hK
        have hw := h.wait hu (T := 21) rfl (Array.mem_of_getElem? (i := 16) rfl) rfl rfl
        have hA := h.world.1 hw
        have e7 : a.tmps.getD 7 undef = .int .i64 (k : Int) := h.base (by kernel_rfl)
        have f7 : a.tmps[7]? = some (.int .i64 (k : Int)) := h.old (by kernel_rfl)
        rw [if_pos (by rfl)]
        go_simp
        exact hK _ _ (fact_stat _ _ _) (isE.mk rfl) (Jt.next hw (by decide) hA)
      case r15 =>
        intro listed a u h hu hd K hK
        have hw := h.wait hu (T := 21) rfl (Array.mem_of_getElem? (i := 17) rfl) rfl rfl
        have hA := h.world.1 hw
        obtain ⟨v36, ev36, em36, F36⟩ := h.slot (i := 13) rfl rfl (hd _ (Array.mem_of_getElem? (i := 0) rfl) rfl)
        have e36 := ev36.trans (isE.out F36)
        have f36 := em36.trans (congrArg some (isE.out F36))
        clear ev36 em36 F36
        obtain ⟨v37, ev37, em37, F37⟩ := h.slot (i := 14) rfl rfl (hd _ (Array.mem_of_getElem? (i := 1) rfl) rfl)
        have e37 := ev37.trans (isE.out F37)
        have f37 := em37.trans (congrArg some (isE.out F37))
        clear ev37 em37 F37
        rw [if_pos (by rfl)]
        go_simp
        exact hK _ _ (fact_stat _ _ _) (isE.mk rfl) (Jt.next hw (by decide) hA)
      case r16 =>
        intro listed a u h hu hd K hK
        have hw := h.wait hu (T := 21) rfl (Array.mem_of_getElem? (i := 18) rfl) rfl rfl
        have hA := h.world.1 hw
        obtain ⟨v38, ev38, em38, F38⟩ := h.slot (i := 15) rfl rfl (hd _ (Array.mem_of_getElem? (i := 0) rfl) rfl)
        have e38 := ev38.trans (isE.out F38)
        have f38 := em38.trans (congrArg some (isE.out F38))
        clear ev38 em38 F38
        rw [if_pos (by rfl)]
        obtain ⟨g0, g1, g2, g3, g4, g5, g6, g7, g8, g9, g10, g11, g12, g13⟩ := CS.out u hA
        go_simp
        exact hK _ _ (fact_stat _ _ _) (isE.mk rfl) (Jt.next hw (by decide) hA)
      case r17 =>
        intro listed a u h hu hd K hK
        have hw := h.wait hu (T := 21) rfl (Array.mem_of_getElem? (i := 19) rfl) rfl rfl
        have hA := h.world.1 hw
        have e1 : a.tmps.getD 1 undef = .float .f32 t := h.base (by kernel_rfl)
        have f1 : a.tmps[1]? = some (.float .f32 t) := h.old (by kernel_rfl)
        rw [if_pos (by rfl)]
        go_simp
        exact hK _ _ (fact_stat _ _ _) (isE.mk rfl) (Jt.next hw (by decide) hA)
      case r18 =>
        intro listed a u h hu hd K hK
        have hw := h.wait hu (T := 21) rfl (Array.mem_of_getElem? (i := 20) rfl) rfl rfl
        have hA := h.world.1 hw
        obtain ⟨v39, ev39, em39, F39⟩ := h.slot (i := 16) rfl rfl (hd _ (Array.mem_of_getElem? (i := 0) rfl) rfl)
        have e39 := ev39.trans (isE.out F39)
        have f39 := em39.trans (congrArg some (isE.out F39))
        clear ev39 em39 F39
        obtain ⟨v40, ev40, em40, F40⟩ := h.slot (i := 17) rfl rfl (hd _ (Array.mem_of_getElem? (i := 1) rfl) rfl)
        have e40 := ev40.trans (isE.out F40)
        have f40 := em40.trans (congrArg some (isE.out F40))
        clear ev40 em40 F40
        rw [if_pos (by rfl)]
        go_simp
        exact hK _ _ (fact_stat _ _ _) (isF.mk (opV_lt32 _ _ _ _ _) (quo_sim (Sim.refl _ _) (Sim.refl _ _) _ _)) (Jt.next hw (by decide) (below_dn hA _))
      case r19 =>
        intro listed a u h hu hd K hK
        have hw := h.wait hu (T := 21) rfl (Array.mem_of_getElem? (i := 21) rfl) rfl rfl
        have hA := h.world.1 hw
        obtain ⟨v34, ev34, em34, F34⟩ := h.slot (i := 11) rfl rfl (hd _ (Array.mem_of_getElem? (i := 0) rfl) rfl)
        obtain ⟨x34, y34, z34, q34, s34⟩ := isV.out F34
        have e34 := ev34.trans q34
        have f34 := em34.trans (congrArg some q34)
        clear ev34 em34 F34
        obtain ⟨v41, ev41, em41, F41⟩ := h.slot (i := 18) rfl rfl (hd _ (Array.mem_of_getElem? (i := 1) rfl) rfl)
        obtain ⟨x41, q41, l41, s41⟩ := isF.out F41
        have e41 := ev41.trans q41
        have f41 := em41.trans (congrArg some q41)
        clear ev41 em41 F41
        rw [if_pos (by rfl)]
        go_simp
        refine Calls.mono (spec_l01Scale _ _ _ _ u) ?_
        rintro e u2 ⟨a0, a1, a2, rfl, _, r0, r1, r2, hb⟩
        exact hK _ _ (fact_stat _ _ _) (isV.mk ⟨r0.trans (fmul_sim s34.1 s41), r1.trans (fmul_sim s34.2.1 s41), r2.trans (fmul_sim s34.2.2 s41)⟩) (Jt.next hw (by decide) (hA.trans (hb.mono hA.size)))
      case r20 =>
        intro listed a u h hu hd K hK
        have hw := h.wait hu (T := 21) rfl (Array.mem_of_getElem? (i := 0) rfl) rfl rfl
        have hA := h.world.1 hw
        obtain ⟨v23, ev23, em23, F23⟩ := h.slot (i := 0) rfl rfl (hd _ (Array.mem_of_getElem? (i := 0) rfl) rfl)
        have e23 := ev23.trans (isE.out F23)
        have f23 := em23.trans (congrArg some (isE.out F23))
        clear ev23 em23 F23
        obtain ⟨v42, ev42, em42, F42⟩ := h.slot (i := 19) rfl rfl (hd _ (Array.mem_of_getElem? (i := 1) rfl) rfl)
        obtain ⟨x42, y42, z42, q42, s42⟩ := isV.out F42
        have e42 := ev42.trans q42
        have f42 := em42.trans (congrArg some q42)
        clear ev42 em42 F42
        rw [if_pos (by rfl)]
        go_simp
        refine Calls.mono (spec_l01Add _ _ _ _ _ _ u) ?_
        rintro e u2 ⟨a0, a1, a2, rfl, _, r0, r1, r2, hb⟩
        exact hK _ _ (fact_stat _ _ _) (isV.mk ⟨r0.trans (fadd_sim HS.out.1 s42.1), r1.trans (fadd_sim HS.out.2.1 s42.2.1), r2.trans (fadd_sim HS.out.2.2 s42.2.2)⟩) (Jt.next hw (by decide) (hA.trans (hb.mono hA.size)))
      case r21 =>
        intro listed a u h hu hd K hK
        have hA := h.world.1 (getD_un hu)
        have e6 : a.tmps.getD 6 undef = .pointer (some ⟨w2.heap.size, 0, none⟩) := h.base (by kernel_rfl)
        have f6 : a.tmps[6]? = some (.pointer (some ⟨w2.heap.size, 0, none⟩)) := h.old (by kernel_rfl)
        obtain ⟨v43, ev43, em43, F43⟩ := h.slot (i := 20) rfl rfl (hd _ (Array.mem_of_getElem? (i := 0) rfl) rfl)
        obtain ⟨x43, y43, z43, q43, s43⟩ := isV.out F43
        have e43 := ev43.trans q43
        have f43 := em43.trans (congrArg some q43)
        clear ev43 em43 F43
        rw [if_pos (by rfl)]
        obtain ⟨g0, g1, g2, g3, g4, g5, g6, g7, g8, g9, g10, g11, g12, g13⟩ := CS.out u hA
        go_simp
        exact hK undef _ (fact_stat _ _ _) trivial (Jt.last (un_lt hu) ⟨u, _, _, _, hA, s43, rfl⟩)
      case hend =>
        intro listed a u h hall
        have hB := h.world.2 (hall 21 (by decide))
        obtain ⟨v23, ev23, em23, F23⟩ := h.slot (i := 0) rfl rfl (hall 0 (by decide))
        have f23 := em23.trans (congrArg some (isE.out F23))
        clear ev23 em23 F23
        obtain ⟨v24, ev24, em24, F24⟩ := h.slot (i := 1) rfl rfl (hall 1 (by decide))
        have f24 := em24.trans (congrArg some (isE.out F24))
        clear ev24 em24 F24
        obtain ⟨v25, ev25, em25, F25⟩ := h.slot (i := 2) rfl rfl (hall 2 (by decide))
        have f25 := em25.trans (congrArg some (isE.out F25))
        clear ev25 em25 F25
        obtain ⟨v26, ev26, em26, F26⟩ := h.slot (i := 3) rfl rfl (hall 3 (by decide))
        have f26 := em26.trans (congrArg some (isE.out F26))
        clear ev26 em26 F26
        obtain ⟨v27, ev27, em27, F27⟩ := h.slot (i := 4) rfl rfl (hall 4 (by decide))
        have f27 := em27.trans (congrArg some (isE.out F27))
        clear ev27 em27 F27
        obtain ⟨v28, ev28, em28, F28⟩ := h.slot (i := 5) rfl rfl (hall 5 (by decide))
        have f28 := em28.trans (congrArg some (isE.out F28))
        clear ev28 em28 F28
        obtain ⟨v29, ev29, em29, F29⟩ := h.slot (i := 6) rfl rfl (hall 6 (by decide))
        have f29 := em29.trans (congrArg some (isE.out F29))
        clear ev29 em29 F29
        obtain ⟨v30, ev30, em30, F30⟩ := h.slot (i := 7) rfl rfl (hall 7 (by decide))
        have f30 := em30.trans (congrArg some (isE.out F30))
        clear ev30 em30 F30
        obtain ⟨v31, ev31, em31, F31⟩ := h.slot (i := 8) rfl rfl (hall 8 (by decide))
        have f31 := em31.trans (congrArg some (isE.out F31))
        clear ev31 em31 F31
        obtain ⟨v32, ev32, em32, F32⟩ := h.slot (i := 9) rfl rfl (hall 9 (by decide))
        have f32 := em32.trans (congrArg some (isE.out F32))
        clear ev32 em32 F32
        obtain ⟨v33, ev33, em33, F33⟩ := h.slot (i := 10) rfl rfl (hall 10 (by decide))
        have f33 := em33.trans (congrArg some (isE.out F33))
        clear ev33 em33 F33
        obtain ⟨v34, ev34, em34, F34⟩ := h.slot (i := 11) rfl rfl (hall 11 (by decide))
        obtain ⟨x34, y34, z34, q34, s34⟩ := isV.out F34
        have f34 := em34.trans (congrArg some q34)
        clear ev34 em34 F34
        obtain ⟨v35, ev35, em35, F35⟩ := h.slot (i := 12) rfl rfl (hall 12 (by decide))
        have f35 := em35.trans (congrArg some (isE.out F35))
        clear ev35 em35 F35
        obtain ⟨v36, ev36, em36, F36⟩ := h.slot (i := 13) rfl rfl (hall 13 (by decide))
        have f36 := em36.trans (congrArg some (isE.out F36))
        clear ev36 em36 F36
        obtain ⟨v37, ev37, em37, F37⟩ := h.slot (i := 14) rfl rfl (hall 14 (by decide))
        have f37 := em37.trans (congrArg some (isE.out F37))
        clear ev37 em37 F37
        obtain ⟨v38, ev38, em38, F38⟩ := h.slot (i := 15) rfl rfl (hall 15 (by decide))
        have f38 := em38.trans (congrArg some (isE.out F38))
        clear ev38 em38 F38
        obtain ⟨v39, ev39, em39, F39⟩ := h.slot (i := 16) rfl rfl (hall 16 (by decide))
        have f39 := em39.trans (congrArg some (isE.out F39))
        clear ev39 em39 F39
        obtain ⟨v40, ev40, em40, F40⟩ := h.slot (i := 17) rfl rfl (hall 17 (by decide))
        have f40 := em40.trans (congrArg some (isE.out F40))
        clear ev40 em40 F40
        obtain ⟨v41, ev41, em41, F41⟩ := h.slot (i := 18) rfl rfl (hall 18 (by decide))
        obtain ⟨x41, q41, l41, s41⟩ := isF.out F41
        have f41 := em41.trans (congrArg some q41)
        clear ev41 em41 F41
        obtain ⟨v42, ev42, em42, F42⟩ := h.slot (i := 19) rfl rfl (hall 19 (by decide))
        obtain ⟨x42, y42, z42, q42, s42⟩ := isV.out F42
        have f42 := em42.trans (congrArg some q42)
        clear ev42 em42 F42
        obtain ⟨v43, ev43, em43, F43⟩ := h.slot (i := 20) rfl rfl (hall 20 (by decide))
        obtain ⟨x43, y43, z43, q43, s43⟩ := isV.out F43
        have f43 := em43.trans (congrArg some q43)
        clear ev43 em43 F43
        have ha := h.act [23, 24, 25, 26, 27, 28, 29, 30, 31, 32, 33, 34, 35, 36, 37, 38, 39, 40, 41, 42, 43] [_, _, _, _, _, _, _, _, _, _, _, _, _, _, _, _, _, _, _, _, _] (by kernel_rfl) ⟨f23, f24, f25, f26, f27, f28, f29, f30, f31, f32, f33, f34, f35, f36, f37, f38, f39, f40, f41, f42, f43, trivial⟩
        clear f23 f24 f25 f26 f27 f28 f29 f30 f31 f32 f33 f34 f35 f36 f37 f38 f39 f40 f41 f42 f43
        simp only [setAll, List.setIfInBounds_toArray, List.set_cons_zero, List.set_cons_succ] at ha
        subst ha
        clear h hall
        obtain ⟨W5, a0, a1, a2, hb5, hs5, rfl⟩ := hB
        have hb6 := hb5
        clear hb5
        go_wp2_with fail
        go_roundw
        case rel => exact ⟨k + 1, by omega, by go_num, ⟨a0, a1, a2, hs5, (HT.out.go hb6).setAll _ _ _⟩, (HP.out.go hb6).far3 (by omega) _ _ _, (HV.out.go hb6).far3 (by omega) _ _ _, Tx.bel (below_step HB.out hb6) (by omega) _ _ _⟩
        case measure => simp [intOf]; omega
    · have hke : k = n3 := by omega
      subst hke
      obtain ⟨t0, t1, t2, tf⟩ := hT.facts
      obtain ⟨v0, v1, v2, vf⟩ := hV.facts
      have lv := hV.lt
      have lt := hT.lt
      have VF := Lib.hid (hV.setAll (.float .f32 x) (.float .f32 y) (.float .f32 z))
      clear hT hP hV hB hs
      go_wp2
      obtain ⟨r0, r1, r2, rf⟩ := VF.out.facts
      refine bodyPost_ret (v := .tuple #[.agg #[.float .f32 x, .float .f32 y, .float .f32 z], .bool true]) (by simp [results, Try.results28, go_sem, r0, r1, r2]) rfl ?_
      exact ⟨x, y, z, rfl, HS.out, Tx.bel HB.out (by omega) _ _ _⟩
end Go.Proofs.Ytlhgaihfghobmaa
