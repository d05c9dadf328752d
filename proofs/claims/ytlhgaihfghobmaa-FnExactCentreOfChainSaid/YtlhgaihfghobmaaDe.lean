/- The centre of a chain, program. -/
import Derived.Test.YtlhgaihfghobmaaDd
namespace Go.Proofs.Ytlhgaihfghobmaa
open Go.ChangeShapes Go.WideShapes Go.ChangeAt Go.RowKit Go.Deep

theorem RetFQ.b {k : FloatKind} {v : Nat} {w : World} {e : Ending} {w' : World} (h : RetFQ k v w e w') : ∃ r, e = .returned (.float k r) ∧ r < 2 ^ k.format.width ∧ Sim k r v ∧ Below w.heap.size w w' := by
  obtain ⟨r, n, h1, h2, h3, rfl⟩ := h
  exact ⟨r, h1, h2, h3, below_n _ _ _⟩
theorem impl_CentreOfChain_no (A1 A2 A3 A4 : Option Addr) (c1 c2 c3 c4 n1 n2 n3 n4 B : Nat) (D : D4) (w : World) (h : Own w B A1 A2 A3 A4 c1 c2 c3 c4 n1 n2 n3 n4 D) (q1 : okC n1 n2 n3 n4 D = false) :
    Calls Try.prog 32 #[.agg #[.slice A1 n1 c1, .slice A2 n2 c2, .slice A3 n3 c3, .slice A4 n4 c4]] w (RetVB ⟨0, 0, 0⟩ false w) := by
  have H := Lib.hid h
  clear h
  go_enter Try.func32, Try.ntmps32
  go_wp2_with fail
  refine (impl_ValidChain A1 A2 A3 A4 c1 c2 c3 c4 n1 n2 n3 n4 B D _ (H.out.go (by repeat' (first | with_reducible exact Below.refl _ _ | with_reducible assumption | with_reducible refine below_dn ?_ _ | with_reducible refine Below.drew ?_ | with_reducible refine below_step ?_ (by assumption) | with_reducible refine Below.setCell ?_ ?_ _ | with_reducible refine Below.alloc ?_ ?_ _ | with_reducible exact Nat.le_refl _ | (simp; done) | (simp; omega) | omega)))).mono ?_
  rintro e w1 ⟨rfl, hb1⟩
  have P1 := Lib.hid (((Bx.new_ w 32 (.slice A1 n1 c1) (.slice A2 n2 c2) (.slice A3 n3 c3) (.slice A4 n4 c4)).alloc _).go hb1)
  have V1 := Lib.hid ((Tx.new_ (w.alloc (.cells #[.slice A1 n1 c1, .slice A2 n2 c2, .slice A3 n3 c3, .slice A4 n4 c4] 32)) 38 (.float .f32 0) (.float .f32 0) (.float .f32 0)).go hb1)
  have B1 := Lib.hid (show Below w.heap.size w w1 from below_step (w := w) ((by repeat' (first | with_reducible exact Below.refl _ _ | with_reducible assumption | with_reducible refine below_dn ?_ _ | with_reducible refine Below.drew ?_ | with_reducible refine below_step ?_ (by assumption) | with_reducible refine Below.setCell ?_ ?_ _ | with_reducible refine Below.alloc ?_ ?_ _ | with_reducible exact Nat.le_refl _ | (simp; done) | (simp; omega) | omega))) hb1)
  have z6 : w.heap.size + 1 < w1.heap.size := by have := hb1.size; simp at this; omega
  have e1 : (w.alloc (.cells #[.slice A1 n1 c1, .slice A2 n2 c2, .slice A3 n3 c3, .slice A4 n4 c4] 32)).heap.size = w.heap.size + 1 := by simp
  rw [e1] at V1
  clear hb1 e1
  rw [q1]
  obtain ⟨v0, v1, v2, vf⟩ := V1.out.facts
  have lv := V1.out.lt
  go_wp2
  obtain ⟨r0, r1, r2, rf⟩ := (V1.out.setAll (.float .f32 0) (.float .f32 0) (.float .f32 0)).facts
  refine bodyPost_ret (v := .tuple #[.agg #[.float .f32 0, .float .f32 0, .float .f32 0], .bool false]) (by simp [results, Try.results32, go_sem, r0, r1, r2]) rfl ?_
  exact ⟨0, 0, 0, rfl, SimP.refl _, Tx.bel B1.out (by omega) _ _ _⟩
set_option maxHeartbeats 4000000 in
set_option maxRecDepth 100000 in
theorem impl_CentreOfChain_ok (A1 A2 A3 A4 : Option Addr) (c1 c2 c3 c4 n1 n2 n3 n4 B : Nat) (D : D4) (w : World) (h : Own w B A1 A2 A3 A4 c1 c2 c3 c4 n1 n2 n3 n4 D) (q1 : okC n1 n2 n3 n4 D = true) :
    Calls Try.prog 32 #[.agg #[.slice A1 n1 c1, .slice A2 n2 c2, .slice A3 n3 c3, .slice A4 n4 c4]] w (RetVB (pickV (gtZ (sumF D.W n1)) (cenV D n1)) (gtZ (sumF D.W n1)) w) := by
  have H := Lib.hid h
  obtain ⟨z1, rfl, rfl, z4⟩ := okC_sz q1
  clear h
  go_enter Try.func32, Try.ntmps32
  go_wp2_with fail
  refine (impl_ValidChain A1 A2 A3 A4 c1 c2 c3 c4 n3 n3 n3 n4 B D _ (H.out.go (by repeat' (first | with_reducible exact Below.refl _ _ | with_reducible assumption | with_reducible refine below_dn ?_ _ | with_reducible refine Below.drew ?_ | with_reducible refine below_step ?_ (by assumption) | with_reducible refine Below.setCell ?_ ?_ _ | with_reducible refine Below.alloc ?_ ?_ _ | with_reducible exact Nat.le_refl _ | (simp; done) | (simp; omega) | omega)))).mono ?_
  rintro e w1 ⟨rfl, hb1⟩
  have P1 := Lib.hid (((Bx.new_ w 32 (.slice A1 n3 c1) (.slice A2 n3 c2) (.slice A3 n3 c3) (.slice A4 n4 c4)).alloc _).go hb1)
  have V1 := Lib.hid ((Tx.new_ (w.alloc (.cells #[.slice A1 n3 c1, .slice A2 n3 c2, .slice A3 n3 c3, .slice A4 n4 c4] 32)) 38 (.float .f32 0) (.float .f32 0) (.float .f32 0)).go hb1)
  have B1 := Lib.hid (show Below w.heap.size w w1 from below_step (w := w) ((by repeat' (first | with_reducible exact Below.refl _ _ | with_reducible assumption | with_reducible refine below_dn ?_ _ | with_reducible refine Below.drew ?_ | with_reducible refine below_step ?_ (by assumption) | with_reducible refine Below.setCell ?_ ?_ _ | with_reducible refine Below.alloc ?_ ?_ _ | with_reducible exact Nat.le_refl _ | (simp; done) | (simp; omega) | omega))) hb1)
  have z6 : w.heap.size + 1 < w1.heap.size := by have := hb1.size; simp at this; omega
  have e1 : (w.alloc (.cells #[.slice A1 n3 c1, .slice A2 n3 c2, .slice A3 n3 c3, .slice A4 n4 c4] 32)).heap.size = w.heap.size + 1 := by simp
  rw [e1] at V1
  clear hb1 e1
  rw [q1]
  have hc := impl_sum A3 c3 (flist n3 D.W) (by rw [flist_length]; omega) w1 w1.heap.size ((H.out.s3.go B1.out).in_.flat)
  rw [flist_length, sumF_list] at hc
  have HC := Lib.hid hc
  clear hc
  obtain ⟨p0, p1, p2, p3, pf⟩ := P1.out.facts
  have lp := P1.out.lt
  go_wp2_with fail
  refine HC.out.mono ?_
  rintro e w2 hq
  obtain ⟨r, rfl, hlr, hr, hb2⟩ := RetFQ.b hq
  clear p0 p1 p2 p3 pf lp hq HC
  have P2 := Lib.hid (P1.out.go hb2)
  have V2 := Lib.hid (V1.out.go hb2)
  have B2 := Lib.hid (below_step B1.out hb2)
  have HR := Lib.hid hr
  have z7 : w.heap.size + 1 < w2.heap.size := by have := hb2.size; omega
  clear hb2 P1 V1 B1 z6 hr hlr
  cases hg : gtZ (sumF D.W n3)
  · have hg2 : (FloatKind.f32.format.order r 0 == some .gt) = false := (gtZ_sim HR.out).trans hg
    obtain ⟨v0, v1, v2, vf⟩ := V2.out.facts
    have lv := V2.out.lt
    go_wp2_with fail
    obtain ⟨r0, r1, r2, rf⟩ := ((V2.out.setAll (.float .f32 0) (.float .f32 0) (.float .f32 0)).alloc (.cells #[.float .f32 0, .float .f32 0, .float .f32 0] 38)).facts
    refine bodyPost_ret (v := .tuple #[.agg #[.float .f32 0, .float .f32 0, .float .f32 0], .bool false]) (by simp [results, Try.results32, go_sem, r0, r1, r2]) rfl ?_
    rw [hg]
    exact ⟨0, 0, 0, rfl, SimP.refl _, Below.alloc (Tx.bel B2.out (by omega) _ _ _) (by first | exact Nat.le_refl _ | (simp; done) | (simp; omega) | omega) _⟩
  have hg2 : (FloatKind.f32.format.order r 0 == some .gt) = true := (gtZ_sim HR.out).trans hg
  obtain ⟨p0, p1, p2, p3, pf⟩ := (P2.out.alloc (.cells #[.float .f32 0, .float .f32 0, .float .f32 0] 38)).facts
  have lp := P2.out.lt
  go_wp2_with fail
  clear p0 p1 p2 p3 pf lp
  go_loopw [23] (fun i wr => ∃ k : Nat, k ≤ n3 ∧ i = .int .i64 k ∧ (∃ x y z, SimP ⟨x, y, z⟩ (sumV (cenQ D) k) ∧ Tx wr w2.heap.size 38 (.float .f32 x) (.float .f32 y) (.float .f32 z)) ∧ Bx wr w.heap.size 32 (.slice A1 n3 c1) (.slice A2 n3 c2) (.slice A3 n3 c3) (.slice A4 n4 c4) ∧ Tx wr (w.heap.size + 1) 38 (.float .f32 0) (.float .f32 0) (.float .f32 0) ∧ Below w.heap.size w wr) (fun i _ => n3 - (intOf i).toNat)
  case atStart => exact ⟨0, Nat.zero_le _, rfl, ⟨0, 0, 0, SimP.refl _, Tx.new_ w2 _ _ _ _⟩, P2.out.alloc _, V2.out.alloc _, Below.alloc B2.out (by omega) _⟩
  case round =>
    obtain ⟨k, hk, rfl, ⟨x, y, z, hs, hT⟩, hP, hV, hB⟩ := hrel
    have HT := Lib.hid hT
    have HP := Lib.hid hP
    have HV := Lib.hid hV
    have HB := Lib.hid hB
    have HS := Lib.hid hs
    by_cases hlt : k < n3
    · obtain ⟨b1, off1, rfl, l1, d0, d1, d2⟩ := H.out.s1.in_.at3 hlt
      obtain ⟨b3, off3, rfl, l3, hc3⟩ := H.out.s3.in_ (by omega)
      have i0 := hc3 k (by omega)
      rw [vc0] at d0
      rw [vc1] at d1
      rw [vc2] at d2
      unfold fc at i0
      have hk0 : (0 : Int) ≤ (k : Int) := by omega
      have hk1 : (k : Int) < (n3 : Int) := by omega
      have hzB := hB.size
      have m1 : b1 < wr.heap.size := by omega
      have m3 : b3 < wr.heap.size := by omega
      obtain ⟨bc, bf⟩ := bcell hB
      have hd0 := (bc _ _ l1).trans d0
      have hd1 := (bc _ _ l1).trans d1
      have hd2 := (bc _ _ l1).trans d2
      have hi0 := (bc _ _ l3).trans i0
      obtain ⟨p0, p1, p2, p3, pf⟩ := hP.facts
      have lp := hP.lt
      clear hT hP hV hB hs hc3 bc bf d0 d1 d2 i0 hzB
      go_upto_region 9 with fail
      obtain ⟨wq, hwq⟩ : ∃ wq : World, wq = wr.alloc (.cells #[.float .f32 (D.P k).x, .float .f32 (D.P k).y, .float .f32 (D.P k).z] 38) := ⟨_, rfl⟩
      have hX : Tx wq wr.heap.size 38 (.float .f32 (D.P k).x) (.float .f32 (D.P k).y) (.float .f32 (D.P k).z) := by rw [hwq]; exact Tx.new_ _ _ _ _ _
      have hBq : Below wr.heap.size wr wq := by rw [hwq]; exact Below.alloc (Below.refl _ _) (Nat.le_refl _) _
      rw [← hwq]
      clear hwq p0 p1 p2 p3 pf lp hd0 hd1 hd2
      have TQ := Lib.hid (HT.out.go hBq)
      have PQ := Lib.hid (HP.out.go hBq)
      have VQ := Lib.hid (HV.out.go hBq)
      have BQ := Lib.hid (below_step HB.out hBq)
      obtain ⟨pq0, pq1, pq2, pq3, pqf⟩ := PQ.out.facts
      obtain ⟨tq0, tq1, tq2, tqf⟩ := TQ.out.facts
      obtain ⟨xq0, xq1, xq2, xqf⟩ := hX.facts
      have lpq := PQ.out.lt
      have ltq := TQ.out.lt
      have lxq := hX.lt
      obtain ⟨bq, bqf⟩ := bcell hBq
      have hi0 := (bq _ _ m3).trans hi0
      have hzq := hBq.size
      have m3 : b3 < wq.heap.size := by omega
      have CS := Lib.hid (fun (W : World) (hW : Below wq.heap.size wq W) => (show W.cell? ⟨w.heap.size, 2, none⟩ = some (.slice (some ⟨b3, off3, none⟩) n3 c3) ∧ W.cell? ⟨b3, off3 + k, none⟩ = some (.float .f32 (D.W k)) ∧ W.cell? ⟨w2.heap.size, 0, none⟩ = some (.float .f32 x) ∧ W.cell? ⟨w2.heap.size, 1, none⟩ = some (.float .f32 y) ∧ W.cell? ⟨w2.heap.size, 2, none⟩ = some (.float .f32 z) ∧ W.cell? ⟨wr.heap.size, 0, none⟩ = some (.float .f32 (D.P k).x) ∧ W.cell? ⟨wr.heap.size, 1, none⟩ = some (.float .f32 (D.P k).y) ∧ W.cell? ⟨wr.heap.size, 2, none⟩ = some (.float .f32 (D.P k).z) ∧ (∀ j, W.frozen? ⟨w2.heap.size, j, none⟩ = false) from ⟨((bcell hW).1 _ _ lpq).trans pq2, ((bcell hW).1 _ _ m3).trans hi0, ((bcell hW).1 _ _ ltq).trans tq0, ((bcell hW).1 _ _ ltq).trans tq1, ((bcell hW).1 _ _ ltq).trans tq2, ((bcell hW).1 _ _ lxq).trans xq0, ((bcell hW).1 _ _ lxq).trans xq1, ((bcell hW).1 _ _ lxq).trans xq2, fun j => ((bcell hW).2 _ _ ltq).trans (tqf j)⟩))
      have hw0 : Below wq.heap.size wq wq.drew := (Below.refl _ _).drew
      clear hX bq bqf hzq hBq pq0 pq1 pq2 pq3 pqf tq0 tq1 tq2 tqf xq0 xq1 xq2 xqf hi0
      refine region_inv (stat [isE (.agg #[.float .f32 x, .float .f32 y, .float .f32 z]), isE (.agg #[.float .f32 (D.P k).x, .float .f32 (D.P k).y, .float .f32 (D.P k).z]), isE (.pointer (some ⟨w.heap.size, 2, none⟩)), isE (.slice (some ⟨b3, off3, none⟩) n3 c3), isE (.int .i64 (k : Int)), isE (.pointer (some ⟨b3, off3 + k, none⟩)), isE (.float .f32 (D.W k)), isV (cenQ D k), isV (sumV (cenQ D) (k + 1)), fun _ => True]) (Jt 9 (fun W => Below wq.heap.size wq W) (fun W => ∃ W5 a0 a1 a2, Below wq.heap.size wq W5 ∧ SimP ⟨a0, a1, a2⟩ (sumV (cenQ D) (k + 1)) ∧ W = (((W5.setCell ⟨w2.heap.size, 0, none⟩ (.float .f32 a0)).setCell ⟨w2.heap.size, 1, none⟩ (.float .f32 a1)).setCell ⟨w2.heap.size, 2, none⟩ (.float .f32 a2)))) (by kernel_rfl) (by kernel_rfl) (by kernel_rfl) (Jt.first (hw0)) ⟨?r0, ?r1, ?r2, ?r3, ?r4, ?r5, ?r6, ?r7, ?r8, ?r9, trivial⟩ ?hend
      case r0 =>
        intro listed a u h hu hd K hK
        have hw := h.wait hu (T := 9) rfl (Array.mem_of_getElem? (i := 2) rfl) rfl rfl
        have hA := h.world.1 hw
        have e4 : a.tmps.getD 4 undef = .pointer (some ⟨w2.heap.size, 0, none⟩) := h.base (by kernel_rfl)
        have f4 : a.tmps[4]? = some (.pointer (some ⟨w2.heap.size, 0, none⟩)) := h.old (by kernel_rfl)
        rw [if_pos (by rfl)]
        obtain ⟨g0, g1, g2, g3, g4, g5, g6, g7, g8⟩ := CS.out u hA
        go_simp
        exact hK _ _ (fact_stat _ _ _) (isE.mk rfl) (Jt.next hw (by decide) hA)
      case r1 =>
        intro listed a u h hu hd K hK
        have hw := h.wait hu (T := 9) rfl (Array.mem_of_getElem? (i := 3) rfl) rfl rfl
        have hA := h.world.1 hw
        have e7 : a.tmps.getD 7 undef = .pointer (some ⟨wr.heap.size, 0, none⟩) := h.base (by kernel_rfl)
        have f7 : a.tmps[7]? = some (.pointer (some ⟨wr.heap.size, 0, none⟩)) := h.old (by kernel_rfl)
        rw [if_pos (by rfl)]
        obtain ⟨g0, g1, g2, g3, g4, g5, g6, g7, g8⟩ := CS.out u hA
        go_simp
        exact hK _ _ (fact_stat _ _ _) (isE.mk rfl) (Jt.next hw (by decide) hA)
      case r2 =>
        intro listed a u h hu hd K hK
        have hw := h.wait hu (T := 9) rfl (Array.mem_of_getElem? (i := 4) rfl) rfl rfl
        have hA := h.world.1 hw
        have e1 : a.tmps.getD 1 undef = .pointer (some ⟨w.heap.size, 0, none⟩) := h.base (by kernel_rfl)
        have f1 : a.tmps[1]? = some (.pointer (some ⟨w.heap.size, 0, none⟩)) := h.old (by kernel_rfl)
        rw [if_pos (by rfl)]
        go_simp
        exact hK _ _ (fact_stat _ _ _) (isE.mk rfl) (Jt.next hw (by decide) hA)
      case r3 =>
        intro listed a u h hu hd K hK
        have hw := h.wait hu (T := 9) rfl (Array.mem_of_getElem? (i := 5) rfl) rfl rfl
        have hA := h.world.1 hw
        obtain ⟨v30, ev30, em30, F30⟩ := h.slot (i := 2) rfl rfl (hd _ (Array.mem_of_getElem? (i := 0) rfl) rfl)
        have e30 := ev30.trans (isE.out F30)
        have f30 := em30.trans (congrArg some (isE.out F30))
        clear ev30 em30 F30
        rw [if_pos (by rfl)]
        obtain ⟨g0, g1, g2, g3, g4, g5, g6, g7, g8⟩ := CS.out u hA
        go_simp
        exact hK _ _ (fact_stat _ _ _) (isE.mk rfl) (Jt.next hw (by decide) hA)
      case r4 =>
        intro listed a u h hu hd K hK
        have hw := h.wait hu (T := 9) rfl (Array.mem_of_getElem? (i := 6) rfl) rfl rfl
        have hA := h.world.1 hw
        have e6 : a.tmps.getD 6 undef = .int .i64 (k : Int) := h.base (by kernel_rfl)
        have f6 : a.tmps[6]? = some (.int .i64 (k : Int)) := h.old (by kernel_rfl)
        rw [if_pos (by rfl)]
        go_simp
        exact hK _ _ (fact_stat _ _ _) (isE.mk rfl) (Jt.next hw (by decide) hA)
      case r5 =>
        intro listed a u h hu hd K hK
        have hw := h.wait hu (T := 9) rfl (Array.mem_of_getElem? (i := 7) rfl) rfl rfl
        have hA := h.world.1 hw
        obtain ⟨v31, ev31, em31, F31⟩ := h.slot (i := 3) rfl rfl (hd _ (Array.mem_of_getElem? (i := 0) rfl) rfl)
        have e31 := ev31.trans (isE.out F31)
        have f31 := em31.trans (congrArg some (isE.out F31))
        clear ev31 em31 F31
        obtain ⟨v32, ev32, em32, F32⟩ := h.slot (i := 4) rfl rfl (hd _ (Array.mem_of_getElem? (i := 1) rfl) rfl)
        have e32 := ev32.trans (isE.out F32)
        have f32 := em32.trans (congrArg some (isE.out F32))
        clear ev32 em32 F32
        rw [if_pos (by rfl)]
        go_simp
        exact hK _ _ (fact_stat _ _ _) (isE.mk rfl) (Jt.next hw (by decide) hA)
      case r6 =>
        intro listed a u h hu hd K hK
        have hw := h.wait hu (T := 9) rfl (Array.mem_of_getElem? (i := 8) rfl) rfl rfl
        have hA := h.world.1 hw
        obtain ⟨v33, ev33, em33, F33⟩ := h.slot (i := 5) rfl rfl (hd _ (Array.mem_of_getElem? (i := 0) rfl) rfl)
        have e33 := ev33.trans (isE.out F33)
        have f33 := em33.trans (congrArg some (isE.out F33))
        clear ev33 em33 F33
        rw [if_pos (by rfl)]
        obtain ⟨g0, g1, g2, g3, g4, g5, g6, g7, g8⟩ := CS.out u hA
        go_simp
        exact hK _ _ (fact_stat _ _ _) (isE.mk rfl) (Jt.next hw (by decide) hA)
      case r7 =>
        intro listed a u h hu hd K hK
        have hw := h.wait hu (T := 9) rfl (Array.mem_of_getElem? (i := 9) rfl) rfl rfl
        have hA := h.world.1 hw
        obtain ⟨v29, ev29, em29, F29⟩ := h.slot (i := 1) rfl rfl (hd _ (Array.mem_of_getElem? (i := 0) rfl) rfl)
        have e29 := ev29.trans (isE.out F29)
        have f29 := em29.trans (congrArg some (isE.out F29))
        clear ev29 em29 F29
        obtain ⟨v34, ev34, em34, F34⟩ := h.slot (i := 6) rfl rfl (hd _ (Array.mem_of_getElem? (i := 1) rfl) rfl)
        have e34 := ev34.trans (isE.out F34)
        have f34 := em34.trans (congrArg some (isE.out F34))
        clear ev34 em34 F34
        rw [if_pos (by rfl)]
        go_simp
        refine Calls.mono (impl_ScaleVector _ _ _ _ u) ?_
        rintro e u2 ⟨a0, a1, a2, rfl, _, r0, r1, r2, hb⟩
        exact hK _ _ (fact_stat _ _ _) (isV.mk ⟨r0, r1, r2⟩) (Jt.next hw (by decide) (hA.trans (hb.mono hA.size)))
      case r8 =>
        intro listed a u h hu hd K hK
        have hw := h.wait hu (T := 9) rfl (Array.mem_of_getElem? (i := 0) rfl) rfl rfl
        have hA := h.world.1 hw
        obtain ⟨v28, ev28, em28, F28⟩ := h.slot (i := 0) rfl rfl (hd _ (Array.mem_of_getElem? (i := 0) rfl) rfl)
        have e28 := ev28.trans (isE.out F28)
        have f28 := em28.trans (congrArg some (isE.out F28))
        clear ev28 em28 F28
        obtain ⟨v35, ev35, em35, F35⟩ := h.slot (i := 7) rfl rfl (hd _ (Array.mem_of_getElem? (i := 1) rfl) rfl)
        obtain ⟨x35, y35, z35, q35, s35⟩ := isV.out F35
        have e35 := ev35.trans q35
        have f35 := em35.trans (congrArg some q35)
        clear ev35 em35 F35
        rw [if_pos (by rfl)]
        go_simp
        refine Calls.mono (impl_AddVectors _ _ _ _ _ _ u) ?_
        rintro e u2 ⟨a0, a1, a2, rfl, _, r0, r1, r2, hb⟩
        exact hK _ _ (fact_stat _ _ _) (isV.mk ⟨r0.trans (fadd_sim HS.out.1 s35.1), r1.trans (fadd_sim HS.out.2.1 s35.2.1), r2.trans (fadd_sim HS.out.2.2 s35.2.2)⟩) (Jt.next hw (by decide) (hA.trans (hb.mono hA.size)))
      case r9 =>
        intro listed a u h hu hd K hK
        have hA := h.world.1 (getD_un hu)
        have e4 : a.tmps.getD 4 undef = .pointer (some ⟨w2.heap.size, 0, none⟩) := h.base (by kernel_rfl)
        have f4 : a.tmps[4]? = some (.pointer (some ⟨w2.heap.size, 0, none⟩)) := h.old (by kernel_rfl)
        obtain ⟨v36, ev36, em36, F36⟩ := h.slot (i := 8) rfl rfl (hd _ (Array.mem_of_getElem? (i := 0) rfl) rfl)
        obtain ⟨x36, y36, z36, q36, s36⟩ := isV.out F36
        have e36 := ev36.trans q36
        have f36 := em36.trans (congrArg some q36)
        clear ev36 em36 F36
        rw [if_pos (by rfl)]
        obtain ⟨g0, g1, g2, g3, g4, g5, g6, g7, g8⟩ := CS.out u hA
        go_simp
        exact hK undef _ (fact_stat _ _ _) trivial (Jt.last (un_lt hu) ⟨u, _, _, _, hA, s36, rfl⟩)
      case hend =>
        intro listed a u h hall
        have hB := h.world.2 (hall 9 (by decide))
        obtain ⟨v28, ev28, em28, F28⟩ := h.slot (i := 0) rfl rfl (hall 0 (by decide))
        have f28 := em28.trans (congrArg some (isE.out F28))
        clear ev28 em28 F28
        obtain ⟨v29, ev29, em29, F29⟩ := h.slot (i := 1) rfl rfl (hall 1 (by decide))
        have f29 := em29.trans (congrArg some (isE.out F29))
        clear ev29 em29 F29
        obtain ⟨v30, ev30, em30, F30⟩ := h.slot (i := 2) rfl rfl (hall 2 (by decide))
        have f30 := em30.trans (congrArg some (isE.out F30))
        clear ev30 em30 F30
        obtain ⟨v31, ev31, em31, F31⟩ := h.slot (i := 3) rfl rfl (hall 3 (by decide))
        have f31 := em31.trans (congrArg some (isE.out F31))
        clear ev31 em31 F31
        obtain ⟨v32, ev32, em32, F32⟩ := h.slot (i := 4) rfl rfl (hall 4 (by decide))
        have f32 := em32.trans (congrArg some (isE.out F32))
        clear ev32 em32 F32
        obtain ⟨v33, ev33, em33, F33⟩ := h.slot (i := 5) rfl rfl (hall 5 (by decide))
        have f33 := em33.trans (congrArg some (isE.out F33))
        clear ev33 em33 F33
        obtain ⟨v34, ev34, em34, F34⟩ := h.slot (i := 6) rfl rfl (hall 6 (by decide))
        have f34 := em34.trans (congrArg some (isE.out F34))
        clear ev34 em34 F34
        obtain ⟨v35, ev35, em35, F35⟩ := h.slot (i := 7) rfl rfl (hall 7 (by decide))
        obtain ⟨x35, y35, z35, q35, s35⟩ := isV.out F35
        have f35 := em35.trans (congrArg some q35)
        clear ev35 em35 F35
        obtain ⟨v36, ev36, em36, F36⟩ := h.slot (i := 8) rfl rfl (hall 8 (by decide))
        obtain ⟨x36, y36, z36, q36, s36⟩ := isV.out F36
        have f36 := em36.trans (congrArg some q36)
        clear ev36 em36 F36
        have ha := h.act [28, 29, 30, 31, 32, 33, 34, 35, 36] [_, _, _, _, _, _, _, _, _] (by kernel_rfl) ⟨f28, f29, f30, f31, f32, f33, f34, f35, f36, trivial⟩
        clear f28 f29 f30 f31 f32 f33 f34 f35 f36
        simp only [setAll, List.setIfInBounds_toArray, List.set_cons_zero, List.set_cons_succ] at ha
        subst ha
        clear h hall
        obtain ⟨W5, a0, a1, a2, hb5, hs5, rfl⟩ := hB
        have hb6 := hb5
        clear hb5
        go_wp2_with fail
        go_roundw
        case rel => exact ⟨k + 1, by omega, by go_num, ⟨a0, a1, a2, hs5, (TQ.out.go hb6).setAll _ _ _⟩, (PQ.out.go hb6).far3 (by omega) _ _ _, (VQ.out.go hb6).far3 (by omega) _ _ _, Tx.bel (below_step BQ.out hb6) (by omega) _ _ _⟩
        case measure => simp [intOf]; omega
    · have hke : k = n3 := by omega
      subst hke
      obtain ⟨t0, t1, t2, tf⟩ := hT.facts
      obtain ⟨v0, v1, v2, vf⟩ := hV.facts
      have lv := hV.lt
      have lt := hT.lt
      clear hT hP hV hB hs
      go_wp2_with fail
      refine (impl_ScaleVector _ _ _ _ _).mono ?_
      rintro e w3 ⟨a0, a1, a2, rfl, _, r0, r1, r2, hb3⟩
      have HV3 := Lib.hid ((HV.out.drewN _).go hb3)
      have HB3 := Lib.hid (below_step (below_dn HB.out _) hb3)
      clear hb3 v0 v1 v2 vf lv
      obtain ⟨v0, v1, v2, vf⟩ := HV3.out.facts
      have lv := HV3.out.lt
      have hR3 : SimP ⟨a0, a1, a2⟩ (pickV true (cenV D k)) := ⟨r0.trans (fmul_sim HS.out.1 (quo_sim (Sim.refl _ _) HR.out _ _)), r1.trans (fmul_sim HS.out.2.1 (quo_sim (Sim.refl _ _) HR.out _ _)), r2.trans (fmul_sim HS.out.2.2 (quo_sim (Sim.refl _ _) HR.out _ _))⟩
      clear r0 r1 r2
      go_wp2_with fail
      obtain ⟨r0, r1, r2, rf⟩ := (HV3.out.setAll (.float .f32 a0) (.float .f32 a1) (.float .f32 a2)).facts
      refine bodyPost_ret (v := .tuple #[.agg #[.float .f32 a0, .float .f32 a1, .float .f32 a2], .bool true]) (by simp [results, Try.results32, go_sem, r0, r1, r2]) rfl ?_
      rw [hg]
      exact ⟨a0, a1, a2, rfl, hR3, Tx.bel HB3.out (by omega) _ _ _⟩
theorem spec_CentreOfChain (A1 A2 A3 A4 : Option Addr) (c1 c2 c3 c4 n1 n2 n3 n4 B : Nat) (D : D4) (w : World) (h : Own w B A1 A2 A3 A4 c1 c2 c3 c4 n1 n2 n3 n4 D) :
    Calls Try.prog 31 #[.agg #[.slice A1 n1 c1, .slice A2 n2 c2, .slice A3 n3 c3, .slice A4 n4 c4]] w (RetVB (pickV (cenB n1 n2 n3 n4 D) (cenV D n1)) (cenB n1 n2 n3 n4 D) w) := by
  unfold cenB
  cases hz : okC n1 n2 n3 n4 D
  · exact spec_CentreOfChain_no A1 A2 A3 A4 c1 c2 c3 c4 n1 n2 n3 n4 B D w h hz
  · exact spec_CentreOfChain_ok A1 A2 A3 A4 c1 c2 c3 c4 n1 n2 n3 n4 B D w h hz
theorem impl_CentreOfChain (A1 A2 A3 A4 : Option Addr) (c1 c2 c3 c4 n1 n2 n3 n4 B : Nat) (D : D4) (w : World) (h : Own w B A1 A2 A3 A4 c1 c2 c3 c4 n1 n2 n3 n4 D) :
    Calls Try.prog 32 #[.agg #[.slice A1 n1 c1, .slice A2 n2 c2, .slice A3 n3 c3, .slice A4 n4 c4]] w (RetVB (pickV (cenB n1 n2 n3 n4 D) (cenV D n1)) (cenB n1 n2 n3 n4 D) w) := by
  unfold cenB
  cases hz : okC n1 n2 n3 n4 D
  · exact impl_CentreOfChain_no A1 A2 A3 A4 c1 c2 c3 c4 n1 n2 n3 n4 B D w h hz
  · exact impl_CentreOfChain_ok A1 A2 A3 A4 c1 c2 c3 c4 n1 n2 n3 n4 B D w h hz
end Go.Proofs.Ytlhgaihfghobmaa
