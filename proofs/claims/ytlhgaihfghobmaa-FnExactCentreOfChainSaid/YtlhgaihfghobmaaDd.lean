/- The centre of a chain, reference and program. -/
import Derived.Test.YtlhgaihfghobmaaDc
import Derived.Test.YtlhgaihfghobmaaSm
namespace Go.Proofs.Ytlhgaihfghobmaa
open Go.ChangeShapes Go.WideShapes Go.ChangeAt Go.RowKit Go.Deep

theorem In.le {w : World} {B sz n n' : Nat} {A : Option Addr} {f : Nat → Value} (h : In w B sz A n f) (hn : n' ≤ n) : In w B sz A n' f := fun hp => by
  obtain ⟨b, off, hA, hb, hc⟩ := h (by omega)
  exact ⟨b, off, hA, hb, fun j hj => hc j (Nat.lt_of_lt_of_le hj (Nat.mul_le_mul_right _ hn))⟩
theorem sumF_list (q : Nat → Nat) (n : Nat) : F.sum (flist n q) = sumF q n := by
  induction n with
  | zero => rfl
  | succ n ih =>
    have h1 := sum_step (xs := flist (n + 1) q) (k := n) (by rw [flist_length]; omega)
    rw [flist_nth q (Nat.lt_succ_self n), List.take_of_length_le (by rw [flist_length]; omega)] at h1
    have h2 : (flist (n + 1) q).take n = flist n q := by
      unfold flist
      rw [← List.map_take, List.range_succ, List.take_append_of_le_length (by simp), List.take_of_length_le (by simp)]
    rw [h1, h2, ih]
    rfl
def cenQ (D : D4) (k : Nat) : V3 := vmul (D.P k) (D.W k)
def cenV (D : D4) (n : Nat) : V3 := vmul (sumV (cenQ D) n) (F.quo 1065353216 (sumF D.W n))
def cenB (n1 n2 n3 n4 : Nat) (D : D4) : Bool := okC n1 n2 n3 n4 D && gtZ (sumF D.W n1)
theorem spec_CentreOfChain_no (A1 A2 A3 A4 : Option Addr) (c1 c2 c3 c4 n1 n2 n3 n4 B : Nat) (D : D4) (w : World) (h : Own w B A1 A2 A3 A4 c1 c2 c3 c4 n1 n2 n3 n4 D) (q1 : okC n1 n2 n3 n4 D = false) :
    Calls Try.prog 31 #[.agg #[.slice A1 n1 c1, .slice A2 n2 c2, .slice A3 n3 c3, .slice A4 n4 c4]] w (RetVB ⟨0, 0, 0⟩ false w) := by
  have H := Lib.hid h
  clear h
  go_enter Try.func31, Try.ntmps31
  go_wp2_with fail
  refine (spec_l03Is w.heap.size A1 A2 A3 A4 c1 c2 c3 c4 n1 n2 n3 n4 B D _ ((Bx.new_ _ _ _ _ _ _).alloc _) (H.out.go (by repeat' (first | with_reducible exact Below.refl _ _ | with_reducible assumption | with_reducible refine below_dn ?_ _ | with_reducible refine Below.drew ?_ | with_reducible refine below_step ?_ (by assumption) | with_reducible refine Below.setCell ?_ ?_ _ | with_reducible refine Below.alloc ?_ ?_ _ | with_reducible exact Nat.le_refl _ | (simp; done) | (simp; omega) | omega)))).mono ?_
  rintro e w1 ⟨rfl, hb1⟩
  have P1 := Lib.hid (((Bx.new_ w 32 (.slice A1 n1 c1) (.slice A2 n2 c2) (.slice A3 n3 c3) (.slice A4 n4 c4)).alloc _).go hb1)
  have V1 := Lib.hid ((Tx.new_ (w.alloc (.cells #[.slice A1 n1 c1, .slice A2 n2 c2, .slice A3 n3 c3, .slice A4 n4 c4] 32)) 38 (.float .f32 0) (.float .f32 0) (.float .f32 0)).go hb1)
  have B1 := Lib.hid (show Below w.heap.size w w1 from below_step (w := w) ((by repeat' (first | with_reducible exact Below.refl _ _ | with_reducible assumption | with_reducible refine below_dn ?_ _ | with_reducible refine Below.drew ?_ | with_reducible refine below_step ?_ (by assumption) | with_reducible refine Below.setCell ?_ ?_ _ | with_reducible refine Below.alloc ?_ ?_ _ | with_reducible exact Nat.le_refl _ | (simp; done) | (simp; omega) | omega))) hb1)
  have z6 : w.heap.size + 1 < w1.heap.size := by have := hb1.size; simp at this; omega
  have e1 : (w.alloc (.cells #[.slice A1 n1 c1, .slice A2 n2 c2, .slice A3 n3 c3, .slice A4 n4 c4] 32)).heap.size = w.heap.size + 1 := by simp
  rw [e1] at V1
  clear hb1 e1
  rw [q1]
  obtain ⟨v0, v1, v2, vf⟩ := V1.out.facts
  have lv := V1.out.lt
  go_wp2
  obtain ⟨r0, r1, r2, rf⟩ := (V1.out.setAll (.float .f32 0) (.float .f32 0) (.float .f32 0)).facts
  refine bodyPost_ret (v := .tuple #[.agg #[.float .f32 0, .float .f32 0, .float .f32 0], .bool false]) (by simp [results, Try.results31, go_sem, r0, r1, r2]) rfl ?_
  exact ⟨0, 0, 0, rfl, SimP.refl _, Tx.bel B1.out (by omega) _ _ _⟩
set_option maxHeartbeats 4000000 in
set_option maxRecDepth 100000 in
theorem spec_CentreOfChain_ok (A1 A2 A3 A4 : Option Addr) (c1 c2 c3 c4 n1 n2 n3 n4 B : Nat) (D : D4) (w : World) (h : Own w B A1 A2 A3 A4 c1 c2 c3 c4 n1 n2 n3 n4 D) (q1 : okC n1 n2 n3 n4 D = true) :
    Calls Try.prog 31 #[.agg #[.slice A1 n1 c1, .slice A2 n2 c2, .slice A3 n3 c3, .slice A4 n4 c4]] w (RetVB (pickV (gtZ (sumF D.W n1)) (cenV D n1)) (gtZ (sumF D.W n1)) w) := by
  have H := Lib.hid h
  obtain ⟨z1, rfl, rfl, z4⟩ := okC_sz q1
  clear h
  go_enter Try.func31, Try.ntmps31
  go_wp2_with fail
  refine (spec_l03Is w.heap.size A1 A2 A3 A4 c1 c2 c3 c4 n3 n3 n3 n4 B D _ ((Bx.new_ _ _ _ _ _ _).alloc _) (H.out.go (by repeat' (first | with_reducible exact Below.refl _ _ | with_reducible assumption | with_reducible refine below_dn ?_ _ | with_reducible refine Below.drew ?_ | with_reducible refine below_step ?_ (by assumption) | with_reducible refine Below.setCell ?_ ?_ _ | with_reducible refine Below.alloc ?_ ?_ _ | with_reducible exact Nat.le_refl _ | (simp; done) | (simp; omega) | omega)))).mono ?_
  rintro e w1 ⟨rfl, hb1⟩
  have P1 := Lib.hid (((Bx.new_ w 32 (.slice A1 n3 c1) (.slice A2 n3 c2) (.slice A3 n3 c3) (.slice A4 n4 c4)).alloc _).go hb1)
  have V1 := Lib.hid ((Tx.new_ (w.alloc (.cells #[.slice A1 n3 c1, .slice A2 n3 c2, .slice A3 n3 c3, .slice A4 n4 c4] 32)) 38 (.float .f32 0) (.float .f32 0) (.float .f32 0)).go hb1)
  have B1 := Lib.hid (show Below w.heap.size w w1 from below_step (w := w) ((by repeat' (first | with_reducible exact Below.refl _ _ | with_reducible assumption | with_reducible refine below_dn ?_ _ | with_reducible refine Below.drew ?_ | with_reducible refine below_step ?_ (by assumption) | with_reducible refine Below.setCell ?_ ?_ _ | with_reducible refine Below.alloc ?_ ?_ _ | with_reducible exact Nat.le_refl _ | (simp; done) | (simp; omega) | omega))) hb1)
  have z6 : w.heap.size + 1 < w1.heap.size := by have := hb1.size; simp at this; omega
  have e1 : (w.alloc (.cells #[.slice A1 n3 c1, .slice A2 n3 c2, .slice A3 n3 c3, .slice A4 n4 c4] 32)).heap.size = w.heap.size + 1 := by simp
  rw [e1] at V1
  clear hb1 e1
  rw [q1]
  obtain ⟨p0, p1, p2, p3, pf⟩ := P1.out.facts
  have lp := P1.out.lt
  go_wp2_with fail
  clear p0 p1 p2 p3 pf lp
  go_loopw [14, 5] (fun i s wr => ∃ k r : Nat, k ≤ n3 ∧ i = .int .i64 k ∧ s = .float .f32 r ∧ Sim .f32 r (sumF D.W k) ∧ (∃ x y z, SimP ⟨x, y, z⟩ (sumV (cenQ D) k) ∧ Tx wr w1.heap.size 38 (.float .f32 x) (.float .f32 y) (.float .f32 z)) ∧ Bx wr w.heap.size 32 (.slice A1 n3 c1) (.slice A2 n3 c2) (.slice A3 n3 c3) (.slice A4 n4 c4) ∧ Tx wr (w.heap.size + 1) 38 (.float .f32 0) (.float .f32 0) (.float .f32 0) ∧ Below w.heap.size w wr) (fun i _ _ => n3 - (intOf i).toNat)
  case atStart => exact ⟨0, 0, Nat.zero_le _, rfl, rfl, Sim.refl _ _, ⟨0, 0, 0, SimP.refl _, Tx.new_ w1 _ _ _ _⟩, P1.out.alloc _, V1.out.alloc _, Below.alloc B1.out (by omega) _⟩
  case round =>
    obtain ⟨k, r, hk, rfl, rfl, hr, ⟨x, y, z, hs, hT⟩, hP, hV, hB⟩ := hrel
    have HT := Lib.hid hT
    have HP := Lib.hid hP
    have HV := Lib.hid hV
    have HB := Lib.hid hB
    have HS := Lib.hid hs
    have HR := Lib.hid hr
    by_cases hlt : k < n3
    · obtain ⟨b1, off1, rfl, l1, d0, d1, d2⟩ := H.out.s1.in_.at3 hlt
      obtain ⟨b3, off3, rfl, l3, hc3⟩ := H.out.s3.in_ (by omega)
      have i0 := hc3 k (by omega)
      rw [vc0] at d0
      rw [vc1] at d1
      rw [vc2] at d2
      unfold fc at i0
      obtain ⟨p0, p1, p2, p3, pf⟩ := hP.facts
      obtain ⟨t0, t1, t2, tf⟩ := hT.facts
      have lp := hP.lt
      have lt := hT.lt
      have hk0 : (0 : Int) ≤ (k : Int) := by omega
      have hk1 : (k : Int) < (n3 : Int) := by omega
      have hzB := hB.size
      have m1 : b1 < wr.heap.size := by omega
      have m3 : b3 < wr.heap.size := by omega
      obtain ⟨bc, bf⟩ := bcell hB
      have hd0 := (bc _ _ l1).trans d0
      have hd1 := (bc _ _ l1).trans d1
      have hd2 := (bc _ _ l1).trans d2
      have hi0 := (bc _ _ l3).trans i0
      have CS := Lib.hid (fun (W : World) (hW : Below wr.heap.size wr W) => (show W.cell? ⟨w.heap.size, 0, none⟩ = some (.slice (some ⟨b1, off1, none⟩) n3 c1) ∧ W.cell? ⟨w.heap.size, 2, none⟩ = some (.slice (some ⟨b3, off3, none⟩) n3 c3) ∧ W.cell? ⟨b1, off1 + k * 3, none⟩ = some (.float .f32 (D.P k).x) ∧ W.cell? ⟨b1, off1 + k * 3 + 1, none⟩ = some (.float .f32 (D.P k).y) ∧ W.cell? ⟨b1, off1 + k * 3 + 2, none⟩ = some (.float .f32 (D.P k).z) ∧ W.cell? ⟨b3, off3 + k, none⟩ = some (.float .f32 (D.W k)) ∧ W.cell? ⟨w1.heap.size, 0, none⟩ = some (.float .f32 x) ∧ W.cell? ⟨w1.heap.size, 1, none⟩ = some (.float .f32 y) ∧ W.cell? ⟨w1.heap.size, 2, none⟩ = some (.float .f32 z) ∧ (∀ j, W.frozen? ⟨w1.heap.size, j, none⟩ = false) from ⟨((bcell hW).1 _ _ lp).trans p0, ((bcell hW).1 _ _ lp).trans p2, ((bcell hW).1 _ _ m1).trans hd0, ((bcell hW).1 _ _ m1).trans hd1, ((bcell hW).1 _ _ m1).trans hd2, ((bcell hW).1 _ _ m3).trans hi0, ((bcell hW).1 _ _ lt).trans t0, ((bcell hW).1 _ _ lt).trans t1, ((bcell hW).1 _ _ lt).trans t2, fun j => ((bcell hW).2 _ _ lt).trans (tf j)⟩))
      have hw0 : Below wr.heap.size wr wr.drew := (Below.refl _ _).drew
      have hc3s : ∀ j, j < n3 → w.cell? ⟨b3, off3 + j, none⟩ = some (.float .f32 (D.W j)) := fun j hj => hc3 j (by omega)
      clear hT hP hV hB hs hr hc3 bc bf d0 d1 d2 i0 hzB
      go_upto_region 8 with fail
      refine region_inv (stat [isE (.agg #[.float .f32 x, .float .f32 y, .float .f32 z]), isE (.pointer (some ⟨w.heap.size, 0, none⟩)), isE (.slice (some ⟨b1, off1, none⟩) n3 c1), isE (.int .i64 (k : Int)), isE (.pointer (some ⟨b1, off1 + k * 3, none⟩)), isE (.agg #[.float .f32 (D.P k).x, .float .f32 (D.P k).y, .float .f32 (D.P k).z]), isE (.pointer (some ⟨w.heap.size, 2, none⟩)), isE (.slice (some ⟨b3, off3, none⟩) n3 c3), isE (.int .i64 (k : Int)), isE (.pointer (some ⟨b3, off3 + k, none⟩)), isE (.float .f32 (D.W k)), isV (cenQ D k), isV (sumV (cenQ D) (k + 1)), fun _ => True]) (Jt 13 (fun W => Below wr.heap.size wr W) (fun W => ∃ W5 a0 a1 a2, Below wr.heap.size wr W5 ∧ SimP ⟨a0, a1, a2⟩ (sumV (cenQ D) (k + 1)) ∧ W = (((W5.setCell ⟨w1.heap.size, 0, none⟩ (.float .f32 a0)).setCell ⟨w1.heap.size, 1, none⟩ (.float .f32 a1)).setCell ⟨w1.heap.size, 2, none⟩ (.float .f32 a2)))) (by kernel_rfl) (by kernel_rfl) (by kernel_rfl) (Jt.first (hw0)) ⟨?r0, ?r1, ?r2, ?r3, ?r4, ?r5, ?r6, ?r7, ?r8, ?r9, ?r10, ?r11, ?r12, ?r13, trivial⟩ ?hend
      case r0 =>
        intro listed a u h hu hd K hK
        have hw := h.wait hu (T := 13) rfl (Array.mem_of_getElem? (i := 2) rfl) rfl rfl
        have hA := h.world.1 hw
        have e4 : a.tmps.getD 4 undef = .pointer (some ⟨w1.heap.size, 0, none⟩) := h.base (by kernel_rfl)
        have f4 : a.tmps[4]? = some (.pointer (some ⟨w1.heap.size, 0, none⟩)) := h.old (by kernel_rfl)
        rw [if_pos (by rfl)]
        obtain ⟨g0, g1, g2, g3, g4, g5, g6, g7, g8, g9⟩ := CS.out u hA
        go_simp
        exact hK _ _ (fact_stat _ _ _) (isE.mk rfl) (Jt.next hw (by decide) hA)
      case r1 =>
        intro listed a u h hu hd K hK
        have hw := h.wait hu (T := 13) rfl (Array.mem_of_getElem? (i := 3) rfl) rfl rfl
        have hA := h.world.1 hw
        have e1 : a.tmps.getD 1 undef = .pointer (some ⟨w.heap.size, 0, none⟩) := h.base (by kernel_rfl)
        have f1 : a.tmps[1]? = some (.pointer (some ⟨w.heap.size, 0, none⟩)) := h.old (by kernel_rfl)
        rw [if_pos (by rfl)]
        go_simp
        exact hK _ _ (fact_stat _ _ _) (isE.mk rfl) (Jt.next hw (by decide) hA)
      case r2 =>
        intro listed a u h hu hd K hK
        have hw := h.wait hu (T := 13) rfl (Array.mem_of_getElem? (i := 4) rfl) rfl rfl
        have hA := h.world.1 hw
        obtain ⟨v18, ev18, em18, F18⟩ := h.slot (i := 1) rfl rfl (hd _ (Array.mem_of_getElem? (i := 0) rfl) rfl)
        have e18 := ev18.trans (isE.out F18)
        have f18 := em18.trans (congrArg some (isE.out F18))
        clear ev18 em18 F18
        rw [if_pos (by rfl)]
        obtain ⟨g0, g1, g2, g3, g4, g5, g6, g7, g8, g9⟩ := CS.out u hA
        go_simp
        exact hK _ _ (fact_stat _ _ _) (isE.mk rfl) (Jt.next hw (by decide) hA)
      case r3 =>
        intro listed a u h hu hd K hK
        have hw := h.wait hu (T := 13) rfl (Array.mem_of_getElem? (i := 5) rfl) rfl rfl
        have hA := h.world.1 hw
        have e6 : a.tmps.getD 6 undef = .int .i64 (k : Int) := h.base (by kernel_rfl)
        have f6 : a.tmps[6]? = some (.int .i64 (k : Int)) := h.old (by kernel_rfl)
        rw [if_pos (by rfl)]
        go_simp
        exact hK _ _ (fact_stat _ _ _) (isE.mk rfl) (Jt.next hw (by decide) hA)
      case r4 =>
        intro listed a u h hu hd K hK
        have hw := h.wait hu (T := 13) rfl (Array.mem_of_getElem? (i := 6) rfl) rfl rfl
        have hA := h.world.1 hw
        obtain ⟨v19, ev19, em19, F19⟩ := h.slot (i := 2) rfl rfl (hd _ (Array.mem_of_getElem? (i := 0) rfl) rfl)
        have e19 := ev19.trans (isE.out F19)
        have f19 := em19.trans (congrArg some (isE.out F19))
        clear ev19 em19 F19
        obtain ⟨v20, ev20, em20, F20⟩ := h.slot (i := 3) rfl rfl (hd _ (Array.mem_of_getElem? (i := 1) rfl) rfl)
        have e20 := ev20.trans (isE.out F20)
        have f20 := em20.trans (congrArg some (isE.out F20))
        clear ev20 em20 F20
        rw [if_pos (by rfl)]
        go_simp
        exact hK _ _ (fact_stat _ _ _) (isE.mk rfl) (Jt.next hw (by decide) hA)
      case r5 =>
        intro listed a u h hu hd K hK
        have hw := h.wait hu (T := 13) rfl (Array.mem_of_getElem? (i := 7) rfl) rfl rfl
        have hA := h.world.1 hw
        obtain ⟨v21, ev21, em21, F21⟩ := h.slot (i := 4) rfl rfl (hd _ (Array.mem_of_getElem? (i := 0) rfl) rfl)
        have e21 := ev21.trans (isE.out F21)
        have f21 := em21.trans (congrArg some (isE.out F21))
        clear ev21 em21 F21
        rw [if_pos (by rfl)]
        obtain ⟨g0, g1, g2, g3, g4, g5, g6, g7, g8, g9⟩ := CS.out u hA
        go_simp
        exact hK _ _ (fact_stat _ _ _) (isE.mk rfl) (Jt.next hw (by decide) hA)
      case r6 =>
        intro listed a u h hu hd K hK
        have hw := h.wait hu (T := 13) rfl (Array.mem_of_getElem? (i := 8) rfl) rfl rfl
        have hA := h.world.1 hw
        have e1 : a.tmps.getD 1 undef = .pointer (some ⟨w.heap.size, 0, none⟩) := h.base (by kernel_rfl)
        have f1 : a.tmps[1]? = some (.pointer (some ⟨w.heap.size, 0, none⟩)) := h.old (by kernel_rfl)
        rw [if_pos (by rfl)]
        go_simp
        exact hK _ _ (fact_stat _ _ _) (isE.mk rfl) (Jt.next hw (by decide) hA)
      case r7 =>
        intro listed a u h hu hd K hK
        have hw := h.wait hu (T := 13) rfl (Array.mem_of_getElem? (i := 9) rfl) rfl rfl
        have hA := h.world.1 hw
        obtain ⟨v23, ev23, em23, F23⟩ := h.slot (i := 6) rfl rfl (hd _ (Array.mem_of_getElem? (i := 0) rfl) rfl)
        have e23 := ev23.trans (isE.out F23)
        have f23 := em23.trans (congrArg some (isE.out F23))
        clear ev23 em23 F23
        rw [if_pos (by rfl)]
        obtain ⟨g0, g1, g2, g3, g4, g5, g6, g7, g8, g9⟩ := CS.out u hA
        go_simp
        exact hK _ _ (fact_stat _ _ _) (isE.mk rfl) (Jt.next hw (by decide) hA)
      case r8 =>
        intro listed a u h hu hd K hK
        have hw := h.wait hu (T := 13) rfl (Array.mem_of_getElem? (i := 10) rfl) rfl rfl
        have hA := h.world.1 hw
        have e6 : a.tmps.getD 6 undef = .int .i64 (k : Int) := h.base (by kernel_rfl)
        have f6 : a.tmps[6]? = some (.int .i64 (k : Int)) := h.old (by kernel_rfl)
        rw [if_pos (by rfl)]
        go_simp
        exact hK _ _ (fact_stat _ _ _) (isE.mk rfl) (Jt.next hw (by decide) hA)
      case r9 =>
        intro listed a u h hu hd K hK
        have hw := h.wait hu (T := 13) rfl (Array.mem_of_getElem? (i := 11) rfl) rfl rfl
        have hA := h.world.1 hw
        obtain ⟨v24, ev24, em24, F24⟩ := h.slot (i := 7) rfl rfl (hd _ (Array.mem_of_getElem? (i := 0) rfl) rfl)
        have e24 := ev24.trans (isE.out F24)
        have f24 := em24.trans (congrArg some (isE.out F24))
        clear ev24 em24 F24
        obtain ⟨v25, ev25, em25, F25⟩ := h.slot (i := 8) rfl rfl (hd _ (Array.mem_of_getElem? (i := 1) rfl) rfl)
        have e25 := ev25.trans (isE.out F25)
        have f25 := em25.trans (congrArg some (isE.out F25))
        clear ev25 em25 F25
        rw [if_pos (by rfl)]
        go_simp
        exact hK _ _ (fact_stat _ _ _) (isE.mk rfl) (Jt.next hw (by decide) hA)
      case r10 =>
        intro listed a u h hu hd K hK
        have hw := h.wait hu (T := 13) rfl (Array.mem_of_getElem? (i := 12) rfl) rfl rfl
        have hA := h.world.1 hw
        obtain ⟨v26, ev26, em26, F26⟩ := h.slot (i := 9) rfl rfl (hd _ (Array.mem_of_getElem? (i := 0) rfl) rfl)
        have e26 := ev26.trans (isE.out F26)
        have f26 := em26.trans (congrArg some (isE.out F26))
        clear ev26 em26 F26
        rw [if_pos (by rfl)]
        obtain ⟨g0, g1, g2, g3, g4, g5, g6, g7, g8, g9⟩ := CS.out u hA
        go_simp
        exact hK _ _ (fact_stat _ _ _) (isE.mk rfl) (Jt.next hw (by decide) hA)
      case r11 =>
        intro listed a u h hu hd K hK
        have hw := h.wait hu (T := 13) rfl (Array.mem_of_getElem? (i := 13) rfl) rfl rfl
        have hA := h.world.1 hw
        obtain ⟨v22, ev22, em22, F22⟩ := h.slot (i := 5) rfl rfl (hd _ (Array.mem_of_getElem? (i := 0) rfl) rfl)
        have e22 := ev22.trans (isE.out F22)
        have f22 := em22.trans (congrArg some (isE.out F22))
        clear ev22 em22 F22
        obtain ⟨v27, ev27, em27, F27⟩ := h.slot (i := 10) rfl rfl (hd _ (Array.mem_of_getElem? (i := 1) rfl) rfl)
        have e27 := ev27.trans (isE.out F27)
        have f27 := em27.trans (congrArg some (isE.out F27))
        clear ev27 em27 F27
        rw [if_pos (by rfl)]
        go_simp
        refine Calls.mono (spec_l01Scale _ _ _ _ u) ?_
        rintro e u2 ⟨a0, a1, a2, rfl, _, r0, r1, r2, hb⟩
        exact hK _ _ (fact_stat _ _ _) (isV.mk ⟨r0, r1, r2⟩) (Jt.next hw (by decide) (hA.trans (hb.mono hA.size)))
      case r12 =>
        intro listed a u h hu hd K hK
        have hw := h.wait hu (T := 13) rfl (Array.mem_of_getElem? (i := 0) rfl) rfl rfl
        have hA := h.world.1 hw
        obtain ⟨v17, ev17, em17, F17⟩ := h.slot (i := 0) rfl rfl (hd _ (Array.mem_of_getElem? (i := 0) rfl) rfl)
        have e17 := ev17.trans (isE.out F17)
        have f17 := em17.trans (congrArg some (isE.out F17))
        clear ev17 em17 F17
        obtain ⟨v28, ev28, em28, F28⟩ := h.slot (i := 11) rfl rfl (hd _ (Array.mem_of_getElem? (i := 1) rfl) rfl)
        obtain ⟨x28, y28, z28, q28, s28⟩ := isV.out F28
        have e28 := ev28.trans q28
        have f28 := em28.trans (congrArg some q28)
        clear ev28 em28 F28
        rw [if_pos (by rfl)]
        go_simp
        refine Calls.mono (spec_l01Add _ _ _ _ _ _ u) ?_
        rintro e u2 ⟨a0, a1, a2, rfl, _, r0, r1, r2, hb⟩
        exact hK _ _ (fact_stat _ _ _) (isV.mk ⟨r0.trans (fadd_sim HS.out.1 s28.1), r1.trans (fadd_sim HS.out.2.1 s28.2.1), r2.trans (fadd_sim HS.out.2.2 s28.2.2)⟩) (Jt.next hw (by decide) (hA.trans (hb.mono hA.size)))
      case r13 =>
        intro listed a u h hu hd K hK
        have hA := h.world.1 (getD_un hu)
        have e4 : a.tmps.getD 4 undef = .pointer (some ⟨w1.heap.size, 0, none⟩) := h.base (by kernel_rfl)
        have f4 : a.tmps[4]? = some (.pointer (some ⟨w1.heap.size, 0, none⟩)) := h.old (by kernel_rfl)
        obtain ⟨v29, ev29, em29, F29⟩ := h.slot (i := 12) rfl rfl (hd _ (Array.mem_of_getElem? (i := 0) rfl) rfl)
        obtain ⟨x29, y29, z29, q29, s29⟩ := isV.out F29
        have e29 := ev29.trans q29
        have f29 := em29.trans (congrArg some q29)
        clear ev29 em29 F29
        rw [if_pos (by rfl)]
        obtain ⟨g0, g1, g2, g3, g4, g5, g6, g7, g8, g9⟩ := CS.out u hA
        go_simp
        exact hK undef _ (fact_stat _ _ _) trivial (Jt.last (un_lt hu) ⟨u, _, _, _, hA, s29, rfl⟩)
      case hend =>
        intro listed a u h hall
        have hB := h.world.2 (hall 13 (by decide))
        obtain ⟨v17, ev17, em17, F17⟩ := h.slot (i := 0) rfl rfl (hall 0 (by decide))
        have f17 := em17.trans (congrArg some (isE.out F17))
        clear ev17 em17 F17
        obtain ⟨v18, ev18, em18, F18⟩ := h.slot (i := 1) rfl rfl (hall 1 (by decide))
        have f18 := em18.trans (congrArg some (isE.out F18))
        clear ev18 em18 F18
        obtain ⟨v19, ev19, em19, F19⟩ := h.slot (i := 2) rfl rfl (hall 2 (by decide))
        have f19 := em19.trans (congrArg some (isE.out F19))
        clear ev19 em19 F19
        obtain ⟨v20, ev20, em20, F20⟩ := h.slot (i := 3) rfl rfl (hall 3 (by decide))
        have f20 := em20.trans (congrArg some (isE.out F20))
        clear ev20 em20 F20
        obtain ⟨v21, ev21, em21, F21⟩ := h.slot (i := 4) rfl rfl (hall 4 (by decide))
        have f21 := em21.trans (congrArg some (isE.out F21))
        clear ev21 em21 F21
        obtain ⟨v22, ev22, em22, F22⟩ := h.slot (i := 5) rfl rfl (hall 5 (by decide))
        have f22 := em22.trans (congrArg some (isE.out F22))
        clear ev22 em22 F22
        obtain ⟨v23, ev23, em23, F23⟩ := h.slot (i := 6) rfl rfl (hall 6 (by decide))
        have f23 := em23.trans (congrArg some (isE.out F23))
        clear ev23 em23 F23
        obtain ⟨v24, ev24, em24, F24⟩ := h.slot (i := 7) rfl rfl (hall 7 (by decide))
        have f24 := em24.trans (congrArg some (isE.out F24))
        clear ev24 em24 F24
        obtain ⟨v25, ev25, em25, F25⟩ := h.slot (i := 8) rfl rfl (hall 8 (by decide))
        have f25 := em25.trans (congrArg some (isE.out F25))
        clear ev25 em25 F25
        obtain ⟨v26, ev26, em26, F26⟩ := h.slot (i := 9) rfl rfl (hall 9 (by decide))
        have f26 := em26.trans (congrArg some (isE.out F26))
        clear ev26 em26 F26
        obtain ⟨v27, ev27, em27, F27⟩ := h.slot (i := 10) rfl rfl (hall 10 (by decide))
        have f27 := em27.trans (congrArg some (isE.out F27))
        clear ev27 em27 F27
        obtain ⟨v28, ev28, em28, F28⟩ := h.slot (i := 11) rfl rfl (hall 11 (by decide))
        obtain ⟨x28, y28, z28, q28, s28⟩ := isV.out F28
        have f28 := em28.trans (congrArg some q28)
        clear ev28 em28 F28
        obtain ⟨v29, ev29, em29, F29⟩ := h.slot (i := 12) rfl rfl (hall 12 (by decide))
        obtain ⟨x29, y29, z29, q29, s29⟩ := isV.out F29
        have f29 := em29.trans (congrArg some q29)
        clear ev29 em29 F29
        have ha := h.act [17, 18, 19, 20, 21, 22, 23, 24, 25, 26, 27, 28, 29] [_, _, _, _, _, _, _, _, _, _, _, _, _] (by kernel_rfl) ⟨f17, f18, f19, f20, f21, f22, f23, f24, f25, f26, f27, f28, f29, trivial⟩
        clear f17 f18 f19 f20 f21 f22 f23 f24 f25 f26 f27 f28 f29
        simp only [setAll, List.setIfInBounds_toArray, List.set_cons_zero, List.set_cons_succ] at ha
        subst ha
        clear h hall
        obtain ⟨W5, a0, a1, a2, hb5, hs5, rfl⟩ := hB
        have HP5 := Lib.hid ((HP.out.go hb5).far3 (b := w1.heap.size) (by omega) (.float .f32 a0) (.float .f32 a1) (.float .f32 a2))
        have HV5 := Lib.hid ((HV.out.go hb5).far3 (b := w1.heap.size) (by omega) (.float .f32 a0) (.float .f32 a1) (.float .f32 a2))
        have HT5 := Lib.hid ((HT.out.go hb5).setAll (.float .f32 a0) (.float .f32 a1) (.float .f32 a2))
        have HB5 := Lib.hid (Tx.bel (below_step HB.out hb5) (show w.heap.size ≤ w1.heap.size by omega) (.float .f32 a0) (.float .f32 a1) (.float .f32 a2))
        obtain ⟨W6, hW6⟩ : ∃ W6, W6 = (((W5.setCell ⟨w1.heap.size, 0, none⟩ (.float .f32 a0)).setCell ⟨w1.heap.size, 1, none⟩ (.float .f32 a1)).setCell ⟨w1.heap.size, 2, none⟩ (.float .f32 a2)) := ⟨_, rfl⟩
        rw [← hW6] at HP5 HV5 HT5 HB5 ⊢
        clear hW6
        have c6 : W6.cell? ⟨w.heap.size, 2, none⟩ = some (.slice (some ⟨b3, off3, none⟩) n3 c3) := HP5.out.c2
        have c7 : W6.cell? ⟨b3, off3 + k, none⟩ = some (.float .f32 (D.W k)) := ((bcell HB5.out).1 _ _ l3).trans (hc3s k (by omega))
        go_wp2_with fail
        go_roundw
        case rel => exact ⟨k + 1, _, by omega, by go_num, rfl, add_sim HR.out (Sim.refl _ _) _ _, ⟨a0, a1, a2, hs5, HT5.out.drewN _⟩, HP5.out.drewN _, HV5.out.drewN _, below_dn HB5.out _⟩
        case measure => simp [intOf]; omega
    · have hke : k = n3 := by omega
      subst hke
      obtain ⟨t0, t1, t2, tf⟩ := hT.facts
      obtain ⟨v0, v1, v2, vf⟩ := hV.facts
      have lv := hV.lt
      have lt := hT.lt
      clear hT hP hV hB hs hr
      cases hg : gtZ (sumF D.W k)
      · have hg2 : (FloatKind.f32.format.order r 0 == some .gt) = false := (gtZ_sim HR.out).trans hg
        go_wp2_with fail
        obtain ⟨r0, r1, r2, rf⟩ := (HV.out.setAll (.float .f32 0) (.float .f32 0) (.float .f32 0)).facts
        refine bodyPost_ret (v := .tuple #[.agg #[.float .f32 0, .float .f32 0, .float .f32 0], .bool false]) (by simp [results, Try.results31, go_sem, r0, r1, r2]) rfl ?_
        rw [hg]
        exact ⟨0, 0, 0, rfl, SimP.refl _, Tx.bel HB.out (by omega) _ _ _⟩
      · have hg2 : (FloatKind.f32.format.order r 0 == some .gt) = true := (gtZ_sim HR.out).trans hg
        go_wp2_with fail
        refine (spec_l01Scale _ _ _ _ _).mono ?_
        rintro e w3 ⟨a0, a1, a2, rfl, _, r0, r1, r2, hb3⟩
        have HV3 := Lib.hid ((HV.out.drewN _).go hb3)
        have HB3 := Lib.hid (below_step (below_dn HB.out _) hb3)
        clear hb3 v0 v1 v2 vf
        obtain ⟨v0, v1, v2, vf⟩ := HV3.out.facts
        have lv := HV3.out.lt
        have hR3 : SimP ⟨a0, a1, a2⟩ (pickV true (cenV D k)) := ⟨r0.trans (fmul_sim HS.out.1 (quo_sim (Sim.refl _ _) HR.out _ _)), r1.trans (fmul_sim HS.out.2.1 (quo_sim (Sim.refl _ _) HR.out _ _)), r2.trans (fmul_sim HS.out.2.2 (quo_sim (Sim.refl _ _) HR.out _ _))⟩
        clear r0 r1 r2
        go_wp2_with fail
        obtain ⟨r0, r1, r2, rf⟩ := (HV3.out.setAll (.float .f32 a0) (.float .f32 a1) (.float .f32 a2)).facts
        refine bodyPost_ret (v := .tuple #[.agg #[.float .f32 a0, .float .f32 a1, .float .f32 a2], .bool true]) (by simp [results, Try.results31, go_sem, r0, r1, r2]) rfl ?_
        rw [hg]
        exact ⟨a0, a1, a2, rfl, hR3, Tx.bel HB3.out (by omega) _ _ _⟩
end Go.Proofs.Ytlhgaihfghobmaa
