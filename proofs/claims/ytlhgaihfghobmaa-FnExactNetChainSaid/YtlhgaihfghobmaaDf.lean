/- How long a rod is: contracts, reference and program. -/
import Derived.Test.YtlhgaihfghobmaaDa
import Derived.Test.YtlhgaihfghobmaaW6
namespace Go.Proofs.Ytlhgaihfghobmaa
open Go.ChangeShapes Go.WideShapes Go.ChangeAt Go.RowKit Go.Deep

theorem long_sim' (a b c : Nat) (T : Nat → Question → Nat) (n1 n2 n3 n4 n5 : Nat) (T1 : Nat → Question → Nat) (m1 : Nat) (T2 : Nat → Question → Nat) (m2 : Nat) (T3 : Nat → Question → Nat) (m3 : Nat) :
    Sim .f32 (cvV .f64 .f32 (sqV (cvV .f32 .f64 (opV .add .f32 (opV .add .f32 (opV .mul .f32 a a T n1) (opV .mul .f32 b b T n2) T n3) (opV .mul .f32 c c T n4) T n5) T1 m1) T2 m2) T3 m3) (F.root (F.inner a b c a b c)) :=
  root_sim (add_sim (add_sim (mul_sim (Sim.refl _ _) (Sim.refl _ _) _ _) (mul_sim (Sim.refl _ _) (Sim.refl _ _) _ _) _ _) (mul_sim (Sim.refl _ _) (Sim.refl _ _) _ _) _ _) _ _ _ _ _ _
def vlen (p : V3) : Nat := F.root (F.inner p.x p.y p.z p.x p.y p.z)
theorem spec_l01Long (a b c : Nat) (w : World) : Calls Try.prog 163 #[.agg #[.float .f32 a, .float .f32 b, .float .f32 c]] w (RetF .f32 (vlen ⟨a, b, c⟩) w) := by
  show Calls _ _ _ _ (RetF .f32 (F.root (F.inner a b c a b c)) w)
  go_enter Try.func163, Try.ntmps163
  go_wp2
  go_ret
  exact ⟨_, rfl, cvV_lt32 _ _ _ _, long_sim' a b c _ _ _ _ _ _ _ _ _ _ _ _, (by repeat' (first | with_reducible exact Below.refl _ _ | with_reducible assumption | with_reducible refine below_dn ?_ _ | with_reducible refine Below.drew ?_ | with_reducible refine below_step ?_ (by assumption) | with_reducible refine Below.setCell ?_ ?_ _ | with_reducible refine Below.alloc ?_ ?_ _ | with_reducible exact Nat.le_refl _ | (simp; done) | (simp; omega) | omega))⟩
theorem impl_LongOf' (a b c : Nat) (w : World) : Calls Try.prog 164 #[.agg #[.float .f32 a, .float .f32 b, .float .f32 c]] w (RetF .f32 (vlen ⟨a, b, c⟩) w) := by
  show Calls _ _ _ _ (RetF .f32 (F.root (F.inner a b c a b c)) w)
  go_enter Try.func164, Try.ntmps164
  go_wp2
  go_ret
  exact ⟨_, rfl, cvV_lt32 _ _ _ _, long_sim' a b c _ _ _ _ _ _ _ _ _ _ _ _, (by repeat' (first | with_reducible exact Below.refl _ _ | with_reducible assumption | with_reducible refine below_dn ?_ _ | with_reducible refine Below.drew ?_ | with_reducible refine below_step ?_ (by assumption) | with_reducible refine Below.setCell ?_ ?_ _ | with_reducible refine Below.alloc ?_ ?_ _ | with_reducible exact Nat.le_refl _ | (simp; done) | (simp; omega) | omega))⟩
theorem inner_sim' {a b c d e f a' b' c' d' e' f' : Nat} (h1 : Sim .f32 a a') (h2 : Sim .f32 b b') (h3 : Sim .f32 c c') (h4 : Sim .f32 d d') (h5 : Sim .f32 e e') (h6 : Sim .f32 f f') : Sim .f32 (F.inner a b c d e f) (F.inner a' b' c' d' e' f') :=
  fadd_sim (fadd_sim (fmul_sim h1 h4) (fmul_sim h2 h5)) (fmul_sim h3 h6)
theorem froot_sim {x y : Nat} (h : Sim .f32 x y) : Sim .f32 (F.root x) (F.root y) := root_sim h _ _ _ _ _ _
theorem vlen_sim {p q : V3} (h : SimP p q) : Sim .f32 (vlen p) (vlen q) := froot_sim (inner_sim' h.1 h.2.1 h.2.2 h.1 h.2.1 h.2.2)
def rodL (D : D4) (r : Rd) : Nat := vlen (vsub (D.P r.b.toNat) (D.P r.a.toNat))
set_option maxHeartbeats 4000000 in
set_option maxRecDepth 100000 in
theorem spec_l03Long (ca : Nat) (A1 A2 A3 A4 : Option Addr) (c1 c2 c3 c4 n1 n2 n3 n4 B : Nat) (D : D4) (i : Nat) (hi : i < n4) (ra : 0 ≤ (D.R i).a ∧ (D.R i).a < n1) (rb : 0 ≤ (D.R i).b ∧ (D.R i).b < n1) (w : World) (hp : Bx w ca 32 (.slice A1 n1 c1) (.slice A2 n2 c2) (.slice A3 n3 c3) (.slice A4 n4 c4)) (h : Own w B A1 A2 A3 A4 c1 c2 c3 c4 n1 n2 n3 n4 D) :
    Calls Try.prog 117 #[.pointer (some ⟨ca, 0, none⟩), .int .i64 (i : Int)] w (RetF .f32 (rodL D (D.R i)) w) := by
  have HP := Lib.hid hp
  obtain ⟨pa, hpa⟩ : ∃ pa : Nat, (D.R i).a = (pa : Int) := ⟨(D.R i).a.toNat, by omega⟩
  obtain ⟨pb, hpb⟩ : ∃ pb : Nat, (D.R i).b = (pb : Int) := ⟨(D.R i).b.toNat, by omega⟩
  obtain ⟨b1, off1, rfl, l1, d0, d1, d2⟩ := h.s1.in_.at3 (k := pa) (by omega)
  obtain ⟨b1', off1', hbo, _, e0, e1, e2⟩ := h.s1.in_.at3 (k := pb) (by omega)
  cases hbo
  rw [vc0] at d0 e0
  rw [vc1] at d1 e1
  rw [vc2] at d2 e2
  have ka0 : (0 : Int) ≤ (pa : Int) := by omega
  have ka1 : (pa : Int) < (n1 : Int) := by omega
  have kb0 : (0 : Int) ≤ (pb : Int) := by omega
  have kb1 : (pb : Int) < (n1 : Int) := by omega
  obtain ⟨b4, off4, rfl, l4, i0, i1, i2⟩ := h.s4.in_.at3 (k := i) hi
  rw [rc0] at i0
  rw [rc1] at i1
  rw [rc2] at i2
  have ki0 : (0 : Int) ≤ (i : Int) := by omega
  have ki1 : (i : Int) < (n4 : Int) := by omega
  rw [hpa] at i0
  rw [hpb] at i1
  obtain ⟨p0, p1, p2, p3, pf⟩ := hp.facts
  have lp := hp.lt
  have HL : rodL D (D.R i) = vlen (vsub (D.P pb) (D.P pa)) := by unfold rodL; rw [hpa, hpb]; simp
  rw [HL]
  clear hp h HL
  go_enter Try.func117, Try.ntmps117
  go_upto_region 2 with fail
  obtain ⟨wq, hwq⟩ : ∃ wq : World, wq = w.alloc (.cells #[.int .i64 (pa : Int), .int .i64 (pb : Int), .float .f32 (D.R i).l] 91) := ⟨_, rfl⟩
  have hX : Tx wq w.heap.size 91 (.int .i64 (pa : Int)) (.int .i64 (pb : Int)) (.float .f32 (D.R i).l) := by rw [hwq]; exact Tx.new_ _ _ _ _ _
  have hBq : Below w.heap.size w wq := by rw [hwq]; exact Below.alloc (Below.refl _ _) (Nat.le_refl _) _
  rw [← hwq]
  clear hwq
  obtain ⟨bq, bqf⟩ := bcell hBq
  have hzq := hBq.size
  have qlp : ca < wq.heap.size := by omega
  have ql1 : b1 < wq.heap.size := by omega
  have x0 := hX.c0
  have x1 := hX.c1
  have lx := hX.lt
  have qp0 := (bq _ _ lp).trans p0
  have qd0 := (bq _ _ l1).trans d0
  have qd1 := (bq _ _ l1).trans d1
  have qd2 := (bq _ _ l1).trans d2
  have qe0 := (bq _ _ l1).trans e0
  have qe1 := (bq _ _ l1).trans e1
  have qe2 := (bq _ _ l1).trans e2
  have CS := Lib.hid (fun (W : World) (hW : Below wq.heap.size wq W) => (show W.cell? ⟨ca, 0, none⟩ = some (.slice (some ⟨b1, off1, none⟩) n1 c1) ∧ W.cell? ⟨b1, off1 + pa * 3, none⟩ = some (.float .f32 (D.P pa).x) ∧ W.cell? ⟨b1, off1 + pa * 3 + 1, none⟩ = some (.float .f32 (D.P pa).y) ∧ W.cell? ⟨b1, off1 + pa * 3 + 2, none⟩ = some (.float .f32 (D.P pa).z) ∧ W.cell? ⟨b1, off1 + pb * 3, none⟩ = some (.float .f32 (D.P pb).x) ∧ W.cell? ⟨b1, off1 + pb * 3 + 1, none⟩ = some (.float .f32 (D.P pb).y) ∧ W.cell? ⟨b1, off1 + pb * 3 + 2, none⟩ = some (.float .f32 (D.P pb).z) ∧ W.cell? ⟨w.heap.size, 0, none⟩ = some (.int .i64 (pa : Int)) ∧ W.cell? ⟨w.heap.size, 1, none⟩ = some (.int .i64 (pb : Int)) from ⟨((bcell hW).1 _ _ qlp).trans qp0, ((bcell hW).1 _ _ ql1).trans qd0, ((bcell hW).1 _ _ ql1).trans qd1, ((bcell hW).1 _ _ ql1).trans qd2, ((bcell hW).1 _ _ ql1).trans qe0, ((bcell hW).1 _ _ ql1).trans qe1, ((bcell hW).1 _ _ ql1).trans qe2, ((bcell hW).1 _ _ lx).trans x0, ((bcell hW).1 _ _ lx).trans x1⟩))
  have hw0 : Below wq.heap.size wq wq.drew := (Below.refl _ _).drew
  clear x0 x1 lx hX bq bqf hzq p0 p1 p2 p3 pf lp d0 d1 d2 e0 e1 e2 qp0 qd0 qd1 qd2 qe0 qe1 qe2 i0 i1 i2
  refine region_inv (stat [isE (.pointer (some ⟨ca, 0, none⟩)), isE (.pointer (some ⟨ca, 0, none⟩)), isE (.pointer (some ⟨ca, 0, none⟩)), isE (.slice (some ⟨b1, off1, none⟩) n1 c1), isE (.pointer (some ⟨w.heap.size, 1, none⟩)), isE (.int .i64 (pb : Int)), isE (.pointer (some ⟨b1, off1 + pb * 3, none⟩)), isE (.agg #[.float .f32 (D.P pb).x, .float .f32 (D.P pb).y, .float .f32 (D.P pb).z]), isE (.pointer (some ⟨ca, 0, none⟩)), isE (.pointer (some ⟨ca, 0, none⟩)), isE (.pointer (some ⟨ca, 0, none⟩)), isE (.slice (some ⟨b1, off1, none⟩) n1 c1), isE (.pointer (some ⟨w.heap.size, 0, none⟩)), isE (.int .i64 (pa : Int)), isE (.pointer (some ⟨b1, off1 + pa * 3, none⟩)), isE (.agg #[.float .f32 (D.P pa).x, .float .f32 (D.P pa).y, .float .f32 (D.P pa).z]), isV (vsub (D.P pb) (D.P pa)), isF (vlen (vsub (D.P pb) (D.P pa))), isF (vlen (vsub (D.P pb) (D.P pa)))]) (fun _ W => (fun W => Below wq.heap.size wq W) W) (by kernel_rfl) (by kernel_rfl) (by kernel_rfl) (hw0) ⟨?r0, ?r1, ?r2, ?r3, ?r4, ?r5, ?r6, ?r7, ?r8, ?r9, ?r10, ?r11, ?r12, ?r13, ?r14, ?r15, ?r16, ?r17, ?r18, trivial⟩ ?hend
  case r0 =>
    intro listed a u h hu hd K hK
    have hA := h.world
    have e0 : a.tmps.getD 0 undef = .pointer (some ⟨ca, 0, none⟩) := h.base (by kernel_rfl)
    have f0 : a.tmps[0]? = some (.pointer (some ⟨ca, 0, none⟩)) := h.old (by kernel_rfl)
    rw [if_pos (by rfl)]
    go_simp
    exact hK _ _ (fact_stat _ _ _) (isE.mk rfl) hA
  case r1 =>
    intro listed a u h hu hd K hK
    have hA := h.world
    obtain ⟨v13, ev13, em13, F13⟩ := h.slot (i := 0) rfl rfl (hd _ (Array.mem_of_getElem? (i := 0) rfl) rfl)
    have e13 := ev13.trans (isE.out F13)
    have f13 := em13.trans (congrArg some (isE.out F13))
    clear ev13 em13 F13
    rw [if_pos (by rfl)]
    go_simp
    exact hK _ _ (fact_stat _ _ _) (isE.mk rfl) hA
  case r2 =>
    intro listed a u h hu hd K hK
    have hA := h.world
    obtain ⟨v14, ev14, em14, F14⟩ := h.slot (i := 1) rfl rfl (hd _ (Array.mem_of_getElem? (i := 0) rfl) rfl)
    have e14 := ev14.trans (isE.out F14)
    have f14 := em14.trans (congrArg some (isE.out F14))
    clear ev14 em14 F14
    rw [if_pos (by rfl)]
    go_simp
    exact hK _ _ (fact_stat _ _ _) (isE.mk rfl) hA
  case r3 =>
    intro listed a u h hu hd K hK
    have hA := h.world
    obtain ⟨v15, ev15, em15, F15⟩ := h.slot (i := 2) rfl rfl (hd _ (Array.mem_of_getElem? (i := 0) rfl) rfl)
    have e15 := ev15.trans (isE.out F15)
    have f15 := em15.trans (congrArg some (isE.out F15))
    clear ev15 em15 F15
    rw [if_pos (by rfl)]
    obtain ⟨g0, g1, g2, g3, g4, g5, g6, g7, g8⟩ := CS.out u hA
    go_simp
    exact hK _ _ (fact_stat _ _ _) (isE.mk rfl) hA
  case r4 =>
    intro listed a u h hu hd K hK
    have hA := h.world
    have e5 : a.tmps.getD 5 undef = .pointer (some ⟨w.heap.size, 0, none⟩) := h.base (by kernel_rfl)
    have f5 : a.tmps[5]? = some (.pointer (some ⟨w.heap.size, 0, none⟩)) := h.old (by kernel_rfl)
    rw [if_pos (by rfl)]
    go_simp
    exact hK _ _ (fact_stat _ _ _) (isE.mk rfl) hA
  case r5 =>
    intro listed a u h hu hd K hK
    have hA := h.world
    obtain ⟨v17, ev17, em17, F17⟩ := h.slot (i := 4) rfl rfl (hd _ (Array.mem_of_getElem? (i := 0) rfl) rfl)
    have e17 := ev17.trans (isE.out F17)
    have f17 := em17.trans (congrArg some (isE.out F17))
    clear ev17 em17 F17
    rw [if_pos (by rfl)]
    obtain ⟨g0, g1, g2, g3, g4, g5, g6, g7, g8⟩ := CS.out u hA
    go_simp
    exact hK _ _ (fact_stat _ _ _) (isE.mk rfl) hA
  case r6 =>
    intro listed a u h hu hd K hK
    have hA := h.world
    obtain ⟨v16, ev16, em16, F16⟩ := h.slot (i := 3) rfl rfl (hd _ (Array.mem_of_getElem? (i := 0) rfl) rfl)
    have e16 := ev16.trans (isE.out F16)
    have f16 := em16.trans (congrArg some (isE.out F16))
    clear ev16 em16 F16
    obtain ⟨v18, ev18, em18, F18⟩ := h.slot (i := 5) rfl rfl (hd _ (Array.mem_of_getElem? (i := 1) rfl) rfl)
    have e18 := ev18.trans (isE.out F18)
    have f18 := em18.trans (congrArg some (isE.out F18))
    clear ev18 em18 F18
    rw [if_pos (by rfl)]
    go_simp
    exact hK _ _ (fact_stat _ _ _) (isE.mk rfl) hA
  case r7 =>
    intro listed a u h hu hd K hK
    have hA := h.world
    obtain ⟨v19, ev19, em19, F19⟩ := h.slot (i := 6) rfl rfl (hd _ (Array.mem_of_getElem? (i := 0) rfl) rfl)
    have e19 := ev19.trans (isE.out F19)
    have f19 := em19.trans (congrArg some (isE.out F19))
    clear ev19 em19 F19
    rw [if_pos (by rfl)]
    obtain ⟨g0, g1, g2, g3, g4, g5, g6, g7, g8⟩ := CS.out u hA
    go_simp
    exact hK _ _ (fact_stat _ _ _) (isE.mk rfl) hA
  case r8 =>
    intro listed a u h hu hd K hK
    have hA := h.world
    have e0 : a.tmps.getD 0 undef = .pointer (some ⟨ca, 0, none⟩) := h.base (by kernel_rfl)
    have f0 : a.tmps[0]? = some (.pointer (some ⟨ca, 0, none⟩)) := h.old (by kernel_rfl)
    rw [if_pos (by rfl)]
    go_simp
    exact hK _ _ (fact_stat _ _ _) (isE.mk rfl) hA
  case r9 =>
    intro listed a u h hu hd K hK
    have hA := h.world
    obtain ⟨v21, ev21, em21, F21⟩ := h.slot (i := 8) rfl rfl (hd _ (Array.mem_of_getElem? (i := 0) rfl) rfl)
    have e21 := ev21.trans (isE.out F21)
    have f21 := em21.trans (congrArg some (isE.out F21))
    clear ev21 em21 F21
    rw [if_pos (by rfl)]
    go_simp
    exact hK _ _ (fact_stat _ _ _) (isE.mk rfl) hA
  case r10 =>
    intro listed a u h hu hd K hK
    have hA := h.world
    obtain ⟨v22, ev22, em22, F22⟩ := h.slot (i := 9) rfl rfl (hd _ (Array.mem_of_getElem? (i := 0) rfl) rfl)
    have e22 := ev22.trans (isE.out F22)
    have f22 := em22.trans (congrArg some (isE.out F22))
    clear ev22 em22 F22
    rw [if_pos (by rfl)]
    go_simp
    exact hK _ _ (fact_stat _ _ _) (isE.mk rfl) hA
  case r11 =>
    intro listed a u h hu hd K hK
    have hA := h.world
    obtain ⟨v23, ev23, em23, F23⟩ := h.slot (i := 10) rfl rfl (hd _ (Array.mem_of_getElem? (i := 0) rfl) rfl)
    have e23 := ev23.trans (isE.out F23)
    have f23 := em23.trans (congrArg some (isE.out F23))
    clear ev23 em23 F23
    rw [if_pos (by rfl)]
    obtain ⟨g0, g1, g2, g3, g4, g5, g6, g7, g8⟩ := CS.out u hA
    go_simp
    exact hK _ _ (fact_stat _ _ _) (isE.mk rfl) hA
  case r12 =>
    intro listed a u h hu hd K hK
    have hA := h.world
    have e5 : a.tmps.getD 5 undef = .pointer (some ⟨w.heap.size, 0, none⟩) := h.base (by kernel_rfl)
    have f5 : a.tmps[5]? = some (.pointer (some ⟨w.heap.size, 0, none⟩)) := h.old (by kernel_rfl)
    rw [if_pos (by rfl)]
    go_simp
    exact hK _ _ (fact_stat _ _ _) (isE.mk rfl) hA
  case r13 =>
    intro listed a u h hu hd K hK
    have hA := h.world
    obtain ⟨v25, ev25, em25, F25⟩ := h.slot (i := 12) rfl rfl (hd _ (Array.mem_of_getElem? (i := 0) rfl) rfl)
    have e25 := ev25.trans (isE.out F25)
    have f25 := em25.trans (congrArg some (isE.out F25))
    clear ev25 em25 F25
    rw [if_pos (by rfl)]
    obtain ⟨g0, g1, g2, g3, g4, g5, g6, g7, g8⟩ := CS.out u hA
    go_simp
    exact hK _ _ (fact_stat _ _ _) (isE.mk rfl) hA
  case r14 =>
    intro listed a u h hu hd K hK
    have hA := h.world
    obtain ⟨v24, ev24, em24, F24⟩ := h.slot (i := 11) rfl rfl (hd _ (Array.mem_of_getElem? (i := 0) rfl) rfl)
    have e24 := ev24.trans (isE.out F24)
    have f24 := em24.trans (congrArg some (isE.out F24))
    clear ev24 em24 F24
    obtain ⟨v26, ev26, em26, F26⟩ := h.slot (i := 13) rfl rfl (hd _ (Array.mem_of_getElem? (i := 1) rfl) rfl)
    have e26 := ev26.trans (isE.out F26)
    have f26 := em26.trans (congrArg some (isE.out F26))
    clear ev26 em26 F26
    rw [if_pos (by rfl)]
    go_simp
    exact hK _ _ (fact_stat _ _ _) (isE.mk rfl) hA
  case r15 =>
    intro listed a u h hu hd K hK
    have hA := h.world
    obtain ⟨v27, ev27, em27, F27⟩ := h.slot (i := 14) rfl rfl (hd _ (Array.mem_of_getElem? (i := 0) rfl) rfl)
    have e27 := ev27.trans (isE.out F27)
    have f27 := em27.trans (congrArg some (isE.out F27))
    clear ev27 em27 F27
    rw [if_pos (by rfl)]
    obtain ⟨g0, g1, g2, g3, g4, g5, g6, g7, g8⟩ := CS.out u hA
    go_simp
    exact hK _ _ (fact_stat _ _ _) (isE.mk rfl) hA
  case r16 =>
    intro listed a u h hu hd K hK
    have hA := h.world
    obtain ⟨v20, ev20, em20, F20⟩ := h.slot (i := 7) rfl rfl (hd _ (Array.mem_of_getElem? (i := 0) rfl) rfl)
    have e20 := ev20.trans (isE.out F20)
    have f20 := em20.trans (congrArg some (isE.out F20))
    clear ev20 em20 F20
    obtain ⟨v28, ev28, em28, F28⟩ := h.slot (i := 15) rfl rfl (hd _ (Array.mem_of_getElem? (i := 1) rfl) rfl)
    have e28 := ev28.trans (isE.out F28)
    have f28 := em28.trans (congrArg some (isE.out F28))
    clear ev28 em28 F28
    rw [if_pos (by rfl)]
    go_simp
    refine Calls.mono (spec_l01Less _ _ _ _ _ _ u) ?_
    rintro e u2 ⟨a0, a1, a2, rfl, _, r0, r1, r2, hb⟩
    exact hK _ _ (fact_stat _ _ _) (isV.mk ⟨r0, r1, r2⟩) (hA.trans (hb.mono hA.size))
  case r17 =>
    intro listed a u h hu hd K hK
    have hA := h.world
    obtain ⟨v29, ev29, em29, F29⟩ := h.slot (i := 16) rfl rfl (hd _ (Array.mem_of_getElem? (i := 0) rfl) rfl)
    obtain ⟨x29, y29, z29, q29, s29⟩ := isV.out F29
    have e29 := ev29.trans q29
    have f29 := em29.trans (congrArg some q29)
    clear ev29 em29 F29
    rw [if_pos (by rfl)]
    go_simp
    refine Calls.mono (spec_l01Long _ _ _ u) ?_
    rintro e u2 ⟨r, rfl, hlt, hs, hb⟩
    exact hK _ _ (fact_stat _ _ _) (isF.mk hlt (hs.trans (vlen_sim s29))) (hA.trans (hb.mono hA.size))
  case r18 =>
    intro listed a u h hu hd K hK
    have hA := h.world
    obtain ⟨v30, ev30, em30, F30⟩ := h.slot (i := 17) rfl rfl (hd _ (Array.mem_of_getElem? (i := 0) rfl) rfl)
    obtain ⟨x30, q30, l30, s30⟩ := isF.out F30
    have e30 := ev30.trans q30
    have f30 := em30.trans (congrArg some q30)
    clear ev30 em30 F30
    rw [if_pos (by rfl)]
    go_simp
    exact hK _ _ (fact_stat _ _ _) (isF.mk l30 s30) hA
  case hend =>
    intro listed a u h hall
    have hB := h.world
    obtain ⟨v4, ev4, em4, F4⟩ := h.slot (i := 18) rfl rfl (hall 18 (by decide))
    obtain ⟨x4, q4, l4, s4⟩ := isF.out F4
    have f4 := em4.trans (congrArg some q4)
    clear ev4 em4 F4
    obtain ⟨v13, ev13, em13, F13⟩ := h.slot (i := 0) rfl rfl (hall 0 (by decide))
    have f13 := em13.trans (congrArg some (isE.out F13))
    clear ev13 em13 F13
    obtain ⟨v14, ev14, em14, F14⟩ := h.slot (i := 1) rfl rfl (hall 1 (by decide))
    have f14 := em14.trans (congrArg some (isE.out F14))
    clear ev14 em14 F14
    obtain ⟨v15, ev15, em15, F15⟩ := h.slot (i := 2) rfl rfl (hall 2 (by decide))
    have f15 := em15.trans (congrArg some (isE.out F15))
    clear ev15 em15 F15
    obtain ⟨v16, ev16, em16, F16⟩ := h.slot (i := 3) rfl rfl (hall 3 (by decide))
    have f16 := em16.trans (congrArg some (isE.out F16))
    clear ev16 em16 F16
    obtain ⟨v17, ev17, em17, F17⟩ := h.slot (i := 4) rfl rfl (hall 4 (by decide))
    have f17 := em17.trans (congrArg some (isE.out F17))
    clear ev17 em17 F17
    obtain ⟨v18, ev18, em18, F18⟩ := h.slot (i := 5) rfl rfl (hall 5 (by decide))
    have f18 := em18.trans (congrArg some (isE.out F18))
    clear ev18 em18 F18
    obtain ⟨v19, ev19, em19, F19⟩ := h.slot (i := 6) rfl rfl (hall 6 (by decide))
    have f19 := em19.trans (congrArg some (isE.out F19))
    clear ev19 em19 F19
    obtain ⟨v20, ev20, em20, F20⟩ := h.slot (i := 7) rfl rfl (hall 7 (by decide))
    have f20 := em20.trans (congrArg some (isE.out F20))
    clear ev20 em20 F20
    obtain ⟨v21, ev21, em21, F21⟩ := h.slot (i := 8) rfl rfl (hall 8 (by decide))
    have f21 := em21.trans (congrArg some (isE.out F21))
    clear ev21 em21 F21
    obtain ⟨v22, ev22, em22, F22⟩ := h.slot (i := 9) rfl rfl (hall 9 (by decide))
    have f22 := em22.trans (congrArg some (isE.out F22))
    clear ev22 em22 F22
    obtain ⟨v23, ev23, em23, F23⟩ := h.slot (i := 10) rfl rfl (hall 10 (by decide))
    have f23 := em23.trans (congrArg some (isE.out F23))
    clear ev23 em23 F23
    obtain ⟨v24, ev24, em24, F24⟩ := h.slot (i := 11) rfl rfl (hall 11 (by decide))
    have f24 := em24.trans (congrArg some (isE.out F24))
    clear ev24 em24 F24
    obtain ⟨v25, ev25, em25, F25⟩ := h.slot (i := 12) rfl rfl (hall 12 (by decide))
    have f25 := em25.trans (congrArg some (isE.out F25))
    clear ev25 em25 F25
    obtain ⟨v26, ev26, em26, F26⟩ := h.slot (i := 13) rfl rfl (hall 13 (by decide))
    have f26 := em26.trans (congrArg some (isE.out F26))
    clear ev26 em26 F26
    obtain ⟨v27, ev27, em27, F27⟩ := h.slot (i := 14) rfl rfl (hall 14 (by decide))
    have f27 := em27.trans (congrArg some (isE.out F27))
    clear ev27 em27 F27
    obtain ⟨v28, ev28, em28, F28⟩ := h.slot (i := 15) rfl rfl (hall 15 (by decide))
    have f28 := em28.trans (congrArg some (isE.out F28))
    clear ev28 em28 F28
    obtain ⟨v29, ev29, em29, F29⟩ := h.slot (i := 16) rfl rfl (hall 16 (by decide))
    obtain ⟨x29, y29, z29, q29, s29⟩ := isV.out F29
    have f29 := em29.trans (congrArg some q29)
    clear ev29 em29 F29
    obtain ⟨v30, ev30, em30, F30⟩ := h.slot (i := 17) rfl rfl (hall 17 (by decide))
    obtain ⟨x30, q30, l30, s30⟩ := isF.out F30
    have f30 := em30.trans (congrArg some q30)
    clear ev30 em30 F30
    have ha := h.act [4, 13, 14, 15, 16, 17, 18, 19, 20, 21, 22, 23, 24, 25, 26, 27, 28, 29, 30] [_, _, _, _, _, _, _, _, _, _, _, _, _, _, _, _, _, _, _] (by kernel_rfl) ⟨f4, f13, f14, f15, f16, f17, f18, f19, f20, f21, f22, f23, f24, f25, f26, f27, f28, f29, f30, trivial⟩
    clear f4 f13 f14 f15 f16 f17 f18 f19 f20 f21 f22 f23 f24 f25 f26 f27 f28 f29 f30
    simp only [setAll, List.setIfInBounds_toArray, List.set_cons_zero, List.set_cons_succ] at ha
    subst ha
    clear h hall
    go_wp2_with fail
    go_ret
    exact ⟨x4, rfl, l4, s4, below_step hBq hB⟩
set_option maxHeartbeats 4000000 in
set_option maxRecDepth 100000 in
theorem impl_long (ca : Nat) (A1 A2 A3 A4 : Option Addr) (c1 c2 c3 c4 n1 n2 n3 n4 B : Nat) (D : D4) (i : Nat) (ra : 0 ≤ (D.R i).a ∧ (D.R i).a < n1) (rb : 0 ≤ (D.R i).b ∧ (D.R i).b < n1) (w : World) (hp : Bx w ca 32 (.slice A1 n1 c1) (.slice A2 n2 c2) (.slice A3 n3 c3) (.slice A4 n4 c4)) (h : Own w B A1 A2 A3 A4 c1 c2 c3 c4 n1 n2 n3 n4 D) :
    Calls Try.prog 119 #[.pointer (some ⟨ca, 0, none⟩), .agg #[.int .i64 (D.R i).a, .int .i64 (D.R i).b, .float .f32 (D.R i).l]] w (RetF .f32 (rodL D (D.R i)) w) := by
  have HP := Lib.hid hp
  obtain ⟨pa, hpa⟩ : ∃ pa : Nat, (D.R i).a = (pa : Int) := ⟨(D.R i).a.toNat, by omega⟩
  obtain ⟨pb, hpb⟩ : ∃ pb : Nat, (D.R i).b = (pb : Int) := ⟨(D.R i).b.toNat, by omega⟩
  obtain ⟨b1, off1, rfl, l1, d0, d1, d2⟩ := h.s1.in_.at3 (k := pa) (by omega)
  obtain ⟨b1', off1', hbo, _, e0, e1, e2⟩ := h.s1.in_.at3 (k := pb) (by omega)
  cases hbo
  rw [vc0] at d0 e0
  rw [vc1] at d1 e1
  rw [vc2] at d2 e2
  have ka0 : (0 : Int) ≤ (pa : Int) := by omega
  have ka1 : (pa : Int) < (n1 : Int) := by omega
  have kb0 : (0 : Int) ≤ (pb : Int) := by omega
  have kb1 : (pb : Int) < (n1 : Int) := by omega
  rw [hpa, hpb]
  obtain ⟨p0, p1, p2, p3, pf⟩ := hp.facts
  have lp := hp.lt
  have HL : rodL D (D.R i) = vlen (vsub (D.P pb) (D.P pa)) := by unfold rodL; rw [hpa, hpb]; simp
  rw [HL]
  clear hp h HL
  go_enter Try.func119, Try.ntmps119
  go_upto_region 1 with fail
  obtain ⟨wq, hwq⟩ : ∃ wq : World, wq = w.alloc (.cells #[.int .i64 (pa : Int), .int .i64 (pb : Int), .float .f32 (D.R i).l] 91) := ⟨_, rfl⟩
  have hX : Tx wq w.heap.size 91 (.int .i64 (pa : Int)) (.int .i64 (pb : Int)) (.float .f32 (D.R i).l) := by rw [hwq]; exact Tx.new_ _ _ _ _ _
  have hBq : Below w.heap.size w wq := by rw [hwq]; exact Below.alloc (Below.refl _ _) (Nat.le_refl _) _
  rw [← hwq]
  clear hwq
  obtain ⟨bq, bqf⟩ := bcell hBq
  have hzq := hBq.size
  have qlp : ca < wq.heap.size := by omega
  have ql1 : b1 < wq.heap.size := by omega
  have x0 := hX.c0
  have x1 := hX.c1
  have lx := hX.lt
  have qp0 := (bq _ _ lp).trans p0
  have qd0 := (bq _ _ l1).trans d0
  have qd1 := (bq _ _ l1).trans d1
  have qd2 := (bq _ _ l1).trans d2
  have qe0 := (bq _ _ l1).trans e0
  have qe1 := (bq _ _ l1).trans e1
  have qe2 := (bq _ _ l1).trans e2
  have CS := Lib.hid (fun (W : World) (hW : Below wq.heap.size wq W) => (show W.cell? ⟨ca, 0, none⟩ = some (.slice (some ⟨b1, off1, none⟩) n1 c1) ∧ W.cell? ⟨b1, off1 + pa * 3, none⟩ = some (.float .f32 (D.P pa).x) ∧ W.cell? ⟨b1, off1 + pa * 3 + 1, none⟩ = some (.float .f32 (D.P pa).y) ∧ W.cell? ⟨b1, off1 + pa * 3 + 2, none⟩ = some (.float .f32 (D.P pa).z) ∧ W.cell? ⟨b1, off1 + pb * 3, none⟩ = some (.float .f32 (D.P pb).x) ∧ W.cell? ⟨b1, off1 + pb * 3 + 1, none⟩ = some (.float .f32 (D.P pb).y) ∧ W.cell? ⟨b1, off1 + pb * 3 + 2, none⟩ = some (.float .f32 (D.P pb).z) ∧ W.cell? ⟨w.heap.size, 0, none⟩ = some (.int .i64 (pa : Int)) ∧ W.cell? ⟨w.heap.size, 1, none⟩ = some (.int .i64 (pb : Int)) from ⟨((bcell hW).1 _ _ qlp).trans qp0, ((bcell hW).1 _ _ ql1).trans qd0, ((bcell hW).1 _ _ ql1).trans qd1, ((bcell hW).1 _ _ ql1).trans qd2, ((bcell hW).1 _ _ ql1).trans qe0, ((bcell hW).1 _ _ ql1).trans qe1, ((bcell hW).1 _ _ ql1).trans qe2, ((bcell hW).1 _ _ lx).trans x0, ((bcell hW).1 _ _ lx).trans x1⟩))
  have hw0 : Below wq.heap.size wq wq.drew := (Below.refl _ _).drew
  clear x0 x1 lx hX bq bqf hzq p0 p1 p2 p3 pf lp d0 d1 d2 e0 e1 e2 qp0 qd0 qd1 qd2 qe0 qe1 qe2
  refine region_inv (stat [isE (.pointer (some ⟨ca, 0, none⟩)), isE (.pointer (some ⟨ca, 0, none⟩)), isE (.pointer (some ⟨ca, 0, none⟩)), isE (.slice (some ⟨b1, off1, none⟩) n1 c1), isE (.pointer (some ⟨w.heap.size, 1, none⟩)), isE (.int .i64 (pb : Int)), isE (.pointer (some ⟨b1, off1 + pb * 3, none⟩)), isE (.agg #[.float .f32 (D.P pb).x, .float .f32 (D.P pb).y, .float .f32 (D.P pb).z]), isE (.pointer (some ⟨ca, 0, none⟩)), isE (.pointer (some ⟨ca, 0, none⟩)), isE (.pointer (some ⟨ca, 0, none⟩)), isE (.slice (some ⟨b1, off1, none⟩) n1 c1), isE (.pointer (some ⟨w.heap.size, 0, none⟩)), isE (.int .i64 (pa : Int)), isE (.pointer (some ⟨b1, off1 + pa * 3, none⟩)), isE (.agg #[.float .f32 (D.P pa).x, .float .f32 (D.P pa).y, .float .f32 (D.P pa).z]), isV (vsub (D.P pb) (D.P pa)), isF (vlen (vsub (D.P pb) (D.P pa))), isF (vlen (vsub (D.P pb) (D.P pa)))]) (fun _ W => (fun W => Below wq.heap.size wq W) W) (by kernel_rfl) (by kernel_rfl) (by kernel_rfl) (hw0) ⟨?r0, ?r1, ?r2, ?r3, ?r4, ?r5, ?r6, ?r7, ?r8, ?r9, ?r10, ?r11, ?r12, ?r13, ?r14, ?r15, ?r16, ?r17, ?r18, trivial⟩ ?hend
  case r0 =>
    intro listed a u h hu hd K hK
    have hA := h.world
    have e0 : a.tmps.getD 0 undef = .pointer (some ⟨ca, 0, none⟩) := h.base (by kernel_rfl)
    have f0 : a.tmps[0]? = some (.pointer (some ⟨ca, 0, none⟩)) := h.old (by kernel_rfl)
    rw [if_pos (by rfl)]
    go_simp
    exact hK _ _ (fact_stat _ _ _) (isE.mk rfl) hA
  case r1 =>
    intro listed a u h hu hd K hK
    have hA := h.world
    obtain ⟨v5, ev5, em5, F5⟩ := h.slot (i := 0) rfl rfl (hd _ (Array.mem_of_getElem? (i := 0) rfl) rfl)
    have e5 := ev5.trans (isE.out F5)
    have f5 := em5.trans (congrArg some (isE.out F5))
    clear ev5 em5 F5
    rw [if_pos (by rfl)]
    go_simp
    exact hK _ _ (fact_stat _ _ _) (isE.mk rfl) hA
  case r2 =>
    intro listed a u h hu hd K hK
    have hA := h.world
    obtain ⟨v6, ev6, em6, F6⟩ := h.slot (i := 1) rfl rfl (hd _ (Array.mem_of_getElem? (i := 0) rfl) rfl)
    have e6 := ev6.trans (isE.out F6)
    have f6 := em6.trans (congrArg some (isE.out F6))
    clear ev6 em6 F6
    rw [if_pos (by rfl)]
    go_simp
    exact hK _ _ (fact_stat _ _ _) (isE.mk rfl) hA
  case r3 =>
    intro listed a u h hu hd K hK
    have hA := h.world
    obtain ⟨v7, ev7, em7, F7⟩ := h.slot (i := 2) rfl rfl (hd _ (Array.mem_of_getElem? (i := 0) rfl) rfl)
    have e7 := ev7.trans (isE.out F7)
    have f7 := em7.trans (congrArg some (isE.out F7))
    clear ev7 em7 F7
    rw [if_pos (by rfl)]
    obtain ⟨g0, g1, g2, g3, g4, g5, g6, g7, g8⟩ := CS.out u hA
    go_simp
    exact hK _ _ (fact_stat _ _ _) (isE.mk rfl) hA
  case r4 =>
    intro listed a u h hu hd K hK
    have hA := h.world
    have e3 : a.tmps.getD 3 undef = .pointer (some ⟨w.heap.size, 0, none⟩) := h.base (by kernel_rfl)
    have f3 : a.tmps[3]? = some (.pointer (some ⟨w.heap.size, 0, none⟩)) := h.old (by kernel_rfl)
    rw [if_pos (by rfl)]
    go_simp
    exact hK _ _ (fact_stat _ _ _) (isE.mk rfl) hA
  case r5 =>
    intro listed a u h hu hd K hK
    have hA := h.world
    obtain ⟨v9, ev9, em9, F9⟩ := h.slot (i := 4) rfl rfl (hd _ (Array.mem_of_getElem? (i := 0) rfl) rfl)
    have e9 := ev9.trans (isE.out F9)
    have f9 := em9.trans (congrArg some (isE.out F9))
    clear ev9 em9 F9
    rw [if_pos (by rfl)]
    obtain ⟨g0, g1, g2, g3, g4, g5, g6, g7, g8⟩ := CS.out u hA
    go_simp
    exact hK _ _ (fact_stat _ _ _) (isE.mk rfl) hA
  case r6 =>
    intro listed a u h hu hd K hK
    have hA := h.world
    obtain ⟨v8, ev8, em8, F8⟩ := h.slot (i := 3) rfl rfl (hd _ (Array.mem_of_getElem? (i := 0) rfl) rfl)
    have e8 := ev8.trans (isE.out F8)
    have f8 := em8.trans (congrArg some (isE.out F8))
    clear ev8 em8 F8
    obtain ⟨v10, ev10, em10, F10⟩ := h.slot (i := 5) rfl rfl (hd _ (Array.mem_of_getElem? (i := 1) rfl) rfl)
    have e10 := ev10.trans (isE.out F10)
    have f10 := em10.trans (congrArg some (isE.out F10))
    clear ev10 em10 F10
    rw [if_pos (by rfl)]
    go_simp
    exact hK _ _ (fact_stat _ _ _) (isE.mk rfl) hA
  case r7 =>
    intro listed a u h hu hd K hK
    have hA := h.world
    obtain ⟨v11, ev11, em11, F11⟩ := h.slot (i := 6) rfl rfl (hd _ (Array.mem_of_getElem? (i := 0) rfl) rfl)
    have e11 := ev11.trans (isE.out F11)
    have f11 := em11.trans (congrArg some (isE.out F11))
    clear ev11 em11 F11
    rw [if_pos (by rfl)]
    obtain ⟨g0, g1, g2, g3, g4, g5, g6, g7, g8⟩ := CS.out u hA
    go_simp
    exact hK _ _ (fact_stat _ _ _) (isE.mk rfl) hA
  case r8 =>
    intro listed a u h hu hd K hK
    have hA := h.world
    have e0 : a.tmps.getD 0 undef = .pointer (some ⟨ca, 0, none⟩) := h.base (by kernel_rfl)
    have f0 : a.tmps[0]? = some (.pointer (some ⟨ca, 0, none⟩)) := h.old (by kernel_rfl)
    rw [if_pos (by rfl)]
    go_simp
    exact hK _ _ (fact_stat _ _ _) (isE.mk rfl) hA
  case r9 =>
    intro listed a u h hu hd K hK
    have hA := h.world
    obtain ⟨v13, ev13, em13, F13⟩ := h.slot (i := 8) rfl rfl (hd _ (Array.mem_of_getElem? (i := 0) rfl) rfl)
    have e13 := ev13.trans (isE.out F13)
    have f13 := em13.trans (congrArg some (isE.out F13))
    clear ev13 em13 F13
    rw [if_pos (by rfl)]
    go_simp
    exact hK _ _ (fact_stat _ _ _) (isE.mk rfl) hA
  case r10 =>
    intro listed a u h hu hd K hK
    have hA := h.world
    obtain ⟨v14, ev14, em14, F14⟩ := h.slot (i := 9) rfl rfl (hd _ (Array.mem_of_getElem? (i := 0) rfl) rfl)
    have e14 := ev14.trans (isE.out F14)
    have f14 := em14.trans (congrArg some (isE.out F14))
    clear ev14 em14 F14
    rw [if_pos (by rfl)]
    go_simp
    exact hK _ _ (fact_stat _ _ _) (isE.mk rfl) hA
  case r11 =>
    intro listed a u h hu hd K hK
    have hA := h.world
    obtain ⟨v15, ev15, em15, F15⟩ := h.slot (i := 10) rfl rfl (hd _ (Array.mem_of_getElem? (i := 0) rfl) rfl)
    have e15 := ev15.trans (isE.out F15)
    have f15 := em15.trans (congrArg some (isE.out F15))
    clear ev15 em15 F15
    rw [if_pos (by rfl)]
    obtain ⟨g0, g1, g2, g3, g4, g5, g6, g7, g8⟩ := CS.out u hA
    go_simp
    exact hK _ _ (fact_stat _ _ _) (isE.mk rfl) hA
  case r12 =>
    intro listed a u h hu hd K hK
    have hA := h.world
    have e3 : a.tmps.getD 3 undef = .pointer (some ⟨w.heap.size, 0, none⟩) := h.base (by kernel_rfl)
    have f3 : a.tmps[3]? = some (.pointer (some ⟨w.heap.size, 0, none⟩)) := h.old (by kernel_rfl)
    rw [if_pos (by rfl)]
    go_simp
    exact hK _ _ (fact_stat _ _ _) (isE.mk rfl) hA
  case r13 =>
    intro listed a u h hu hd K hK
    have hA := h.world
    obtain ⟨v17, ev17, em17, F17⟩ := h.slot (i := 12) rfl rfl (hd _ (Array.mem_of_getElem? (i := 0) rfl) rfl)
    have e17 := ev17.trans (isE.out F17)
    have f17 := em17.trans (congrArg some (isE.out F17))
    clear ev17 em17 F17
    rw [if_pos (by rfl)]
    obtain ⟨g0, g1, g2, g3, g4, g5, g6, g7, g8⟩ := CS.out u hA
    go_simp
    exact hK _ _ (fact_stat _ _ _) (isE.mk rfl) hA
  case r14 =>
    intro listed a u h hu hd K hK
    have hA := h.world
    obtain ⟨v16, ev16, em16, F16⟩ := h.slot (i := 11) rfl rfl (hd _ (Array.mem_of_getElem? (i := 0) rfl) rfl)
    have e16 := ev16.trans (isE.out F16)
    have f16 := em16.trans (congrArg some (isE.out F16))
    clear ev16 em16 F16
    obtain ⟨v18, ev18, em18, F18⟩ := h.slot (i := 13) rfl rfl (hd _ (Array.mem_of_getElem? (i := 1) rfl) rfl)
    have e18 := ev18.trans (isE.out F18)
    have f18 := em18.trans (congrArg some (isE.out F18))
    clear ev18 em18 F18
    rw [if_pos (by rfl)]
    go_simp
    exact hK _ _ (fact_stat _ _ _) (isE.mk rfl) hA
  case r15 =>
    intro listed a u h hu hd K hK
    have hA := h.world
    obtain ⟨v19, ev19, em19, F19⟩ := h.slot (i := 14) rfl rfl (hd _ (Array.mem_of_getElem? (i := 0) rfl) rfl)
    have e19 := ev19.trans (isE.out F19)
    have f19 := em19.trans (congrArg some (isE.out F19))
    clear ev19 em19 F19
    rw [if_pos (by rfl)]
    obtain ⟨g0, g1, g2, g3, g4, g5, g6, g7, g8⟩ := CS.out u hA
    go_simp
    exact hK _ _ (fact_stat _ _ _) (isE.mk rfl) hA
  case r16 =>
    intro listed a u h hu hd K hK
    have hA := h.world
    obtain ⟨v12, ev12, em12, F12⟩ := h.slot (i := 7) rfl rfl (hd _ (Array.mem_of_getElem? (i := 0) rfl) rfl)
    have e12 := ev12.trans (isE.out F12)
    have f12 := em12.trans (congrArg some (isE.out F12))
    clear ev12 em12 F12
    obtain ⟨v20, ev20, em20, F20⟩ := h.slot (i := 15) rfl rfl (hd _ (Array.mem_of_getElem? (i := 1) rfl) rfl)
    have e20 := ev20.trans (isE.out F20)
    have f20 := em20.trans (congrArg some (isE.out F20))
    clear ev20 em20 F20
    rw [if_pos (by rfl)]
    go_simp
    refine Calls.mono (impl_LessVectors _ _ _ _ _ _ u) ?_
    rintro e u2 ⟨a0, a1, a2, rfl, _, r0, r1, r2, hb⟩
    exact hK _ _ (fact_stat _ _ _) (isV.mk ⟨r0, r1, r2⟩) (hA.trans (hb.mono hA.size))
  case r17 =>
    intro listed a u h hu hd K hK
    have hA := h.world
    obtain ⟨v21, ev21, em21, F21⟩ := h.slot (i := 16) rfl rfl (hd _ (Array.mem_of_getElem? (i := 0) rfl) rfl)
    obtain ⟨x21, y21, z21, q21, s21⟩ := isV.out F21
    have e21 := ev21.trans q21
    have f21 := em21.trans (congrArg some q21)
    clear ev21 em21 F21
    rw [if_pos (by rfl)]
    go_simp
    refine Calls.mono (impl_LongOf' _ _ _ u) ?_
    rintro e u2 ⟨r, rfl, hlt, hs, hb⟩
    exact hK _ _ (fact_stat _ _ _) (isF.mk hlt (hs.trans (vlen_sim s21))) (hA.trans (hb.mono hA.size))
  case r18 =>
    intro listed a u h hu hd K hK
    have hA := h.world
    obtain ⟨v22, ev22, em22, F22⟩ := h.slot (i := 17) rfl rfl (hd _ (Array.mem_of_getElem? (i := 0) rfl) rfl)
    obtain ⟨x22, q22, l22, s22⟩ := isF.out F22
    have e22 := ev22.trans q22
    have f22 := em22.trans (congrArg some q22)
    clear ev22 em22 F22
    rw [if_pos (by rfl)]
    go_simp
    exact hK _ _ (fact_stat _ _ _) (isF.mk l22 s22) hA
  case hend =>
    intro listed a u h hall
    have hB := h.world
    obtain ⟨v4, ev4, em4, F4⟩ := h.slot (i := 18) rfl rfl (hall 18 (by decide))
    obtain ⟨x4, q4, l4, s4⟩ := isF.out F4
    have f4 := em4.trans (congrArg some q4)
    clear ev4 em4 F4
    obtain ⟨v5, ev5, em5, F5⟩ := h.slot (i := 0) rfl rfl (hall 0 (by decide))
    have f5 := em5.trans (congrArg some (isE.out F5))
    clear ev5 em5 F5
    obtain ⟨v6, ev6, em6, F6⟩ := h.slot (i := 1) rfl rfl (hall 1 (by decide))
    have f6 := em6.trans (congrArg some (isE.out F6))
    clear ev6 em6 F6
    obtain ⟨v7, ev7, em7, F7⟩ := h.slot (i := 2) rfl rfl (hall 2 (by decide))
    have f7 := em7.trans (congrArg some (isE.out F7))
    clear ev7 em7 F7
    obtain ⟨v8, ev8, em8, F8⟩ := h.slot (i := 3) rfl rfl (hall 3 (by decide))
    have f8 := em8.trans (congrArg some (isE.out F8))
    clear ev8 em8 F8
    obtain ⟨v9, ev9, em9, F9⟩ := h.slot (i := 4) rfl rfl (hall 4 (by decide))
    have f9 := em9.trans (congrArg some (isE.out F9))
    clear ev9 em9 F9
    obtain ⟨v10, ev10, em10, F10⟩ := h.slot (i := 5) rfl rfl (hall 5 (by decide))
    have f10 := em10.trans (congrArg some (isE.out F10))
    clear ev10 em10 F10
    obtain ⟨v11, ev11, em11, F11⟩ := h.slot (i := 6) rfl rfl (hall 6 (by decide))
    have f11 := em11.trans (congrArg some (isE.out F11))
    clear ev11 em11 F11
    obtain ⟨v12, ev12, em12, F12⟩ := h.slot (i := 7) rfl rfl (hall 7 (by decide))
    have f12 := em12.trans (congrArg some (isE.out F12))
    clear ev12 em12 F12
    obtain ⟨v13, ev13, em13, F13⟩ := h.slot (i := 8) rfl rfl (hall 8 (by decide))
    have f13 := em13.trans (congrArg some (isE.out F13))
    clear ev13 em13 F13
    obtain ⟨v14, ev14, em14, F14⟩ := h.slot (i := 9) rfl rfl (hall 9 (by decide))
    have f14 := em14.trans (congrArg some (isE.out F14))
    clear ev14 em14 F14
    obtain ⟨v15, ev15, em15, F15⟩ := h.slot (i := 10) rfl rfl (hall 10 (by decide))
    have f15 := em15.trans (congrArg some (isE.out F15))
    clear ev15 em15 F15
    obtain ⟨v16, ev16, em16, F16⟩ := h.slot (i := 11) rfl rfl (hall 11 (by decide))
    have f16 := em16.trans (congrArg some (isE.out F16))
    clear ev16 em16 F16
    obtain ⟨v17, ev17, em17, F17⟩ := h.slot (i := 12) rfl rfl (hall 12 (by decide))
    have f17 := em17.trans (congrArg some (isE.out F17))
    clear ev17 em17 F17
    obtain ⟨v18, ev18, em18, F18⟩ := h.slot (i := 13) rfl rfl (hall 13 (by decide))
    have f18 := em18.trans (congrArg some (isE.out F18))
    clear ev18 em18 F18
    obtain ⟨v19, ev19, em19, F19⟩ := h.slot (i := 14) rfl rfl (hall 14 (by decide))
    have f19 := em19.trans (congrArg some (isE.out F19))
    clear ev19 em19 F19
    obtain ⟨v20, ev20, em20, F20⟩ := h.slot (i := 15) rfl rfl (hall 15 (by decide))
    have f20 := em20.trans (congrArg some (isE.out F20))
    clear ev20 em20 F20
    obtain ⟨v21, ev21, em21, F21⟩ := h.slot (i := 16) rfl rfl (hall 16 (by decide))
    obtain ⟨x21, y21, z21, q21, s21⟩ := isV.out F21
    have f21 := em21.trans (congrArg some q21)
    clear ev21 em21 F21
    obtain ⟨v22, ev22, em22, F22⟩ := h.slot (i := 17) rfl rfl (hall 17 (by decide))
    obtain ⟨x22, q22, l22, s22⟩ := isF.out F22
    have f22 := em22.trans (congrArg some q22)
    clear ev22 em22 F22
    have ha := h.act [4, 5, 6, 7, 8, 9, 10, 11, 12, 13, 14, 15, 16, 17, 18, 19, 20, 21, 22] [_, _, _, _, _, _, _, _, _, _, _, _, _, _, _, _, _, _, _] (by kernel_rfl) ⟨f4, f5, f6, f7, f8, f9, f10, f11, f12, f13, f14, f15, f16, f17, f18, f19, f20, f21, f22, trivial⟩
    clear f4 f5 f6 f7 f8 f9 f10 f11 f12 f13 f14 f15 f16 f17 f18 f19 f20 f21 f22
    simp only [setAll, List.setIfInBounds_toArray, List.set_cons_zero, List.set_cons_succ] at ha
    subst ha
    clear h hall
    go_wp2_with fail
    go_ret
    exact ⟨x4, rfl, l4, s4, below_step hBq hB⟩
end Go.Proofs.Ytlhgaihfghobmaa
