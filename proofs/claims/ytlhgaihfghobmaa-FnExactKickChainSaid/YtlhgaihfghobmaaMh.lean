/- HoldWeight: contracts. -/
import Derived.Test.YtlhgaihfghobmaaMa
import Derived.Test.YtlhgaihfghobmaaDg
import Derived.BigRegion
namespace Go.Proofs.Ytlhgaihfghobmaa
open Go.ChangeShapes Go.WideShapes Go.ChangeAt Go.RowKit Go.Deep

theorem hold_ok {n1 n2 n3 n4 : Nat} {D : D4} (k : Nat) (h : okC n1 n2 n3 n4 D = true) : okC n1 n2 n3 n4 (setW D k 0) = true := by
  unfold okC at h ⊢
  simp only [Bool.and_eq_true] at h ⊢
  refine ⟨⟨h.1.1, ?_⟩, h.2⟩
  rw [allB_iff]
  intro i hi
  have := allB_iff.1 h.1.2 i hi
  unfold vwB setW upd at *
  simp only [Bool.and_eq_true] at this ⊢
  refine ⟨this.1, ?_⟩
  by_cases e : i = k
  · simp only [if_pos e]
    decide +kernel
  · simp only [if_neg e]
    exact this.2
set_option maxHeartbeats 4000000 in
set_option maxRecDepth 100000 in
theorem impl_HoldWeight1 (g M : Nat) (a0 : Nat) (A1 A2 A3 A4 : Option Addr) (c1 c2 c3 c4 n m : Nat) (D : D4) (i : Int) (w : World) (hx : Bx w g 32 (.slice A1 n c1) (.slice A2 n c2) (.slice A3 n c3) (.slice A4 m c4)) (ho : Own w M A1 A2 A3 A4 c1 c2 c3 c4 n n n m D) (hd : Bds M w.heap.size A1 A2 A3 A4 n n n m) (_hg : M ≤ g) (_hM : M ≤ w.heap.size) (q1 : okC n n n m D = true) (hx0 : Ox w a0 2 (.int .i64 i)) :
    Calls Try.prog 128 #[.pointer (some ⟨g, 0, none⟩), .pointer (some ⟨a0, 0, none⟩)] w (RetDo g M (inI i 0 ((n : Int) - 1)) (n) (n) (n) (m) (setW D i.toNat 0) w) := by
  have HX := Lib.hid hx
  have HO := Lib.hid ho
  have HD := Lib.hid hd
  obtain ⟨p0, p1, p2, p3, pf⟩ := hx.facts
  have lp := hx.lt
  have hi := hx0.c
  obtain ⟨s1, _, _, s4⟩ := okC_sz q1
  clear hd hx0 q1
  cases hb : inI i 0 ((n : Int) - 1)
  · clear hx ho
    go_enter Try.func128, Try.ntmps128
    go_wp2_with fail
    refine (impl_hasPlace g i _ _ _ _ _ _ _ _ n n n m (by omega) _ HX.out).mono ?_
    rintro e w' ⟨rfl, q, rfl⟩
    rw [hb]
    go_wp2_with fail
    go_ret
    exact ⟨rfl, below_n _ _ _, fun h => absurd h (by decide)⟩
  · obtain ⟨k, rfl, hk⟩ := inI_nat hb
    obtain ⟨b3, hA, hB, hnc, hcm, hr⟩ := ho.s3 (by omega)
    have d3 := hr.cell (j := k) (by omega)
    have f3 := hr.frozen k
    have l3 := hr.lt
    have hne := Rw.ne_ hx hr (by decide)
    have hk0 : (0 : Int) ≤ (k : Int) := by omega
    have hk1 : (k : Int) < (n : Int) := by omega
    rw [hA] at p2
    clear hr hx ho
    go_enter Try.func128, Try.ntmps128
    go_wp2_with fail
    refine (impl_hasPlace g k _ _ _ _ _ _ _ _ n n n m (by omega) _ HX.out).mono ?_
    rintro e w' ⟨rfl, q, rfl⟩
    rw [hb]
    go_wp2_with fail
    go_region
    all_goals
      go_wp2
      go_ret
      refine ⟨rfl, (below_n M w _).setCell hB _, fun _ => ⟨A1, A2, A3, A4, c1, c2, c3, c4, setW D k 0, SimD.refl _ _ _ _ _, (HX.out.drewN _).far hne _, (HO.out.drewN _).setW hA hk 0, HD.out.grow ?_⟩⟩
      simp
theorem run_HoldWeight1 (args : Array Value) (u : World) : (callFunc 128 args).run Try.prog u = .ok (.enter 128 args) u := call_enter Try.func128 (by kernel_rfl) (by kernel_rfl) _ _
theorem impl_HoldWeight (A1 A2 A3 A4 : Option Addr) (c1 c2 c3 c4 n1 n2 n3 n4 B : Nat) (D : D4) (i : Int) (w : World) (h : Own w B A1 A2 A3 A4 c1 c2 c3 c4 n1 n2 n3 n4 D) :
    Calls Try.prog 55 #[.agg #[.slice A1 n1 c1, .slice A2 n2 c2, .slice A3 n3 c3, .slice A4 n4 c4], .int .i64 i] w (RetM (okC n1 n2 n3 n4 D && (inI i 0 ((n1 : Int) - 1) && okC n1 n2 n3 n4 (setW D i.toNat 0))) n1 n2 n3 n4 (setW D i.toNat 0) w) := by
  have H := Lib.hid h
  clear h
  have z1 : (w.alloc (.cells #[.slice A1 n1 c1, .slice A2 n2 c2, .slice A3 n3 c3, .slice A4 n4 c4] 32)).heap.size = w.heap.size + 1 := by simp
  have X0 : Ox (((w.alloc (.cells #[.slice A1 n1 c1, .slice A2 n2 c2, .slice A3 n3 c3, .slice A4 n4 c4] 32)).alloc (.cells #[.int .i64 i] 2)).alloc (.cells #[sn, sn, sn, sn] 32)) (w.heap.size + 1) 2 (.int .i64 i) := by rw [← z1]; exact (Ox.new_ _ _ _).alloc _
  have zn : ((w.alloc (.cells #[.slice A1 n1 c1, .slice A2 n2 c2, .slice A3 n3 c3, .slice A4 n4 c4] 32)).alloc (.cells #[.int .i64 i] 2)).heap.size = w.heap.size + 1 + 1 := by simp
  go_enter Try.func55, Try.ntmps55
  go_wp2_with fail
  refine (impl_changedChain 128 #[.pointer (some ⟨w.heap.size + 1, 0, none⟩)] (inI i 0 ((n1 : Int) - 1)) (n1) (n2) (n3) (n4) (setW D i.toNat 0) A1 A2 A3 A4 c1 c2 c3 c4 n1 n2 n3 n4 B D _ (H.out.go ?hq) run_HoldWeight1 ?hdo).mono ?_
  case hq => exact (by repeat' (first | with_reducible exact Below.refl _ _ | with_reducible assumption | with_reducible refine below_dn ?_ _ | with_reducible refine Below.drew ?_ | with_reducible refine below_step ?_ (by assumption) | with_reducible refine Below.setCell ?_ ?_ _ | with_reducible refine Below.alloc ?_ ?_ _ | with_reducible exact Nat.le_refl _ | (simp; done) | (simp; omega) | omega))
  case hdo =>
    intro q1 g M E1 E2 E3 E4 d1 d2 d3 d4 u hx ho hd hg _ _ hb
    have Y0 := X0.go hb
    obtain ⟨s1, rfl, rfl, s4⟩ := okC_sz q1
    exact impl_HoldWeight1 g M _ E1 E2 E3 E4 d1 d2 d3 d4 n3 n4 D i u hx ho hd hg (by omega) q1 Y0
  rintro e w1 ⟨hr, hb1⟩
  have V1 := Lib.hid ((Bx.new_ ((w.alloc (.cells #[.slice A1 n1 c1, .slice A2 n2 c2, .slice A3 n3 c3, .slice A4 n4 c4] 32)).alloc (.cells #[.int .i64 i] 2)) 32 sn sn sn sn).go hb1)
  have B1 := Lib.hid (show Below w.heap.size w w1 from below_step (w := w) ((by repeat' (first | with_reducible exact Below.refl _ _ | with_reducible assumption | with_reducible refine below_dn ?_ _ | with_reducible refine Below.drew ?_ | with_reducible refine below_step ?_ (by assumption) | with_reducible refine Below.setCell ?_ ?_ _ | with_reducible refine Below.alloc ?_ ?_ _ | with_reducible exact Nat.le_refl _ | (simp; done) | (simp; omega) | omega))) hb1)
  rw [zn] at V1
  have e2 : (((w.alloc (.cells #[.slice A1 n1 c1, .slice A2 n2 c2, .slice A3 n3 c3, .slice A4 n4 c4] 32)).alloc (.cells #[.int .i64 i] 2)).alloc (.cells #[sn, sn, sn, sn] 32)).heap.size = w.heap.size + 3 := by simp
  rw [e2] at hr
  clear hb1 zn e2 z1 X0
  obtain ⟨v0, v1, v2, v3, vf⟩ := V1.out.facts
  have lv := V1.out.lt
  cases hbb : (okC n1 n2 n3 n4 D && (inI i 0 ((n1 : Int) - 1) && okC n1 n2 n3 n4 (setW D i.toNat 0)))
  · rw [hbb] at hr
    obtain rfl := hr
    go_wp2_with fail
    obtain ⟨r0, r1, r2, r3, rf⟩ := (V1.out.setAll sn sn sn sn).facts
    refine bodyPost_ret (v := .tuple #[.agg #[sn, sn, sn, sn], .bool false]) (by simp [results, Try.results55, go_sem, r0, r1, r2, r3]) rfl ?_
    rw [hbb]
    exact ⟨rfl, Bx.bel B1.out (by omega) _ _ _ _⟩
  · rw [hbb] at hr
    obtain ⟨F1, F2, F3, F4, x1, x2, x3, x4, D', rfl, hs, ho, hd⟩ := hr
    have HS := Lib.hid hs
    have HO := Lib.hid ho
    have HD := Lib.hid hd
    clear hs ho hd
    have VF := Lib.hid (V1.out.setAll (.slice F1 (n1) x1) (.slice F2 (n2) x2) (.slice F3 (n3) x3) (.slice F4 (n4) x4))
    have WF := Lib.hid (show Wr (fun k => k = w.heap.size + 1 + 1) w1 ((((w1.setCell ⟨w.heap.size + 1 + 1, 0, none⟩ (.slice F1 (n1) x1)).setCell ⟨w.heap.size + 1 + 1, 1, none⟩ (.slice F2 (n2) x2)).setCell ⟨w.heap.size + 1 + 1, 2, none⟩ (.slice F3 (n3) x3)).setCell ⟨w.heap.size + 1 + 1, 3, none⟩ (.slice F4 (n4) x4)) from by
      refine Wr.setCell (Wr.setCell (Wr.setCell (Wr.setCell (Wr.refl _ _) ?_ _) ?_ _) ?_ _) ?_ _ <;> rfl)
    go_wp2_with fail
    obtain ⟨r0, r1, r2, r3, rf⟩ := VF.out.facts
    refine bodyPost_ret (v := .tuple #[.agg #[.slice F1 (n1) x1, .slice F2 (n2) x2, .slice F3 (n3) x3, .slice F4 (n4) x4], .bool true]) (by simp [results, Try.results55, go_sem, r0, r1, r2, r3]) rfl ?_
    rw [hbb]
    exact ⟨⟨F1, F2, F3, F4, x1, x2, x3, x4, D', rfl, HS.out, (HO.out.off V1.out WF.out).mono (by omega), HD.out.mono (by omega) WF.out.size⟩, Bx.bel B1.out (by omega) _ _ _ _⟩
def plcOkB (n1 n2 n3 n4 : Nat) (D : D4) (i : Int) : Bool := okC n1 n2 n3 n4 D && inI i 0 ((n1 : Int) - 1)
theorem spec_l03Place (ca : Nat) (A1 A2 A3 A4 : Option Addr) (c1 c2 c3 c4 n1 n2 n3 n4 B : Nat) (D : D4) (i : Int) (w : World) (hp : Bx w ca 32 (.slice A1 n1 c1) (.slice A2 n2 c2) (.slice A3 n3 c3) (.slice A4 n4 c4)) (h : Own w B A1 A2 A3 A4 c1 c2 c3 c4 n1 n2 n3 n4 D) :
    Calls Try.prog 127 #[.pointer (some ⟨ca, 0, none⟩), .int .i64 i] w (RetV (.bool (plcOkB n1 n2 n3 n4 D i)) w) := by
  have HP := Lib.hid hp
  have H := Lib.hid h
  unfold plcOkB
  clear hp h
  cases q1 : okC n1 n2 n3 n4 D
  · go_enter Try.func127, Try.ntmps127
    go_wp2_with fail
    refine (spec_l03Is ca A1 A2 A3 A4 c1 c2 c3 c4 n1 n2 n3 n4 B D _ HP.out H.out).mono ?_
    rintro e w1 ⟨rfl, hb1⟩
    rw [q1]
    have B1 := Lib.hid hb1
    clear hb1
    go_wp2_with fail
    go_ret
    exact ⟨rfl, B1.out⟩
  · obtain ⟨z1, rfl, rfl, z4⟩ := okC_sz q1
    go_enter Try.func127, Try.ntmps127
    go_wp2_with fail
    refine (spec_l03Is ca A1 A2 A3 A4 c1 c2 c3 c4 n3 n3 n3 n4 B D _ HP.out H.out).mono ?_
    rintro e w1 ⟨rfl, hb1⟩
    rw [q1]
    have B1 := Lib.hid hb1
    obtain ⟨p0, p1, p2, p3, pf⟩ := (HP.out.go hb1).facts
    clear hb1
    go_wp2_with (go_at_call 104; refine (spec_l00In _ _ _ _).mono ?_; rintro e w2 ⟨rfl, n, rfl⟩)
    go_ret
    exact ⟨by simp, below_dn B1.out _⟩
set_option maxHeartbeats 4000000 in
set_option maxRecDepth 100000 in
theorem spec_HoldWeight (A1 A2 A3 A4 : Option Addr) (c1 c2 c3 c4 n1 n2 n3 n4 B : Nat) (D : D4) (i : Int) (w : World) (h : Own w B A1 A2 A3 A4 c1 c2 c3 c4 n1 n2 n3 n4 D) :
    Calls Try.prog 54 #[.agg #[.slice A1 n1 c1, .slice A2 n2 c2, .slice A3 n3 c3, .slice A4 n4 c4], .int .i64 i] w (RetM (okC n1 n2 n3 n4 D && (inI i 0 ((n1 : Int) - 1) && okC n1 n2 n3 n4 (setW D i.toNat 0))) n1 n2 n3 n4 (setW D i.toNat 0) w) := by
  have H := Lib.hid h
  clear h
  cases q1 : okC n1 n2 n3 n4 D
  · have qb : plcOkB n1 n2 n3 n4 D i = false := by unfold plcOkB; rw [q1]; rfl
    go_enter Try.func54, Try.ntmps54
    go_wp2_with fail
    refine (spec_l03Place w.heap.size A1 A2 A3 A4 c1 c2 c3 c4 n1 n2 n3 n4 B D i _ ((Bx.new_ _ _ _ _ _ _).alloc _) (H.out.go (by repeat' (first | with_reducible exact Below.refl _ _ | with_reducible assumption | with_reducible refine below_dn ?_ _ | with_reducible refine Below.drew ?_ | with_reducible refine below_step ?_ (by assumption) | with_reducible refine Below.setCell ?_ ?_ _ | with_reducible refine Below.alloc ?_ ?_ _ | with_reducible exact Nat.le_refl _ | (simp; done) | (simp; omega) | omega)))).mono ?_
    rintro e w1 ⟨rfl, hb1⟩
    have V1 := Lib.hid ((Bx.new_ (w.alloc (.cells #[.slice A1 n1 c1, .slice A2 n2 c2, .slice A3 n3 c3, .slice A4 n4 c4] 32)) 32 sn sn sn sn).go hb1)
    have B1 := Lib.hid (show Below w.heap.size w w1 from below_step (w := w) ((by repeat' (first | with_reducible exact Below.refl _ _ | with_reducible assumption | with_reducible refine below_dn ?_ _ | with_reducible refine Below.drew ?_ | with_reducible refine below_step ?_ (by assumption) | with_reducible refine Below.setCell ?_ ?_ _ | with_reducible refine Below.alloc ?_ ?_ _ | with_reducible exact Nat.le_refl _ | (simp; done) | (simp; omega) | omega))) hb1)
    have e1 : (w.alloc (.cells #[.slice A1 n1 c1, .slice A2 n2 c2, .slice A3 n3 c3, .slice A4 n4 c4] 32)).heap.size = w.heap.size + 1 := by simp
    rw [e1] at V1
    clear hb1 e1
    obtain ⟨v0, v1, v2, v3, vf⟩ := V1.out.facts
    have lv := V1.out.lt
    rw [qb]
    go_wp2_with fail
    obtain ⟨r0, r1, r2, r3, rf⟩ := (V1.out.setAll sn sn sn sn).facts
    refine bodyPost_ret (v := .tuple #[.agg #[sn, sn, sn, sn], .bool false]) (by simp [results, Try.results54, go_sem, r0, r1, r2, r3]) rfl ?_
    exact ⟨rfl, Bx.bel B1.out (by omega) _ _ _ _⟩
  · obtain ⟨s1, rfl, rfl, s4⟩ := okC_sz q1
    cases q2 : inI i 0 ((n3 : Int) - 1)
    · have qb : plcOkB n3 n3 n3 n4 D i = false := by unfold plcOkB; rw [q1, q2]; rfl
      go_enter Try.func54, Try.ntmps54
      go_wp2_with fail
      refine (spec_l03Place w.heap.size A1 A2 A3 A4 c1 c2 c3 c4 n3 n3 n3 n4 B D i _ ((Bx.new_ _ _ _ _ _ _).alloc _) (H.out.go (by repeat' (first | with_reducible exact Below.refl _ _ | with_reducible assumption | with_reducible refine below_dn ?_ _ | with_reducible refine Below.drew ?_ | with_reducible refine below_step ?_ (by assumption) | with_reducible refine Below.setCell ?_ ?_ _ | with_reducible refine Below.alloc ?_ ?_ _ | with_reducible exact Nat.le_refl _ | (simp; done) | (simp; omega) | omega)))).mono ?_
      rintro e w1 ⟨rfl, hb1⟩
      have V1 := Lib.hid ((Bx.new_ (w.alloc (.cells #[.slice A1 n3 c1, .slice A2 n3 c2, .slice A3 n3 c3, .slice A4 n4 c4] 32)) 32 sn sn sn sn).go hb1)
      have B1 := Lib.hid (show Below w.heap.size w w1 from below_step (w := w) ((by repeat' (first | with_reducible exact Below.refl _ _ | with_reducible assumption | with_reducible refine below_dn ?_ _ | with_reducible refine Below.drew ?_ | with_reducible refine below_step ?_ (by assumption) | with_reducible refine Below.setCell ?_ ?_ _ | with_reducible refine Below.alloc ?_ ?_ _ | with_reducible exact Nat.le_refl _ | (simp; done) | (simp; omega) | omega))) hb1)
      have e1 : (w.alloc (.cells #[.slice A1 n3 c1, .slice A2 n3 c2, .slice A3 n3 c3, .slice A4 n4 c4] 32)).heap.size = w.heap.size + 1 := by simp
      rw [e1] at V1
      clear hb1 e1
      obtain ⟨v0, v1, v2, v3, vf⟩ := V1.out.facts
      have lv := V1.out.lt
      rw [qb]
      go_wp2_with fail
      obtain ⟨r0, r1, r2, r3, rf⟩ := (V1.out.setAll sn sn sn sn).facts
      refine bodyPost_ret (v := .tuple #[.agg #[sn, sn, sn, sn], .bool false]) (by simp [results, Try.results54, go_sem, r0, r1, r2, r3]) rfl ?_
      exact ⟨rfl, Bx.bel B1.out (by omega) _ _ _ _⟩
    · have qb : plcOkB n3 n3 n3 n4 D i = true := by unfold plcOkB; rw [q1, q2]; rfl
      go_enter Try.func54, Try.ntmps54
      go_wp2_with fail
      refine (spec_l03Place w.heap.size A1 A2 A3 A4 c1 c2 c3 c4 n3 n3 n3 n4 B D i _ ((Bx.new_ _ _ _ _ _ _).alloc _) (H.out.go (by repeat' (first | with_reducible exact Below.refl _ _ | with_reducible assumption | with_reducible refine below_dn ?_ _ | with_reducible refine Below.drew ?_ | with_reducible refine below_step ?_ (by assumption) | with_reducible refine Below.setCell ?_ ?_ _ | with_reducible refine Below.alloc ?_ ?_ _ | with_reducible exact Nat.le_refl _ | (simp; done) | (simp; omega) | omega)))).mono ?_
      rintro e w1 ⟨rfl, hb1⟩
      have P1 := Lib.hid (((Bx.new_ w 32 (.slice A1 n3 c1) (.slice A2 n3 c2) (.slice A3 n3 c3) (.slice A4 n4 c4)).alloc _).go hb1)
      have V1 := Lib.hid ((Bx.new_ (w.alloc (.cells #[.slice A1 n3 c1, .slice A2 n3 c2, .slice A3 n3 c3, .slice A4 n4 c4] 32)) 32 sn sn sn sn).go hb1)
      have B1 := Lib.hid (show Below w.heap.size w w1 from below_step (w := w) ((by repeat' (first | with_reducible exact Below.refl _ _ | with_reducible assumption | with_reducible refine below_dn ?_ _ | with_reducible refine Below.drew ?_ | with_reducible refine below_step ?_ (by assumption) | with_reducible refine Below.setCell ?_ ?_ _ | with_reducible refine Below.alloc ?_ ?_ _ | with_reducible exact Nat.le_refl _ | (simp; done) | (simp; omega) | omega))) hb1)
      have e1 : (w.alloc (.cells #[.slice A1 n3 c1, .slice A2 n3 c2, .slice A3 n3 c3, .slice A4 n4 c4] 32)).heap.size = w.heap.size + 1 := by simp
      rw [e1] at V1
      clear hb1 e1
      rw [qb]
      go_wp2_with fail
      refine (spec_l03Own w.heap.size A1 A2 A3 A4 c1 c2 c3 c4 n3 n3 n3 n4 D (by omega) (by omega) (by omega) (by omega) _ P1.out ((H.out.go B1.out).s1.in_) ((H.out.go B1.out).s2.in_) ((H.out.go B1.out).s3.in_) ((H.out.go B1.out).s4.in_)).mono ?_
      rintro e w2 ⟨E1, E2, E3, E4, d1, d2, d3, d4, rfl, ho2, hd2, hb2⟩
      have P2 := Lib.hid (P1.out.go hb2)
      have V2 := Lib.hid (V1.out.go hb2)
      have B2 := Lib.hid (below_step B1.out hb2)
      have O2 := Lib.hid ho2
      have D2 := Lib.hid hd2
      have y1 := V1.out.lt
      have y2 := hb2.size
      have y0 := B1.out.size
      clear hb2 ho2 hd2 P1 V1 
      obtain ⟨k, rfl, hk⟩ := inI_nat q2
      obtain ⟨b3, hA, hB, hnc, hcm, hr⟩ := O2.out.s3 (by omega)
      have i3 := hr.cell (j := k) (by omega)
      have f3 := hr.frozen k
      have l3 := hr.lt
      have hk0 : (0 : Int) ≤ (k : Int) := by omega
      have hk1 : (k : Int) < (n3 : Int) := by omega
      subst hA
      clear hr hnc hcm
      go_upto_region 5 with fail
      obtain ⟨wm, hwm⟩ : ∃ wm : World, wm = (w2.setCell ⟨b3, k, none⟩ (.float .f32 0)).alloc (.cells #[.slice E1 n3 d1, .slice E2 n3 d2, .slice (some ⟨b3, 0, none⟩) n3 d3, .slice E4 n4 d4] 32) := ⟨_, rfl⟩
      have es : (w2.setCell ⟨b3, k, none⟩ (.float .f32 0)).heap.size = w2.heap.size := by simp [World.setCell]
      have XM := Lib.hid (show Bx wm w2.heap.size 32 (.slice E1 n3 d1) (.slice E2 n3 d2) (.slice (some ⟨b3, 0, none⟩) n3 d3) (.slice E4 n4 d4) by rw [hwm, ← es]; exact Bx.new_ _ _ _ _ _ _)
      have VM := Lib.hid (show Bx wm (w.heap.size + 1) 32 sn sn sn sn by rw [hwm]; exact (V2.out.far (by simp; omega) _).alloc _)
      have BM := Lib.hid (show Below w.heap.size w wm by rw [hwm]; exact Below.alloc (Below.setCell B2.out (by simp; omega) _) (by rw [es]; omega) _)
      have OM := Lib.hid (show Own wm w1.heap.size E1 E2 (some ⟨b3, 0, none⟩) E4 d1 d2 d3 d4 n3 n3 n3 n4 (setW D k 0) by rw [hwm]; exact (O2.out.setW rfl hk 0).go (Below.alloc (Below.refl _ _) (Nat.le_refl _) _))
      have SM := Lib.hid (SimD.refl n3 n3 n3 n4 (setW D (k : Int).toNat 0))
      have DM := Lib.hid (show Bds w1.heap.size wm.heap.size E1 E2 (some ⟨b3, 0, none⟩) E4 n3 n3 n3 n4 by rw [hwm]; exact D2.out.mono (Nat.le_refl _) (by simp [World.setCell]))
      rw [← hwm]
      clear hwm es i3 f3 l3 V2 O2 D2 B2 P2
      obtain ⟨t0, t1, t2, t3, tf⟩ := XM.out.facts
      have lt := XM.out.lt
      obtain ⟨v0, v1, v2, v3, vf⟩ := VM.out.facts
      have lv := VM.out.lt
      have q3 : okC (n3) (n3) (n3) (n4) (setW D (k : Int).toNat 0) = true := hold_ok _ q1
      have WF := Lib.hid (show Wr (fun k => k = w.heap.size + 1) wm ((((wm.setCell ⟨w.heap.size + 1, 0, none⟩ (.slice E1 (n3) d1)).setCell ⟨w.heap.size + 1, 1, none⟩ (.slice E2 (n3) d2)).setCell ⟨w.heap.size + 1, 2, none⟩ (.slice (some ⟨b3, 0, none⟩) (n3) d3)).setCell ⟨w.heap.size + 1, 3, none⟩ (.slice E4 (n4) d4)) from by
        refine Wr.setCell (Wr.setCell (Wr.setCell (Wr.setCell (Wr.refl _ _) ?_ _) ?_ _) ?_ _) ?_ _ <;> rfl)
      go_wp2_with fail
      obtain ⟨r0, r1, r2, r3, rf⟩ := (VM.out.setAll (.slice E1 (n3) d1) (.slice E2 (n3) d2) (.slice (some ⟨b3, 0, none⟩) (n3) d3) (.slice E4 (n4) d4)).facts
      refine bodyPost_ret (v := .tuple #[.agg #[.slice E1 (n3) d1, .slice E2 (n3) d2, .slice (some ⟨b3, 0, none⟩) (n3) d3, .slice E4 (n4) d4], .bool true]) (by simp [results, Try.results54, go_sem, r0, r1, r2, r3]) rfl ?_
      rw [q3]
      exact ⟨⟨E1, E2, (some ⟨b3, 0, none⟩), E4, d1, d2, d3, d4, setW D k 0, rfl, SM.out, (OM.out.off VM.out WF.out).mono y0, DM.out.mono y0 WF.out.size⟩, Bx.bel BM.out (by omega) _ _ _ _⟩
end Go.Proofs.Ytlhgaihfghobmaa
