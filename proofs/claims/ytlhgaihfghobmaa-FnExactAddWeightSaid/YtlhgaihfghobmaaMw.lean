/- AddWeight: contracts. -/
import Derived.Test.YtlhgaihfghobmaaMp
namespace Go.Proofs.Ytlhgaihfghobmaa
open Go.ChangeShapes Go.WideShapes Go.ChangeAt Go.RowKit Go.Deep

set_option maxHeartbeats 4000000 in
set_option maxRecDepth 100000 in
theorem impl_AddWeight1 (g M : Nat) (a0 a1 : Nat) (A1 A2 A3 A4 : Option Addr) (c1 c2 c3 c4 n m : Nat) (D : D4) (p : V3) (x : Nat) (w : World) (hx : Bx w g 32 (.slice A1 n c1) (.slice A2 n c2) (.slice A3 n c3) (.slice A4 m c4)) (ho : Own w M A1 A2 A3 A4 c1 c2 c3 c4 n n n m D) (hd : Bds M w.heap.size A1 A2 A3 A4 n n n m) (_hg : M ≤ g) (_hM : M ≤ w.heap.size) (q1 : okC n n n m D = true) (hx0 : Tx w a0 38 (.float .f32 p.x) (.float .f32 p.y) (.float .f32 p.z)) (hx1 : Ox w a1 36 (.float .f32 x)) :
    Calls Try.prog 131 #[.pointer (some ⟨g, 0, none⟩), .pointer (some ⟨a0, 0, none⟩), .pointer (some ⟨a1, 0, none⟩)] w (RetDo g M (true) ((n + 1)) ((n + 1)) ((n + 1)) (m) (putD D n n n p x) w) := by
  have HX := Lib.hid hx
  have HO := Lib.hid ho
  have _HD := Lib.hid hd
  obtain ⟨s1, _, _, s4⟩ := okC_sz q1
  obtain ⟨a00, a01, a02, af0⟩ := hx0.facts
  have la0 := hx0.lt
  have a10 := hx1.c
  clear hd hx0 hx1 q1 hx ho
  go_enter Try.func131, Try.ntmps131
  go_wp2_with fail
  refine (impl_add g M A1 A2 A3 A4 c1 c2 c3 c4 n n n m D p x _ HX.out HO.out _hg _hM (by omega) (by omega) (by omega)).mono ?_
  rintro e w1 ⟨rfl, hb, F1, F2, F3, F4, x1, x2, x3, x4, hx, ho⟩
  have BB := Lib.hid hb
  have XX := Lib.hid hx
  have OO := Lib.hid ho
  clear hb hx ho a00 a01 a02 af0 la0 a10
  go_wp2_with fail
  go_ret
  exact ⟨rfl, BB.out, fun _ => ⟨F1, F2, F3, F4, x1, x2, x3, x4, _, SimD.refl _ _ _ _ _, XX.out, OO.out, OO.out.bds⟩⟩
theorem run_AddWeight1 (args : Array Value) (u : World) : (callFunc 131 args).run Try.prog u = .ok (.enter 131 args) u := call_enter Try.func131 (by kernel_rfl) (by kernel_rfl) _ _
theorem impl_AddWeight (A1 A2 A3 A4 : Option Addr) (c1 c2 c3 c4 n1 n2 n3 n4 B : Nat) (D : D4) (p : V3) (x : Nat) (w : World) (h : Own w B A1 A2 A3 A4 c1 c2 c3 c4 n1 n2 n3 n4 D) :
    Calls Try.prog 59 #[.agg #[.slice A1 n1 c1, .slice A2 n2 c2, .slice A3 n3 c3, .slice A4 n4 c4], .agg #[.float .f32 p.x, .float .f32 p.y, .float .f32 p.z], .float .f32 x] w (RetM (okC n1 n2 n3 n4 D && (true && okC (n1 + 1) (n2 + 1) (n3 + 1) n4 (putD D n1 n2 n3 p x))) (n1 + 1) (n2 + 1) (n3 + 1) n4 (putD D n1 n2 n3 p x) w) := by
  have H := Lib.hid h
  clear h
  have z1 : (w.alloc (.cells #[.slice A1 n1 c1, .slice A2 n2 c2, .slice A3 n3 c3, .slice A4 n4 c4] 32)).heap.size = w.heap.size + 1 := by simp
  have X0 : Tx ((((w.alloc (.cells #[.slice A1 n1 c1, .slice A2 n2 c2, .slice A3 n3 c3, .slice A4 n4 c4] 32)).alloc (.cells #[.float .f32 p.x, .float .f32 p.y, .float .f32 p.z] 38)).alloc (.cells #[.float .f32 x] 36)).alloc (.cells #[sn, sn, sn, sn] 32)) (w.heap.size + 1) 38 (.float .f32 p.x) (.float .f32 p.y) (.float .f32 p.z) := by rw [← z1]; exact ((Tx.new_ _ _ _ _ _).alloc _).alloc _
  have z2 : ((w.alloc (.cells #[.slice A1 n1 c1, .slice A2 n2 c2, .slice A3 n3 c3, .slice A4 n4 c4] 32)).alloc (.cells #[.float .f32 p.x, .float .f32 p.y, .float .f32 p.z] 38)).heap.size = w.heap.size + 1 + 1 := by simp
  have X1 : Ox ((((w.alloc (.cells #[.slice A1 n1 c1, .slice A2 n2 c2, .slice A3 n3 c3, .slice A4 n4 c4] 32)).alloc (.cells #[.float .f32 p.x, .float .f32 p.y, .float .f32 p.z] 38)).alloc (.cells #[.float .f32 x] 36)).alloc (.cells #[sn, sn, sn, sn] 32)) (w.heap.size + 1 + 1) 36 (.float .f32 x) := by rw [← z2]; exact (Ox.new_ _ _ _).alloc _
  have zn : (((w.alloc (.cells #[.slice A1 n1 c1, .slice A2 n2 c2, .slice A3 n3 c3, .slice A4 n4 c4] 32)).alloc (.cells #[.float .f32 p.x, .float .f32 p.y, .float .f32 p.z] 38)).alloc (.cells #[.float .f32 x] 36)).heap.size = w.heap.size + 1 + 1 + 1 := by simp
  go_enter Try.func59, Try.ntmps59
  go_wp2_with fail
  refine (impl_changedChain 131 #[.pointer (some ⟨w.heap.size + 1, 0, none⟩), .pointer (some ⟨w.heap.size + 1 + 1, 0, none⟩)] (true) ((n1 + 1)) ((n2 + 1)) ((n3 + 1)) (n4) (putD D n1 n2 n3 p x) A1 A2 A3 A4 c1 c2 c3 c4 n1 n2 n3 n4 B D _ (H.out.go ?hq) run_AddWeight1 ?hdo).mono ?_
  case hq => exact (by repeat' (first | with_reducible exact Below.refl _ _ | with_reducible assumption | with_reducible refine below_dn ?_ _ | with_reducible refine Below.drew ?_ | with_reducible refine below_step ?_ (by assumption) | with_reducible refine Below.setCell ?_ ?_ _ | with_reducible refine Below.alloc ?_ ?_ _ | with_reducible exact Nat.le_refl _ | (simp; done) | (simp; omega) | omega))
  case hdo =>
    intro q1 g M E1 E2 E3 E4 d1 d2 d3 d4 u hx ho hd hg _ _ hb
    have Y0 := X0.go hb
    have Y1 := X1.go hb
    obtain ⟨s1, rfl, rfl, s4⟩ := okC_sz q1
    exact impl_AddWeight1 g M _ _ E1 E2 E3 E4 d1 d2 d3 d4 n3 n4 D p x u hx ho hd hg (by omega) q1 Y0 Y1
  rintro e w1 ⟨hr, hb1⟩
  have V1 := Lib.hid ((Bx.new_ (((w.alloc (.cells #[.slice A1 n1 c1, .slice A2 n2 c2, .slice A3 n3 c3, .slice A4 n4 c4] 32)).alloc (.cells #[.float .f32 p.x, .float .f32 p.y, .float .f32 p.z] 38)).alloc (.cells #[.float .f32 x] 36)) 32 sn sn sn sn).go hb1)
  have B1 := Lib.hid (show Below w.heap.size w w1 from below_step (w := w) ((by repeat' (first | with_reducible exact Below.refl _ _ | with_reducible assumption | with_reducible refine below_dn ?_ _ | with_reducible refine Below.drew ?_ | with_reducible refine below_step ?_ (by assumption) | with_reducible refine Below.setCell ?_ ?_ _ | with_reducible refine Below.alloc ?_ ?_ _ | with_reducible exact Nat.le_refl _ | (simp; done) | (simp; omega) | omega))) hb1)
  rw [zn] at V1
  have e2 : ((((w.alloc (.cells #[.slice A1 n1 c1, .slice A2 n2 c2, .slice A3 n3 c3, .slice A4 n4 c4] 32)).alloc (.cells #[.float .f32 p.x, .float .f32 p.y, .float .f32 p.z] 38)).alloc (.cells #[.float .f32 x] 36)).alloc (.cells #[sn, sn, sn, sn] 32)).heap.size = w.heap.size + 4 := by simp
  rw [e2] at hr
  clear hb1 zn e2 z1 X0 z2 X1
  obtain ⟨v0, v1, v2, v3, vf⟩ := V1.out.facts
  have lv := V1.out.lt
  cases hbb : (okC n1 n2 n3 n4 D && (true && okC (n1 + 1) (n2 + 1) (n3 + 1) n4 (putD D n1 n2 n3 p x)))
  · rw [hbb] at hr
    obtain rfl := hr
    go_wp2_with fail
    obtain ⟨r0, r1, r2, r3, rf⟩ := (V1.out.setAll sn sn sn sn).facts
    refine bodyPost_ret (v := .tuple #[.agg #[sn, sn, sn, sn], .bool false]) (by simp [results, Try.results59, go_sem, r0, r1, r2, r3]) rfl ?_
    rw [hbb]
    exact ⟨rfl, Bx.bel B1.out (by omega) _ _ _ _⟩
  · rw [hbb] at hr
    obtain ⟨F1, F2, F3, F4, x1, x2, x3, x4, D', rfl, hs, ho, hd⟩ := hr
    have HS := Lib.hid hs
    have HO := Lib.hid ho
    have HD := Lib.hid hd
    clear hs ho hd
    have VF := Lib.hid (V1.out.setAll (.slice F1 ((n1 + 1)) x1) (.slice F2 ((n2 + 1)) x2) (.slice F3 ((n3 + 1)) x3) (.slice F4 (n4) x4))
    have WF := Lib.hid (show Wr (fun k => k = w.heap.size + 1 + 1 + 1) w1 ((((w1.setCell ⟨w.heap.size + 1 + 1 + 1, 0, none⟩ (.slice F1 ((n1 + 1)) x1)).setCell ⟨w.heap.size + 1 + 1 + 1, 1, none⟩ (.slice F2 ((n2 + 1)) x2)).setCell ⟨w.heap.size + 1 + 1 + 1, 2, none⟩ (.slice F3 ((n3 + 1)) x3)).setCell ⟨w.heap.size + 1 + 1 + 1, 3, none⟩ (.slice F4 (n4) x4)) from by
      refine Wr.setCell (Wr.setCell (Wr.setCell (Wr.setCell (Wr.refl _ _) ?_ _) ?_ _) ?_ _) ?_ _ <;> rfl)
    go_wp2_with fail
    obtain ⟨r0, r1, r2, r3, rf⟩ := VF.out.facts
    refine bodyPost_ret (v := .tuple #[.agg #[.slice F1 ((n1 + 1)) x1, .slice F2 ((n2 + 1)) x2, .slice F3 ((n3 + 1)) x3, .slice F4 (n4) x4], .bool true]) (by simp [results, Try.results59, go_sem, r0, r1, r2, r3]) rfl ?_
    rw [hbb]
    exact ⟨⟨F1, F2, F3, F4, x1, x2, x3, x4, D', rfl, HS.out, (HO.out.off V1.out WF.out).mono (by omega), HD.out.mono (by omega) WF.out.size⟩, Bx.bel B1.out (by omega) _ _ _ _⟩
set_option maxHeartbeats 4000000 in
set_option maxRecDepth 100000 in
theorem spec_AddWeight (A1 A2 A3 A4 : Option Addr) (c1 c2 c3 c4 n1 n2 n3 n4 B : Nat) (D : D4) (p : V3) (x : Nat) (w : World) (h : Own w B A1 A2 A3 A4 c1 c2 c3 c4 n1 n2 n3 n4 D) :
    Calls Try.prog 58 #[.agg #[.slice A1 n1 c1, .slice A2 n2 c2, .slice A3 n3 c3, .slice A4 n4 c4], .agg #[.float .f32 p.x, .float .f32 p.y, .float .f32 p.z], .float .f32 x] w (RetM (okC n1 n2 n3 n4 D && (true && okC (n1 + 1) (n2 + 1) (n3 + 1) n4 (putD D n1 n2 n3 p x))) (n1 + 1) (n2 + 1) (n3 + 1) n4 (putD D n1 n2 n3 p x) w) := by
  have H := Lib.hid h
  clear h
  cases q1 : okC n1 n2 n3 n4 D
  · go_enter Try.func58, Try.ntmps58
    go_wp2_with fail
    refine (spec_l03Is w.heap.size A1 A2 A3 A4 c1 c2 c3 c4 n1 n2 n3 n4 B D _ (((Bx.new_ _ _ _ _ _ _).alloc _).alloc _) (H.out.go (by repeat' (first | with_reducible exact Below.refl _ _ | with_reducible assumption | with_reducible refine below_dn ?_ _ | with_reducible refine Below.drew ?_ | with_reducible refine below_step ?_ (by assumption) | with_reducible refine Below.setCell ?_ ?_ _ | with_reducible refine Below.alloc ?_ ?_ _ | with_reducible exact Nat.le_refl _ | (simp; done) | (simp; omega) | omega)))).mono ?_
    rintro e w1 ⟨rfl, hb1⟩
    have X0 := Lib.hid (((Tx.new_ (w.alloc (.cells #[.slice A1 n1 c1, .slice A2 n2 c2, .slice A3 n3 c3, .slice A4 n4 c4] 32)) 38 (.float .f32 p.x) (.float .f32 p.y) (.float .f32 p.z)).alloc _).go hb1)
    have z0 : (w.alloc (.cells #[.slice A1 n1 c1, .slice A2 n2 c2, .slice A3 n3 c3, .slice A4 n4 c4] 32)).heap.size = w.heap.size + 1 := by simp
    rw [z0] at X0
    clear z0
    have V1 := Lib.hid ((Bx.new_ ((w.alloc (.cells #[.slice A1 n1 c1, .slice A2 n2 c2, .slice A3 n3 c3, .slice A4 n4 c4] 32)).alloc (.cells #[.float .f32 p.x, .float .f32 p.y, .float .f32 p.z] 38)) 32 sn sn sn sn).go hb1)
    have B1 := Lib.hid (show Below w.heap.size w w1 from below_step (w := w) ((by repeat' (first | with_reducible exact Below.refl _ _ | with_reducible assumption | with_reducible refine below_dn ?_ _ | with_reducible refine Below.drew ?_ | with_reducible refine below_step ?_ (by assumption) | with_reducible refine Below.setCell ?_ ?_ _ | with_reducible refine Below.alloc ?_ ?_ _ | with_reducible exact Nat.le_refl _ | (simp; done) | (simp; omega) | omega))) hb1)
    have e1 : ((w.alloc (.cells #[.slice A1 n1 c1, .slice A2 n2 c2, .slice A3 n3 c3, .slice A4 n4 c4] 32)).alloc (.cells #[.float .f32 p.x, .float .f32 p.y, .float .f32 p.z] 38)).heap.size = w.heap.size + 1 + 1 := by simp
    rw [e1] at V1
    clear hb1 e1
    obtain ⟨v0, v1, v2, v3, vf⟩ := V1.out.facts
    have lv := V1.out.lt
    obtain ⟨u00, u01, u02, u0f⟩ := X0.out.facts
    have lu0 := X0.out.lt
    rw [q1]
    go_wp2_with fail
    obtain ⟨r0, r1, r2, r3, rf⟩ := (V1.out.setAll sn sn sn sn).facts
    refine bodyPost_ret (v := .tuple #[.agg #[sn, sn, sn, sn], .bool false]) (by simp [results, Try.results58, go_sem, r0, r1, r2, r3]) rfl ?_
    exact ⟨rfl, Bx.bel B1.out (by omega) _ _ _ _⟩
  · obtain ⟨s1, rfl, rfl, s4⟩ := okC_sz q1
    have q2 : true = true := rfl
    go_enter Try.func58, Try.ntmps58
    go_wp2_with fail
    refine (spec_l03Is w.heap.size A1 A2 A3 A4 c1 c2 c3 c4 n3 n3 n3 n4 B D _ (((Bx.new_ _ _ _ _ _ _).alloc _).alloc _) (H.out.go (by repeat' (first | with_reducible exact Below.refl _ _ | with_reducible assumption | with_reducible refine below_dn ?_ _ | with_reducible refine Below.drew ?_ | with_reducible refine below_step ?_ (by assumption) | with_reducible refine Below.setCell ?_ ?_ _ | with_reducible refine Below.alloc ?_ ?_ _ | with_reducible exact Nat.le_refl _ | (simp; done) | (simp; omega) | omega)))).mono ?_
    rintro e w1 ⟨rfl, hb1⟩
    have P1 := Lib.hid ((((Bx.new_ w 32 (.slice A1 n3 c1) (.slice A2 n3 c2) (.slice A3 n3 c3) (.slice A4 n4 c4)).alloc _).alloc _).go hb1)
    have X0 := Lib.hid (((Tx.new_ (w.alloc (.cells #[.slice A1 n3 c1, .slice A2 n3 c2, .slice A3 n3 c3, .slice A4 n4 c4] 32)) 38 (.float .f32 p.x) (.float .f32 p.y) (.float .f32 p.z)).alloc _).go hb1)
    have z0 : (w.alloc (.cells #[.slice A1 n3 c1, .slice A2 n3 c2, .slice A3 n3 c3, .slice A4 n4 c4] 32)).heap.size = w.heap.size + 1 := by simp
    rw [z0] at X0
    clear z0
    have V1 := Lib.hid ((Bx.new_ ((w.alloc (.cells #[.slice A1 n3 c1, .slice A2 n3 c2, .slice A3 n3 c3, .slice A4 n4 c4] 32)).alloc (.cells #[.float .f32 p.x, .float .f32 p.y, .float .f32 p.z] 38)) 32 sn sn sn sn).go hb1)
    have B1 := Lib.hid (show Below w.heap.size w w1 from below_step (w := w) ((by repeat' (first | with_reducible exact Below.refl _ _ | with_reducible assumption | with_reducible refine below_dn ?_ _ | with_reducible refine Below.drew ?_ | with_reducible refine below_step ?_ (by assumption) | with_reducible refine Below.setCell ?_ ?_ _ | with_reducible refine Below.alloc ?_ ?_ _ | with_reducible exact Nat.le_refl _ | (simp; done) | (simp; omega) | omega))) hb1)
    have e1 : ((w.alloc (.cells #[.slice A1 n3 c1, .slice A2 n3 c2, .slice A3 n3 c3, .slice A4 n4 c4] 32)).alloc (.cells #[.float .f32 p.x, .float .f32 p.y, .float .f32 p.z] 38)).heap.size = w.heap.size + 1 + 1 := by simp
    rw [e1] at V1
    clear hb1 e1
    obtain ⟨u00, u01, u02, u0f⟩ := X0.out.facts
    have lu0 := X0.out.lt
    rw [q1]
    go_wp2_with fail
    refine (spec_l03Own w.heap.size A1 A2 A3 A4 c1 c2 c3 c4 n3 n3 n3 n4 D (by omega) (by omega) (by omega) (by omega) _ P1.out ((H.out.go B1.out).s1.in_) ((H.out.go B1.out).s2.in_) ((H.out.go B1.out).s3.in_) ((H.out.go B1.out).s4.in_)).mono ?_
    rintro e w2 ⟨E1, E2, E3, E4, d1, d2, d3, d4, rfl, ho2, hd2, hb2⟩
    have P2 := Lib.hid (P1.out.go hb2)
    have V2 := Lib.hid (V1.out.go hb2)
    have B2 := Lib.hid (below_step B1.out hb2)
    have O2 := Lib.hid ho2
    have D2 := Lib.hid hd2
    have y1 := V1.out.lt
    have y2 := hb2.size
    have y0 := B1.out.size
    clear u00 u01 u02 u0f lu0
    have Z0 := Lib.hid (X0.out.go hb2)
    clear hb2 ho2 hd2 P1 V1 X0
    obtain ⟨b0, b1, b2, bf⟩ := Z0.out.facts
    have lz := Z0.out.lt
    go_wp2_with fail
    refine (spec_l03Put w2.heap.size w1.heap.size E1 E2 E3 E4 d1 d2 d3 d4 n3 n3 n3 n4 D p x _ (Bx.new_ _ _ _ _ _ _) (O2.out.go (by repeat' (first | with_reducible exact Below.refl _ _ | with_reducible assumption | with_reducible refine below_dn ?_ _ | with_reducible refine Below.drew ?_ | with_reducible refine below_step ?_ (by assumption) | with_reducible refine Below.setCell ?_ ?_ _ | with_reducible refine Below.alloc ?_ ?_ _ | with_reducible exact Nat.le_refl _ | (simp; done) | (simp; omega) | omega))) (by omega) (by simp; omega) (by omega) (by omega) (by omega)).mono ?_
    rintro e wm ⟨rfl, hb, F1, F2, F3, F4, x1, x2, x3, x4, hx, ho⟩
    have XM := Lib.hid hx
    have OM := Lib.hid ho
    have VM := Lib.hid ((V2.out.alloc _).below hb (by omega))
    have BM := Lib.hid ((Below.alloc B2.out (by omega) _).trans (hb.mono y0))
    have SM := Lib.hid (SimD.refl (n3 + 1) (n3 + 1) (n3 + 1) n4 (putD D n3 n3 n3 p x))
    have DM := Lib.hid ho.bds
    clear hb hx ho b0 b1 b2 bf lz V2 O2 D2 B2 P2 Z0
    obtain ⟨t0, t1, t2, t3, tf⟩ := XM.out.facts
    have lt := XM.out.lt
    go_wp2_with fail
    refine (spec_l03Give F1 F2 F3 F4 x1 x2 x3 x4 ((n3 + 1)) ((n3 + 1)) ((n3 + 1)) (n4) _ (putD D n3 n3 n3 p x) _ OM.out).mono ?_
    rintro e w4 ⟨rfl, hb4⟩
    have V4 := Lib.hid (VM.out.go hb4)
    have B4 := Lib.hid (below_step BM.out hb4)
    have O4 := Lib.hid (OM.out.go hb4)
    have D4_ := Lib.hid (DM.out.mono (Nat.le_refl _) hb4.size)
    clear hb4 t0 t1 t2 t3 tf lt VM BM OM DM
    obtain ⟨v0, v1, v2, v3, vf⟩ := V4.out.facts
    have lv := V4.out.lt
    rw [okC_sim SM.out]
    cases q3 : okC ((n3 + 1)) ((n3 + 1)) ((n3 + 1)) (n4) (putD D n3 n3 n3 p x)
    · unfold giveV
      go_wp2_with fail
      obtain ⟨r0, r1, r2, r3, rf⟩ := (V4.out.setAll sn sn sn sn).facts
      refine bodyPost_ret (v := .tuple #[.agg #[sn, sn, sn, sn], .bool false]) (by simp [results, Try.results58, go_sem, r0, r1, r2, r3]) rfl ?_
      rw [q3]
      exact ⟨rfl, Bx.bel B4.out (by omega) _ _ _ _⟩
    · unfold giveV
      have WF := Lib.hid (show Wr (fun k => k = w.heap.size + 1 + 1) w4 ((((w4.setCell ⟨w.heap.size + 1 + 1, 0, none⟩ (.slice F1 ((n3 + 1)) x1)).setCell ⟨w.heap.size + 1 + 1, 1, none⟩ (.slice F2 ((n3 + 1)) x2)).setCell ⟨w.heap.size + 1 + 1, 2, none⟩ (.slice F3 ((n3 + 1)) x3)).setCell ⟨w.heap.size + 1 + 1, 3, none⟩ (.slice F4 (n4) x4)) from by
        refine Wr.setCell (Wr.setCell (Wr.setCell (Wr.setCell (Wr.refl _ _) ?_ _) ?_ _) ?_ _) ?_ _ <;> rfl)
      go_wp2_with fail
      obtain ⟨r0, r1, r2, r3, rf⟩ := (V4.out.setAll (.slice F1 ((n3 + 1)) x1) (.slice F2 ((n3 + 1)) x2) (.slice F3 ((n3 + 1)) x3) (.slice F4 (n4) x4)).facts
      refine bodyPost_ret (v := .tuple #[.agg #[.slice F1 ((n3 + 1)) x1, .slice F2 ((n3 + 1)) x2, .slice F3 ((n3 + 1)) x3, .slice F4 (n4) x4], .bool true]) (by simp [results, Try.results58, go_sem, r0, r1, r2, r3]) rfl ?_
      rw [q3]
      exact ⟨⟨F1, F2, F3, F4, x1, x2, x3, x4, putD D n3 n3 n3 p x, rfl, SM.out, (O4.out.off V4.out WF.out).mono y0, D4_.out.mono y0 WF.out.size⟩, Bx.bel B4.out (by omega) _ _ _ _⟩
end Go.Proofs.Ytlhgaihfghobmaa
