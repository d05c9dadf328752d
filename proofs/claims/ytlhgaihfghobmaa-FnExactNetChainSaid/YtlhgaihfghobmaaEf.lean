/- TurnBack: contracts. -/
import Derived.Test.YtlhgaihfghobmaaEe
import Derived.BigRegion
namespace Go.Proofs.Ytlhgaihfghobmaa
open Go.ChangeShapes Go.WideShapes Go.ChangeAt Go.RowKit Go.Deep

theorem call_enter {P : Program} {f : FuncId} {fn : Func} (hf : P.funcs[f]? = some fn) (hn : (fn.name == "runtime.NumGoroutine") = false) (hb : fn.body.isSome = true) (args : Array Value) (w : World) : (callFunc f args).run P w = .ok (.enter f args) w := by
  have hne : fn.name ≠ "runtime.NumGoroutine" := fun e => by rw [e] at hn; simp at hn
  obtain ⟨c, hc⟩ := Option.isSome_iff_exists.1 hb
  simp [callFunc, hf, hne, hc]
def turnD (D : D4) : D4 := ⟨D.B, D.P, D.W, D.R⟩
theorem Own.turn {w : World} {B : Nat} {A1 A2 A3 A4 : Option Addr} {c1 c2 c3 c4 n1 n2 n3 n4 : Nat} {D : D4} (h : Own w B A1 A2 A3 A4 c1 c2 c3 c4 n1 n2 n3 n4 D) : Own w B A2 A1 A3 A4 c2 c1 c3 c4 n2 n1 n3 n4 (turnD D) :=
  ⟨h.s2, h.s1, h.s3, h.s4, fun g e1 e2 m1 m2 => h.ne g e2 e1 m2 m1⟩
theorem Sl.off {w w' : World} {B sz n cap g cs c : Nat} {A : Option Addr} {t t' : TypeId} {f f' : Nat → Value} (h : Sl w B t sz A n cap f) (hx : Rw w g t' cs c f') (ht : t ≠ t') (hw : Wr (fun k => k = g) w w') : Sl w' B t sz A n cap f := fun hn => by
  obtain ⟨k, h1, h2, h3, h4, h5⟩ := h hn
  exact ⟨k, h1, h2, h3, h4, h5.wr hw (Rw.ne_ h5 hx ht)⟩
/-- a store to the chain's own block leaves its slices alone. -/
theorem Own.off {w w' : World} {B g : Nat} {A1 A2 A3 A4 : Option Addr} {c1 c2 c3 c4 n1 n2 n3 n4 : Nat} {D : D4} {x0 x1 x2 x3 : Value} (h : Own w B A1 A2 A3 A4 c1 c2 c3 c4 n1 n2 n3 n4 D) (hx : Bx w g 32 x0 x1 x2 x3) (hw : Wr (fun k => k = g) w w') : Own w' B A1 A2 A3 A4 c1 c2 c3 c4 n1 n2 n3 n4 D :=
  ⟨h.s1.off hx (by decide) hw, h.s2.off hx (by decide) hw, h.s3.off hx (by decide) hw, h.s4.off hx (by decide) hw, h.ne⟩
set_option maxHeartbeats 4000000 in
theorem impl_TurnBack1 (g M : Nat) (A1 A2 A3 A4 : Option Addr) (c1 c2 c3 c4 n1 n2 n3 n4 : Nat) (D : D4) (u : World) (hx : Bx u g 32 (.slice A1 n1 c1) (.slice A2 n2 c2) (.slice A3 n3 c3) (.slice A4 n4 c4)) (ho : Own u M A1 A2 A3 A4 c1 c2 c3 c4 n1 n2 n3 n4 D) (hd : Bds M u.heap.size A1 A2 A3 A4 n1 n2 n3 n4) (hg : M ≤ g) :
    Calls Try.prog 126 #[.pointer (some ⟨g, 0, none⟩)] u (RetDo g M true n2 n1 n3 n4 (turnD D) u) := by
  have HX := Lib.hid hx
  have HO := Lib.hid ho
  have HD := Lib.hid hd
  obtain ⟨p0, p1, p2, p3, pf⟩ := hx.facts
  have lp := hx.lt
  clear hx ho hd
  go_enter Try.func126, Try.ntmps126
  go_upto_region 1 with fail
  go_region
  all_goals
    go_wp2
    go_ret
    have W1 : Wr (fun k => k = g) u (((u.setCell ⟨g, 0, none⟩ (.slice A2 n2 c2)).setCell ⟨g, 1, none⟩ (.slice A1 n1 c1)).drewN 1) := by
      refine Wr.drewN (Wr.setCell (Wr.setCell (Wr.refl _ _) ?_ _) ?_ _) 1
      · rfl
      · rfl
    exact ⟨rfl, (((Below.refl M u).setCell hg _).setCell hg _).drew, fun _ => ⟨A2, A1, A3, A4, c2, c1, c3, c4, turnD D, SimD.refl _ _ _ _ _, (HX.out.set0 _).set1 _, (HO.out.off HX.out W1).turn, ⟨HD.out.b2.mono (Nat.le_refl _) W1.size, HD.out.b1.mono (Nat.le_refl _) W1.size, HD.out.b3.mono (Nat.le_refl _) W1.size, HD.out.b4.mono (Nat.le_refl _) W1.size⟩⟩⟩
theorem run_fn126 (args : Array Value) (u : World) : (callFunc 126 args).run Try.prog u = .ok (.enter 126 args) u := call_enter Try.func126 (by kernel_rfl) (by kernel_rfl) _ _
theorem impl_TurnBack (A1 A2 A3 A4 : Option Addr) (c1 c2 c3 c4 n1 n2 n3 n4 B : Nat) (D : D4) (w : World) (h : Own w B A1 A2 A3 A4 c1 c2 c3 c4 n1 n2 n3 n4 D) :
    Calls Try.prog 53 #[.agg #[.slice A1 n1 c1, .slice A2 n2 c2, .slice A3 n3 c3, .slice A4 n4 c4]] w (RetM (okC n1 n2 n3 n4 D && (true && okC n2 n1 n3 n4 (turnD D))) n2 n1 n3 n4 (turnD D) w) := by
  have H := Lib.hid h
  clear h
  go_enter Try.func53, Try.ntmps53
  go_wp2_with fail
  refine (impl_changedChain 126 #[] true n2 n1 n3 n4 (turnD D) A1 A2 A3 A4 c1 c2 c3 c4 n1 n2 n3 n4 B D _ (H.out.go ?hq) run_fn126 ?hdo).mono ?_
  case hq => exact (by repeat' (first | with_reducible exact Below.refl _ _ | with_reducible assumption | with_reducible refine below_dn ?_ _ | with_reducible refine Below.drew ?_ | with_reducible refine below_step ?_ (by assumption) | with_reducible refine Below.setCell ?_ ?_ _ | with_reducible refine Below.alloc ?_ ?_ _ | with_reducible exact Nat.le_refl _ | (simp; done) | (simp; omega) | omega))
  case hdo => exact fun _ g M E1 E2 E3 E4 d1 d2 d3 d4 u hx ho hd _ hg _ _ _ => impl_TurnBack1 g M E1 E2 E3 E4 d1 d2 d3 d4 n1 n2 n3 n4 D u hx ho hd hg
  rintro e w1 ⟨hr, hb1⟩
  have e1 : (w.alloc (.cells #[.slice A1 n1 c1, .slice A2 n2 c2, .slice A3 n3 c3, .slice A4 n4 c4] 32)).heap.size = w.heap.size + 1 := by simp
  have e2 : ((w.alloc (.cells #[.slice A1 n1 c1, .slice A2 n2 c2, .slice A3 n3 c3, .slice A4 n4 c4] 32)).alloc (.cells #[sn, sn, sn, sn] 32)).heap.size = w.heap.size + 2 := by simp
  have V1 := Lib.hid ((Bx.new_ (w.alloc (.cells #[.slice A1 n1 c1, .slice A2 n2 c2, .slice A3 n3 c3, .slice A4 n4 c4] 32)) 32 sn sn sn sn).go hb1)
  have B1 := Lib.hid (show Below w.heap.size w w1 from below_step (w := w) ((by repeat' (first | with_reducible exact Below.refl _ _ | with_reducible assumption | with_reducible refine below_dn ?_ _ | with_reducible refine Below.drew ?_ | with_reducible refine below_step ?_ (by assumption) | with_reducible refine Below.setCell ?_ ?_ _ | with_reducible refine Below.alloc ?_ ?_ _ | with_reducible exact Nat.le_refl _ | (simp; done) | (simp; omega) | omega))) hb1)
  rw [e1] at V1
  rw [e2] at hr
  clear hb1 e1 e2
  obtain ⟨v0, v1, v2, v3, vf⟩ := V1.out.facts
  have lv := V1.out.lt
  cases hbb : (okC n1 n2 n3 n4 D && (true && okC n2 n1 n3 n4 (turnD D)))
  · rw [hbb] at hr
    obtain rfl := hr
    go_wp2_with fail
    obtain ⟨r0, r1, r2, r3, rf⟩ := (V1.out.setAll sn sn sn sn).facts
    refine bodyPost_ret (v := .tuple #[.agg #[sn, sn, sn, sn], .bool false]) (by simp [results, Try.results53, go_sem, r0, r1, r2, r3]) rfl ?_
    rw [hbb]
    exact ⟨rfl, Bx.bel B1.out (by omega) _ _ _ _⟩
  · rw [hbb] at hr
    obtain ⟨F1, F2, F3, F4, x1, x2, x3, x4, D', rfl, hs, ho, hd⟩ := hr
    have HS := Lib.hid hs
    have HO := Lib.hid ho
    have HD := Lib.hid hd
    clear hs ho hd
    have VF := Lib.hid (V1.out.setAll (.slice F1 n2 x1) (.slice F2 n1 x2) (.slice F3 n3 x3) (.slice F4 n4 x4))
    have WF := Lib.hid (show Wr (fun k => k = w.heap.size + 1) w1 ((((w1.setCell ⟨w.heap.size + 1, 0, none⟩ (.slice F1 n2 x1)).setCell ⟨w.heap.size + 1, 1, none⟩ (.slice F2 n1 x2)).setCell ⟨w.heap.size + 1, 2, none⟩ (.slice F3 n3 x3)).setCell ⟨w.heap.size + 1, 3, none⟩ (.slice F4 n4 x4)) from by
      refine Wr.setCell (Wr.setCell (Wr.setCell (Wr.setCell (Wr.refl _ _) ?_ _) ?_ _) ?_ _) ?_ _ <;> rfl)
    go_wp2_with fail
    obtain ⟨r0, r1, r2, r3, rf⟩ := VF.out.facts
    refine bodyPost_ret (v := .tuple #[.agg #[.slice F1 n2 x1, .slice F2 n1 x2, .slice F3 n3 x3, .slice F4 n4 x4], .bool true]) (by simp [results, Try.results53, go_sem, r0, r1, r2, r3]) rfl ?_
    rw [hbb]
    exact ⟨⟨F1, F2, F3, F4, x1, x2, x3, x4, D', rfl, HS.out, (HO.out.off V1.out WF.out).mono (by omega), ⟨HD.out.b1.mono (by omega) WF.out.size, HD.out.b2.mono (by omega) WF.out.size, HD.out.b3.mono (by omega) WF.out.size, HD.out.b4.mono (by omega) WF.out.size⟩⟩, Bx.bel B1.out (by omega) _ _ _ _⟩
set_option maxHeartbeats 4000000 in
theorem spec_TurnBack (A1 A2 A3 A4 : Option Addr) (c1 c2 c3 c4 n1 n2 n3 n4 B : Nat) (D : D4) (w : World) (h : Own w B A1 A2 A3 A4 c1 c2 c3 c4 n1 n2 n3 n4 D) :
    Calls Try.prog 52 #[.agg #[.slice A1 n1 c1, .slice A2 n2 c2, .slice A3 n3 c3, .slice A4 n4 c4]] w (RetM (okC n1 n2 n3 n4 D) n2 n1 n3 n4 (turnD D) w) := by
  have H := Lib.hid h
  clear h
  cases q1 : okC n1 n2 n3 n4 D
  · go_enter Try.func52, Try.ntmps52
    go_wp2_with fail
    refine (spec_l03Is w.heap.size A1 A2 A3 A4 c1 c2 c3 c4 n1 n2 n3 n4 B D _ ((Bx.new_ _ _ _ _ _ _).alloc _) (H.out.go (by repeat' (first | with_reducible exact Below.refl _ _ | with_reducible assumption | with_reducible refine below_dn ?_ _ | with_reducible refine Below.drew ?_ | with_reducible refine below_step ?_ (by assumption) | with_reducible refine Below.setCell ?_ ?_ _ | with_reducible refine Below.alloc ?_ ?_ _ | with_reducible exact Nat.le_refl _ | (simp; done) | (simp; omega) | omega)))).mono ?_
    rintro e w1 ⟨rfl, hb1⟩
    have V1 := Lib.hid ((Bx.new_ (w.alloc (.cells #[.slice A1 n1 c1, .slice A2 n2 c2, .slice A3 n3 c3, .slice A4 n4 c4] 32)) 32 sn sn sn sn).go hb1)
    have B1 := Lib.hid (show Below w.heap.size w w1 from below_step (w := w) ((by repeat' (first | with_reducible exact Below.refl _ _ | with_reducible assumption | with_reducible refine below_dn ?_ _ | with_reducible refine Below.drew ?_ | with_reducible refine below_step ?_ (by assumption) | with_reducible refine Below.setCell ?_ ?_ _ | with_reducible refine Below.alloc ?_ ?_ _ | with_reducible exact Nat.le_refl _ | (simp; done) | (simp; omega) | omega))) hb1)
    have e1 : (w.alloc (.cells #[.slice A1 n1 c1, .slice A2 n2 c2, .slice A3 n3 c3, .slice A4 n4 c4] 32)).heap.size = w.heap.size + 1 := by simp
    rw [e1] at V1
    clear hb1 e1
    obtain ⟨v0, v1, v2, v3, vf⟩ := V1.out.facts
    have lv := V1.out.lt
    rw [q1]
    go_wp2_with fail
    obtain ⟨r0, r1, r2, r3, rf⟩ := (V1.out.setAll sn sn sn sn).facts
    refine bodyPost_ret (v := .tuple #[.agg #[sn, sn, sn, sn], .bool false]) (by simp [results, Try.results52, go_sem, r0, r1, r2, r3]) rfl ?_
    exact ⟨rfl, Bx.bel B1.out (by omega) _ _ _ _⟩
  · obtain ⟨z1, rfl, rfl, z4⟩ := okC_sz q1
    go_enter Try.func52, Try.ntmps52
    go_wp2_with fail
    refine (spec_l03Is w.heap.size A1 A2 A3 A4 c1 c2 c3 c4 n3 n3 n3 n4 B D _ ((Bx.new_ _ _ _ _ _ _).alloc _) (H.out.go (by repeat' (first | with_reducible exact Below.refl _ _ | with_reducible assumption | with_reducible refine below_dn ?_ _ | with_reducible refine Below.drew ?_ | with_reducible refine below_step ?_ (by assumption) | with_reducible refine Below.setCell ?_ ?_ _ | with_reducible refine Below.alloc ?_ ?_ _ | with_reducible exact Nat.le_refl _ | (simp; done) | (simp; omega) | omega)))).mono ?_
    rintro e w1 ⟨rfl, hb1⟩
    have P1 := Lib.hid (((Bx.new_ w 32 (.slice A1 n3 c1) (.slice A2 n3 c2) (.slice A3 n3 c3) (.slice A4 n4 c4)).alloc _).go hb1)
    have V1 := Lib.hid ((Bx.new_ (w.alloc (.cells #[.slice A1 n3 c1, .slice A2 n3 c2, .slice A3 n3 c3, .slice A4 n4 c4] 32)) 32 sn sn sn sn).go hb1)
    have B1 := Lib.hid (show Below w.heap.size w w1 from below_step (w := w) ((by repeat' (first | with_reducible exact Below.refl _ _ | with_reducible assumption | with_reducible refine below_dn ?_ _ | with_reducible refine Below.drew ?_ | with_reducible refine below_step ?_ (by assumption) | with_reducible refine Below.setCell ?_ ?_ _ | with_reducible refine Below.alloc ?_ ?_ _ | with_reducible exact Nat.le_refl _ | (simp; done) | (simp; omega) | omega))) hb1)
    have e1 : (w.alloc (.cells #[.slice A1 n3 c1, .slice A2 n3 c2, .slice A3 n3 c3, .slice A4 n4 c4] 32)).heap.size = w.heap.size + 1 := by simp
    rw [e1] at V1
    clear hb1 e1
    rw [q1]
    go_wp2_with fail
    refine (spec_l03Own w.heap.size A1 A2 A3 A4 c1 c2 c3 c4 n3 n3 n3 n4 D (by omega) (by omega) (by omega) (by omega) _ P1.out ((H.out.go B1.out).s1.in_) ((H.out.go B1.out).s2.in_) ((H.out.go B1.out).s3.in_) ((H.out.go B1.out).s4.in_)).mono ?_
    rintro e w2 ⟨E1, E2, E3, E4, d1, d2, d3, d4, rfl, ho2, hd2, _, hb2⟩
    have V2 := Lib.hid (V1.out.go hb2)
    have B2 := Lib.hid (below_step B1.out hb2)
    have O2 := Lib.hid ho2
    have D2 := Lib.hid hd2
    have y1 := V1.out.lt
    have y2 := hb2.size
    clear hb2 ho2 hd2 P1 V1
    obtain ⟨v0, v1, v2, v3, vf⟩ := V2.out.facts
    have lv := V2.out.lt
    go_wp2_with fail
    obtain ⟨r0, r1, r2, r3, rf⟩ := ((V2.out.setAll (.slice E2 n3 d2) (.slice E1 n3 d1) (.slice E3 n3 d3) (.slice E4 n4 d4)).alloc (.cells #[.slice E2 n3 d2, .slice E1 n3 d1, .slice E3 n3 d3, .slice E4 n4 d4] 32)).facts
    have W2 : Wr (fun k => k = w.heap.size + 1) w2 (((((w2.setCell ⟨w.heap.size + 1, 0, none⟩ (.slice E2 n3 d2)).setCell ⟨w.heap.size + 1, 1, none⟩ (.slice E1 n3 d1)).setCell ⟨w.heap.size + 1, 2, none⟩ (.slice E3 n3 d3)).setCell ⟨w.heap.size + 1, 3, none⟩ (.slice E4 n4 d4)).alloc (.cells #[.slice E2 n3 d2, .slice E1 n3 d1, .slice E3 n3 d3, .slice E4 n4 d4] 32)) := by
      refine Wr.alloc (Wr.setCell (Wr.setCell (Wr.setCell (Wr.setCell (Wr.refl _ _) ?_ _) ?_ _) ?_ _) ?_ _) _ <;> rfl
    refine bodyPost_ret (v := .tuple #[.agg #[.slice E2 n3 d2, .slice E1 n3 d1, .slice E3 n3 d3, .slice E4 n4 d4], .bool true]) (by simp [results, Try.results52, go_sem, r0, r1, r2, r3]) rfl ?_
    have y0 := B1.out.size
    exact ⟨⟨E2, E1, E3, E4, d2, d1, d3, d4, turnD D, rfl, SimD.refl _ _ _ _ _, ((O2.out.off V2.out W2).turn).mono y0, ⟨D2.out.b2.mono y0 W2.size, D2.out.b1.mono y0 W2.size, D2.out.b3.mono y0 W2.size, D2.out.b4.mono y0 W2.size⟩⟩, Below.alloc (Bx.bel B2.out (by omega) _ _ _ _) (by first | exact Nat.le_refl _ | (simp; done) | (simp; omega) | omega) _⟩
end Go.Proofs.Ytlhgaihfghobmaa
