/- A right chain changed by something: changedChain. -/
import Derived.Test.YtlhgaihfghobmaaEd
namespace Go.Proofs.Ytlhgaihfghobmaa
open Go.ChangeShapes Go.WideShapes Go.ChangeAt Go.RowKit Go.Deep

/-- returns a chain of its own, as D up to NaNs, and true; or nothing, and false. -/
def RetM (b : Bool) (n1 n2 n3 n4 : Nat) (D : D4) (w : World) (e : Ending) (w' : World) : Prop :=
  (match b with
    | true => ∃ A1 A2 A3 A4 c1 c2 c3 c4 D', e = .returned (.tuple #[.agg #[.slice A1 n1 c1, .slice A2 n2 c2, .slice A3 n3 c3, .slice A4 n4 c4], .bool true]) ∧ SimD n1 n2 n3 n4 D' D ∧ Own w' w.heap.size A1 A2 A3 A4 c1 c2 c3 c4 n1 n2 n3 n4 D' ∧ Bds w.heap.size w'.heap.size A1 A2 A3 A4 n1 n2 n3 n4
    | false => e = .returned (.tuple #[.agg #[.slice none 0 0, .slice none 0 0, .slice none 0 0, .slice none 0 0], .bool false])) ∧ Below w.heap.size w w'
/-- turns the chain in block g, in blocks no lower than M, to D (up to NaNs), and tells whether it could. -/
def RetDo (g M : Nat) (ok : Bool) (n1 n2 n3 n4 : Nat) (D : D4) (w : World) (e : Ending) (w' : World) : Prop :=
  e = .returned (.bool ok) ∧ Below M w w' ∧ (ok = true → ∃ A1 A2 A3 A4 c1 c2 c3 c4 D', SimD n1 n2 n3 n4 D' D ∧ Bx w' g 32 (.slice A1 n1 c1) (.slice A2 n2 c2) (.slice A3 n3 c3) (.slice A4 n4 c4) ∧ Own w' M A1 A2 A3 A4 c1 c2 c3 c4 n1 n2 n3 n4 D' ∧ Bds M w'.heap.size A1 A2 A3 A4 n1 n2 n3 n4)
theorem Bx.below {B : Nat} {w w' : World} {g : Nat} {t : TypeId} {x0 x1 x2 x3 : Value} (h : Bx w g t x0 x1 x2 x3) (hb : Below B w w') (hg : g < B) : Bx w' g t x0 x1 x2 x3 := Rw.below h hb hg
set_option maxHeartbeats 4000000 in
theorem impl_changedChain (f : Nat) (caps : Array Value) (ok : Bool) (m1 m2 m3 m4 : Nat) (E : D4) (A1 A2 A3 A4 : Option Addr) (c1 c2 c3 c4 n1 n2 n3 n4 B : Nat) (D : D4) (w : World) (h : Own w B A1 A2 A3 A4 c1 c2 c3 c4 n1 n2 n3 n4 D)
    (hf : ∀ (args : Array Value) (u : World), (callFunc f args).run Try.prog u = .ok (.enter f args) u)
    (hdo : okC n1 n2 n3 n4 D = true → ∀ (g M : Nat) (A1 A2 A3 A4 : Option Addr) (c1 c2 c3 c4 : Nat) (u : World), Bx u g 32 (.slice A1 n1 c1) (.slice A2 n2 c2) (.slice A3 n3 c3) (.slice A4 n4 c4) → Own u M A1 A2 A3 A4 c1 c2 c3 c4 n1 n2 n3 n4 D → Bds M u.heap.size A1 A2 A3 A4 n1 n2 n3 n4 → Zc c1 c2 c3 c4 n1 n2 n3 n4 → M ≤ g → w.heap.size ≤ M → M ≤ u.heap.size → Below w.heap.size w u →
      Calls Try.prog f (#[.pointer (some ⟨g, 0, none⟩)] ++ caps) u (RetDo g M ok m1 m2 m3 m4 E u)) :
    Calls Try.prog 125 #[.agg #[.slice A1 n1 c1, .slice A2 n2 c2, .slice A3 n3 c3, .slice A4 n4 c4], .func (.func f) #[] caps] w (RetM (okC n1 n2 n3 n4 D && (ok && okC m1 m2 m3 m4 E)) m1 m2 m3 m4 E w) := by
  have H := Lib.hid h
  have HDO := Lib.hid hdo
  clear h hdo
  cases q1 : okC n1 n2 n3 n4 D
  · go_enter Try.func125, Try.ntmps125
    go_wp2_with fail
    refine (impl_ValidChain A1 A2 A3 A4 c1 c2 c3 c4 n1 n2 n3 n4 B D _ (H.out.go (by repeat' (first | with_reducible exact Below.refl _ _ | with_reducible assumption | with_reducible refine below_dn ?_ _ | with_reducible refine Below.drew ?_ | with_reducible refine below_step ?_ (by assumption) | with_reducible refine Below.setCell ?_ ?_ _ | with_reducible refine Below.alloc ?_ ?_ _ | with_reducible exact Nat.le_refl _ | (simp; done) | (simp; omega) | omega)))).mono ?_
    rintro e w1 ⟨rfl, hb1⟩
    have V1 := Lib.hid ((Bx.new_ (w.alloc (.cells #[.slice A1 n1 c1, .slice A2 n2 c2, .slice A3 n3 c3, .slice A4 n4 c4] 32)) 32 sn sn sn sn).go hb1)
    have B1 := Lib.hid (show Below w.heap.size w w1 from below_step (w := w) ((by repeat' (first | with_reducible exact Below.refl _ _ | with_reducible assumption | with_reducible refine below_dn ?_ _ | with_reducible refine Below.drew ?_ | with_reducible refine below_step ?_ (by assumption) | with_reducible refine Below.setCell ?_ ?_ _ | with_reducible refine Below.alloc ?_ ?_ _ | with_reducible exact Nat.le_refl _ | (simp; done) | (simp; omega) | omega))) hb1)
    have e1 : (w.alloc (.cells #[.slice A1 n1 c1, .slice A2 n2 c2, .slice A3 n3 c3, .slice A4 n4 c4] 32)).heap.size = w.heap.size + 1 := by simp
    rw [e1] at V1
    clear hb1 e1
    obtain ⟨v0, v1, v2, v3, vf⟩ := V1.out.facts
    have lv := V1.out.lt
    rw [q1]
    go_wp2_with fail
    obtain ⟨r0, r1, r2, r3, rf⟩ := (V1.out.setAll sn sn sn sn).facts
    refine bodyPost_ret (v := .tuple #[.agg #[sn, sn, sn, sn], .bool false]) (by simp [results, Try.results125, go_sem, r0, r1, r2, r3]) rfl ?_
    exact ⟨rfl, Bx.bel B1.out (by omega) _ _ _ _⟩
  · obtain ⟨z1, rfl, rfl, z4⟩ := okC_sz q1
    have DO := Lib.hid (HDO.out q1)
    clear HDO
    go_enter Try.func125, Try.ntmps125
    go_wp2_with fail
    refine (impl_ValidChain A1 A2 A3 A4 c1 c2 c3 c4 n3 n3 n3 n4 B D _ (H.out.go (by repeat' (first | with_reducible exact Below.refl _ _ | with_reducible assumption | with_reducible refine below_dn ?_ _ | with_reducible refine Below.drew ?_ | with_reducible refine below_step ?_ (by assumption) | with_reducible refine Below.setCell ?_ ?_ _ | with_reducible refine Below.alloc ?_ ?_ _ | with_reducible exact Nat.le_refl _ | (simp; done) | (simp; omega) | omega)))).mono ?_
    rintro e w1 ⟨rfl, hb1⟩
    have P1 := Lib.hid (((Bx.new_ w 32 (.slice A1 n3 c1) (.slice A2 n3 c2) (.slice A3 n3 c3) (.slice A4 n4 c4)).alloc _).go hb1)
    have V1 := Lib.hid ((Bx.new_ (w.alloc (.cells #[.slice A1 n3 c1, .slice A2 n3 c2, .slice A3 n3 c3, .slice A4 n4 c4] 32)) 32 sn sn sn sn).go hb1)
    have B1 := Lib.hid (show Below w.heap.size w w1 from below_step (w := w) ((by repeat' (first | with_reducible exact Below.refl _ _ | with_reducible assumption | with_reducible refine below_dn ?_ _ | with_reducible refine Below.drew ?_ | with_reducible refine below_step ?_ (by assumption) | with_reducible refine Below.setCell ?_ ?_ _ | with_reducible refine Below.alloc ?_ ?_ _ | with_reducible exact Nat.le_refl _ | (simp; done) | (simp; omega) | omega))) hb1)
    have e1 : (w.alloc (.cells #[.slice A1 n3 c1, .slice A2 n3 c2, .slice A3 n3 c3, .slice A4 n4 c4] 32)).heap.size = w.heap.size + 1 := by simp
    rw [e1] at V1
    clear hb1 e1
    obtain ⟨p0, p1, p2, p3, pf⟩ := P1.out.facts
    have lp := P1.out.lt
    rw [q1]
    go_wp2_with fail
    refine (impl_cloneChain A1 A2 A3 A4 c1 c2 c3 c4 n3 n3 n3 n4 D (by omega) (by omega) (by omega) (by omega) _ ((H.out.go B1.out).s1.in_) ((H.out.go B1.out).s2.in_) ((H.out.go B1.out).s3.in_) ((H.out.go B1.out).s4.in_)).mono ?_
    rintro e w2 ⟨E1, E2, E3, E4, d1, d2, d3, d4, rfl, ho2, hd2, hz2, hb2⟩
    clear p0 p1 p2 p3 pf lp
    have V2 := Lib.hid (V1.out.go hb2)
    have B2 := Lib.hid (below_step B1.out hb2)
    have O2 := Lib.hid ho2
    have D2 := Lib.hid hd2
    have Z2 := Lib.hid hz2
    have y1 := V1.out.lt
    have y2 := hb2.size
    clear hb2 ho2 hd2 hz2 P1 V1
    go_upto_region 4 with fail
    obtain ⟨wq, hwq⟩ : ∃ wq : World, wq = w2.alloc (.cells #[.slice E1 n3 d1, .slice E2 n3 d2, .slice E3 n3 d3, .slice E4 n4 d4] 32) := ⟨_, rfl⟩
    have hX : Bx wq w2.heap.size 32 (.slice E1 n3 d1) (.slice E2 n3 d2) (.slice E3 n3 d3) (.slice E4 n4 d4) := by rw [hwq]; exact Bx.new_ _ _ _ _ _ _
    have hBq : Below w2.heap.size w2 wq := by rw [hwq]; exact Below.alloc (Below.refl _ _) (Nat.le_refl _) _
    rw [← hwq]
    clear hwq
    have yq := hBq.size
    have BQ := Lib.hid (below_step B2.out hBq)
    have VQ := Lib.hid (V2.out.go hBq)
    have OQ := Lib.hid (O2.out.go hBq)
    have DQ := Lib.hid (show Bds w1.heap.size wq.heap.size E1 E2 E3 E4 n3 n3 n3 n4 from ⟨D2.out.b1.mono (Nat.le_refl _) yq, D2.out.b2.mono (Nat.le_refl _) yq, D2.out.b3.mono (Nat.le_refl _) yq, D2.out.b4.mono (Nat.le_refl _) yq⟩)
    have XQ := Lib.hid hX
    have y0 := B1.out.size
    clear hBq hX O2 V2 B2 D2
    have CQ := Lib.hid (DO.out w2.heap.size w1.heap.size E1 E2 E3 E4 d1 d2 d3 d4 wq XQ.out OQ.out DQ.out Z2.out y2 y0 (by omega) BQ.out)
    cases ok
    · go_wp2_with (refine CQ.out.mono ?_; rintro e w3 ⟨rfl, hb3, _⟩; obtain ⟨v0, v1, v2, v3, vf⟩ := (VQ.out.below hb3 (by omega)).facts; have lv := (VQ.out.below hb3 (by omega)).lt; have V3 := Lib.hid (VQ.out.below hb3 (by omega)); have B3 := Lib.hid (BQ.out.trans (hb3.mono y0)))
      obtain ⟨r0, r1, r2, r3, rf⟩ := (V3.out.setAll sn sn sn sn).facts
      refine bodyPost_ret (v := .tuple #[.agg #[sn, sn, sn, sn], .bool false]) (by simp [results, Try.results125, go_sem, r0, r1, r2, r3]) rfl ?_
      exact ⟨rfl, Bx.bel B3.out (by omega) _ _ _ _⟩
    · rw [Bool.true_and, Bool.true_and]
      go_wp2_with (refine CQ.out.mono ?_; rintro e w3 ⟨rfl, hb3, hok⟩; obtain ⟨F1, F2, F3, F4, x1, x2, x3, x4, D', hs, hx, ho, hd⟩ := hok rfl; have HS := Lib.hid hs; have HX := Lib.hid hx; have HO := Lib.hid ho; have HD := Lib.hid hd; obtain ⟨v0, v1, v2, v3, vf⟩ := hx.facts; have lv := hx.lt; have V3 := Lib.hid (VQ.out.below hb3 (by omega)); have B3 := Lib.hid (BQ.out.trans (hb3.mono y0)); clear hb3 hok hs hx ho hd)
      refine (impl_toldChain F1 F2 F3 F4 x1 x2 x3 x4 m1 m2 m3 m4 _ D' _ HO.out).mono ?_
      rintro e w4 ⟨rfl, hb4⟩
      have V4 := Lib.hid (V3.out.go hb4)
      have B4 := Lib.hid (below_step B3.out hb4)
      have O4 := Lib.hid (HO.out.go hb4)
      have y4 := hb4.size
      clear hb4 v0 v1 v2 v3 vf lv V3 B3
      obtain ⟨v0, v1, v2, v3, vf⟩ := V4.out.facts
      have lv := V4.out.lt
      rw [okC_sim HS.out]
      cases q2 : okC m1 m2 m3 m4 E
      · unfold giveV
        go_wp2_with fail
        obtain ⟨r0, r1, r2, r3, rf⟩ := (V4.out.setAll sn sn sn sn).facts
        refine bodyPost_ret (v := .tuple #[.agg #[sn, sn, sn, sn], .bool false]) (by simp [results, Try.results125, go_sem, r0, r1, r2, r3]) rfl ?_
        rw [q2]
        exact ⟨rfl, Bx.bel B4.out (by omega) _ _ _ _⟩
      · unfold giveV
        have VF := Lib.hid (V4.out.setAll (.slice F1 m1 x1) (.slice F2 m2 x2) (.slice F3 m3 x3) (.slice F4 m4 x4))
        have WF := Lib.hid (show Wr (fun k => k < w1.heap.size) w4 ((((w4.setCell ⟨w.heap.size + 1, 0, none⟩ (.slice F1 m1 x1)).setCell ⟨w.heap.size + 1, 1, none⟩ (.slice F2 m2 x2)).setCell ⟨w.heap.size + 1, 2, none⟩ (.slice F3 m3 x3)).setCell ⟨w.heap.size + 1, 3, none⟩ (.slice F4 m4 x4)) from
          (((((Wr.refl _ _).setCell (by simp; omega) _).setCell (by simp; omega) _).setCell (by simp; omega) _).setCell (by simp; omega) _))
        go_wp2_with fail
        obtain ⟨r0, r1, r2, r3, rf⟩ := VF.out.facts
        refine bodyPost_ret (v := .tuple #[.agg #[.slice F1 m1 x1, .slice F2 m2 x2, .slice F3 m3 x3, .slice F4 m4 x4], .bool true]) (by simp [results, Try.results125, go_sem, r0, r1, r2, r3]) rfl ?_
        have yw := WF.out.size
        rw [q2]
        refine ⟨⟨F1, F2, F3, F4, x1, x2, x3, x4, D', rfl, HS.out, ⟨?_, ?_, ?_, ?_, O4.out.ne⟩, ⟨?_, ?_, ?_, ?_⟩⟩, Bx.bel B4.out (by omega) _ _ _ _⟩
        · exact (O4.out.s1.wr WF.out (fun g e hn => by have := HD.out.b1 g e hn; omega)).mono y0
        · exact (O4.out.s2.wr WF.out (fun g e hn => by have := HD.out.b2 g e hn; omega)).mono y0
        · exact (O4.out.s3.wr WF.out (fun g e hn => by have := HD.out.b3 g e hn; omega)).mono y0
        · exact (O4.out.s4.wr WF.out (fun g e hn => by have := HD.out.b4 g e hn; omega)).mono y0
        · exact HD.out.b1.mono y0 (Nat.le_trans y4 yw)
        · exact HD.out.b2.mono y0 (Nat.le_trans y4 yw)
        · exact HD.out.b3.mono y0 (Nat.le_trans y4 yw)
        · exact HD.out.b4.mono y0 (Nat.le_trans y4 yw)
end Go.Proofs.Ytlhgaihfghobmaa
