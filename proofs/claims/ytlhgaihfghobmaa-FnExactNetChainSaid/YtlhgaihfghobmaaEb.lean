/- Copies of chains: cloneChain of the program. -/
import Derived.Test.YtlhgaihfghobmaaEa
import Derived.Test.YtlhgaihfghobmaaRh
namespace Go.Proofs.Ytlhgaihfghobmaa
open Go.ChangeShapes Go.WideShapes Go.ChangeAt Go.RowKit Go.Deep

/-- returns a chain of its own. -/
def RetOw (n1 n2 n3 n4 : Nat) (D : D4) (w : World) (e : Ending) (w' : World) : Prop :=
  ∃ A1 A2 A3 A4 c1 c2 c3 c4, e = .returned (.agg #[.slice A1 n1 c1, .slice A2 n2 c2, .slice A3 n3 c3, .slice A4 n4 c4]) ∧ Own w' w.heap.size A1 A2 A3 A4 c1 c2 c3 c4 n1 n2 n3 n4 D ∧ Bds w.heap.size w'.heap.size A1 A2 A3 A4 n1 n2 n3 n4 ∧ Zc c1 c2 c3 c4 n1 n2 n3 n4 ∧ Below w.heap.size w w'
theorem Bd.mono {lo hi lo' hi' : Nat} {A : Option Addr} {n : Nat} (h : Bd lo hi A n) (h1 : lo' ≤ lo) (h2 : hi ≤ hi') : Bd lo' hi' A n := fun g e hn => ⟨Nat.le_trans h1 (h g e hn).1, Nat.lt_of_lt_of_le (h g e hn).2 h2⟩
/-- a slice in a block no lower than M. -/
def isSl (M : Nat) (t : TypeId) (sz n : Nat) (f : Nat → Value) (v : Value) (w : World) : Prop := ∃ A c, v = .slice A n c ∧ Sl w M t sz A n c f ∧ Bd M w.heap.size A n ∧ (n = 0 → c = 0)
theorem isSl.keep {M : Nat} {t : TypeId} {sz n : Nat} {f : Nat → Value} : ∀ v W W', Wr (fun k => k < M) W W' → isSl M t sz n f v W → isSl M t sz n f v W' := fun v W W' hW ⟨A, c, h1, h2, h3, h4⟩ =>
  ⟨A, c, h1, h2.wr hW (fun g e hn => by have := h3 g e hn; omega), h3.mono (Nat.le_refl _) hW.size, h4⟩
/-- a chain in blocks no lower than M. -/
def isCh (M n1 n2 n3 n4 : Nat) (D : D4) (v : Value) (w : World) : Prop := ∃ A1 A2 A3 A4 c1 c2 c3 c4, v = .agg #[.slice A1 n1 c1, .slice A2 n2 c2, .slice A3 n3 c3, .slice A4 n4 c4] ∧ Own w M A1 A2 A3 A4 c1 c2 c3 c4 n1 n2 n3 n4 D ∧ Bds M w.heap.size A1 A2 A3 A4 n1 n2 n3 n4 ∧ Zc c1 c2 c3 c4 n1 n2 n3 n4
theorem isCh.keep {M n1 n2 n3 n4 : Nat} {D : D4} : ∀ v W W', Wr (fun k => k < M) W W' → isCh M n1 n2 n3 n4 D v W → isCh M n1 n2 n3 n4 D v W' := fun v W W' hW ⟨A1, A2, A3, A4, c1, c2, c3, c4, h0, h, b, z⟩ =>
  ⟨A1, A2, A3, A4, c1, c2, c3, c4, h0, ⟨h.s1.wr hW (fun g e hn => by have := b.b1 g e hn; omega), h.s2.wr hW (fun g e hn => by have := b.b2 g e hn; omega), h.s3.wr hW (fun g e hn => by have := b.b3 g e hn; omega), h.s4.wr hW (fun g e hn => by have := b.b4 g e hn; omega), h.ne⟩,
    ⟨b.b1.mono (Nat.le_refl _) hW.size, b.b2.mono (Nat.le_refl _) hW.size, b.b3.mono (Nat.le_refl _) hW.size, b.b4.mono (Nat.le_refl _) hW.size⟩, z⟩
set_option maxHeartbeats 4000000 in
theorem impl_cloneChain (A1 A2 A3 A4 : Option Addr) (c1 c2 c3 c4 n1 n2 n3 n4 : Nat) (D : D4) (k1 : n1 ≤ 1048576) (k2 : n2 ≤ 1048576) (k3 : n3 ≤ 1048576) (k4 : n4 ≤ 1048576) (w : World) (h1 : In w w.heap.size 3 A1 n1 (vc D.P)) (h2 : In w w.heap.size 3 A2 n2 (vc D.B)) (h3 : In w w.heap.size 1 A3 n3 (fc D.W)) (h4 : In w w.heap.size 3 A4 n4 (rc D.R)) :
    Calls Try.prog 168 #[.agg #[.slice A1 n1 c1, .slice A2 n2 c2, .slice A3 n3 c3, .slice A4 n4 c4]] w (RetOw n1 n2 n3 n4 D w) := by
  have H1 := Lib.hid h1
  have H2 := Lib.hid h2
  have H3 := Lib.hid h3
  have H4 := Lib.hid h4
  clear h1 h2 h3 h4
  go_enter Try.func168, Try.ntmps168
  go_upto_region 1 with fail
  obtain ⟨wq, hwq⟩ : ∃ wq : World, wq = (w.alloc (.cells #[.slice A1 n1 c1, .slice A2 n2 c2, .slice A3 n3 c3, .slice A4 n4 c4] 32)).alloc (.cells #[sn, sn, sn, sn] 32) := ⟨_, rfl⟩
  have hP : Bx wq w.heap.size 32 (.slice A1 n1 c1) (.slice A2 n2 c2) (.slice A3 n3 c3) (.slice A4 n4 c4) := by rw [hwq]; exact (Bx.new_ _ _ _ _ _ _).alloc _
  have hR : Bx wq (w.heap.size + 1) 32 sn sn sn sn := by
    have e : (w.alloc (.cells #[.slice A1 n1 c1, .slice A2 n2 c2, .slice A3 n3 c3, .slice A4 n4 c4] 32)).heap.size = w.heap.size + 1 := by simp
    rw [hwq, ← e]
    exact Bx.new_ _ _ _ _ _ _
  have hB : Below w.heap.size w wq := by rw [hwq]; exact (by repeat' (first | with_reducible exact Below.refl _ _ | with_reducible assumption | with_reducible refine below_dn ?_ _ | with_reducible refine Below.drew ?_ | with_reducible refine below_step ?_ (by assumption) | with_reducible refine Below.setCell ?_ ?_ _ | with_reducible refine Below.alloc ?_ ?_ _ | with_reducible exact Nat.le_refl _ | (simp; done) | (simp; omega) | omega))
  have hz : wq.heap.size = w.heap.size + 2 := by rw [hwq]; simp
  rw [← hwq]
  clear hwq
  have HP := Lib.hid hP
  have HR := Lib.hid hR
  have HB := Lib.hid hB
  obtain ⟨p0, p1, p2, p3, pf⟩ := hP.facts
  obtain ⟨r0, r1, r2, r3, rf⟩ := hR.facts
  have lr := hR.lt
  have b0 : Below wq.heap.size wq wq.drew := (Below.refl _ _).drew
  have CS := Lib.hid (fun (W : World) (hW : Below wq.heap.size wq W) => (show W.cell? ⟨w.heap.size, 0, none⟩ = some (.slice A1 n1 c1) ∧ W.cell? ⟨w.heap.size, 1, none⟩ = some (.slice A2 n2 c2) ∧ W.cell? ⟨w.heap.size, 2, none⟩ = some (.slice A3 n3 c3) ∧ W.cell? ⟨w.heap.size, 3, none⟩ = some (.slice A4 n4 c4) from ⟨(HP.out.go hW).c0, (HP.out.go hW).c1, (HP.out.go hW).c2, (HP.out.go hW).c3⟩))
  clear hP hR hB
  go_region_held3 (fun W => W.cell? ⟨w.heap.size, 0, none⟩ = some (.slice A1 n1 c1) ∧ W.cell? ⟨w.heap.size, 1, none⟩ = some (.slice A2 n2 c2) ∧ W.cell? ⟨w.heap.size, 2, none⟩ = some (.slice A3 n3 c3) ∧ W.cell? ⟨w.heap.size, 3, none⟩ = some (.slice A4 n4 c4)) (first | exact CS.out _ b0 | exact CS.out _ b4 | exact CS.out _ b3 | exact CS.out _ b2 | exact CS.out _ b1 | (simp (disch := omega) only [cell_set_ne]; exact CS.out _ b4)) (first | (go_at_call_of 174 (Go.Value.slice A1 n1 c1); refine (clone_vec A1 n1 c1 D.P k1 _ (H1.out.go (HB.out.drew))).mono ?_; rintro e w1 ⟨E1, d1, rfl, hs1, hd1, hz1, hb1⟩; have b1 := b0.trans (hb1.mono b0.size)) | (go_at_call_of 174 (Go.Value.slice A2 n2 c2); refine (clone_vec A2 n2 c2 D.B k2 _ (H2.out.go (below_step HB.out b1))).mono ?_; rintro e w2 ⟨E2, d2, rfl, hs2, hd2, hz2, hb2⟩; have b2 := b1.trans (hb2.mono b1.size)) | (go_at_call 175; refine (clone_flt A3 n3 c3 D.W k3 _ (H3.out.go (below_step HB.out b2))).mono ?_; rintro e w3 ⟨E3, d3, rfl, hs3, hd3, hz3, hb3⟩; have b3 := b2.trans (hb3.mono b2.size)) | (go_at_call 176; refine (clone_rod A4 n4 c4 D.R k4 _ (H4.out.go (below_step HB.out b3))).mono ?_; rintro e w4 ⟨E4, d4, rfl, hs4, hd4, hz4, hb4⟩; have b4 := b3.trans (hb4.mono b3.size); obtain ⟨t0, t1, t2, t3, tf⟩ := (HR.out.go b4).facts; have lt := (HR.out.go b4).lt))
  have y1 := hb1.size
  have y2 := hb2.size
  have y3 := hb3.size
  have y4 := hb4.size
  have y0 : wq.drew.heap.size = wq.heap.size := rfl
  have HZ := Lib.hid (And.intro hz1 (And.intro hz2 (And.intro hz3 hz4)))
  clear hz1 hz2 hz3 hz4
  have HS1 := Lib.hid hs1
  have HS2 := Lib.hid hs2
  have HS3 := Lib.hid hs3
  have HS4 := Lib.hid hs4
  have HD1 := Lib.hid hd1
  have HD2 := Lib.hid hd2
  have HD3 := Lib.hid hd3
  have HD4 := Lib.hid hd4
  have B2 := Lib.hid hb2
  have B3 := Lib.hid hb3
  have B4 := Lib.hid hb4
  have HB4 := Lib.hid (below_step HB.out b4)
  have RF := Lib.hid (fun v0 v1 v2 v3 => (HR.out.go b4).setAll v0 v1 v2 v3)
  have VF := Lib.hid (fun (v0 v1 v2 v3 : Value) => show Wr (fun k => k < w.heap.size + 2) w4 ((((w4.setCell ⟨w.heap.size + 1, 0, none⟩ v0).setCell ⟨w.heap.size + 1, 1, none⟩ v1).setCell ⟨w.heap.size + 1, 2, none⟩ v2).setCell ⟨w.heap.size + 1, 3, none⟩ v3) from
    (((((Wr.refl _ _).setCell (by first | exact Nat.le_refl _ | (simp; done) | (simp; omega) | omega) _).setCell (by first | exact Nat.le_refl _ | (simp; done) | (simp; omega) | omega) _).setCell (by first | exact Nat.le_refl _ | (simp; done) | (simp; omega) | omega) _).setCell (by first | exact Nat.le_refl _ | (simp; done) | (simp; omega) | omega) _))
  have BF := Lib.hid (fun (v0 v1 v2 v3 : Value) => show Below w.heap.size w ((((w4.setCell ⟨w.heap.size + 1, 0, none⟩ v0).setCell ⟨w.heap.size + 1, 1, none⟩ v1).setCell ⟨w.heap.size + 1, 2, none⟩ v2).setCell ⟨w.heap.size + 1, 3, none⟩ v3) from
    (((((HB4.out).setCell (by first | exact Nat.le_refl _ | (simp; done) | (simp; omega) | omega) _).setCell (by first | exact Nat.le_refl _ | (simp; done) | (simp; omega) | omega) _).setCell (by first | exact Nat.le_refl _ | (simp; done) | (simp; omega) | omega) _).setCell (by first | exact Nat.le_refl _ | (simp; done) | (simp; omega) | omega) _))
  clear hs1 hs2 hs3 hs4 hd1 hd2 hd3 hd4 hb1 hb2 hb3 hb4 b0 b1 b2 b3 b4 p0 p1 p2 p3 pf r0 r1 r2 r3 rf t0 t1 t2 t3 tf
  go_wp2_with fail
  obtain ⟨r0, r1, r2, r3, rf⟩ := (RF.out (.slice E1 n1 d1) (.slice E2 n2 d2) (.slice E3 n3 d3) (.slice E4 n4 d4)).facts
  refine bodyPost_ret (v := .agg #[.slice E1 n1 d1, .slice E2 n2 d2, .slice E3 n3 d3, .slice E4 n4 d4]) (by simp [results, Try.results168, go_sem, r0, r1, r2, r3]) rfl ?_
  have V := VF.out (.slice E1 n1 d1) (.slice E2 n2 d2) (.slice E3 n3 d3) (.slice E4 n4 d4)
  have V3 := (Wr.of_go B4.out (fun k => k < w.heap.size + 2)).trans V
  have V2 := (Wr.of_go B3.out (fun k => k < w.heap.size + 2)).trans V3
  have V1 := (Wr.of_go B2.out (fun k => k < w.heap.size + 2)).trans V2
  have yv := V.size
  refine ⟨E1, E2, E3, E4, d1, d2, d3, d4, rfl, ⟨?_, ?_, ?_, ?_, ?_⟩, ⟨?_, ?_, ?_, ?_⟩, HZ.out, BF.out _ _ _ _⟩
  · exact (HS1.out.wr V1 (fun g e hn => by have := HD1.out g e hn; omega)).mono (by omega)
  · exact (HS2.out.wr V2 (fun g e hn => by have := HD2.out g e hn; omega)).mono (by omega)
  · exact (HS3.out.wr V3 (fun g e hn => by have := HD3.out g e hn; omega)).mono (by omega)
  · exact (HS4.out.wr V (fun g e hn => by have := HD4.out g e hn; omega)).mono (by omega)
  · intro g e1 e2 hn1 hn2
    have := HD1.out g e1 hn1
    have := HD2.out g e2 hn2
    omega
  · exact HD1.out.mono (by omega) (by omega)
  · exact HD2.out.mono (by omega) (by omega)
  · exact HD3.out.mono (by omega) (by omega)
  · exact HD4.out.mono (by omega) (by omega)
end Go.Proofs.Ytlhgaihfghobmaa
