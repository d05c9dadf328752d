/- StraightenShared of the program returns what StraightenShared of the reference returns, a chain of its own, and leaves its argument alone. -/
import Derived.Test.YtlhgaihfghobmaaMj
import Derived.Test.YtlhgaihfghobmaaRl
import Derived.Test.YtlhgaihfghobmaaKj
import Derived.Deep.DeepCutAuto
namespace Go.Proofs.Ytlhgaihfghobmaa
open Go.ChangeShapes Go.WideShapes Go.ChangeAt Go.RowKit Go.Deep

set_option maxHeartbeats 8000000 in
set_option maxRecDepth 100000 in
theorem FnExactStraightenShared_walk (A1 A2 A3 A4 : Option Addr) (c1 c2 c3 c4 n1 n2 n3 n4 : Nat) (D : D4) (q : Int) (_h1q : -9223372036854775808 ≤ q) (_h2q : q ≤ 9223372036854775807) (w : World) (hC : Came w A1 A2 A3 A4 n1 n2 n3 n4 D) :
    Calls Try.prog 22 #[.agg #[.slice A1 n1 c1, .slice A2 n2 c2, .slice A3 n3 c3, .slice A4 n4 c4], .int .i64 q] w (RetV (.bool true) w) := by
  by_cases hn : n1 + n2 + n3 + n4 ≤ 1048576
  · have k1 : n1 ≤ 1048576 := by omega
    have k2 : n2 ≤ 1048576 := by omega
    have k3 : n3 ≤ 1048576 := by omega
    have k4 : n4 ≤ 1048576 := by omega
    have HC := Lib.hid hC
    have g0 : ¬ ((1048576 : Int) - n1 - n2 - n3 - n4 < 0) := by omega
    obtain ⟨l1, hl1⟩ : ∃ l : Nat, l = pk ((okC n1 n2 n3 n4 D && (inI q 1 8 && okC n1 n2 n3 n4 (shaD D n4)))) (n1) := ⟨_, rfl⟩
    have j1 : l1 ≤ 1048576 := by rw [hl1]; exact pk_okC.1
    have HL1 := Lib.hid hl1
    clear hl1
    obtain ⟨l2, hl2⟩ : ∃ l : Nat, l = pk ((okC n1 n2 n3 n4 D && (inI q 1 8 && okC n1 n2 n3 n4 (shaD D n4)))) (n2) := ⟨_, rfl⟩
    have j2 : l2 ≤ 1048576 := by rw [hl2]; exact pk_okC.2.1
    have HL2 := Lib.hid hl2
    clear hl2
    obtain ⟨l3, hl3⟩ : ∃ l : Nat, l = pk ((okC n1 n2 n3 n4 D && (inI q 1 8 && okC n1 n2 n3 n4 (shaD D n4)))) (n3) := ⟨_, rfl⟩
    have j3 : l3 ≤ 1048576 := by rw [hl3]; exact pk_okC.2.2.1
    have HL3 := Lib.hid hl3
    clear hl3
    obtain ⟨l4, hl4⟩ : ∃ l : Nat, l = pk ((okC n1 n2 n3 n4 D && (inI q 1 8 && okC n1 n2 n3 n4 (shaD D n4)))) (n4) := ⟨_, rfl⟩
    have j4 : l4 ≤ 1048576 := by rw [hl4]; exact pk_okC.2.2.2
    have HL4 := Lib.hid hl4
    clear hl4
    clear hC
    go_enter Try.func22, Try.ntmps22
    go_wp2_with fail
    refine (laws_szChain_fit A1 A2 A3 A4 c1 c2 c3 c4 n1 n2 n3 n4 hn _).mono ?_
    rintro e w1 ⟨rfl, hb1⟩
    have P1 := Lib.hid ((Bx.new_ w 26 (.slice A1 n1 c1) (.slice A2 n2 c2) (.slice A3 n3 c3) (.slice A4 n4 c4)).go hb1)
    have B1 := Lib.hid (show Below w.heap.size w w1 from below_step (w := w) ((by repeat' (first | with_reducible exact Below.refl _ _ | with_reducible assumption | with_reducible refine below_dn ?_ _ | with_reducible refine Below.drew ?_ | with_reducible refine below_step ?_ (by assumption) | with_reducible refine Below.setCell ?_ ?_ _ | with_reducible refine Below.alloc ?_ ?_ _ | with_reducible exact Nat.le_refl _ | (simp; done) | (simp; omega) | omega))) hb1)
    clear hb1
    obtain ⟨p0, p1, p2, p3, pf⟩ := P1.out.facts
    go_wp2_with fail
    refine (laws_toChain A1 A2 A3 A4 c1 c2 c3 c4 n1 n2 n3 n4 D k1 k2 k3 k4 _ ((HC.out.go B1.out).i1) ((HC.out.go B1.out).i2) ((HC.out.go B1.out).i3) ((HC.out.go B1.out).i4)).mono ?_
    rintro e w2 ⟨s1, s2, s3, s4, rfl, ho2, hb2⟩
    clear p0 p1 p2 p3 pf
    have P2 := Lib.hid (P1.out.go hb2)
    have O2 := Lib.hid ho2
    have B2 := Lib.hid (below_step B1.out hb2)
    clear hb2 ho2 P1 B1
    go_wp2_with fail
    refine (spec_StraightenShared _ _ _ _ _ _ _ _ n1 n2 n3 n4 _ D q _ O2.out).mono ?_
    rintro e w3 hr3
    obtain ⟨S1, S2, S3, S4, d1, d2, d3, d4, DS, rfl, hs3, ho3, hd3, hb3⟩ := hr3.g HL1.out HL2.out HL3.out HL4.out
    have P3 := Lib.hid (P2.out.go hb3)
    have B3 := Lib.hid (below_step B2.out hb3)
    have y03 := B3.out.size
    have SS := Lib.hid hs3
    have OS3 := Lib.hid ho3
    have DS3 := Lib.hid hd3
    clear hb3 P2 B2 O2 hs3 ho3 hd3 hr3
    obtain ⟨p0, p1, p2, p3, pf⟩ := P3.out.facts
    have lP := P3.out.lt
    go_wp2_with fail
    have Ba := Lib.hid (show Below w.heap.size w (w3.alloc (.cells #[.slice S1 l1 d1, .slice S2 l2 d2, .slice S3 l3 d3, .slice S4 l4 d4] 32)) from Below.alloc B3.out B3.out.size _)
    refine (laws_toChain A1 A2 A3 A4 c1 c2 c3 c4 n1 n2 n3 n4 D k1 k2 k3 k4 _ ((HC.out.go Ba.out).i1) ((HC.out.go Ba.out).i2) ((HC.out.go Ba.out).i3) ((HC.out.go Ba.out).i4)).mono ?_
    rintro e w4 ⟨x1, x2, x3, x4, rfl, ho4, hb4⟩
    clear p0 p1 p2 p3 pf lP
    have XS4 := Lib.hid ((Bx.new_ w3 32 (.slice S1 l1 d1) (.slice S2 l2 d2) (.slice S3 l3 d3) (.slice S4 l4 d4)).go hb4)
    have P4 := Lib.hid ((P3.out.alloc _).go hb4)
    have OS4 := Lib.hid ((OS3.out.go (w' := w3.alloc (.cells #[.slice S1 l1 d1, .slice S2 l2 d2, .slice S3 l3 d3, .slice S4 l4 d4] 32)) (by repeat' (first | with_reducible exact Below.refl _ _ | with_reducible assumption | with_reducible refine below_dn ?_ _ | with_reducible refine Below.drew ?_ | with_reducible refine below_step ?_ (by assumption) | with_reducible refine Below.setCell ?_ ?_ _ | with_reducible refine Below.alloc ?_ ?_ _ | with_reducible exact Nat.le_refl _ | (simp; done) | (simp; omega) | omega))).go hb4)
    have B4 := Lib.hid (below_step Ba.out hb4)
    have OX4 := Lib.hid ho4
    have DX4 := Lib.hid (show Bds (w3.heap.size + 1) w4.heap.size (some ⟨x1, 0, none⟩) (some ⟨x2, 0, none⟩) (some ⟨x3, 0, none⟩) (some ⟨x4, 0, none⟩) n1 n2 n3 n4 from by have := ho4.bd; simp at this; exact this)
    have y34 : w3.heap.size < w4.heap.size := by have := hb4.size; simp at this; omega
    clear hb4 P3 B3 ho4 OS3 Ba
    go_wp2_with fail
    refine (impl_StraightenShared _ _ _ _ _ _ _ _ n1 n2 n3 n4 _ D q _ (OX4.out.go ?hq)).mono ?_
    case hq => exact (by repeat' (first | with_reducible exact Below.refl _ _ | with_reducible assumption | with_reducible refine below_dn ?_ _ | with_reducible refine Below.drew ?_ | with_reducible refine below_step ?_ (by assumption) | with_reducible refine Below.setCell ?_ ?_ _ | with_reducible refine Below.alloc ?_ ?_ _ | with_reducible exact Nat.le_refl _ | (simp; done) | (simp; omega) | omega))
    rintro e w5 hr5
    obtain ⟨G1, G2, G3, G4, f1, f2, f3, f4, DG, rfl, hs5, ho5, hd5, hb5⟩ := hr5.g HL1.out HL2.out HL3.out HL4.out
    have XX5 := Lib.hid ((Bx.new_ w4 32 (.slice (some ⟨x1, 0, none⟩) n1 n1) (.slice (some ⟨x2, 0, none⟩) n2 n2) (.slice (some ⟨x3, 0, none⟩) n3 n3) (.slice (some ⟨x4, 0, none⟩) n4 n4)).go hb5)
    have XS5 := Lib.hid ((XS4.out.alloc _).go hb5)
    have P5 := Lib.hid ((P4.out.alloc _).go hb5)
    have OX5 := Lib.hid ((OX4.out.go (w' := w4.alloc _) (by repeat' (first | with_reducible exact Below.refl _ _ | with_reducible assumption | with_reducible refine below_dn ?_ _ | with_reducible refine Below.drew ?_ | with_reducible refine below_step ?_ (by assumption) | with_reducible refine Below.setCell ?_ ?_ _ | with_reducible refine Below.alloc ?_ ?_ _ | with_reducible exact Nat.le_refl _ | (simp; done) | (simp; omega) | omega))).go hb5)
    have OS5 := Lib.hid ((OS4.out.go (w' := w4.alloc _) (by repeat' (first | with_reducible exact Below.refl _ _ | with_reducible assumption | with_reducible refine below_dn ?_ _ | with_reducible refine Below.drew ?_ | with_reducible refine below_step ?_ (by assumption) | with_reducible refine Below.setCell ?_ ?_ _ | with_reducible refine Below.alloc ?_ ?_ _ | with_reducible exact Nat.le_refl _ | (simp; done) | (simp; omega) | omega))).go hb5)
    have B5 := Lib.hid (show Below w.heap.size w w5 from below_step (below_step B4.out (w3 := w4.alloc _) (by repeat' (first | with_reducible exact Below.refl _ _ | with_reducible assumption | with_reducible refine below_dn ?_ _ | with_reducible refine Below.drew ?_ | with_reducible refine below_step ?_ (by assumption) | with_reducible refine Below.setCell ?_ ?_ _ | with_reducible refine Below.alloc ?_ ?_ _ | with_reducible exact Nat.le_refl _ | (simp; done) | (simp; omega) | omega))) hb5)
    have SG := Lib.hid hs5
    have OG5 := Lib.hid ho5
    have DG5 := Lib.hid hd5
    have y45 : w4.heap.size < w5.heap.size := by have := hb5.size; simp at this; omega
    clear hb5 hr5 hs5 ho5 hd5 P4 B4 XS4 OX4 OS4
    have hbb : ((okC n1 n2 n3 n4 D && (inI q 1 8 && okC n1 n2 n3 n4 (shaD D n4))) != (okC n1 n2 n3 n4 D && (inI q 1 8 && okC n1 n2 n3 n4 (shaD D n4)))) = false := by simp
    obtain ⟨v0, v1, v2, v3, vf⟩ := XS5.out.facts
    have lv := XS5.out.lt
    go_wp2_with fail
    refine (laws_eqChain _ _ _ _ _ _ _ _ _ _ _ _ _ _ _ _ l1 l2 l3 l4 _ _ DG DS j1 j2 j3 j4 (SG.out.trans SS.out.symm) _ (OG5.out.go ?hg) (OS5.out.go ?hs)).mono ?_
    case hg => exact (by repeat' (first | with_reducible exact Below.refl _ _ | with_reducible assumption | with_reducible refine below_dn ?_ _ | with_reducible refine Below.drew ?_ | with_reducible refine below_step ?_ (by assumption) | with_reducible refine Below.setCell ?_ ?_ _ | with_reducible refine Below.alloc ?_ ?_ _ | with_reducible exact Nat.le_refl _ | (simp; done) | (simp; omega) | omega))
    case hs => exact (by repeat' (first | with_reducible exact Below.refl _ _ | with_reducible assumption | with_reducible refine below_dn ?_ _ | with_reducible refine Below.drew ?_ | with_reducible refine below_step ?_ (by assumption) | with_reducible refine Below.setCell ?_ ?_ _ | with_reducible refine Below.alloc ?_ ?_ _ | with_reducible exact Nat.le_refl _ | (simp; done) | (simp; omega) | omega))
    rintro e w6 ⟨rfl, hb6⟩
    clear v0 v1 v2 v3 vf lv
    have XG6 := Lib.hid ((Bx.new_ w5 32 (.slice G1 l1 f1) (.slice G2 l2 f2) (.slice G3 l3 f3) (.slice G4 l4 f4)).go hb6)
    have XX6 := Lib.hid ((XX5.out.alloc _).go hb6)
    have XS6 := Lib.hid ((XS5.out.alloc _).go hb6)
    have P6 := Lib.hid ((P5.out.alloc _).go hb6)
    have OX6 := Lib.hid ((OX5.out.go (w' := w5.alloc _) (by repeat' (first | with_reducible exact Below.refl _ _ | with_reducible assumption | with_reducible refine below_dn ?_ _ | with_reducible refine Below.drew ?_ | with_reducible refine below_step ?_ (by assumption) | with_reducible refine Below.setCell ?_ ?_ _ | with_reducible refine Below.alloc ?_ ?_ _ | with_reducible exact Nat.le_refl _ | (simp; done) | (simp; omega) | omega))).go hb6)
    have OS6 := Lib.hid ((OS5.out.go (w' := w5.alloc _) (by repeat' (first | with_reducible exact Below.refl _ _ | with_reducible assumption | with_reducible refine below_dn ?_ _ | with_reducible refine Below.drew ?_ | with_reducible refine below_step ?_ (by assumption) | with_reducible refine Below.setCell ?_ ?_ _ | with_reducible refine Below.alloc ?_ ?_ _ | with_reducible exact Nat.le_refl _ | (simp; done) | (simp; omega) | omega))).go hb6)
    have OG6 := Lib.hid ((OG5.out.go (w' := w5.alloc _) (by repeat' (first | with_reducible exact Below.refl _ _ | with_reducible assumption | with_reducible refine below_dn ?_ _ | with_reducible refine Below.drew ?_ | with_reducible refine below_step ?_ (by assumption) | with_reducible refine Below.setCell ?_ ?_ _ | with_reducible refine Below.alloc ?_ ?_ _ | with_reducible exact Nat.le_refl _ | (simp; done) | (simp; omega) | omega))).go hb6)
    have B6 := Lib.hid (show Below w.heap.size w w6 from below_step (below_step B5.out (w3 := w5.alloc _) (by repeat' (first | with_reducible exact Below.refl _ _ | with_reducible assumption | with_reducible refine below_dn ?_ _ | with_reducible refine Below.drew ?_ | with_reducible refine below_step ?_ (by assumption) | with_reducible refine Below.setCell ?_ ?_ _ | with_reducible refine Below.alloc ?_ ?_ _ | with_reducible exact Nat.le_refl _ | (simp; done) | (simp; omega) | omega))) hb6)
    have y56 : w5.heap.size < w6.heap.size := by have := hb6.size; simp at this; omega
    clear hb6 XX5 XS5 P5 OX5 OS5 OG5 B5
    obtain ⟨p0, p1, p2, p3, pf⟩ := P6.out.facts
    obtain ⟨q0, q1, q2, q3, qf⟩ := XX6.out.facts
    have lP := P6.out.lt
    have lX := XX6.out.lt
    go_upto_region 10 with fail
    go_cut [49] (fun s wx => s = .bool false ∧ Below w6.heap.size w6 wx)
    case first =>
      go_region_with (first | (go_at_call 25; refine (laws_toChain A1 A2 A3 A4 c1 c2 c3 c4 n1 n2 n3 n4 D k1 k2 k3 k4 _ ((HC.out.go B6.out.drew).i1) ((HC.out.go B6.out.drew).i2) ((HC.out.go B6.out.drew).i3) ((HC.out.go B6.out.drew).i4)).mono ?_; rintro e w7 ⟨y1, y2, y3, y4, rfl, ho7, hb7⟩; have O7 := Lib.hid ho7; have B7 := Lib.hid ((Below.refl w6.heap.size w6).drew.trans hb7); obtain ⟨u0, u1, u2, u3, uf⟩ := (XX6.out.go B7.out).facts; clear ho7 hb7) | (go_at_call 27; refine (laws_eqChain _ _ _ _ _ _ _ _ _ _ _ _ _ _ _ _ n1 n2 n3 n4 _ _ D D k1 k2 k3 k4 (SimD.refl _ _ _ _ _) _ (OX6.out.go B7.out) O7.out).mono ?_; rintro e w8 ⟨rfl, hb8⟩; have B8 := Lib.hid hb8; clear hb8))
      all_goals
        go_wp2_with fail
        go_meet
        exact ⟨rfl, B7.out.trans (B8.out.mono B7.out.size)⟩
    obtain ⟨rfl, hb7⟩ := hcut
    clear p0 p1 p2 p3 pf q0 q1 q2 q3 qf lP lX
    have XX7 := Lib.hid (XX6.out.go hb7)
    have XS7 := Lib.hid (XS6.out.go hb7)
    have XG7 := Lib.hid (XG6.out.go hb7)
    have P7 := Lib.hid (P6.out.go hb7)
    have OX7 := Lib.hid (OX6.out.go hb7)
    have OS7 := Lib.hid (OS6.out.go hb7)
    have OG7 := Lib.hid (OG6.out.go hb7)
    have B7 := Lib.hid (below_step B6.out hb7)
    have y67 := hb7.size
    clear hb7 XX6 XS6 XG6 P6 OX6 OS6 OG6 B6
    obtain ⟨q0, q1, q2, q3, qf⟩ := XX7.out.facts
    have lX := XX7.out.lt
    go_wp2_with fail
    refine (laws_markChain _ _ _ _ _ _ _ _ n1 n2 n3 n4 _ D k1 k2 k3 k4 _ OX7.out).mono ?_
    rintro e w8 ⟨rfl, _, hw8⟩
    have V8 := Lib.hid (hw8.mono (S' := fun k => w3.heap.size + 1 ≤ k ∧ k < w4.heap.size) (fun k _ h => blkC_bd DX4.out h))
    have XS8 := Lib.hid (XS7.out.wr V8.out (fun h => by have := h.1; omega))
    have XG8 := Lib.hid (XG7.out.wr V8.out (fun h => by have := h.2; omega))
    have P8 := Lib.hid (P7.out.wr V8.out (fun h => by have := h.1; omega))
    have OS8 := Lib.hid (OS7.out.wr V8.out DS3.out (fun k h1 h2 h => by have := h.1; omega))
    have y4b : (w4.alloc (.cells #[.slice (some ⟨x1, 0, none⟩) n1 n1, .slice (some ⟨x2, 0, none⟩) n2 n2, .slice (some ⟨x3, 0, none⟩) n3 n3, .slice (some ⟨x4, 0, none⟩) n4 n4] 32)).heap.size = w4.heap.size + 1 := by simp
    have OG8 := Lib.hid (OG7.out.wr V8.out DG5.out (fun k h1 h2 h => by have := h.2; omega))
    have B8 := Lib.hid (B7.out.trans (V8.out.below B7.out.size (fun k hk h => by have := h.1; omega)))
    have y78 := V8.out.size
    clear hw8 XX7 OX7 q0 q1 q2 q3 qf lX XS7 XG7 P7 OS7 OG7 B7
    have hc0 : ¬ (cnt n1 n2 n3 n4 < 0) := by unfold cnt; omega
    have hc1 : ¬ (cnt l1 l2 l3 l4 < 0) := by unfold cnt; omega
    have hc2 : (cnt l1 l2 l3 l4 != cnt l1 l2 l3 l4) = false := by simp
    obtain ⟨v0, v1, v2, v3, vf⟩ := XS8.out.facts
    obtain ⟨q0, q1, q2, q3, qf⟩ := XG8.out.facts
    have lv := XS8.out.lt
    have lq := XG8.out.lt
    go_wp2_with fail
    refine (laws_eqChain _ _ _ _ _ _ _ _ _ _ _ _ _ _ _ _ l1 l2 l3 l4 _ _ DG DS j1 j2 j3 j4 (SG.out.trans SS.out.symm) _ OG8.out OS8.out).mono ?_
    rintro e w9 ⟨rfl, hb9⟩
    clear v0 v1 v2 v3 vf lv q0 q1 q2 q3 qf lq
    have XS9 := Lib.hid (XS8.out.go hb9)
    have XG9 := Lib.hid (XG8.out.go hb9)
    have P9 := Lib.hid (P8.out.go hb9)
    have OS9 := Lib.hid (OS8.out.go hb9)
    have OG9 := Lib.hid (OG8.out.go hb9)
    have B9 := Lib.hid (below_step B8.out hb9)
    have y89 := hb9.size
    clear hb9 XS8 XG8 P8 OS8 OG8 B8
    obtain ⟨q0, q1, q2, q3, qf⟩ := XG9.out.facts
    have lq := XG9.out.lt
    go_wp2_with fail
    refine (laws_markChain _ _ _ _ _ _ _ _ l1 l2 l3 l4 _ DG j1 j2 j3 j4 _ OG9.out).mono ?_
    rintro e w10 ⟨rfl, hm10, hw10⟩
    have V10 := Lib.hid (hw10.mono (S' := fun k => w4.heap.size + 1 ≤ k ∧ k < w5.heap.size) (fun k _ h => by have := blkC_bd DG5.out h; omega))
    have M10 := Lib.hid hm10
    have XS10 := Lib.hid (XS9.out.wr V10.out (fun h => by have := h.1; omega))
    have XG10 := Lib.hid (XG9.out.wr V10.out (fun h => by have := h.2; omega))
    have P10 := Lib.hid (P9.out.wr V10.out (fun h => by have := h.1; omega))
    have OS10 := Lib.hid (OS9.out.wr V10.out DS3.out (fun k h1 h2 h => by have := h.1; omega))
    have B10 := Lib.hid (B9.out.trans (V10.out.below B9.out.size (fun k hk h => by have := h.1; omega)))
    have y910 := V10.out.size
    clear hw10 hm10 q0 q1 q2 q3 qf lq XS9 XG9 P9 OS9 OG9 B9
    obtain ⟨q0, q1, q2, q3, qf⟩ := XG10.out.facts
    have lq := XG10.out.lt
    go_wp2_with fail
    refine (laws_heldChain _ _ _ _ _ _ _ _ l1 l2 l3 l4 _ j1 j2 j3 j4 _ M10.out).mono ?_
    rintro e w11 ⟨rfl, hb11⟩
    clear q0 q1 q2 q3 qf lq
    have XS11 := Lib.hid (XS10.out.go hb11)
    have XG11 := Lib.hid (XG10.out.go hb11)
    have P11 := Lib.hid (P10.out.go hb11)
    have OS11 := Lib.hid (OS10.out.go hb11)
    have M11 := Lib.hid (M10.out.go hb11)
    have B11 := Lib.hid (below_step B10.out hb11)
    clear hb11 XS10 XG10 P10 OS10 M10 B10
    obtain ⟨p0, p1, p2, p3, pf⟩ := P11.out.facts
    have lP := P11.out.lt
    go_wp2_with fail
    refine (laws_toChain A1 A2 A3 A4 c1 c2 c3 c4 n1 n2 n3 n4 D k1 k2 k3 k4 _ ((HC.out.go B11.out).i1) ((HC.out.go B11.out).i2) ((HC.out.go B11.out).i3) ((HC.out.go B11.out).i4)).mono ?_
    rintro e w12 ⟨x5, x6, x7, x8, rfl, ho12, hb12⟩
    clear p0 p1 p2 p3 pf lP
    have XS12 := Lib.hid (XS11.out.go hb12)
    have XG12 := Lib.hid (XG11.out.go hb12)
    have OS12 := Lib.hid (OS11.out.go hb12)
    have M12 := Lib.hid (M11.out.go hb12)
    have B12 := Lib.hid (below_step B11.out hb12)
    have OY := Lib.hid ho12
    clear hb12 ho12 XS11 XG11 P11 OS11 M11 B11
    go_wp2_with fail
    refine (impl_StraightenShared _ _ _ _ _ _ _ _ n1 n2 n3 n4 _ D q _ OY.out).mono ?_
    rintro e w13 hr13
    obtain ⟨K1, K2, K3, K4, r1, r2, r3, r4, DK, rfl, hs13, ho13, hd13, hb13⟩ := hr13.g HL1.out HL2.out HL3.out HL4.out
    have XS13 := Lib.hid (XS12.out.go hb13)
    have XG13 := Lib.hid (XG12.out.go hb13)
    have OS13 := Lib.hid (OS12.out.go hb13)
    have M13 := Lib.hid (M12.out.go hb13)
    have SK := Lib.hid hs13
    have OK13 := Lib.hid ho13
    have B13 := Lib.hid (below_step B12.out hb13)
    clear hb13 hr13 hs13 ho13 hd13 XS12 XG12 OS12 M12 B12 OY
    obtain ⟨v0, v1, v2, v3, vf⟩ := XS13.out.facts
    have lv := XS13.out.lt
    go_wp2_with fail
    refine (laws_eqChain _ _ _ _ _ _ _ _ _ _ _ _ _ _ _ _ l1 l2 l3 l4 _ _ DK DS j1 j2 j3 j4 (SK.out.trans SS.out.symm) _ (OK13.out.go ?hk) (OS13.out.go ?hs)).mono ?_
    case hk => exact (by repeat' (first | with_reducible exact Below.refl _ _ | with_reducible assumption | with_reducible refine below_dn ?_ _ | with_reducible refine Below.drew ?_ | with_reducible refine below_step ?_ (by assumption) | with_reducible refine Below.setCell ?_ ?_ _ | with_reducible refine Below.alloc ?_ ?_ _ | with_reducible exact Nat.le_refl _ | (simp; done) | (simp; omega) | omega))
    case hs => exact (by repeat' (first | with_reducible exact Below.refl _ _ | with_reducible assumption | with_reducible refine below_dn ?_ _ | with_reducible refine Below.drew ?_ | with_reducible refine below_step ?_ (by assumption) | with_reducible refine Below.setCell ?_ ?_ _ | with_reducible refine Below.alloc ?_ ?_ _ | with_reducible exact Nat.le_refl _ | (simp; done) | (simp; omega) | omega))
    rintro e w14 ⟨rfl, hb14⟩
    clear v0 v1 v2 v3 vf lv
    have XG14 := Lib.hid ((XG13.out.alloc _).go hb14)
    have M14 := Lib.hid ((M13.out.go (w' := w13.alloc _) (by repeat' (first | with_reducible exact Below.refl _ _ | with_reducible assumption | with_reducible refine below_dn ?_ _ | with_reducible refine Below.drew ?_ | with_reducible refine below_step ?_ (by assumption) | with_reducible refine Below.setCell ?_ ?_ _ | with_reducible refine Below.alloc ?_ ?_ _ | with_reducible exact Nat.le_refl _ | (simp; done) | (simp; omega) | omega))).go hb14)
    have B14 := Lib.hid (show Below w.heap.size w w14 from below_step (below_step B13.out (w3 := w13.alloc _) (by repeat' (first | with_reducible exact Below.refl _ _ | with_reducible assumption | with_reducible refine below_dn ?_ _ | with_reducible refine Below.drew ?_ | with_reducible refine below_step ?_ (by assumption) | with_reducible refine Below.setCell ?_ ?_ _ | with_reducible refine Below.alloc ?_ ?_ _ | with_reducible exact Nat.le_refl _ | (simp; done) | (simp; omega) | omega))) hb14)
    clear hb14 XS13 XG13 OS13 M13 B13 OK13
    obtain ⟨q0, q1, q2, q3, qf⟩ := XG14.out.facts
    have lq := XG14.out.lt
    go_wp2_with fail
    refine (laws_heldChain _ _ _ _ _ _ _ _ l1 l2 l3 l4 _ j1 j2 j3 j4 _ M14.out).mono ?_
    rintro e w15 ⟨rfl, hb15⟩
    have B15 := Lib.hid (below_step B14.out hb15)
    clear hb15 q0 q1 q2 q3 qf lq
    go_wp2_with fail
    go_ret
    exact ⟨rfl, B15.out⟩
  · have h9 := laws_szChain_over A1 A2 A3 A4 c1 c2 c3 c4 n1 n2 n3 n4 hC.m1 hC.m2 hC.m3 hC.m4 (by omega)
    clear hn hC
    go_enter Try.func22, Try.ntmps22
    go_wp2_with fail
    refine (h9 _).mono ?_
    rintro e w1 ⟨rfl, hb1⟩
    go_wp2_with fail
    go_ret
    exact ⟨rfl, (by repeat' (first | with_reducible exact Below.refl _ _ | with_reducible assumption | with_reducible refine below_dn ?_ _ | with_reducible refine Below.drew ?_ | with_reducible refine below_step ?_ (by assumption) | with_reducible refine Below.setCell ?_ ?_ _ | with_reducible refine Below.alloc ?_ ?_ _ | with_reducible exact Nat.le_refl _ | (simp; done) | (simp; omega) | omega))⟩
set_option maxRecDepth 100000 in
theorem FnExactStraightenShared_lifted (os : Os) (started : os.Started) (H : Type) (enc : TypeId × Value → H) :
    ReturnsInHanded {} Try.checked os 22 .any (Rows.fnExactStraightenSharedSpec.pre6 enc Try.prog Try.f22 Rows.fnExactStraightenSharedRow.domain false) (Rows.fnExactStraightenSharedSpec.post enc Try.prog Try.f22 false true false false) := by
  refine returnsInHanded_of_change (C := Try.checked) own started (by kernel_rfl) Try.func22
    (ChangeSpec.witness6 (enc := enc) (C := Try.checked) false ⟨#[], #[.agg #[.slice none 0 0, .slice none 0 0, .slice none 0 0, .slice none 0 0], .int .i64 0], []⟩ 8 (by kernel_rfl) (by kernel_rfl) (by kernel_rfl) (by kernel_rfl)) ?_
  intro W base args ds gs before hval0 hW _ _
  have hval : ∀ (j : Nat) t v, Try.f22.params[j]? = some t → args[j]? = some v → Value.okWide Try.prog W .any base t v := hval0
  have hW0 := hW
  obtain ⟨p, q, hA0, hV, _, _, _⟩ := hW
  obtain ⟨rfl, rfl⟩ := trodVars_none hV
  have hA : DataW.TrodAll enc Try.prog W 0 (fun _ => true) true Try.f22.params.toList args.toList ds p := hA0
  rw [Try.params22] at hA hval
  obtain ⟨v0, vs0, d0, ds0, p0, q0, hargs, rfl, _, h0, r0⟩ := trodAll_cons hA
  obtain ⟨v1, vs1, d1, ds1, p1, q1, rfl, rfl, _, h1, r1⟩ := trodAll_cons r0
  obtain ⟨rfl, rfl, _⟩ := trodAll_nil r1
  obtain rfl : args = #[v0, v1] := by cases args; simp_all
  obtain ⟨P0, B0, W0, R0, c10, c20, c30, c40, n10, n20, n30, n40, D0, rfl, hC0⟩ := open_chain (hval 0 26 v0 rfl rfl) h0
  obtain ⟨a1, rfl, _, _, w1⟩ := open_int Try.underlying2 (hval 1 2 v1 rfl rfl) h1
  clear hA0 hval0
  refine (FnExactStraightenShared_walk P0 B0 W0 R0 c10 c20 c30 c40 n10 n20 n30 n40 D0 a1 (i64_range w1).1 (i64_range w1).2 W hC0).mono fun e W' ⟨he, hb⟩ => ?_
  subst he
  exact ⟨_, rfl, law_post Try.laidOut hW0 rfl rfl (by kernel_rfl) Try.underlying4 (by kernel_rfl) hb⟩

theorem FnExactStraightenShared_joined : joinedFacts Try.checked.prog 22 Try.f22 Rows.fnExactStraightenSharedSpec Rows.fnExactStraightenSharedRow = true := joined_here (by kernel_rfl) (by kernel_rfl) (by kernel_rfl) (by kernel_rfl) (by kernel_rfl) (by kernel_rfl) (by kernel_rfl) (by kernel_rfl) (by kernel_rfl) (by kernel_rfl) (by kernel_rfl) (by kernel_rfl) (by kernel_rfl) (by kernel_rfl) (by kernel_rfl) (by kernel_rfl) (by kernel_rfl) (by kernel_rfl) (by kernel_rfl) (by kernel_rfl) (by kernel_rfl) (by kernel_rfl) (by kernel_rfl) (by kernel_rfl) (by kernel_rfl) (by kernel_rfl)
theorem FnExactStraightenShared_holds : Rows.FnExactStraightenSharedSaid :=
  OpenClaim.holds_of_wide 22 Try.f22 rfl rfl rfl rfl rfl rfl rfl ⟨rfl, rfl, rfl, rfl, rfl⟩ rfl rfl rfl rfl rfl (by kernel_rfl) Try.func22 FnExactStraightenShared_joined
    (of_decide_eq_true (by kernel_rfl)) (by unfold Func.isWrapper; first | (rw [if_pos (by decide +kernel)]; kernel_rfl) | (rw [if_neg (by decide +kernel)]; exact ⟨rfl, rfl⟩))
    (fun os started H enc _ => FnExactStraightenShared_lifted os started H enc)
#print axioms FnExactStraightenShared_holds
end Go.Proofs.Ytlhgaihfghobmaa
