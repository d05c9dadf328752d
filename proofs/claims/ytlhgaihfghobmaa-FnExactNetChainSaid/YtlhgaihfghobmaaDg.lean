/- RodLong: contracts, reference and program. -/
import Derived.Test.YtlhgaihfghobmaaDf
namespace Go.Proofs.Ytlhgaihfghobmaa
open Go.ChangeShapes Go.WideShapes Go.ChangeAt Go.RowKit Go.Deep

theorem below_of {w w' : World} {n : Nat} (h : Below (w.drewN n).heap.size (w.drewN n) w') : Below w.heap.size w w' := (below_n _ w n).trans h
def rodOkB (n1 n2 n3 n4 : Nat) (D : D4) (i : Int) : Bool := okC n1 n2 n3 n4 D && inI i 0 ((n4 : Int) - 1)
theorem rodOkB_spec {n1 n2 n3 n4 : Nat} {D : D4} {i : Int} (h : rodOkB n1 n2 n3 n4 D i = true) : okC n1 n2 n3 n4 D = true ∧ ∃ k : Nat, i = (k : Int) ∧ k < n4 := by
  unfold rodOkB inI at h
  simp only [Bool.and_eq_true, decide_eq_true_eq] at h
  exact ⟨h.1, i.toNat, by omega, by omega⟩
theorem spec_l03Rod (ca : Nat) (A1 A2 A3 A4 : Option Addr) (c1 c2 c3 c4 n1 n2 n3 n4 B : Nat) (D : D4) (i : Int) (w : World) (hp : Bx w ca 32 (.slice A1 n1 c1) (.slice A2 n2 c2) (.slice A3 n3 c3) (.slice A4 n4 c4)) (h : Own w B A1 A2 A3 A4 c1 c2 c3 c4 n1 n2 n3 n4 D) :
    Calls Try.prog 116 #[.pointer (some ⟨ca, 0, none⟩), .int .i64 i] w (RetV (.bool (rodOkB n1 n2 n3 n4 D i)) w) := by
  have HP := Lib.hid hp
  have H := Lib.hid h
  unfold rodOkB
  clear hp h
  cases q1 : okC n1 n2 n3 n4 D
  · go_enter Try.func116, Try.ntmps116
    go_wp2_with fail
    refine (spec_l03Is ca A1 A2 A3 A4 c1 c2 c3 c4 n1 n2 n3 n4 B D _ HP.out H.out).mono ?_
    rintro e w1 ⟨rfl, hb1⟩
    rw [q1]
    have B1 := Lib.hid hb1
    clear hb1
    go_wp2_with fail
    go_ret
    exact ⟨rfl, B1.out⟩
  · obtain ⟨z1, rfl, rfl, z4⟩ := okC_sz q1
    go_enter Try.func116, Try.ntmps116
    go_wp2_with fail
    refine (spec_l03Is ca A1 A2 A3 A4 c1 c2 c3 c4 n3 n3 n3 n4 B D _ HP.out H.out).mono ?_
    rintro e w1 ⟨rfl, hb1⟩
    rw [q1]
    have B1 := Lib.hid hb1
    obtain ⟨p0, p1, p2, p3, pf⟩ := (HP.out.go hb1).facts
    clear hb1
    go_wp2_with (go_at_call 104; refine (spec_l00In _ _ _ _).mono ?_; rintro e w2 ⟨rfl, n, rfl⟩)
    go_ret
    exact ⟨by simp, below_dn B1.out _⟩
theorem spec_RodLong (A1 A2 A3 A4 : Option Addr) (c1 c2 c3 c4 n1 n2 n3 n4 B : Nat) (i : Int) (D : D4) (w : World) (h : Own w B A1 A2 A3 A4 c1 c2 c3 c4 n1 n2 n3 n4 D) :
    Calls Try.prog 43 #[.agg #[.slice A1 n1 c1, .slice A2 n2 c2, .slice A3 n3 c3, .slice A4 n4 c4], .int .i64 i] w (RetNB (if rodOkB n1 n2 n3 n4 D i = true then rodL D (D.R i.toNat) else 0) (rodOkB n1 n2 n3 n4 D i) w) := by
  have H := Lib.hid h
  clear h
  cases q1 : rodOkB n1 n2 n3 n4 D i
  · go_enter Try.func43, Try.ntmps43
    go_wp2_with fail
    refine (spec_l03Rod w.heap.size A1 A2 A3 A4 c1 c2 c3 c4 n1 n2 n3 n4 B D i _ (Bx.new_ _ _ _ _ _ _) (H.out.go (by repeat' (first | with_reducible exact Below.refl _ _ | with_reducible assumption | with_reducible refine below_dn ?_ _ | with_reducible refine Below.drew ?_ | with_reducible refine below_step ?_ (by assumption) | with_reducible refine Below.setCell ?_ ?_ _ | with_reducible refine Below.alloc ?_ ?_ _ | with_reducible exact Nat.le_refl _ | (simp; done) | (simp; omega) | omega)))).mono ?_
    rintro e w1 ⟨rfl, hb1⟩
    rw [q1]
    have B1 := Lib.hid (show Below w.heap.size w w1 from below_step (w := w) ((by repeat' (first | with_reducible exact Below.refl _ _ | with_reducible assumption | with_reducible refine below_dn ?_ _ | with_reducible refine Below.drew ?_ | with_reducible refine below_step ?_ (by assumption) | with_reducible refine Below.setCell ?_ ?_ _ | with_reducible refine Below.alloc ?_ ?_ _ | with_reducible exact Nat.le_refl _ | (simp; done) | (simp; omega) | omega))) hb1)
    clear hb1
    go_wp2_with fail
    go_ret2
    exact ⟨0, rfl, by decide, Sim.refl _ _, B1.out⟩
  · obtain ⟨ho, k, rfl, hk⟩ := rodOkB_spec q1
    obtain ⟨ra, rb, _⟩ := okC_rod ho hk
    have RA := Lib.hid ra
    have RB := Lib.hid rb
    clear ra rb
    go_enter Try.func43, Try.ntmps43
    go_wp2_with fail
    refine (spec_l03Rod w.heap.size A1 A2 A3 A4 c1 c2 c3 c4 n1 n2 n3 n4 B D _ _ (Bx.new_ _ _ _ _ _ _) (H.out.go (by repeat' (first | with_reducible exact Below.refl _ _ | with_reducible assumption | with_reducible refine below_dn ?_ _ | with_reducible refine Below.drew ?_ | with_reducible refine below_step ?_ (by assumption) | with_reducible refine Below.setCell ?_ ?_ _ | with_reducible refine Below.alloc ?_ ?_ _ | with_reducible exact Nat.le_refl _ | (simp; done) | (simp; omega) | omega)))).mono ?_
    rintro e w1 ⟨rfl, hb1⟩
    rw [q1]
    have B1 := Lib.hid (show Below w.heap.size w w1 from below_step (w := w) ((by repeat' (first | with_reducible exact Below.refl _ _ | with_reducible assumption | with_reducible refine below_dn ?_ _ | with_reducible refine Below.drew ?_ | with_reducible refine below_step ?_ (by assumption) | with_reducible refine Below.setCell ?_ ?_ _ | with_reducible refine Below.alloc ?_ ?_ _ | with_reducible exact Nat.le_refl _ | (simp; done) | (simp; omega) | omega))) hb1)
    have P1 := Lib.hid ((Bx.new_ w 32 (.slice A1 n1 c1) (.slice A2 n2 c2) (.slice A3 n3 c3) (.slice A4 n4 c4)).go hb1)
    clear hb1
    go_wp2_with fail
    refine (spec_l03Long w.heap.size A1 A2 A3 A4 c1 c2 c3 c4 n1 n2 n3 n4 B D k hk RA.out RB.out _ P1.out (H.out.go B1.out)).mono ?_
    rintro e w2 ⟨r, rfl, hl, hs, hb2⟩
    have B2 := Lib.hid (below_step B1.out hb2)
    have HS := Lib.hid hs
    have HL := Lib.hid hl
    clear hb2 hs hl
    go_wp2_with fail
    go_ret2
    exact ⟨r, rfl, HL.out, HS.out, B2.out⟩
theorem impl_hasRod (ca : Nat) (A1 A2 A3 A4 : Option Addr) (c1 c2 c3 c4 n1 n2 n3 n4 : Nat) (i : Int) (w : World) (h4 : n4 ≤ 40) (hp : Bx w ca 32 (.slice A1 n1 c1) (.slice A2 n2 c2) (.slice A3 n3 c3) (.slice A4 n4 c4)) :
    Calls Try.prog 118 #[.pointer (some ⟨ca, 0, none⟩), .int .i64 i] w (RetQ (.bool (inI i 0 ((n4 : Int) - 1))) w) := by
  obtain ⟨p0, p1, p2, p3, pf⟩ := hp.facts
  clear hp
  go_enter Try.func118, Try.ntmps118
  go_wp2_with (go_at_call 107; refine (impl_in _ _ _ _).mono ?_; rintro e w2 ⟨rfl, n, rfl⟩)
  go_ret
  exact ⟨by simp, _, rfl⟩
theorem impl_RodLong (A1 A2 A3 A4 : Option Addr) (c1 c2 c3 c4 n1 n2 n3 n4 B : Nat) (i : Int) (D : D4) (w : World) (h : Own w B A1 A2 A3 A4 c1 c2 c3 c4 n1 n2 n3 n4 D) :
    Calls Try.prog 44 #[.agg #[.slice A1 n1 c1, .slice A2 n2 c2, .slice A3 n3 c3, .slice A4 n4 c4], .int .i64 i] w (RetNB (if rodOkB n1 n2 n3 n4 D i = true then rodL D (D.R i.toNat) else 0) (rodOkB n1 n2 n3 n4 D i) w) := by
  have H := Lib.hid h
  clear h
  cases q1 : okC n1 n2 n3 n4 D
  · have q2 : rodOkB n1 n2 n3 n4 D i = false := by unfold rodOkB; rw [q1]; rfl
    rw [q2]
    go_enter Try.func44, Try.ntmps44
    go_wp2_with fail
    refine (impl_ValidChain A1 A2 A3 A4 c1 c2 c3 c4 n1 n2 n3 n4 B D _ (H.out.go (by repeat' (first | with_reducible exact Below.refl _ _ | with_reducible assumption | with_reducible refine below_dn ?_ _ | with_reducible refine Below.drew ?_ | with_reducible refine below_step ?_ (by assumption) | with_reducible refine Below.setCell ?_ ?_ _ | with_reducible refine Below.alloc ?_ ?_ _ | with_reducible exact Nat.le_refl _ | (simp; done) | (simp; omega) | omega)))).mono ?_
    rintro e w1 ⟨rfl, hb1⟩
    rw [q1]
    have B1 := Lib.hid (show Below w.heap.size w w1 from below_step (w := w) ((by repeat' (first | with_reducible exact Below.refl _ _ | with_reducible assumption | with_reducible refine below_dn ?_ _ | with_reducible refine Below.drew ?_ | with_reducible refine below_step ?_ (by assumption) | with_reducible refine Below.setCell ?_ ?_ _ | with_reducible refine Below.alloc ?_ ?_ _ | with_reducible exact Nat.le_refl _ | (simp; done) | (simp; omega) | omega))) hb1)
    clear hb1
    go_wp2_with fail
    go_ret2
    exact ⟨0, rfl, by decide, Sim.refl _ _, B1.out⟩
  · obtain ⟨z1, rfl, rfl, z4⟩ := okC_sz q1
    cases q3 : inI i 0 ((n4 : Int) - 1)
    · have q2 : rodOkB n3 n3 n3 n4 D i = false := by unfold rodOkB; rw [q1, q3]; rfl
      rw [q2]
      go_enter Try.func44, Try.ntmps44
      go_wp2_with fail
      refine (impl_ValidChain A1 A2 A3 A4 c1 c2 c3 c4 n3 n3 n3 n4 B D _ (H.out.go (by repeat' (first | with_reducible exact Below.refl _ _ | with_reducible assumption | with_reducible refine below_dn ?_ _ | with_reducible refine Below.drew ?_ | with_reducible refine below_step ?_ (by assumption) | with_reducible refine Below.setCell ?_ ?_ _ | with_reducible refine Below.alloc ?_ ?_ _ | with_reducible exact Nat.le_refl _ | (simp; done) | (simp; omega) | omega)))).mono ?_
      rintro e w1 ⟨rfl, hb1⟩
      rw [q1]
      have B1 := Lib.hid (show Below w.heap.size w w1 from below_step (w := w) ((by repeat' (first | with_reducible exact Below.refl _ _ | with_reducible assumption | with_reducible refine below_dn ?_ _ | with_reducible refine Below.drew ?_ | with_reducible refine below_step ?_ (by assumption) | with_reducible refine Below.setCell ?_ ?_ _ | with_reducible refine Below.alloc ?_ ?_ _ | with_reducible exact Nat.le_refl _ | (simp; done) | (simp; omega) | omega))) hb1)
      have P1 := Lib.hid ((Bx.new_ w 32 (.slice A1 n3 c1) (.slice A2 n3 c2) (.slice A3 n3 c3) (.slice A4 n4 c4)).go hb1)
      clear hb1
      go_wp2_with fail
      refine (impl_hasRod w.heap.size A1 A2 A3 A4 c1 c2 c3 c4 n3 n3 n3 n4 i _ z4 P1.out).mono ?_
      rintro e w2 hq
      obtain ⟨rfl, hb2⟩ := RetQ.v hq
      rw [q3]
      have B2 := Lib.hid (below_step B1.out hb2)
      clear hb2 hq
      go_wp2_with fail
      go_ret2
      exact ⟨0, rfl, by decide, Sim.refl _ _, B2.out⟩
    · have q2 : rodOkB n3 n3 n3 n4 D i = true := by unfold rodOkB; rw [q1, q3]; rfl
      obtain ⟨ho, k, rfl, hk⟩ := rodOkB_spec q2
      obtain ⟨ra, rb, _⟩ := okC_rod ho hk
      have RA := Lib.hid ra
      have RB := Lib.hid rb
      obtain ⟨b4, off4, rfl, l4, i0, i1, i2⟩ := H.out.s4.in_.at3 hk
      rw [rc0] at i0
      rw [rc1] at i1
      rw [rc2] at i2
      rw [q2]
      have hk0 : (0 : Int) ≤ (k : Int) := by omega
      have hk1 : (k : Int) < (n4 : Int) := by omega
      have I0 := Lib.hid i0
      have I1 := Lib.hid i1
      have I2 := Lib.hid i2
      clear ra rb i0 i1 i2
      go_enter Try.func44, Try.ntmps44
      go_wp2_with fail
      refine (impl_ValidChain A1 A2 A3 _ c1 c2 c3 c4 n3 n3 n3 n4 B D _ (H.out.go (by repeat' (first | with_reducible exact Below.refl _ _ | with_reducible assumption | with_reducible refine below_dn ?_ _ | with_reducible refine Below.drew ?_ | with_reducible refine below_step ?_ (by assumption) | with_reducible refine Below.setCell ?_ ?_ _ | with_reducible refine Below.alloc ?_ ?_ _ | with_reducible exact Nat.le_refl _ | (simp; done) | (simp; omega) | omega)))).mono ?_
      rintro e w1 ⟨rfl, hb1⟩
      rw [q1]
      have B1 := Lib.hid (show Below w.heap.size w w1 from below_step (w := w) ((by repeat' (first | with_reducible exact Below.refl _ _ | with_reducible assumption | with_reducible refine below_dn ?_ _ | with_reducible refine Below.drew ?_ | with_reducible refine below_step ?_ (by assumption) | with_reducible refine Below.setCell ?_ ?_ _ | with_reducible refine Below.alloc ?_ ?_ _ | with_reducible exact Nat.le_refl _ | (simp; done) | (simp; omega) | omega))) hb1)
      have P1 := Lib.hid ((Bx.new_ w 32 (.slice A1 n3 c1) (.slice A2 n3 c2) (.slice A3 n3 c3) (.slice (some ⟨b4, off4, none⟩) n4 c4)).go hb1)
      clear hb1
      go_wp2_with fail
      refine (impl_hasRod w.heap.size A1 A2 A3 _ c1 c2 c3 c4 n3 n3 n3 n4 _ _ z4 P1.out).mono ?_
      rintro e w2 hq
      obtain ⟨rfl, hb2⟩ := RetQ.v hq
      rw [q3]
      have B2 := Lib.hid (below_step B1.out hb2)
      have P2 := Lib.hid (P1.out.go hb2)
      clear hb2 hq
      obtain ⟨p0, p1, p2, p3, pf⟩ := P2.out.facts
      obtain ⟨bc, bf⟩ := bcell B2.out
      have j0 := (bc _ _ l4).trans I0.out
      have j1 := (bc _ _ l4).trans I1.out
      have j2 := (bc _ _ l4).trans I2.out
      have m4 : b4 < w2.heap.size := Nat.lt_of_lt_of_le l4 B2.out.size
      clear bc bf
      go_wp2_with fail
      refine (impl_long w.heap.size A1 A2 A3 _ c1 c2 c3 c4 n3 n3 n3 n4 B D k RA.out RB.out _ P2.out (H.out.go B2.out)).mono ?_
      rintro e w3 ⟨r, rfl, hl, hs, hb3⟩
      have B3 := Lib.hid (below_step B2.out hb3)
      have HS := Lib.hid hs
      have HL := Lib.hid hl
      clear hb3 hs hl
      go_wp2_with fail
      go_ret2
      exact ⟨r, rfl, HL.out, HS.out, B3.out⟩
end Go.Proofs.Ytlhgaihfghobmaa
