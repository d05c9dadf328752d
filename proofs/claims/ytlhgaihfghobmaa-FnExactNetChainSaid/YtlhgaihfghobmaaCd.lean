/- The laws' counts and comparisons of chains. -/
import Derived.Test.YtlhgaihfghobmaaCc
namespace Go.Proofs.Ytlhgaihfghobmaa
open Go.ChangeShapes Go.WideShapes Go.ChangeAt Go.RowKit Go.Deep

/-! ### comparisons -/
theorem laws_eqRod (a b : Int) (l l' : Nat) (h : Sim .f32 l l') (w : World) : Calls Try.prog 157 #[.agg #[.int .i64 a, .int .i64 b, .float .f32 l], .agg #[.int .i64 a, .int .i64 b, .float .f32 l']] w (RetV (.bool true) w) := by
  go_enter Try.func157, Try.ntmps157
  go_wp2_with (go_at_call 36; refine (laws_sameFloat _ _ (widen_sim h _ _ _ _) _).mono ?_; rintro e w' ⟨rfl, n, rfl⟩)
  go_ret
  exact ⟨rfl, (by repeat' (first | with_reducible exact Below.refl _ _ | with_reducible assumption | with_reducible refine below_dn ?_ _ | with_reducible refine Below.drew ?_ | with_reducible refine below_step ?_ (by assumption) | with_reducible refine Below.setCell ?_ ?_ _ | with_reducible refine Below.alloc ?_ ?_ _ | with_reducible exact Nat.le_refl _ | (simp; done) | (simp; omega) | omega))⟩
set_option maxHeartbeats 1000000 in
theorem laws_eqVectorS (A A' : Option Addr) (n c c' : Nat) (p p' : Nat → V3) (hn : n ≤ 1048576) (hs : ∀ i, i < n → SimP (p i) (p' i)) (w : World) (h : In w w.heap.size 3 A n (vc p)) (h' : In w w.heap.size 3 A' n (vc p')) :
    Calls Try.prog 88 #[.slice A n c, .slice A' n c'] w (RetV (.bool true) w) := by
  have H := Lib.hid h
  have H' := Lib.hid h'
  have HS := Lib.hid hs
  have hneq : ((n : Int) != (n : Int)) = false := by simp
  clear h h' hs
  go_enter Try.func88, Try.ntmps88
  go_wp2
  go_loopw [5] (fun i wr => ∃ k : Nat, k ≤ n ∧ i = .int .i64 k ∧ Below w.heap.size w wr) (fun i _ => n - (intOf i).toNat)
  case atStart => exact ⟨0, Nat.zero_le _, rfl, (by repeat' (first | with_reducible exact Below.refl _ _ | with_reducible assumption | with_reducible refine below_dn ?_ _ | with_reducible refine Below.drew ?_ | with_reducible refine below_step ?_ (by assumption) | with_reducible refine Below.setCell ?_ ?_ _ | with_reducible refine Below.alloc ?_ ?_ _ | with_reducible exact Nat.le_refl _ | (simp; done) | (simp; omega) | omega))⟩
  case round =>
    obtain ⟨k, hk, rfl, hB⟩ := hrel
    have HB := Lib.hid hB
    by_cases hlt : k < n
    · obtain ⟨b, off, rfl, hb, d0, d1, d2⟩ := (H.out.below (Nat.le_refl _) hB).at3 hlt
      obtain ⟨b', off', rfl, hb', e0, e1, e2⟩ := (H'.out.below (Nat.le_refl _) hB).at3 hlt
      rw [vc0] at d0 e0
      rw [vc1] at d1 e1
      rw [vc2] at d2 e2
      have hs1 := Lib.hid (HS.out k hlt)
      have hk0 : (0 : Int) ≤ (k : Int) := by omega
      have hk1 : (k : Int) < (n : Int) := by omega
      clear hB
      go_wp2
      go_region_with (go_at_call 30; refine (laws_eqVector _ _ _ _ _ _ hs1.out.1 hs1.out.2.1 hs1.out.2.2 _).mono ?_; rintro e w1 ⟨rfl, hb1⟩; have HB1 := Lib.hid hb1; clear hb1)
      all_goals
        go_wp2
        go_roundw
        case rel => exact ⟨k + 1, by omega, by go_num, below_step HB.out.drew HB1.out⟩
        case measure => simp [intOf]; omega
    · clear hB
      go_wp2
      go_ret
      exact ⟨rfl, HB.out⟩
set_option maxHeartbeats 1000000 in
theorem laws_eqRodS (A A' : Option Addr) (n c c' : Nat) (p p' : Nat → Rd) (hn : n ≤ 1048576) (hs : ∀ i, i < n → SimR (p i) (p' i)) (w : World) (h : In w w.heap.size 3 A n (rc p)) (h' : In w w.heap.size 3 A' n (rc p')) :
    Calls Try.prog 90 #[.slice A n c, .slice A' n c'] w (RetV (.bool true) w) := by
  have H := Lib.hid h
  have H' := Lib.hid h'
  have HS := Lib.hid hs
  have hneq : ((n : Int) != (n : Int)) = false := by simp
  clear h h' hs
  go_enter Try.func90, Try.ntmps90
  go_wp2
  go_loopw [5] (fun i wr => ∃ k : Nat, k ≤ n ∧ i = .int .i64 k ∧ Below w.heap.size w wr) (fun i _ => n - (intOf i).toNat)
  case atStart => exact ⟨0, Nat.zero_le _, rfl, (by repeat' (first | with_reducible exact Below.refl _ _ | with_reducible assumption | with_reducible refine below_dn ?_ _ | with_reducible refine Below.drew ?_ | with_reducible refine below_step ?_ (by assumption) | with_reducible refine Below.setCell ?_ ?_ _ | with_reducible refine Below.alloc ?_ ?_ _ | with_reducible exact Nat.le_refl _ | (simp; done) | (simp; omega) | omega))⟩
  case round =>
    obtain ⟨k, hk, rfl, hB⟩ := hrel
    have HB := Lib.hid hB
    by_cases hlt : k < n
    · obtain ⟨b, off, rfl, hb, d0, d1, d2⟩ := (H.out.below (Nat.le_refl _) hB).at3 hlt
      obtain ⟨b', off', rfl, hb', e0, e1, e2⟩ := (H'.out.below (Nat.le_refl _) hB).at3 hlt
      rw [rc0] at d0 e0
      rw [rc1] at d1 e1
      rw [rc2] at d2 e2
      have hs0 := HS.out k hlt
      rw [← hs0.1] at e0
      rw [← hs0.2.1] at e1
      have hs1 := Lib.hid hs0.2.2
      clear hs0
      have hk0 : (0 : Int) ≤ (k : Int) := by omega
      have hk1 : (k : Int) < (n : Int) := by omega
      clear hB
      go_wp2
      go_region_with (go_at_call 157; refine (laws_eqRod _ _ _ _ hs1.out _).mono ?_; rintro e w1 ⟨rfl, hb1⟩; have HB1 := Lib.hid hb1; clear hb1)
      all_goals
        go_wp2
        go_roundw
        case rel => exact ⟨k + 1, by omega, by go_num, below_step HB.out.drew HB1.out⟩
        case measure => simp [intOf]; omega
    · clear hB
      go_wp2
      go_ret
      exact ⟨rfl, HB.out⟩
theorem laws_eqFloat32S' (A A' : Option Addr) (n c c' : Nat) (q q' : Nat → Nat) (hn : n ≤ 1048576) (hs : ∀ i, i < n → Sim .f32 (q i) (q' i)) (w : World) (h : In w w.heap.size 1 A n (fc q)) (h' : In w w.heap.size 1 A' n (fc q')) :
    Calls Try.prog 89 #[.slice A n c, .slice A' n c'] w (RetQ (.bool true) w) := by
  have hc := laws_eqFloat32S A A' c c' (flist n q) (flist n q') (by rw [flist_length]; exact hn) ⟨by rw [flist_length, flist_length], fun i hi => by
    rw [flist_length] at hi
    rw [flist_nth q hi, flist_nth q' hi]
    exact hs i hi⟩ w _ _ h.flat h'.flat
  rw [flist_length, flist_length] at hc
  exact hc
set_option maxHeartbeats 1000000 in
theorem laws_eqChain (A1 A2 A3 A4 A1' A2' A3' A4' : Option Addr) (c1 c2 c3 c4 c1' c2' c3' c4' n1 n2 n3 n4 B B' : Nat) (D D' : D4) (k1 : n1 ≤ 1048576) (k2 : n2 ≤ 1048576) (k3 : n3 ≤ 1048576) (k4 : n4 ≤ 1048576) (hs : SimD n1 n2 n3 n4 D D') (w : World)
    (h : Own w B A1 A2 A3 A4 c1 c2 c3 c4 n1 n2 n3 n4 D) (h' : Own w B' A1' A2' A3' A4' c1' c2' c3' c4' n1 n2 n3 n4 D') :
    Calls Try.prog 27 #[.agg #[.slice A1 n1 c1, .slice A2 n2 c2, .slice A3 n3 c3, .slice A4 n4 c4], .agg #[.slice A1' n1 c1', .slice A2' n2 c2', .slice A3' n3 c3', .slice A4' n4 c4']] w (RetV (.bool true) w) := by
  have H := Lib.hid h
  have H' := Lib.hid h'
  have HS := Lib.hid hs
  clear h h' hs
  go_enter Try.func27, Try.ntmps27
  have P0 := Lib.hid ((Bx.new_ w 32 (.slice A1 n1 c1) (.slice A2 n2 c2) (.slice A3 n3 c3) (.slice A4 n4 c4)).alloc (.cells #[.slice A1' n1 c1', .slice A2' n2 c2', .slice A3' n3 c3', .slice A4' n4 c4'] 32))
  have O0 := Lib.hid (Bx.new_ (w.alloc (.cells #[.slice A1 n1 c1, .slice A2 n2 c2, .slice A3 n3 c3, .slice A4 n4 c4] 32)) 32 (.slice A1' n1 c1') (.slice A2' n2 c2') (.slice A3' n3 c3') (.slice A4' n4 c4'))
  go_wp2_with fail
  refine (laws_eqVectorS A1 A1' n1 c1 c1' D.P D'.P k1 HS.out.1 _ ?ha1 ?ha2).mono ?_
  case ha1 => exact (H.out.s1.go (by repeat' (first | with_reducible exact Below.refl _ _ | with_reducible assumption | with_reducible refine below_dn ?_ _ | with_reducible refine Below.drew ?_ | with_reducible refine below_step ?_ (by assumption) | with_reducible refine Below.setCell ?_ ?_ _ | with_reducible refine Below.alloc ?_ ?_ _ | with_reducible exact Nat.le_refl _ | (simp; done) | (simp; omega) | omega))).in_
  case ha2 => exact (H'.out.s1.go (by repeat' (first | with_reducible exact Below.refl _ _ | with_reducible assumption | with_reducible refine below_dn ?_ _ | with_reducible refine Below.drew ?_ | with_reducible refine below_step ?_ (by assumption) | with_reducible refine Below.setCell ?_ ?_ _ | with_reducible refine Below.alloc ?_ ?_ _ | with_reducible exact Nat.le_refl _ | (simp; done) | (simp; omega) | omega))).in_
  rintro e w1 ⟨rfl, hb1⟩
  have P1 := Lib.hid (P0.out.go hb1)
  have O1 := Lib.hid (O0.out.go hb1)
  have B1 := Lib.hid (show Below w.heap.size w w1 from below_step (w := w) ((by repeat' (first | with_reducible exact Below.refl _ _ | with_reducible assumption | with_reducible refine below_dn ?_ _ | with_reducible refine Below.drew ?_ | with_reducible refine below_step ?_ (by assumption) | with_reducible refine Below.setCell ?_ ?_ _ | with_reducible refine Below.alloc ?_ ?_ _ | with_reducible exact Nat.le_refl _ | (simp; done) | (simp; omega) | omega))) hb1)
  have e1 : (w.alloc (.cells #[.slice A1 n1 c1, .slice A2 n2 c2, .slice A3 n3 c3, .slice A4 n4 c4] 32)).heap.size = w.heap.size + 1 := by simp
  rw [e1] at O1
  clear hb1 P0 O0 e1
  obtain ⟨p0, p1, p2, p3, pf⟩ := P1.out.facts
  obtain ⟨o0, o1, o2, o3, of⟩ := O1.out.facts
  go_wp2_with fail
  refine (laws_eqVectorS A2 A2' n2 c2 c2' D.B D'.B k2 HS.out.2.1 _ (H.out.s2.go B1.out).in_ (H'.out.s2.go B1.out).in_).mono ?_
  rintro e w2 ⟨rfl, hb2⟩
  clear p0 p1 p2 p3 pf o0 o1 o2 o3 of
  have P2 := Lib.hid (P1.out.go hb2)
  have O2 := Lib.hid (O1.out.go hb2)
  have B2 := Lib.hid (below_step B1.out hb2)
  clear hb2 P1 O1 B1
  obtain ⟨p0, p1, p2, p3, pf⟩ := P2.out.facts
  obtain ⟨o0, o1, o2, o3, of⟩ := O2.out.facts
  go_wp2_with fail
  refine (laws_eqFloat32S' A3 A3' n3 c3 c3' D.W D'.W k3 HS.out.2.2.1 _ (H.out.s3.go B2.out).in_ (H'.out.s3.go B2.out).in_).mono ?_
  rintro e w3 ⟨rfl, n3', rfl⟩
  go_wp2_with fail
  refine (laws_eqRodS A4 A4' n4 c4 c4' D.R D'.R k4 HS.out.2.2.2 _ (H.out.s4.go (below_dn B2.out _)).in_ (H'.out.s4.go (below_dn B2.out _)).in_).mono ?_
  rintro e w4 ⟨rfl, hb4⟩
  clear p0 p1 p2 p3 pf o0 o1 o2 o3 of
  go_wp2_with fail
  go_ret
  exact ⟨rfl, below_step (below_dn B2.out _) hb4⟩
end Go.Proofs.Ytlhgaihfghobmaa
