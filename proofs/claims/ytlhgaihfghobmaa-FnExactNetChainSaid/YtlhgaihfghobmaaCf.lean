/- Whether marks are held; chains marked whole; the count of a chain. -/
import Derived.Test.YtlhgaihfghobmaaCe
namespace Go.Proofs.Ytlhgaihfghobmaa
open Go.ChangeShapes Go.WideShapes Go.ChangeAt Go.RowKit Go.Deep

set_option maxHeartbeats 1000000 in
theorem laws_heldVectorS (A : Option Addr) (n c k0 : Nat) (hn : n ≤ 1048576) (hk0 : k0 ≤ 100000000) (w : World) (B : Nat) (h : Sl w B 38 3 A n c (mv k0)) :
    Calls Try.prog 113 #[.slice A n c, .int .i64 k0] w (RetQ (.int .i64 ((k0 : Int) + 3 * n)) w) := by
  have H := Lib.hid h
  clear h
  go_enter Try.func113, Try.ntmps113
  go_wp2
  go_loopw [1, 5] (fun q i wr => ∃ k m : Nat, k ≤ n ∧ i = .int .i64 k ∧ q = .int .i64 ((k0 : Int) + 3 * k) ∧ wr = w.drewN m) (fun _ i _ => n - (intOf i).toNat)
  case atStart => exact ⟨0, 0, Nat.zero_le _, rfl, by go_num, rfl⟩
  case round =>
    obtain ⟨k, m, hk, rfl, rfl, rfl⟩ := hrel
    by_cases hlt : k < n
    · obtain ⟨g, rfl, hB, hnc, hcm, hr⟩ := H.out (by omega)
      obtain ⟨d0, d1, d2, f0, f1, f2⟩ := hr.at3 hlt
      rw [mv0] at d0
      rw [mv1] at d1
      rw [mv2] at d2
      have m0 := mark_num ((k0 : Int) + 3 * k)
      have m1 := mark_num ((k0 : Int) + 3 * k + 1)
      have m2 := mark_num ((k0 : Int) + 3 * k + 1 + 1)
      have hk0' : (0 : Int) ≤ (k : Int) := by omega
      have hk1 : (k : Int) < (n : Int) := by omega
      have hk2 : (k : Int) ≤ 1048576 := by omega
      have hk3 : (k0 : Int) ≤ 100000000 := by omega
      clear hr
      go_wp2
      go_roundw
      case rel => exact ⟨k + 1, _, by omega, by go_num, by go_num, rfl⟩
      case measure => simp [intOf]; omega
    · have hke : k = n := by omega
      subst hke
      go_wp2
      go_ret
      exact ⟨rfl, m, rfl⟩
set_option maxHeartbeats 1000000 in
theorem laws_heldRodS (A : Option Addr) (n c k0 : Nat) (hn : n ≤ 1048576) (hk0 : k0 ≤ 100000000) (w : World) (B : Nat) (h : Sl w B 91 3 A n c (mr k0)) :
    Calls Try.prog 115 #[.slice A n c, .int .i64 k0] w (RetQ (.int .i64 ((k0 : Int) + 3 * n)) w) := by
  have H := Lib.hid h
  clear h
  go_enter Try.func115, Try.ntmps115
  go_wp2
  go_loopw [1, 5] (fun q i wr => ∃ k m : Nat, k ≤ n ∧ i = .int .i64 k ∧ q = .int .i64 ((k0 : Int) + 3 * k) ∧ wr = w.drewN m) (fun _ i _ => n - (intOf i).toNat)
  case atStart => exact ⟨0, 0, Nat.zero_le _, rfl, by go_num, rfl⟩
  case round =>
    obtain ⟨k, m, hk, rfl, rfl, rfl⟩ := hrel
    by_cases hlt : k < n
    · obtain ⟨g, rfl, hB, hnc, hcm, hr⟩ := H.out (by omega)
      obtain ⟨d0, d1, d2, f0, f1, f2⟩ := hr.at3 hlt
      rw [mr0] at d0
      rw [mr1] at d1
      rw [mr2] at d2
      have m2 := mark_num ((k0 : Int) + 3 * k + 1 + 1)
      have hk0' : (0 : Int) ≤ (k : Int) := by omega
      have hk1 : (k : Int) < (n : Int) := by omega
      have hk2 : (k : Int) ≤ 1048576 := by omega
      have hk3 : (k0 : Int) ≤ 100000000 := by omega
      clear hr
      go_wp2
      go_roundw
      case rel => exact ⟨k + 1, _, by omega, by go_num, by go_num, rfl⟩
      case measure => simp [intOf]; omega
    · have hke : k = n := by omega
      subst hke
      go_wp2
      go_ret
      exact ⟨rfl, m, rfl⟩
set_option maxHeartbeats 1000000 in
theorem laws_heldFloat32S' (A : Option Addr) (n c k0 : Nat) (hn : n ≤ 1048576) (hk0 : k0 ≤ 100000000) (w : World) (B : Nat) (h : Sl w B 36 1 A n c (mv k0)) :
    Calls Try.prog 114 #[.slice A n c, .int .i64 k0] w (RetQ (.int .i64 ((k0 : Int) + n)) w) := by
  have H := Lib.hid h
  clear h
  go_enter Try.func114, Try.ntmps114
  go_wp2
  go_loopw [1, 5] (fun q i wr => ∃ k m : Nat, k ≤ n ∧ i = .int .i64 k ∧ q = .int .i64 ((k0 : Int) + k) ∧ wr = w.drewN m) (fun _ i _ => n - (intOf i).toNat)
  case atStart => exact ⟨0, 0, Nat.zero_le _, rfl, by go_num, rfl⟩
  case round =>
    obtain ⟨k, m, hk, rfl, rfl, rfl⟩ := hrel
    by_cases hlt : k < n
    · obtain ⟨g, rfl, hB, hnc, hcm, hr⟩ := H.out (by omega)
      have d0 := hr.cell (j := k) (by omega)
      have m0 := mark_num ((k0 : Int) + k)
      unfold mv at d0
      have hk0' : (0 : Int) ≤ (k : Int) := by omega
      have hk1 : (k : Int) < (n : Int) := by omega
      have hk2 : (k : Int) ≤ 1048576 := by omega
      have hk3 : (k0 : Int) ≤ 100000000 := by omega
      clear hr
      go_wp2
      go_roundw
      case rel => exact ⟨k + 1, _, by omega, by go_num, by go_num, rfl⟩
      case measure => simp [intOf]; omega
    · have hke : k = n := by omega
      subst hke
      go_wp2
      go_ret
      exact ⟨rfl, m, rfl⟩
theorem heldVectorS (A : Option Addr) (n c k0 : Nat) (K : Int) (hK : K = k0) (hn : n ≤ 1048576) (hk0 : k0 ≤ 100000000) (w : World) (B : Nat) (h : Sl w B 38 3 A n c (mv k0)) :
    Calls Try.prog 113 #[.slice A n c, .int .i64 K] w (RetQ (.int .i64 (K + 3 * (n : Int))) w) := by
  subst hK
  exact laws_heldVectorS A n c k0 hn hk0 w B h
theorem markVectorS (A : Option Addr) (n c k0 : Nat) (K : Int) (hK : K = k0) (f : Nat → Value) (hn : n ≤ 1048576) (hk0 : k0 ≤ 100000000) (w : World) (B : Nat) (h : Sl w B 38 3 A n c f) :
    Calls Try.prog 110 #[.slice A n c, .int .i64 K] w (RetMark (K + 3 * (n : Int)) B 38 3 A n c (mv k0) w) := by
  subst hK
  exact laws_markVectorS A n c k0 f hn hk0 w B h
theorem heldRodS (A : Option Addr) (n c k0 : Nat) (K : Int) (hK : K = k0) (hn : n ≤ 1048576) (hk0 : k0 ≤ 100000000) (w : World) (B : Nat) (h : Sl w B 91 3 A n c (mr k0)) :
    Calls Try.prog 115 #[.slice A n c, .int .i64 K] w (RetQ (.int .i64 (K + 3 * (n : Int))) w) := by
  subst hK
  exact laws_heldRodS A n c k0 hn hk0 w B h
theorem markRodS (A : Option Addr) (n c k0 : Nat) (K : Int) (hK : K = k0) (f : Nat → Value) (hn : n ≤ 1048576) (hk0 : k0 ≤ 100000000) (w : World) (B : Nat) (h : Sl w B 91 3 A n c f) :
    Calls Try.prog 112 #[.slice A n c, .int .i64 K] w (RetMark (K + 3 * (n : Int)) B 91 3 A n c (mr k0) w) := by
  subst hK
  exact laws_markRodS A n c k0 f hn hk0 w B h
theorem heldFloat32S (A : Option Addr) (n c k0 : Nat) (K : Int) (hK : K = k0) (hn : n ≤ 1048576) (hk0 : k0 ≤ 100000000) (w : World) (B : Nat) (h : Sl w B 36 1 A n c (mv k0)) :
    Calls Try.prog 114 #[.slice A n c, .int .i64 K] w (RetQ (.int .i64 (K + (n : Int))) w) := by
  subst hK
  exact laws_heldFloat32S' A n c k0 hn hk0 w B h
theorem markFloat32S (A : Option Addr) (n c k0 : Nat) (K : Int) (hK : K = k0) (f : Nat → Value) (hn : n ≤ 1048576) (hk0 : k0 ≤ 100000000) (w : World) (B : Nat) (h : Sl w B 36 1 A n c f) :
    Calls Try.prog 111 #[.slice A n c, .int .i64 K] w (RetMark (K + (n : Int)) B 36 1 A n c (mv k0) w) := by
  subst hK
  exact laws_markFloat32S' A n c k0 f hn hk0 w B h
/-- a chain whose cells all hold marks. -/
structure Mk (w : World) (B : Nat) (A1 A2 A3 A4 : Option Addr) (c1 c2 c3 c4 n1 n2 n3 n4 : Nat) : Prop where
  s1 : Sl w B 38 3 A1 n1 c1 (mv 1)
  s2 : Sl w B 38 3 A2 n2 c2 (mv (1 + 3 * n1))
  s3 : Sl w B 36 1 A3 n3 c3 (mv (1 + 3 * n1 + 3 * n2))
  s4 : Sl w B 91 3 A4 n4 c4 (mr (1 + 3 * n1 + 3 * n2 + n3))
theorem Mk.go {w w' : World} {B : Nat} {A1 A2 A3 A4 : Option Addr} {c1 c2 c3 c4 n1 n2 n3 n4 : Nat} (h : Mk w B A1 A2 A3 A4 c1 c2 c3 c4 n1 n2 n3 n4) (hb : Below w.heap.size w w') : Mk w' B A1 A2 A3 A4 c1 c2 c3 c4 n1 n2 n3 n4 := ⟨h.s1.go hb, h.s2.go hb, h.s3.go hb, h.s4.go hb⟩
def cnt (n1 n2 n3 n4 : Nat) : Int := 1 + 3 * n1 + 3 * n2 + n3 + 3 * n4
theorem ret_int {k : IntKind} {a b : Int} (h : a = b) : Ending.returned (.int k a) = .returned (.int k b) := by rw [h]
set_option maxHeartbeats 1000000 in
theorem laws_heldChain (A1 A2 A3 A4 : Option Addr) (c1 c2 c3 c4 n1 n2 n3 n4 B : Nat) (k1 : n1 ≤ 1048576) (k2 : n2 ≤ 1048576) (k3 : n3 ≤ 1048576) (k4 : n4 ≤ 1048576) (w : World) (h : Mk w B A1 A2 A3 A4 c1 c2 c3 c4 n1 n2 n3 n4) :
    Calls Try.prog 40 #[.agg #[.slice A1 n1 c1, .slice A2 n2 c2, .slice A3 n3 c3, .slice A4 n4 c4], .int .i64 1] w (RetV (.int .i64 (cnt n1 n2 n3 n4)) w) := by
  have H := Lib.hid h
  clear h
  have j1 : (0 : Int) ≤ (n1 : Int) ∧ (n1 : Int) ≤ 1048576 := by omega
  have j2 : (0 : Int) ≤ (n2 : Int) ∧ (n2 : Int) ≤ 1048576 := by omega
  have j3 : (0 : Int) ≤ (n3 : Int) ∧ (n3 : Int) ≤ 1048576 := by omega
  have j4 : (0 : Int) ≤ (n4 : Int) ∧ (n4 : Int) ≤ 1048576 := by omega
  go_enter Try.func40, Try.ntmps40
  have P := Lib.hid (Bx.new_ w 32 (.slice A1 n1 c1) (.slice A2 n2 c2) (.slice A3 n3 c3) (.slice A4 n4 c4))
  go_wp2_with fail
  refine (heldVectorS A1 n1 c1 1 1 rfl k1 (by omega) _ B (H.out.s1.go (by repeat' (first | with_reducible exact Below.refl _ _ | with_reducible assumption | with_reducible refine below_dn ?_ _ | with_reducible refine Below.drew ?_ | with_reducible refine below_step ?_ (by assumption) | with_reducible refine Below.setCell ?_ ?_ _ | with_reducible refine Below.alloc ?_ ?_ _ | with_reducible exact Nat.le_refl _ | (simp; done) | (simp; omega) | omega)))).mono ?_
  rintro e w1 ⟨rfl, q1, rfl⟩
  go_wp2_with fail
  refine (heldVectorS A2 n2 c2 (1 + 3 * n1) _ (by omega) k2 (by omega) _ B (H.out.s2.go (by repeat' (first | with_reducible exact Below.refl _ _ | with_reducible assumption | with_reducible refine below_dn ?_ _ | with_reducible refine Below.drew ?_ | with_reducible refine below_step ?_ (by assumption) | with_reducible refine Below.setCell ?_ ?_ _ | with_reducible refine Below.alloc ?_ ?_ _ | with_reducible exact Nat.le_refl _ | (simp; done) | (simp; omega) | omega)))).mono ?_
  rintro e w1 ⟨rfl, q2, rfl⟩
  go_wp2_with fail
  refine (heldFloat32S A3 n3 c3 (1 + 3 * n1 + 3 * n2) _ (by omega) k3 (by omega) _ B (H.out.s3.go (by repeat' (first | with_reducible exact Below.refl _ _ | with_reducible assumption | with_reducible refine below_dn ?_ _ | with_reducible refine Below.drew ?_ | with_reducible refine below_step ?_ (by assumption) | with_reducible refine Below.setCell ?_ ?_ _ | with_reducible refine Below.alloc ?_ ?_ _ | with_reducible exact Nat.le_refl _ | (simp; done) | (simp; omega) | omega)))).mono ?_
  rintro e w1 ⟨rfl, q3, rfl⟩
  go_wp2_with fail
  refine (heldRodS A4 n4 c4 (1 + 3 * n1 + 3 * n2 + n3) _ (by omega) k4 (by omega) _ B (H.out.s4.go (by repeat' (first | with_reducible exact Below.refl _ _ | with_reducible assumption | with_reducible refine below_dn ?_ _ | with_reducible refine Below.drew ?_ | with_reducible refine below_step ?_ (by assumption) | with_reducible refine Below.setCell ?_ ?_ _ | with_reducible refine Below.alloc ?_ ?_ _ | with_reducible exact Nat.le_refl _ | (simp; done) | (simp; omega) | omega)))).mono ?_
  rintro e w1 ⟨rfl, q4, rfl⟩
  go_wp2_with fail
  go_ret
  exact ⟨ret_int (by unfold cnt; omega), (by repeat' (first | with_reducible exact Below.refl _ _ | with_reducible assumption | with_reducible refine below_dn ?_ _ | with_reducible refine Below.drew ?_ | with_reducible refine below_step ?_ (by assumption) | with_reducible refine Below.setCell ?_ ?_ _ | with_reducible refine Below.alloc ?_ ?_ _ | with_reducible exact Nat.le_refl _ | (simp; done) | (simp; omega) | omega))⟩
/-- the blocks of a chain's slices. -/
def blkC (A1 A2 A3 A4 : Option Addr) (n1 n2 n3 n4 : Nat) (k : Nat) : Prop := (A1 = some ⟨k, 0, none⟩ ∧ 0 < n1) ∨ (A2 = some ⟨k, 0, none⟩ ∧ 0 < n2) ∨ (A3 = some ⟨k, 0, none⟩ ∧ 0 < n3) ∨ (A4 = some ⟨k, 0, none⟩ ∧ 0 < n4)
theorem Sl.ne_ {w : World} {B B' sz sz' n n' c c' g : Nat} {A A' : Option Addr} {t t' : TypeId} {f f' : Nat → Value} (h : Sl w B t sz A n c f) (h' : Sl w B' t' sz' A' n' c' f') (hne : t ≠ t') (e : A = some ⟨g, 0, none⟩) (e' : A' = some ⟨g, 0, none⟩) (h0 : 0 < n) (h0' : 0 < n') : False := by
  obtain ⟨g1, e1, _, _, _, r1⟩ := h h0
  obtain ⟨g2, e2, _, _, _, r2⟩ := h' h0'
  rw [e] at e1
  rw [e'] at e2
  cases e1
  cases e2
  exact r1.ne_ r2 hne rfl
set_option maxHeartbeats 2000000 in
theorem laws_markChain (A1 A2 A3 A4 : Option Addr) (c1 c2 c3 c4 n1 n2 n3 n4 B : Nat) (D : D4) (k1 : n1 ≤ 1048576) (k2 : n2 ≤ 1048576) (k3 : n3 ≤ 1048576) (k4 : n4 ≤ 1048576) (w : World) (h : Own w B A1 A2 A3 A4 c1 c2 c3 c4 n1 n2 n3 n4 D) :
    Calls Try.prog 39 #[.agg #[.slice A1 n1 c1, .slice A2 n2 c2, .slice A3 n3 c3, .slice A4 n4 c4], .int .i64 1] w (fun e w' => e = .returned (.int .i64 (cnt n1 n2 n3 n4)) ∧ Mk w' B A1 A2 A3 A4 c1 c2 c3 c4 n1 n2 n3 n4 ∧ Wr (blkC A1 A2 A3 A4 n1 n2 n3 n4) w w') := by
  have H := Lib.hid h
  clear h
  have j1 : (0 : Int) ≤ (n1 : Int) ∧ (n1 : Int) ≤ 1048576 := by omega
  have j2 : (0 : Int) ≤ (n2 : Int) ∧ (n2 : Int) ≤ 1048576 := by omega
  have j3 : (0 : Int) ≤ (n3 : Int) ∧ (n3 : Int) ≤ 1048576 := by omega
  have j4 : (0 : Int) ≤ (n4 : Int) ∧ (n4 : Int) ≤ 1048576 := by omega
  have T1 : 38 ≠ 36 := by decide
  have T2 : 38 ≠ 91 := by decide
  have T3 : 36 ≠ 91 := by decide
  have TT := Lib.hid (And.intro T1 (And.intro T2 T3))
  clear T1 T2 T3
  go_enter Try.func39, Try.ntmps39
  have P := Lib.hid (Bx.new_ w 32 (.slice A1 n1 c1) (.slice A2 n2 c2) (.slice A3 n3 c3) (.slice A4 n4 c4))
  go_wp2_with fail
  refine (markVectorS A1 n1 c1 1 1 rfl _ k1 (by omega) _ B (H.out.s1.go (by repeat' (first | with_reducible exact Below.refl _ _ | with_reducible assumption | with_reducible refine below_dn ?_ _ | with_reducible refine Below.drew ?_ | with_reducible refine below_step ?_ (by assumption) | with_reducible refine Below.setCell ?_ ?_ _ | with_reducible refine Below.alloc ?_ ?_ _ | with_reducible exact Nat.le_refl _ | (simp; done) | (simp; omega) | omega)))).mono ?_
  rintro e w1 ⟨rfl, m1, v1⟩
  have hne1 : ∀ g, A1 = some ⟨g, 0, none⟩ → 0 < n1 → g ≠ w.heap.size := fun g e h0 => by have := (H.out.s1.bd g e h0).2; omega
  have P1 := Lib.hid (P.out.wr v1 (fun ⟨e, h0⟩ => hne1 _ e h0 rfl))
  have V1 := Lib.hid v1
  have M1 := Lib.hid m1
  have X2 := Lib.hid ((H.out.s2.go (w' := w.alloc _) (by repeat' (first | with_reducible exact Below.refl _ _ | with_reducible assumption | with_reducible refine below_dn ?_ _ | with_reducible refine Below.drew ?_ | with_reducible refine below_step ?_ (by assumption) | with_reducible refine Below.setCell ?_ ?_ _ | with_reducible refine Below.alloc ?_ ?_ _ | with_reducible exact Nat.le_refl _ | (simp; done) | (simp; omega) | omega))).wr v1 (fun g e h0 ⟨e', h0'⟩ => H.out.ne g e' e h0' h0))
  have X3 := Lib.hid ((H.out.s3.go (w' := w.alloc _) (by repeat' (first | with_reducible exact Below.refl _ _ | with_reducible assumption | with_reducible refine below_dn ?_ _ | with_reducible refine Below.drew ?_ | with_reducible refine below_step ?_ (by assumption) | with_reducible refine Below.setCell ?_ ?_ _ | with_reducible refine Below.alloc ?_ ?_ _ | with_reducible exact Nat.le_refl _ | (simp; done) | (simp; omega) | omega))).wr v1 (fun g e h0 ⟨e', h0'⟩ => H.out.s1.ne_ H.out.s3 TT.out.1 e' e h0' h0))
  have X4 := Lib.hid ((H.out.s4.go (w' := w.alloc _) (by repeat' (first | with_reducible exact Below.refl _ _ | with_reducible assumption | with_reducible refine below_dn ?_ _ | with_reducible refine Below.drew ?_ | with_reducible refine below_step ?_ (by assumption) | with_reducible refine Below.setCell ?_ ?_ _ | with_reducible refine Below.alloc ?_ ?_ _ | with_reducible exact Nat.le_refl _ | (simp; done) | (simp; omega) | omega))).wr v1 (fun g e h0 ⟨e', h0'⟩ => H.out.s1.ne_ H.out.s4 TT.out.2.1 e' e h0' h0))
  clear v1 m1 P hne1
  obtain ⟨p0, p1, p2, p3, pf⟩ := P1.out.facts
  go_wp2_with fail
  refine (markVectorS A2 n2 c2 (1 + 3 * n1) _ (by omega) _ k2 (by omega) _ B X2.out).mono ?_
  rintro e w2 ⟨rfl, m2, v2⟩
  clear p0 p1 p2 p3 pf
  have hne2 : ∀ g, A2 = some ⟨g, 0, none⟩ → 0 < n2 → g ≠ w.heap.size := fun g e h0 => by have := (H.out.s2.bd g e h0).2; omega
  have P2 := Lib.hid (P1.out.wr v2 (fun ⟨e, h0⟩ => hne2 _ e h0 rfl))
  have V2 := Lib.hid v2
  have M2 := Lib.hid m2
  have M1b := Lib.hid (M1.out.wr v2 (fun g e h0 ⟨e', h0'⟩ => H.out.ne g e e' h0 h0'))
  have Y3 := Lib.hid (X3.out.wr v2 (fun g e h0 ⟨e', h0'⟩ => H.out.s2.ne_ H.out.s3 TT.out.1 e' e h0' h0))
  have Y4 := Lib.hid (X4.out.wr v2 (fun g e h0 ⟨e', h0'⟩ => H.out.s2.ne_ H.out.s4 TT.out.2.1 e' e h0' h0))
  clear v2 m2 P1 M1 X2 X3 X4 hne2
  obtain ⟨p0, p1, p2, p3, pf⟩ := P2.out.facts
  go_wp2_with fail
  refine (markFloat32S A3 n3 c3 (1 + 3 * n1 + 3 * n2) _ (by omega) _ k3 (by omega) _ B Y3.out).mono ?_
  rintro e w3 ⟨rfl, m3, v3⟩
  clear p0 p1 p2 p3 pf
  have hne3 : ∀ g, A3 = some ⟨g, 0, none⟩ → 0 < n3 → g ≠ w.heap.size := fun g e h0 => by have := (H.out.s3.bd g e h0).2; omega
  have P3 := Lib.hid (P2.out.wr v3 (fun ⟨e, h0⟩ => hne3 _ e h0 rfl))
  have V3 := Lib.hid v3
  have M3 := Lib.hid m3
  have M1c := Lib.hid (M1b.out.wr v3 (fun g e h0 ⟨e', h0'⟩ => H.out.s1.ne_ H.out.s3 TT.out.1 e e' h0 h0'))
  have M2c := Lib.hid (M2.out.wr v3 (fun g e h0 ⟨e', h0'⟩ => H.out.s2.ne_ H.out.s3 TT.out.1 e e' h0 h0'))
  have Z4 := Lib.hid (Y4.out.wr v3 (fun g e h0 ⟨e', h0'⟩ => H.out.s3.ne_ H.out.s4 TT.out.2.2 e' e h0' h0))
  clear v3 m3 P2 M1b M2 Y3 Y4 hne3
  obtain ⟨p0, p1, p2, p3, pf⟩ := P3.out.facts
  go_wp2_with fail
  refine (markRodS A4 n4 c4 (1 + 3 * n1 + 3 * n2 + n3) _ (by omega) _ k4 (by omega) _ B Z4.out).mono ?_
  rintro e w4 ⟨rfl, m4, v4⟩
  clear p0 p1 p2 p3 pf
  have V4 := Lib.hid v4
  have M4 := Lib.hid m4
  have M1d := Lib.hid (M1c.out.wr v4 (fun g e h0 ⟨e', h0'⟩ => H.out.s1.ne_ H.out.s4 TT.out.2.1 e e' h0 h0'))
  have M2d := Lib.hid (M2c.out.wr v4 (fun g e h0 ⟨e', h0'⟩ => H.out.s2.ne_ H.out.s4 TT.out.2.1 e e' h0 h0'))
  have M3d := Lib.hid (M3.out.wr v4 (fun g e h0 ⟨e', h0'⟩ => H.out.s3.ne_ H.out.s4 TT.out.2.2 e e' h0 h0'))
  clear v4 m4 P3 M1c M2c M3 Z4
  go_wp2_with fail
  go_ret
  refine ⟨ret_int (by unfold cnt; omega), ⟨M1d.out, M2d.out, M3d.out, M4.out⟩, ?_⟩
  have W0 : Wr (blkC A1 A2 A3 A4 n1 n2 n3 n4) w (w.alloc (.cells #[.slice A1 n1 c1, .slice A2 n2 c2, .slice A3 n3 c3, .slice A4 n4 c4] 32)) := (Wr.refl _ _).alloc _
  exact ((((W0.trans (V1.out.mono fun _ _ h => .inl h)).trans (V2.out.mono fun _ _ h => .inr (.inl h))).trans (V3.out.mono fun _ _ h => .inr (.inr (.inl h)))).trans (V4.out.mono fun _ _ h => .inr (.inr (.inr h))))
end Go.Proofs.Ytlhgaihfghobmaa
