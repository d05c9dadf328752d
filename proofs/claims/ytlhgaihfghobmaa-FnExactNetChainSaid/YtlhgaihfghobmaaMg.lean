/- RopeChain: contracts. -/
import Derived.Test.YtlhgaihfghobmaaMp
import Derived.Test.YtlhgaihfghobmaaMr
import Derived.Test.YtlhgaihfghobmaaEd
namespace Go.Proofs.Ytlhgaihfghobmaa
open Go.ChangeShapes Go.WideShapes Go.ChangeAt Go.RowKit Go.Deep

def i2f (k : Int) : Nat := floatOfInt .f32 k
def ropeP (l : Nat) (i : Nat) : V3 := ⟨F.mul (i2f i) l, 0, 0⟩
def ropeD (l x : Nat) : D4 := ⟨ropeP l, ropeP l, fun _ => x, fun i => ⟨(i : Int), (i : Int) + 1, l⟩⟩
def ropeE (l x : Nat) : D4 := ⟨ropeP l, ropeP l, fun i => if i = 0 then 0 else x, fun i => ⟨(i : Int), (i : Int) + 1, l⟩⟩
theorem SimD.put {n m : Nat} {D E : D4} {p : V3} {x : Nat} (h : SimD n n n m D E) (h1 : SimP p (E.P n)) (h2 : SimP p (E.B n)) (h3 : Sim .f32 x (E.W n)) : SimD (n + 1) (n + 1) (n + 1) m (putD D n n n p x) E := by
  refine ⟨fun i hi => ?_, fun i hi => ?_, fun i hi => ?_, h.2.2.2⟩
  · show SimP (upd D.P n p i) _
    by_cases e : i = n
    · rw [e, show upd D.P n p n = p from if_pos rfl]
      exact h1
    · rw [show upd D.P n p i = D.P i from if_neg e]
      exact h.1 i (by omega)
  · show SimP (upd D.B n p i) _
    by_cases e : i = n
    · rw [e, show upd D.B n p n = p from if_pos rfl]
      exact h2
    · rw [show upd D.B n p i = D.B i from if_neg e]
      exact h.2.1 i (by omega)
  · show Sim .f32 (upd D.W n x i) _
    by_cases e : i = n
    · rw [e, show upd D.W n x n = x from if_pos rfl]
      exact h3
    · rw [show upd D.W n x i = D.W i from if_neg e]
      exact h.2.2.1 i (by omega)
theorem SimD.rod {n1 n2 n3 m : Nat} {D E : D4} {r : Rd} (h : SimD n1 n2 n3 m D E) (hr : SimR r (E.R m)) : SimD n1 n2 n3 (m + 1) (addR D m r) E := by
  refine ⟨h.1, h.2.1, h.2.2.1, fun i hi => ?_⟩
  show SimR (upd D.R m r i) _
  by_cases e : i = m
  · rw [e, show upd D.R m r m = r from if_pos rfl]
    exact hr
  · rw [show upd D.R m r i = D.R i from if_neg e]
    exact h.2.2.2 i (by omega)
theorem SimD.none (D E : D4) : SimD 0 0 0 0 D E := ⟨fun _ h => absurd h (Nat.not_lt_zero _), fun _ h => absurd h (Nat.not_lt_zero _), fun _ h => absurd h (Nat.not_lt_zero _), fun _ h => absurd h (Nat.not_lt_zero _)⟩
theorem Own.nil (w : World) (M : Nat) (D : D4) : Own w M none none none none 0 0 0 0 0 0 0 0 D := ⟨fun h => absurd h (Nat.lt_irrefl _), fun h => absurd h (Nat.lt_irrefl _), fun h => absurd h (Nat.lt_irrefl _), fun h => absurd h (Nat.lt_irrefl _), fun _ e => by cases e⟩
theorem ropeD_E {n m l x : Nat} {D : D4} (h : SimD n n n m D (ropeD l x)) : SimD n n n m (setW D 0 0) (ropeE l x) := by
  refine ⟨h.1, h.2.1, fun i hi => ?_, h.2.2.2⟩
  show Sim .f32 (upd D.W 0 0 i) (if i = 0 then 0 else x)
  by_cases e : i = 0
  · rw [if_pos e, show upd D.W 0 0 i = 0 from if_pos e]
    exact Sim.refl _ _
  · rw [if_neg e, show upd D.W 0 0 i = D.W i from if_neg e]
    exact h.2.2.1 i hi
set_option maxHeartbeats 8000000 in
set_option maxRecDepth 100000 in
theorem impl_RopeChain (q : Int) (l x : Nat) (w : World) : Calls Try.prog 38 #[.int .i64 q, .float .f32 l, .float .f32 x] w (RetM (true && ((inI q 2 24 && (abv l && abv x)) && okC q.toNat q.toNat q.toNat (q.toNat - 1) (ropeE l x))) q.toNat q.toNat q.toNat (q.toNat - 1) (ropeE l x) w) := by
  cases a1 : inI q 2 24
  · go_enter Try.func38, Try.ntmps38
    go_wp2_with (go_at_call 107; refine (impl_in q 2 24 _).mono ?_; rintro e w1 ⟨rfl, nq1, hw1⟩; have V1 := Lib.hid (show Bx w1 w.heap.size 32 sn sn sn sn by rw [hw1]; exact (Bx.new_ w 32 sn sn sn sn).drewN nq1); have B1 := Lib.hid (show Below w.heap.size w w1 by rw [hw1]; exact below_dn (show Below w.heap.size w (w.alloc (.cells #[sn, sn, sn, sn] 32)) from (by repeat' (first | with_reducible exact Below.refl _ _ | with_reducible assumption | with_reducible refine below_dn ?_ _ | with_reducible refine Below.drew ?_ | with_reducible refine below_step ?_ (by assumption) | with_reducible refine Below.setCell ?_ ?_ _ | with_reducible refine Below.alloc ?_ ?_ _ | with_reducible exact Nat.le_refl _ | (simp; done) | (simp; omega) | omega))) nq1); clear hw1; rw [a1]; obtain ⟨v0, v1, v2, v3, vf⟩ := V1.out.facts; have lv := V1.out.lt)
    obtain ⟨r0, r1, r2, r3, rf⟩ := (V1.out.setAll sn sn sn sn).facts
    refine bodyPost_ret (v := .tuple #[.agg #[sn, sn, sn, sn], .bool false]) (by simp [results, Try.results38, go_sem, r0, r1, r2, r3]) rfl ?_
    exact ⟨rfl, Bx.bel B1.out (Nat.le_refl _) _ _ _ _⟩
  cases a2 : abv l
  · go_enter Try.func38, Try.ntmps38
    go_wp2_with (first | (go_at_call 107; refine (impl_in q 2 24 _).mono ?_; rintro e w1 ⟨rfl, nq1, hw1⟩; have V1 := Lib.hid (show Bx w1 w.heap.size 32 sn sn sn sn by rw [hw1]; exact (Bx.new_ w 32 sn sn sn sn).drewN nq1); have B1 := Lib.hid (show Below w.heap.size w w1 by rw [hw1]; exact below_dn (show Below w.heap.size w (w.alloc (.cells #[sn, sn, sn, sn] 32)) from (by repeat' (first | with_reducible exact Below.refl _ _ | with_reducible assumption | with_reducible refine below_dn ?_ _ | with_reducible refine Below.drew ?_ | with_reducible refine below_step ?_ (by assumption) | with_reducible refine Below.setCell ?_ ?_ _ | with_reducible refine Below.alloc ?_ ?_ _ | with_reducible exact Nat.le_refl _ | (simp; done) | (simp; omega) | omega))) nq1); clear hw1; rw [a1]; obtain ⟨v0, v1, v2, v3, vf⟩ := V1.out.facts; have lv := V1.out.lt) | (go_at_call 95; refine (impl_lengthOk l _).mono ?_; rintro e w2 ⟨rfl, nq2, hw2⟩; have V2 := Lib.hid (show Bx w2 w.heap.size 32 sn sn sn sn by rw [hw2]; exact (V1.out).drewN nq2); have B2 := Lib.hid (show Below w.heap.size w w2 by rw [hw2]; exact below_dn (B1.out) nq2); clear hw2; rw [a2]; obtain ⟨v0, v1, v2, v3, vf⟩ := V2.out.facts; have lv := V2.out.lt))
    obtain ⟨r0, r1, r2, r3, rf⟩ := (V2.out.setAll sn sn sn sn).facts
    refine bodyPost_ret (v := .tuple #[.agg #[sn, sn, sn, sn], .bool false]) (by simp [results, Try.results38, go_sem, r0, r1, r2, r3]) rfl ?_
    exact ⟨rfl, Bx.bel B2.out (Nat.le_refl _) _ _ _ _⟩
  cases a3 : abv x
  · go_enter Try.func38, Try.ntmps38
    go_wp2_with (first | (go_at_call 107; refine (impl_in q 2 24 _).mono ?_; rintro e w1 ⟨rfl, nq1, hw1⟩; have V1 := Lib.hid (show Bx w1 w.heap.size 32 sn sn sn sn by rw [hw1]; exact (Bx.new_ w 32 sn sn sn sn).drewN nq1); have B1 := Lib.hid (show Below w.heap.size w w1 by rw [hw1]; exact below_dn (show Below w.heap.size w (w.alloc (.cells #[sn, sn, sn, sn] 32)) from (by repeat' (first | with_reducible exact Below.refl _ _ | with_reducible assumption | with_reducible refine below_dn ?_ _ | with_reducible refine Below.drew ?_ | with_reducible refine below_step ?_ (by assumption) | with_reducible refine Below.setCell ?_ ?_ _ | with_reducible refine Below.alloc ?_ ?_ _ | with_reducible exact Nat.le_refl _ | (simp; done) | (simp; omega) | omega))) nq1); clear hw1; rw [a1]; obtain ⟨v0, v1, v2, v3, vf⟩ := V1.out.facts; have lv := V1.out.lt) | (go_at_call 95; refine (impl_lengthOk l _).mono ?_; rintro e w2 ⟨rfl, nq2, hw2⟩; have V2 := Lib.hid (show Bx w2 w.heap.size 32 sn sn sn sn by rw [hw2]; exact (V1.out).drewN nq2); have B2 := Lib.hid (show Below w.heap.size w w2 by rw [hw2]; exact below_dn (B1.out) nq2); clear hw2; rw [a2]; obtain ⟨v0, v1, v2, v3, vf⟩ := V2.out.facts; have lv := V2.out.lt) | (go_at_call 95; refine (impl_lengthOk x _).mono ?_; rintro e w3 ⟨rfl, nq3, hw3⟩; have V3 := Lib.hid (show Bx w3 w.heap.size 32 sn sn sn sn by rw [hw3]; exact (V2.out).drewN nq3); have B3 := Lib.hid (show Below w.heap.size w w3 by rw [hw3]; exact below_dn (B2.out) nq3); clear hw3; rw [a3]; obtain ⟨v0, v1, v2, v3, vf⟩ := V3.out.facts; have lv := V3.out.lt))
    obtain ⟨r0, r1, r2, r3, rf⟩ := (V3.out.setAll sn sn sn sn).facts
    refine bodyPost_ret (v := .tuple #[.agg #[sn, sn, sn, sn], .bool false]) (by simp [results, Try.results38, go_sem, r0, r1, r2, r3]) rfl ?_
    exact ⟨rfl, Bx.bel B3.out (Nat.le_refl _) _ _ _ _⟩
  obtain ⟨N, rfl, hN1, hN2⟩ : ∃ N : Nat, q = (N : Int) ∧ 2 ≤ N ∧ N ≤ 24 := by
    unfold inI at a1
    simp only [Bool.and_eq_true, decide_eq_true_eq] at a1
    exact ⟨q.toNat, by omega, by omega, by omega⟩
  rw [show ((N : Int)).toNat = N from rfl]
  show Calls _ _ _ _ (RetM (okC N N N (N - 1) (ropeE l x)) N N N (N - 1) (ropeE l x) w)
  have hN3 : (N : Int) ≤ 24 := by omega
  go_enter Try.func38, Try.ntmps38
  go_wp2_with (first | (go_at_call 107; refine (impl_in (N : Int) 2 24 _).mono ?_; rintro e w1 ⟨rfl, nq1, hw1⟩; have V1 := Lib.hid (show Bx w1 w.heap.size 32 sn sn sn sn by rw [hw1]; exact (Bx.new_ w 32 sn sn sn sn).drewN nq1); have B1 := Lib.hid (show Below w.heap.size w w1 by rw [hw1]; exact below_dn (show Below w.heap.size w (w.alloc (.cells #[sn, sn, sn, sn] 32)) from (by repeat' (first | with_reducible exact Below.refl _ _ | with_reducible assumption | with_reducible refine below_dn ?_ _ | with_reducible refine Below.drew ?_ | with_reducible refine below_step ?_ (by assumption) | with_reducible refine Below.setCell ?_ ?_ _ | with_reducible refine Below.alloc ?_ ?_ _ | with_reducible exact Nat.le_refl _ | (simp; done) | (simp; omega) | omega))) nq1); clear hw1; rw [a1]; obtain ⟨v0, v1, v2, v3, vf⟩ := V1.out.facts; have lv := V1.out.lt) | (go_at_call 95; refine (impl_lengthOk l _).mono ?_; rintro e w2 ⟨rfl, nq2, hw2⟩; have V2 := Lib.hid (show Bx w2 w.heap.size 32 sn sn sn sn by rw [hw2]; exact (V1.out).drewN nq2); have B2 := Lib.hid (show Below w.heap.size w w2 by rw [hw2]; exact below_dn (B1.out) nq2); clear hw2; rw [a2]; obtain ⟨v0, v1, v2, v3, vf⟩ := V2.out.facts; have lv := V2.out.lt) | (go_at_call 95; refine (impl_lengthOk x _).mono ?_; rintro e w3 ⟨rfl, nq3, hw3⟩; have V3 := Lib.hid (show Bx w3 w.heap.size 32 sn sn sn sn by rw [hw3]; exact (V2.out).drewN nq3); have B3 := Lib.hid (show Below w.heap.size w w3 by rw [hw3]; exact below_dn (B2.out) nq3); clear hw3; rw [a3]; obtain ⟨v0, v1, v2, v3, vf⟩ := V3.out.facts; have lv := V3.out.lt))
  clear v0 v1 v2 v3 vf lv V1 B1 V2 B2
  have lv := V3.out.lt
  have y0 : w.heap.size ≤ w3.heap.size := Nat.le_of_lt lv
  have ez : (w3.alloc (.cells #[sn, sn, sn, sn] 32)).heap.size = w3.heap.size + 1 := by simp
  go_loopw [26] (fun i wr => ∃ (k m : Nat) (A1 A2 A3 A4 : Option Addr) (c1 c2 c3 c4 : Nat) (D1 : D4), (k = 0 ∧ m = 0 ∨ k = m + 1) ∧ k ≤ N ∧ i = .int .i64 k ∧ (m = 0 → c4 = 0) ∧ (k = 0 → c1 = 0 ∧ c2 = 0 ∧ c3 = 0) ∧ SimD k k k m D1 (ropeD l x) ∧ Own wr w3.heap.size A1 A2 A3 A4 c1 c2 c3 c4 k k k m D1 ∧ Bx wr w3.heap.size 32 (.slice A1 k c1) (.slice A2 k c2) (.slice A3 k c3) (.slice A4 m c4) ∧ Bx wr w.heap.size 32 sn sn sn sn ∧ Below w3.heap.size w3 wr ∧ w3.heap.size + 1 ≤ wr.heap.size) (fun i _ => N - (intOf i).toNat)
  case atStart => exact ⟨0, 0, none, none, none, none, 0, 0, 0, 0, (ropeD l x), .inl ⟨rfl, rfl⟩, Nat.zero_le _, rfl, fun _ => rfl, fun _ => ⟨rfl, rfl, rfl⟩, SimD.none _ _, Own.nil _ _ _, Bx.new_ _ _ _ _ _ _, V3.out.alloc _, (by repeat' (first | with_reducible exact Below.refl _ _ | with_reducible assumption | with_reducible refine below_dn ?_ _ | with_reducible refine Below.drew ?_ | with_reducible refine below_step ?_ (by assumption) | with_reducible refine Below.setCell ?_ ?_ _ | with_reducible refine Below.alloc ?_ ?_ _ | with_reducible exact Nat.le_refl _ | (simp; done) | (simp; omega) | omega)), by rw [ez]; omega⟩
  case round =>
    obtain ⟨k, m, A1, A2, A3, A4, c1, c2, c3, c4, D1, hkm, hk, rfl, hC4, hC0, hS, hO, hX, hV, hB, hz⟩ := hrel
    have S1 := Lib.hid hS
    have O1 := Lib.hid hO
    have X1 := Lib.hid hX
    have V1 := Lib.hid hV
    have B1 := Lib.hid hB
    have C41 := Lib.hid hC4
    have C01 := Lib.hid hC0
    by_cases hlt : k < N
    · have hk0 : (0 : Int) ≤ (k : Int) := by omega
      have hk1 : (k : Int) < (N : Int) := by omega
      have HP := Lib.hid (show ∀ (T : Nat → Question → Nat) (n : Nat), SimP ⟨opV .mul .f32 (i2f k) l T n, 0, 0⟩ (ropeP l k) from fun T n => ⟨mul_sim (Sim.refl _ _) (Sim.refl _ _) T n, Sim.refl _ _, Sim.refl _ _⟩)
      clear hS hO hX hV hB hC4 hC0
      go_wp2_with fail
      refine (impl_add w3.heap.size w3.heap.size A1 A2 A3 A4 c1 c2 c3 c4 k k k m D1 ⟨_, _, _⟩ x _ (X1.out.go (by repeat' (first | with_reducible exact Below.refl _ _ | with_reducible assumption | with_reducible refine below_dn ?_ _ | with_reducible refine Below.drew ?_ | with_reducible refine below_step ?_ (by assumption) | with_reducible refine Below.setCell ?_ ?_ _ | with_reducible refine Below.alloc ?_ ?_ _ | with_reducible exact Nat.le_refl _ | (simp; done) | (simp; omega) | omega))) (O1.out.go (by repeat' (first | with_reducible exact Below.refl _ _ | with_reducible assumption | with_reducible refine below_dn ?_ _ | with_reducible refine Below.drew ?_ | with_reducible refine below_step ?_ (by assumption) | with_reducible refine Below.setCell ?_ ?_ _ | with_reducible refine Below.alloc ?_ ?_ _ | with_reducible exact Nat.le_refl _ | (simp; done) | (simp; omega) | omega))) ⟨fun h => (C01.out h).1, fun h => (C01.out h).2.1, fun h => (C01.out h).2.2, C41.out⟩ (Nat.le_refl _) (by simp; omega) (by omega) (by omega) (by omega)).mono ?_
      rintro e w4 ⟨rfl, hb4, F1, F2, F3, f1, f2, f3, hx4, ho4⟩
      have y4 := hb4.size
      simp at y4
      have X4 := Lib.hid hx4
      have O4 := Lib.hid ho4
      have V4 := Lib.hid ((V1.out.go (by repeat' (first | with_reducible exact Below.refl _ _ | with_reducible assumption | with_reducible refine below_dn ?_ _ | with_reducible refine Below.drew ?_ | with_reducible refine below_step ?_ (by assumption) | with_reducible refine Below.setCell ?_ ?_ _ | with_reducible refine Below.alloc ?_ ?_ _ | with_reducible exact Nat.le_refl _ | (simp; done) | (simp; omega) | omega))).below hb4 lv)
      have B4 := Lib.hid (B1.out.trans (Below.trans (by repeat' (first | with_reducible exact Below.refl _ _ | with_reducible assumption | with_reducible refine below_dn ?_ _ | with_reducible refine Below.drew ?_ | with_reducible refine below_step ?_ (by assumption) | with_reducible refine Below.setCell ?_ ?_ _ | with_reducible refine Below.alloc ?_ ?_ _ | with_reducible exact Nat.le_refl _ | (simp; done) | (simp; omega) | omega)) hb4))
      have S4 := Lib.hid (fun (T : Nat → Question → Nat) (n : Nat) => S1.out.put (HP.out T n) (HP.out T n) (Sim.refl .f32 x))
      clear hb4 hx4 ho4
      by_cases hkz : k = 0
      · have hng : ¬ ((0 : Int) < (k : Int)) := by omega
        have HC4 := Lib.hid (C41.out (show m = 0 by omega))
        obtain rfl : m = 0 := by omega
        go_wp2_with fail
        go_roundw
        case rel => exact ⟨k + 1, 0, F1, F2, F3, A4, f1, f2, f3, c4, _, by omega, by omega, by go_num, fun _ => HC4.out, fun h => absurd h (Nat.succ_ne_zero _), S4.out _ _, O4.out, X4.out, V4.out, B4.out, by omega⟩
        case measure => simp [intOf]; omega
      · have hps : (0 : Int) < (k : Int) := by omega
        obtain ⟨i0, hi, hz0, hz1, hz2⟩ := info_parts infoR
        have ew : (w4.alloc (.cells #[.int .i64 ((k : Int) - 1), .int .i64 ((k : Int)), .float .f32 l] 91)).heap.size = w4.heap.size + 1 := by simp
        obtain ⟨D5, hD5, S5⟩ : ∃ D5, Own w4 w3.heap.size F1 F2 F3 A4 f1 f2 f3 c4 (k + 1) (k + 1) (k + 1) m D5 ∧ SimD (k + 1) (k + 1) (k + 1) m D5 (ropeD l x) := ⟨_, O4.out, S4.out _ _⟩
        have HSS := Lib.hid S5
        have O5 := Lib.hid hD5
        clear S5 hD5
        have HTa := Lib.hid (Tx.new_ w4 91 (.int .i64 ((k : Int) - 1)) (.int .i64 (k : Int)) (.float .f32 l))
        have HXa := Lib.hid (X4.out.alloc (.cells #[.int .i64 ((k : Int) - 1), .int .i64 (k : Int), .float .f32 l] 91))
        have HOa := Lib.hid (show Own (w4.alloc (.cells #[.int .i64 ((k : Int) - 1), .int .i64 ((k : Int)), .float .f32 l] 91)) w3.heap.size F1 F2 F3 A4 f1 f2 f3 c4 (k + 1) (k + 1) (k + 1) m D5 from O5.out.go (by repeat' (first | with_reducible exact Below.refl _ _ | with_reducible assumption | with_reducible refine below_dn ?_ _ | with_reducible refine Below.drew ?_ | with_reducible refine below_step ?_ (by assumption) | with_reducible refine Below.setCell ?_ ?_ _ | with_reducible refine Below.alloc ?_ ?_ _ | with_reducible exact Nat.le_refl _ | (simp; done) | (simp; omega) | omega)))
        have HNa := Lib.hid (HOa.out.s4.chain HXa.out (by decide))
        have HZa := Lib.hid C41.out
        have HL := Lib.hid HOa.out.bds
        obtain ⟨g0, g1, g2, g3, gf⟩ := X4.out.facts
        have lg := X4.out.lt
        go_wp2_with (at_builtin; refine wpList_app rfl (.tmp 39) (.tmp 45) 30 rfl 91 i0 _ 3 24 Try.underlying30 hi hz0 hz1 hz2 rfl (by decide) A4 (m) c4 w3.heap.size (rc D5.R) rfl HOa.out.s4 HZa.out (by simp; omega) ⟨w4.heap.size, 0, none⟩ 1 1 (rc (fun _ => ⟨(k : Int) - 1, (k : Int), l⟩)) rfl (new3_rc _ _ 91 ⟨(k : Int) - 1, (k : Int), l⟩ HTa.out) (rc_one _) (by decide) (by simp only [maxLen]; omega) (by omega) ?_; intro N4 y4 u2 hs2 hR _; have X3 := HXa.out.wr hR HNa.out; have O3 := HOa.out.app4 (r := ⟨(k : Int) - 1, (k : Int), l⟩) hR (hs2.congr (app_rc D5.R m _)); obtain ⟨g0, g1, g2, g3, gf⟩ := X3.facts; have lg := X3.lt)
        have y5 := hR.size
        rw [ew] at y5
        go_roundw
        case rel =>
          refine ⟨k + 1, m + 1, F1, F2, F3, N4, f1, f2, f3, y4, _, by omega, by omega, by go_num, fun h => absurd h (Nat.succ_ne_zero _), fun h => absurd h (Nat.succ_ne_zero _), HSS.out.rod (r := ⟨(k : Int) - 1, (k : Int), l⟩) ⟨?_, ?_, Sim.refl _ _⟩, O3.off X3 (Wr.set1 _ _ _ _), X3.set3 _, ((V4.out.alloc _).wr hR (fun h => by have := (HL.out.b4 _ h.2 h.1).1; omega)).far (Nat.ne_of_lt lv) _, (B4.out.trans ((Below.alloc (Below.refl _ _) (by omega) _).trans (hR.below (by rw [ew]; omega) (fun k hk h => by have := (HL.out.b4 _ h.2 h.1).1; omega)))).setCell (Nat.le_refl _) _, by simp [World.setCell]; omega⟩
          · show (k : Int) - 1 = (m : Int)
            omega
          · show (k : Int) = (m : Int) + 1
            omega
        case measure => simp [intOf]; omega
    · obtain rfl : N = k := by omega
      obtain rfl : m = N - 1 := by omega
      obtain ⟨b3, hA3, hb3, _, _, hr3⟩ := hO.s3 (by omega)
      subst hA3
      have d3 := hr3.cell (j := 0) (by omega)
      have f3 := hr3.frozen 0
      have l3 := hr3.lt
      have hne := Rw.ne_ hX hr3 (by decide)
      obtain ⟨p0, p1, p2, p3, pf⟩ := hX.facts
      have lp := hX.lt
      have hN0 : (0 : Int) < (N : Int) := by omega
      obtain ⟨wm, hwm⟩ : ∃ z : World, z = wr.setCell ⟨b3, 0, none⟩ (.float .f32 0) := ⟨_, rfl⟩
      have XM := Lib.hid (show Bx wm w3.heap.size 32 (.slice A1 N c1) (.slice A2 N c2) (.slice (some ⟨b3, 0, none⟩) N c3) (.slice A4 (N - 1) c4) by rw [hwm]; exact hX.far hne _)
      have VM := Lib.hid (show Bx wm w.heap.size 32 sn sn sn sn by rw [hwm]; exact hV.far (by show w.heap.size ≠ b3; omega) _)
      have OM := Lib.hid (show Own wm w3.heap.size A1 A2 (some ⟨b3, 0, none⟩) A4 c1 c2 c3 c4 N N N (N - 1) (setW D1 0 0) by rw [hwm]; exact hO.setW rfl (by omega) 0)
      have BM := Lib.hid (show Below w.heap.size w wm by rw [hwm]; exact (B3.out.trans (hB.mono y0)).setCell (by show w.heap.size ≤ b3; omega) _)
      have SM := Lib.hid (ropeD_E hS)
      have DM := Lib.hid OM.out.bds
      clear hS hO hX hV hB hC4 hC0 hr3 S1 O1 X1 V1 B1 C41 C01
      go_upto_region 12 with fail
      rw [← hwm]
      clear hwm p0 p1 p2 p3 pf lp d3 f3 l3 hne
      obtain ⟨t0, t1, t2, t3, tf⟩ := XM.out.facts
      have lt := XM.out.lt
      go_wp2_with fail
      refine (impl_toldChain A1 A2 (some ⟨b3, 0, none⟩) A4 c1 c2 c3 c4 N N N (N - 1) _ (setW D1 0 0) _ OM.out).mono ?_
      rintro e w9 ⟨rfl, hb9⟩
      have V9 := Lib.hid (VM.out.go hb9)
      have B9 := Lib.hid (below_step BM.out hb9)
      have O9 := Lib.hid (OM.out.go hb9)
      have D9_ := Lib.hid (DM.out.mono (Nat.le_refl _) hb9.size)
      clear hb9 t0 t1 t2 t3 tf lt VM BM OM DM
      obtain ⟨v0, v1, v2, v3, vf⟩ := V9.out.facts
      have lv := V9.out.lt
      rw [okC_sim SM.out]
      cases q3 : okC N N N (N - 1) (ropeE l x)
      · unfold giveV
        go_wp2_with fail
        obtain ⟨r0, r1, r2, r3, rf⟩ := (V9.out.setAll sn sn sn sn).facts
        refine bodyPost_ret (v := .tuple #[.agg #[sn, sn, sn, sn], .bool false]) (by simp [results, Try.results38, go_sem, r0, r1, r2, r3]) rfl ?_
        rw [q3]
        exact ⟨rfl, Bx.bel B9.out (by omega) _ _ _ _⟩
      · unfold giveV
        have WF := Lib.hid (show Wr (fun k => k = w.heap.size) w9 ((((w9.setCell ⟨w.heap.size, 0, none⟩ (.slice A1 N c1)).setCell ⟨w.heap.size, 1, none⟩ (.slice A2 N c2)).setCell ⟨w.heap.size, 2, none⟩ (.slice (some ⟨b3, 0, none⟩) N c3)).setCell ⟨w.heap.size, 3, none⟩ (.slice A4 (N - 1) c4)) from by
          refine Wr.setCell (Wr.setCell (Wr.setCell (Wr.setCell (Wr.refl _ _) ?_ _) ?_ _) ?_ _) ?_ _ <;> rfl)
        go_wp2_with fail
        obtain ⟨r0, r1, r2, r3, rf⟩ := (V9.out.setAll (.slice A1 N c1) (.slice A2 N c2) (.slice (some ⟨b3, 0, none⟩) N c3) (.slice A4 (N - 1) c4)).facts
        refine bodyPost_ret (v := .tuple #[.agg #[.slice A1 N c1, .slice A2 N c2, .slice (some ⟨b3, 0, none⟩) N c3, .slice A4 (N - 1) c4], .bool true]) (by simp [results, Try.results38, go_sem, r0, r1, r2, r3]) rfl ?_
        rw [q3]
        exact ⟨⟨A1, A2, (some ⟨b3, 0, none⟩), A4, c1, c2, c3, c4, setW D1 0 0, rfl, SM.out, (O9.out.off V9.out WF.out).mono y0, D9_.out.mono y0 WF.out.size⟩, Bx.bel B9.out (by omega) _ _ _ _⟩
set_option maxHeartbeats 8000000 in
set_option maxRecDepth 100000 in
theorem spec_RopeChain (q : Int) (l x : Nat) (w : World) : Calls Try.prog 37 #[.int .i64 q, .float .f32 l, .float .f32 x] w (RetM (true && ((inI q 2 24 && (abv l && abv x)) && okC q.toNat q.toNat q.toNat (q.toNat - 1) (ropeE l x))) q.toNat q.toNat q.toNat (q.toNat - 1) (ropeE l x) w) := by
  cases a1 : inI q 2 24
  · go_enter Try.func37, Try.ntmps37
    go_wp2_with (go_at_call 104; refine (spec_l00In q 2 24 _).mono ?_; rintro e w1 ⟨rfl, nq1, hw1⟩; have V1 := Lib.hid (show Bx w1 w.heap.size 32 sn sn sn sn by rw [hw1]; exact (Bx.new_ w 32 sn sn sn sn).drewN nq1); have B1 := Lib.hid (show Below w.heap.size w w1 by rw [hw1]; exact below_dn (show Below w.heap.size w (w.alloc (.cells #[sn, sn, sn, sn] 32)) from (by repeat' (first | with_reducible exact Below.refl _ _ | with_reducible assumption | with_reducible refine below_dn ?_ _ | with_reducible refine Below.drew ?_ | with_reducible refine below_step ?_ (by assumption) | with_reducible refine Below.setCell ?_ ?_ _ | with_reducible refine Below.alloc ?_ ?_ _ | with_reducible exact Nat.le_refl _ | (simp; done) | (simp; omega) | omega))) nq1); clear hw1; rw [a1]; obtain ⟨v0, v1, v2, v3, vf⟩ := V1.out.facts; have lv := V1.out.lt)
    obtain ⟨r0, r1, r2, r3, rf⟩ := (V1.out.setAll sn sn sn sn).facts
    refine bodyPost_ret (v := .tuple #[.agg #[sn, sn, sn, sn], .bool false]) (by simp [results, Try.results37, go_sem, r0, r1, r2, r3]) rfl ?_
    exact ⟨rfl, Bx.bel B1.out (Nat.le_refl _) _ _ _ _⟩
  cases a2 : abv l
  · go_enter Try.func37, Try.ntmps37
    go_wp2_with (first | (go_at_call 104; refine (spec_l00In q 2 24 _).mono ?_; rintro e w1 ⟨rfl, nq1, hw1⟩; have V1 := Lib.hid (show Bx w1 w.heap.size 32 sn sn sn sn by rw [hw1]; exact (Bx.new_ w 32 sn sn sn sn).drewN nq1); have B1 := Lib.hid (show Below w.heap.size w w1 by rw [hw1]; exact below_dn (show Below w.heap.size w (w.alloc (.cells #[sn, sn, sn, sn] 32)) from (by repeat' (first | with_reducible exact Below.refl _ _ | with_reducible assumption | with_reducible refine below_dn ?_ _ | with_reducible refine Below.drew ?_ | with_reducible refine below_step ?_ (by assumption) | with_reducible refine Below.setCell ?_ ?_ _ | with_reducible refine Below.alloc ?_ ?_ _ | with_reducible exact Nat.le_refl _ | (simp; done) | (simp; omega) | omega))) nq1); clear hw1; rw [a1]; obtain ⟨v0, v1, v2, v3, vf⟩ := V1.out.facts; have lv := V1.out.lt) | (go_at_call 91; refine (spec_l03Above l _).mono ?_; rintro e w2 ⟨rfl, nq2, hw2⟩; have V2 := Lib.hid (show Bx w2 w.heap.size 32 sn sn sn sn by rw [hw2]; exact (V1.out).drewN nq2); have B2 := Lib.hid (show Below w.heap.size w w2 by rw [hw2]; exact below_dn (B1.out) nq2); clear hw2; rw [a2]; obtain ⟨v0, v1, v2, v3, vf⟩ := V2.out.facts; have lv := V2.out.lt))
    obtain ⟨r0, r1, r2, r3, rf⟩ := (V2.out.setAll sn sn sn sn).facts
    refine bodyPost_ret (v := .tuple #[.agg #[sn, sn, sn, sn], .bool false]) (by simp [results, Try.results37, go_sem, r0, r1, r2, r3]) rfl ?_
    exact ⟨rfl, Bx.bel B2.out (Nat.le_refl _) _ _ _ _⟩
  cases a3 : abv x
  · go_enter Try.func37, Try.ntmps37
    go_wp2_with (first | (go_at_call 104; refine (spec_l00In q 2 24 _).mono ?_; rintro e w1 ⟨rfl, nq1, hw1⟩; have V1 := Lib.hid (show Bx w1 w.heap.size 32 sn sn sn sn by rw [hw1]; exact (Bx.new_ w 32 sn sn sn sn).drewN nq1); have B1 := Lib.hid (show Below w.heap.size w w1 by rw [hw1]; exact below_dn (show Below w.heap.size w (w.alloc (.cells #[sn, sn, sn, sn] 32)) from (by repeat' (first | with_reducible exact Below.refl _ _ | with_reducible assumption | with_reducible refine below_dn ?_ _ | with_reducible refine Below.drew ?_ | with_reducible refine below_step ?_ (by assumption) | with_reducible refine Below.setCell ?_ ?_ _ | with_reducible refine Below.alloc ?_ ?_ _ | with_reducible exact Nat.le_refl _ | (simp; done) | (simp; omega) | omega))) nq1); clear hw1; rw [a1]; obtain ⟨v0, v1, v2, v3, vf⟩ := V1.out.facts; have lv := V1.out.lt) | (go_at_call 91; refine (spec_l03Above l _).mono ?_; rintro e w2 ⟨rfl, nq2, hw2⟩; have V2 := Lib.hid (show Bx w2 w.heap.size 32 sn sn sn sn by rw [hw2]; exact (V1.out).drewN nq2); have B2 := Lib.hid (show Below w.heap.size w w2 by rw [hw2]; exact below_dn (B1.out) nq2); clear hw2; rw [a2]; obtain ⟨v0, v1, v2, v3, vf⟩ := V2.out.facts; have lv := V2.out.lt) | (go_at_call 91; refine (spec_l03Above x _).mono ?_; rintro e w3 ⟨rfl, nq3, hw3⟩; have V3 := Lib.hid (show Bx w3 w.heap.size 32 sn sn sn sn by rw [hw3]; exact (V2.out).drewN nq3); have B3 := Lib.hid (show Below w.heap.size w w3 by rw [hw3]; exact below_dn (B2.out) nq3); clear hw3; rw [a3]; obtain ⟨v0, v1, v2, v3, vf⟩ := V3.out.facts; have lv := V3.out.lt))
    obtain ⟨r0, r1, r2, r3, rf⟩ := (V3.out.setAll sn sn sn sn).facts
    refine bodyPost_ret (v := .tuple #[.agg #[sn, sn, sn, sn], .bool false]) (by simp [results, Try.results37, go_sem, r0, r1, r2, r3]) rfl ?_
    exact ⟨rfl, Bx.bel B3.out (Nat.le_refl _) _ _ _ _⟩
  obtain ⟨N, rfl, hN1, hN2⟩ : ∃ N : Nat, q = (N : Int) ∧ 2 ≤ N ∧ N ≤ 24 := by
    unfold inI at a1
    simp only [Bool.and_eq_true, decide_eq_true_eq] at a1
    exact ⟨q.toNat, by omega, by omega, by omega⟩
  rw [show ((N : Int)).toNat = N from rfl]
  show Calls _ _ _ _ (RetM (okC N N N (N - 1) (ropeE l x)) N N N (N - 1) (ropeE l x) w)
  have hN3 : (N : Int) ≤ 24 := by omega
  go_enter Try.func37, Try.ntmps37
  go_wp2_with (first | (go_at_call 104; refine (spec_l00In (N : Int) 2 24 _).mono ?_; rintro e w1 ⟨rfl, nq1, hw1⟩; have V1 := Lib.hid (show Bx w1 w.heap.size 32 sn sn sn sn by rw [hw1]; exact (Bx.new_ w 32 sn sn sn sn).drewN nq1); have B1 := Lib.hid (show Below w.heap.size w w1 by rw [hw1]; exact below_dn (show Below w.heap.size w (w.alloc (.cells #[sn, sn, sn, sn] 32)) from (by repeat' (first | with_reducible exact Below.refl _ _ | with_reducible assumption | with_reducible refine below_dn ?_ _ | with_reducible refine Below.drew ?_ | with_reducible refine below_step ?_ (by assumption) | with_reducible refine Below.setCell ?_ ?_ _ | with_reducible refine Below.alloc ?_ ?_ _ | with_reducible exact Nat.le_refl _ | (simp; done) | (simp; omega) | omega))) nq1); clear hw1; rw [a1]; obtain ⟨v0, v1, v2, v3, vf⟩ := V1.out.facts; have lv := V1.out.lt) | (go_at_call 91; refine (spec_l03Above l _).mono ?_; rintro e w2 ⟨rfl, nq2, hw2⟩; have V2 := Lib.hid (show Bx w2 w.heap.size 32 sn sn sn sn by rw [hw2]; exact (V1.out).drewN nq2); have B2 := Lib.hid (show Below w.heap.size w w2 by rw [hw2]; exact below_dn (B1.out) nq2); clear hw2; rw [a2]; obtain ⟨v0, v1, v2, v3, vf⟩ := V2.out.facts; have lv := V2.out.lt) | (go_at_call 91; refine (spec_l03Above x _).mono ?_; rintro e w3 ⟨rfl, nq3, hw3⟩; have V3 := Lib.hid (show Bx w3 w.heap.size 32 sn sn sn sn by rw [hw3]; exact (V2.out).drewN nq3); have B3 := Lib.hid (show Below w.heap.size w w3 by rw [hw3]; exact below_dn (B2.out) nq3); clear hw3; rw [a3]; obtain ⟨v0, v1, v2, v3, vf⟩ := V3.out.facts; have lv := V3.out.lt))
  clear v0 v1 v2 v3 vf lv V1 B1 V2 B2
  have lv := V3.out.lt
  have y0 : w.heap.size ≤ w3.heap.size := Nat.le_of_lt lv
  have ez : (w3.alloc (.cells #[sn, sn, sn, sn] 32)).heap.size = w3.heap.size + 1 := by simp
  go_loopw [9] (fun i wr => ∃ (k m : Nat) (A1 A2 A3 A4 : Option Addr) (c1 c2 c3 c4 : Nat) (D1 : D4), (k = 0 ∧ m = 0 ∨ k = m + 1) ∧ k ≤ N ∧ i = .int .i64 k ∧ (m = 0 → c4 = 0) ∧ (k = 0 → c1 = 0 ∧ c2 = 0 ∧ c3 = 0) ∧ SimD k k k m D1 (ropeE l x) ∧ Own wr w3.heap.size A1 A2 A3 A4 c1 c2 c3 c4 k k k m D1 ∧ Bx wr w3.heap.size 32 (.slice A1 k c1) (.slice A2 k c2) (.slice A3 k c3) (.slice A4 m c4) ∧ Bx wr w.heap.size 32 sn sn sn sn ∧ Below w3.heap.size w3 wr ∧ w3.heap.size + 1 ≤ wr.heap.size) (fun i _ => N - (intOf i).toNat)
  case atStart => exact ⟨0, 0, none, none, none, none, 0, 0, 0, 0, (ropeE l x), .inl ⟨rfl, rfl⟩, Nat.zero_le _, rfl, fun _ => rfl, fun _ => ⟨rfl, rfl, rfl⟩, SimD.none _ _, Own.nil _ _ _, Bx.new_ _ _ _ _ _ _, V3.out.alloc _, (by repeat' (first | with_reducible exact Below.refl _ _ | with_reducible assumption | with_reducible refine below_dn ?_ _ | with_reducible refine Below.drew ?_ | with_reducible refine below_step ?_ (by assumption) | with_reducible refine Below.setCell ?_ ?_ _ | with_reducible refine Below.alloc ?_ ?_ _ | with_reducible exact Nat.le_refl _ | (simp; done) | (simp; omega) | omega)), by rw [ez]; omega⟩
  case round =>
    obtain ⟨k, m, A1, A2, A3, A4, c1, c2, c3, c4, D1, hkm, hk, rfl, hC4, hC0, hS, hO, hX, hV, hB, hz⟩ := hrel
    have S1 := Lib.hid hS
    have O1 := Lib.hid hO
    have X1 := Lib.hid hX
    have V1 := Lib.hid hV
    have B1 := Lib.hid hB
    have C41 := Lib.hid hC4
    have C01 := Lib.hid hC0
    by_cases hlt : k < N
    · have hk0 : (0 : Int) ≤ (k : Int) := by omega
      have hk1 : (k : Int) < (N : Int) := by omega
      have HP := Lib.hid (show ∀ (T : Nat → Question → Nat) (n : Nat), SimP ⟨opV .mul .f32 (i2f k) l T n, 0, 0⟩ (ropeP l k) from fun T n => ⟨mul_sim (Sim.refl _ _) (Sim.refl _ _) T n, Sim.refl _ _, Sim.refl _ _⟩)
      clear hS hO hX hV hB hC4 hC0
      by_cases hkz : k = 0
      · have hkq : ((k : Int) == 0) = true := by rw [hkz]; rfl
        have HC4 := Lib.hid (C41.out (show m = 0 by omega))
        obtain rfl : m = 0 := by omega
        have HKZ := Lib.hid hkz
        clear hkz
        go_wp2_with fail
        refine (spec_l03Put w3.heap.size w3.heap.size A1 A2 A3 A4 c1 c2 c3 c4 k k k 0 D1 ⟨_, _, _⟩ 0 _ (X1.out.go (by repeat' (first | with_reducible exact Below.refl _ _ | with_reducible assumption | with_reducible refine below_dn ?_ _ | with_reducible refine Below.drew ?_ | with_reducible refine below_step ?_ (by assumption) | with_reducible refine Below.setCell ?_ ?_ _ | with_reducible refine Below.alloc ?_ ?_ _ | with_reducible exact Nat.le_refl _ | (simp; done) | (simp; omega) | omega))) (O1.out.go (by repeat' (first | with_reducible exact Below.refl _ _ | with_reducible assumption | with_reducible refine below_dn ?_ _ | with_reducible refine Below.drew ?_ | with_reducible refine below_step ?_ (by assumption) | with_reducible refine Below.setCell ?_ ?_ _ | with_reducible refine Below.alloc ?_ ?_ _ | with_reducible exact Nat.le_refl _ | (simp; done) | (simp; omega) | omega))) ⟨fun h => (C01.out h).1, fun h => (C01.out h).2.1, fun h => (C01.out h).2.2, fun _ => HC4.out⟩ (Nat.le_refl _) (by simp; omega) (by omega) (by omega) (by omega)).mono ?_
        rintro e w4 ⟨rfl, hb4, F1, F2, F3, f1, f2, f3, hx4, ho4⟩
        have y4 := hb4.size
        simp at y4
        have X4 := Lib.hid hx4
        have O4 := Lib.hid ho4
        have V4 := Lib.hid ((V1.out.go (by repeat' (first | with_reducible exact Below.refl _ _ | with_reducible assumption | with_reducible refine below_dn ?_ _ | with_reducible refine Below.drew ?_ | with_reducible refine below_step ?_ (by assumption) | with_reducible refine Below.setCell ?_ ?_ _ | with_reducible refine Below.alloc ?_ ?_ _ | with_reducible exact Nat.le_refl _ | (simp; done) | (simp; omega) | omega))).below hb4 lv)
        have B4 := Lib.hid (B1.out.trans (Below.trans (by repeat' (first | with_reducible exact Below.refl _ _ | with_reducible assumption | with_reducible refine below_dn ?_ _ | with_reducible refine Below.drew ?_ | with_reducible refine below_step ?_ (by assumption) | with_reducible refine Below.setCell ?_ ?_ _ | with_reducible refine Below.alloc ?_ ?_ _ | with_reducible exact Nat.le_refl _ | (simp; done) | (simp; omega) | omega)) hb4))
        have S4 := Lib.hid (fun (T : Nat → Question → Nat) (n : Nat) => S1.out.put (HP.out T n) (HP.out T n) (show Sim .f32 0 (if k = 0 then 0 else x) by rw [if_pos HKZ.out]; exact Sim.refl _ _))
        clear hb4 hx4 ho4
        go_wp2_with fail
        go_roundw
        case rel => exact ⟨k + 1, 0, F1, F2, F3, A4, f1, f2, f3, c4, _, by have := HKZ.out; omega, by omega, by go_num, fun _ => HC4.out, fun h => absurd h (Nat.succ_ne_zero _), S4.out _ _, O4.out, X4.out, V4.out, B4.out, by omega⟩
        case measure => simp [intOf]; omega
      · have hkq : ((k : Int) == 0) = false := by simpa using hkz
        obtain ⟨i0, hi, hz0, hz1, hz2⟩ := info_parts infoR
        have ew : (wr.alloc (.cells #[.int .i64 ((k : Int) - 1), .int .i64 ((k : Int)), .float .f32 l] 91)).heap.size = wr.heap.size + 1 := by simp
        have HTa := Lib.hid (Tx.new_ wr 91 (.int .i64 ((k : Int) - 1)) (.int .i64 (k : Int)) (.float .f32 l))
        have HXa := Lib.hid (X1.out.alloc (.cells #[.int .i64 ((k : Int) - 1), .int .i64 (k : Int), .float .f32 l] 91))
        have HOa := Lib.hid (show Own (wr.alloc (.cells #[.int .i64 ((k : Int) - 1), .int .i64 ((k : Int)), .float .f32 l] 91)) w3.heap.size A1 A2 A3 A4 c1 c2 c3 c4 k k k m D1 from O1.out.go (by repeat' (first | with_reducible exact Below.refl _ _ | with_reducible assumption | with_reducible refine below_dn ?_ _ | with_reducible refine Below.drew ?_ | with_reducible refine below_step ?_ (by assumption) | with_reducible refine Below.setCell ?_ ?_ _ | with_reducible refine Below.alloc ?_ ?_ _ | with_reducible exact Nat.le_refl _ | (simp; done) | (simp; omega) | omega)))
        have HNa := Lib.hid (HOa.out.s4.chain HXa.out (by decide))
        have HZa := Lib.hid C41.out
        have HL := Lib.hid HOa.out.bds
        obtain ⟨g0, g1, g2, g3, gf⟩ := X1.out.facts
        have lg := X1.out.lt
        go_upto_region 11 with (at_builtin; refine wpList_app rfl (.tmp 35) (.tmp 41) 30 rfl 91 i0 _ 3 24 Try.underlying30 hi hz0 hz1 hz2 rfl (by decide) A4 (m) c4 w3.heap.size (rc D1.R) rfl HOa.out.s4 HZa.out (by simp; omega) ⟨wr.heap.size, 0, none⟩ 1 1 (rc (fun _ => ⟨(k : Int) - 1, (k : Int), l⟩)) rfl (new3_rc _ _ 91 ⟨(k : Int) - 1, (k : Int), l⟩ HTa.out) (rc_one _) (by decide) (by simp only [maxLen]; omega) (by omega) ?_; intro N4 y4 u2 hs2 hR _; have X3 := HXa.out.wr hR HNa.out; have O3 := HOa.out.app4 (r := ⟨(k : Int) - 1, (k : Int), l⟩) hR (hs2.congr (app_rc D1.R m _)); obtain ⟨g0, g1, g2, g3, gf⟩ := X3.facts; have lg := X3.lt)
        have y5 := hR.size
        rw [ew] at y5
        obtain ⟨wt, hwt⟩ : ∃ z : World, z = u2.setCell ⟨w3.heap.size, 3, none⟩ (.slice N4 (m + 1) y4) := ⟨_, rfl⟩
        have XT := Lib.hid (show Bx wt w3.heap.size 32 (.slice A1 k c1) (.slice A2 k c2) (.slice A3 k c3) (.slice N4 (m + 1) y4) by rw [hwt]; exact X3.set3 _)
        have OT := Lib.hid (show Own wt w3.heap.size A1 A2 A3 N4 c1 c2 c3 y4 k k k (m + 1) (addR D1 m ⟨(k : Int) - 1, (k : Int), l⟩) by rw [hwt]; exact O3.off X3 (Wr.set1 _ _ _ _))
        have VT := Lib.hid (show Bx wt w.heap.size 32 sn sn sn sn by rw [hwt]; exact ((V1.out.alloc _).wr hR (fun h => by have := (HL.out.b4 _ h.2 h.1).1; omega)).far (Nat.ne_of_lt lv) _)
        have BT := Lib.hid (show Below w3.heap.size w3 wt by rw [hwt]; exact (B1.out.trans ((Below.alloc (Below.refl _ _) (by omega) _).trans (hR.below (by rw [ew]; omega) (fun k hk h => by have := (HL.out.b4 _ h.2 h.1).1; omega)))).setCell (Nat.le_refl _) _)
        have ST := Lib.hid (show SimD k k k (m + 1) (addR D1 m ⟨(k : Int) - 1, (k : Int), l⟩) (ropeE l x) from S1.out.rod ⟨show (k : Int) - 1 = (m : Int) by omega, show (k : Int) = (m : Int) + 1 by omega, Sim.refl _ _⟩)
        have yt : w3.heap.size + 1 ≤ wt.heap.size := by rw [hwt]; simp [World.setCell]; omega
        rw [← hwt]
        clear hwt hs2 hR X3 O3 y5 g0 g1 g2 g3 gf lg ew hi hz0 hz1 hz2
        go_wp2_with fail
        refine (spec_l03Put w3.heap.size w3.heap.size A1 A2 A3 N4 c1 c2 c3 y4 k k k (m + 1) _ ⟨_, _, _⟩ x _ (XT.out.go (by repeat' (first | with_reducible exact Below.refl _ _ | with_reducible assumption | with_reducible refine below_dn ?_ _ | with_reducible refine Below.drew ?_ | with_reducible refine below_step ?_ (by assumption) | with_reducible refine Below.setCell ?_ ?_ _ | with_reducible refine Below.alloc ?_ ?_ _ | with_reducible exact Nat.le_refl _ | (simp; done) | (simp; omega) | omega))) (OT.out.go (by repeat' (first | with_reducible exact Below.refl _ _ | with_reducible assumption | with_reducible refine below_dn ?_ _ | with_reducible refine Below.drew ?_ | with_reducible refine below_step ?_ (by assumption) | with_reducible refine Below.setCell ?_ ?_ _ | with_reducible refine Below.alloc ?_ ?_ _ | with_reducible exact Nat.le_refl _ | (simp; done) | (simp; omega) | omega))) ⟨fun h => (C01.out h).1, fun h => (C01.out h).2.1, fun h => (C01.out h).2.2, fun h => absurd h (Nat.succ_ne_zero _)⟩ (Nat.le_refl _) (by simp; omega) (by omega) (by omega) (by omega)).mono ?_
        rintro e w4 ⟨rfl, hb4, F1, F2, F3, f1, f2, f3, hx4, ho4⟩
        have y6 := hb4.size
        simp at y6
        have X4 := Lib.hid hx4
        have O4 := Lib.hid ho4
        have V4 := Lib.hid ((VT.out.go (by repeat' (first | with_reducible exact Below.refl _ _ | with_reducible assumption | with_reducible refine below_dn ?_ _ | with_reducible refine Below.drew ?_ | with_reducible refine below_step ?_ (by assumption) | with_reducible refine Below.setCell ?_ ?_ _ | with_reducible refine Below.alloc ?_ ?_ _ | with_reducible exact Nat.le_refl _ | (simp; done) | (simp; omega) | omega))).below hb4 lv)
        have B4 := Lib.hid (BT.out.trans (Below.trans (by repeat' (first | with_reducible exact Below.refl _ _ | with_reducible assumption | with_reducible refine below_dn ?_ _ | with_reducible refine Below.drew ?_ | with_reducible refine below_step ?_ (by assumption) | with_reducible refine Below.setCell ?_ ?_ _ | with_reducible refine Below.alloc ?_ ?_ _ | with_reducible exact Nat.le_refl _ | (simp; done) | (simp; omega) | omega)) hb4))
        have S4 := Lib.hid (fun (T : Nat → Question → Nat) (n : Nat) => ST.out.put (HP.out T n) (HP.out T n) (show Sim .f32 x (if k = 0 then 0 else x) by rw [if_neg hkz]; exact Sim.refl _ _))
        clear hb4 hx4 ho4
        go_wp2_with fail
        go_roundw
        case rel => exact ⟨k + 1, m + 1, F1, F2, F3, N4, f1, f2, f3, y4, _, by omega, by omega, by go_num, fun h => absurd h (Nat.succ_ne_zero _), fun h => absurd h (Nat.succ_ne_zero _), S4.out _ _, O4.out, X4.out, V4.out, B4.out, by omega⟩
        case measure => simp [intOf]; omega
    · obtain rfl : N = k := by omega
      obtain rfl : m = N - 1 := by omega
      obtain ⟨wm, rfl⟩ : ∃ z : World, z = wr := ⟨wr, rfl⟩
      have XM := Lib.hid hX
      have VM := Lib.hid hV
      have OM := Lib.hid hO
      have BM := Lib.hid (show Below w.heap.size w wm from B3.out.trans (hB.mono y0))
      have SM := Lib.hid hS
      have DM := Lib.hid hO.bds
      clear hS hO hX hV hB hC4 hC0 S1 O1 X1 V1 B1 C41 C01
      obtain ⟨t0, t1, t2, t3, tf⟩ := XM.out.facts
      have lt := XM.out.lt
      go_wp2_with fail
      refine (spec_l03Give A1 A2 A3 A4 c1 c2 c3 c4 N N N (N - 1) _ (D1) _ OM.out).mono ?_
      rintro e w9 ⟨rfl, hb9⟩
      have V9 := Lib.hid (VM.out.go hb9)
      have B9 := Lib.hid (below_step BM.out hb9)
      have O9 := Lib.hid (OM.out.go hb9)
      have D9_ := Lib.hid (DM.out.mono (Nat.le_refl _) hb9.size)
      clear hb9 t0 t1 t2 t3 tf lt VM BM OM DM
      obtain ⟨v0, v1, v2, v3, vf⟩ := V9.out.facts
      have lv := V9.out.lt
      rw [okC_sim SM.out]
      cases q3 : okC N N N (N - 1) (ropeE l x)
      · unfold giveV
        go_wp2_with fail
        obtain ⟨r0, r1, r2, r3, rf⟩ := (V9.out.setAll sn sn sn sn).facts
        refine bodyPost_ret (v := .tuple #[.agg #[sn, sn, sn, sn], .bool false]) (by simp [results, Try.results37, go_sem, r0, r1, r2, r3]) rfl ?_
        rw [q3]
        exact ⟨rfl, Bx.bel B9.out (by omega) _ _ _ _⟩
      · unfold giveV
        have WF := Lib.hid (show Wr (fun k => k = w.heap.size) w9 ((((w9.setCell ⟨w.heap.size, 0, none⟩ (.slice A1 N c1)).setCell ⟨w.heap.size, 1, none⟩ (.slice A2 N c2)).setCell ⟨w.heap.size, 2, none⟩ (.slice A3 N c3)).setCell ⟨w.heap.size, 3, none⟩ (.slice A4 (N - 1) c4)) from by
          refine Wr.setCell (Wr.setCell (Wr.setCell (Wr.setCell (Wr.refl _ _) ?_ _) ?_ _) ?_ _) ?_ _ <;> rfl)
        go_wp2_with fail
        obtain ⟨r0, r1, r2, r3, rf⟩ := (V9.out.setAll (.slice A1 N c1) (.slice A2 N c2) (.slice A3 N c3) (.slice A4 (N - 1) c4)).facts
        refine bodyPost_ret (v := .tuple #[.agg #[.slice A1 N c1, .slice A2 N c2, .slice A3 N c3, .slice A4 (N - 1) c4], .bool true]) (by simp [results, Try.results37, go_sem, r0, r1, r2, r3]) rfl ?_
        rw [q3]
        exact ⟨⟨A1, A2, A3, A4, c1, c2, c3, c4, D1, rfl, SM.out, (O9.out.off V9.out WF.out).mono y0, D9_.out.mono y0 WF.out.size⟩, Bx.bel B9.out (by omega) _ _ _ _⟩
end Go.Proofs.Ytlhgaihfghobmaa
