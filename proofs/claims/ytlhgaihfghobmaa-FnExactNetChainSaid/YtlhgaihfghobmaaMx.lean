/- NetChain: contract of the program. -/
import Derived.Test.YtlhgaihfghobmaaMi
namespace Go.Proofs.Ytlhgaihfghobmaa
open Go.ChangeShapes Go.WideShapes Go.ChangeAt Go.RowKit Go.Deep

set_option maxHeartbeats 16000000 in
set_option maxRecDepth 100000 in
theorem impl_NetChain (q s : Int) (l x : Nat) (w : World) : Calls Try.prog 42 #[.int .i64 q, .int .i64 s, .float .f32 l, .float .f32 x] w (RetM (true && ((inI q 2 24 && (inI s 2 24 && (decide (q * s ≤ 24) && (abv l && abv x)))) && okC (q.toNat * s.toNat) (q.toNat * s.toNat) (q.toNat * s.toNat) ((netL l q.toNat s.toNat (q.toNat * s.toNat)).length) (netE l x q.toNat s.toNat))) (q.toNat * s.toNat) (q.toNat * s.toNat) (q.toNat * s.toNat) ((netL l q.toNat s.toNat (q.toNat * s.toNat)).length) (netE l x q.toNat s.toNat) w) := by
  cases a1 : inI q 2 24
  · go_enter Try.func42, Try.ntmps42
    go_wp2_with (go_at_call_of 107 (Value.int IntKind.i64 q); refine (impl_in q 2 24 _).mono ?_; rintro e w1 ⟨rfl, nq1, hw1⟩; have V1 := Lib.hid (show Bx w1 w.heap.size 32 sn sn sn sn by rw [hw1]; exact (Bx.new_ w 32 sn sn sn sn).drewN nq1); have B1 := Lib.hid (show Below w.heap.size w w1 by rw [hw1]; exact below_dn (show Below w.heap.size w (w.alloc (.cells #[sn, sn, sn, sn] 32)) from (by repeat' (first | with_reducible exact Below.refl _ _ | with_reducible assumption | with_reducible refine below_dn ?_ _ | with_reducible refine Below.drew ?_ | with_reducible refine below_step ?_ (by assumption) | with_reducible refine Below.setCell ?_ ?_ _ | with_reducible refine Below.alloc ?_ ?_ _ | with_reducible exact Nat.le_refl _ | (simp; done) | (simp; omega) | omega))) nq1); clear hw1; rw [a1]; obtain ⟨v0, v1, v2, v3, vf⟩ := V1.out.facts; have lv := V1.out.lt)
    obtain ⟨r0, r1, r2, r3, rf⟩ := (V1.out.setAll sn sn sn sn).facts
    refine bodyPost_ret (v := .tuple #[.agg #[sn, sn, sn, sn], .bool false]) (by simp [results, Try.results42, go_sem, r0, r1, r2, r3]) rfl ?_
    exact ⟨rfl, Bx.bel B1.out (Nat.le_refl _) _ _ _ _⟩
  cases a2 : inI s 2 24
  · go_enter Try.func42, Try.ntmps42
    go_wp2_with (first | (go_at_call_of 107 (Value.int IntKind.i64 q); refine (impl_in q 2 24 _).mono ?_; rintro e w1 ⟨rfl, nq1, hw1⟩; have V1 := Lib.hid (show Bx w1 w.heap.size 32 sn sn sn sn by rw [hw1]; exact (Bx.new_ w 32 sn sn sn sn).drewN nq1); have B1 := Lib.hid (show Below w.heap.size w w1 by rw [hw1]; exact below_dn (show Below w.heap.size w (w.alloc (.cells #[sn, sn, sn, sn] 32)) from (by repeat' (first | with_reducible exact Below.refl _ _ | with_reducible assumption | with_reducible refine below_dn ?_ _ | with_reducible refine Below.drew ?_ | with_reducible refine below_step ?_ (by assumption) | with_reducible refine Below.setCell ?_ ?_ _ | with_reducible refine Below.alloc ?_ ?_ _ | with_reducible exact Nat.le_refl _ | (simp; done) | (simp; omega) | omega))) nq1); clear hw1; rw [a1]) | (go_at_call_of 107 (Value.int IntKind.i64 s); refine (impl_in s 2 24 _).mono ?_; rintro e w2 ⟨rfl, nq2, hw2⟩; have V2 := Lib.hid (show Bx w2 w.heap.size 32 sn sn sn sn by rw [hw2]; exact (V1.out).drewN nq2); have B2 := Lib.hid (show Below w.heap.size w w2 by rw [hw2]; exact below_dn (B1.out) nq2); clear hw2; rw [a2]; obtain ⟨v0, v1, v2, v3, vf⟩ := V2.out.facts; have lv := V2.out.lt))
    obtain ⟨r0, r1, r2, r3, rf⟩ := (V2.out.setAll sn sn sn sn).facts
    refine bodyPost_ret (v := .tuple #[.agg #[sn, sn, sn, sn], .bool false]) (by simp [results, Try.results42, go_sem, r0, r1, r2, r3]) rfl ?_
    exact ⟨rfl, Bx.bel B2.out (Nat.le_refl _) _ _ _ _⟩
  obtain ⟨W, rfl, hW1, hW2⟩ : ∃ W : Nat, q = (W : Int) ∧ 2 ≤ W ∧ W ≤ 24 := by
    unfold inI at a1
    simp only [Bool.and_eq_true, decide_eq_true_eq] at a1
    exact ⟨q.toNat, by omega, by omega, by omega⟩
  obtain ⟨H, rfl, hH1, hH2⟩ : ∃ H : Nat, s = (H : Int) ∧ 2 ≤ H ∧ H ≤ 24 := by
    unfold inI at a2
    simp only [Bool.and_eq_true, decide_eq_true_eq] at a2
    exact ⟨s.toNat, by omega, by omega, by omega⟩
  rw [show ((W : Int)).toNat = W from rfl, show ((H : Int)).toNat = H from rfl]
  obtain ⟨N, hN⟩ : ∃ N : Nat, N = W * H := ⟨_, rfl⟩
  have hNN : (W : Int) * (H : Int) = (N : Int) := by rw [hN]; exact (Int.natCast_mul W H).symm
  have hN576 : N ≤ 576 := by rw [hN]; exact Nat.le_trans (Nat.mul_le_mul hW2 hH2) (by decide)
  rw [← hN, hNN]
  have HN := Lib.hid hN
  clear hN
  have hN0 : (0 : Int) ≤ (N : Int) := by omega
  have hN9 : (N : Int) ≤ 576 := by omega
  cases a3 : decide ((N : Int) ≤ 24)
  · have hgt := of_decide_eq_false a3
    have hgt2 : (24 : Int) < (N : Int) := by omega
    clear hgt
    go_enter Try.func42, Try.ntmps42
    go_wp2_with (first | (go_at_call_of 107 (Value.int IntKind.i64 (W : Int)); refine (impl_in (W : Int) 2 24 _).mono ?_; rintro e w1 ⟨rfl, nq1, hw1⟩; have V1 := Lib.hid (show Bx w1 w.heap.size 32 sn sn sn sn by rw [hw1]; exact (Bx.new_ w 32 sn sn sn sn).drewN nq1); have B1 := Lib.hid (show Below w.heap.size w w1 by rw [hw1]; exact below_dn (show Below w.heap.size w (w.alloc (.cells #[sn, sn, sn, sn] 32)) from (by repeat' (first | with_reducible exact Below.refl _ _ | with_reducible assumption | with_reducible refine below_dn ?_ _ | with_reducible refine Below.drew ?_ | with_reducible refine below_step ?_ (by assumption) | with_reducible refine Below.setCell ?_ ?_ _ | with_reducible refine Below.alloc ?_ ?_ _ | with_reducible exact Nat.le_refl _ | (simp; done) | (simp; omega) | omega))) nq1); clear hw1; rw [a1]) | (go_at_call_of 107 (Value.int IntKind.i64 (H : Int)); refine (impl_in (H : Int) 2 24 _).mono ?_; rintro e w2 ⟨rfl, nq2, hw2⟩; have V2 := Lib.hid (show Bx w2 w.heap.size 32 sn sn sn sn by rw [hw2]; exact (V1.out).drewN nq2); have B2 := Lib.hid (show Below w.heap.size w w2 by rw [hw2]; exact below_dn (B1.out) nq2); clear hw2; rw [a2]; obtain ⟨v0, v1, v2, v3, vf⟩ := V2.out.facts; have lv := V2.out.lt))
    obtain ⟨r0, r1, r2, r3, rf⟩ := (V2.out.setAll sn sn sn sn).facts
    refine bodyPost_ret (v := .tuple #[.agg #[sn, sn, sn, sn], .bool false]) (by simp [results, Try.results42, go_sem, r0, r1, r2, r3]) rfl ?_
    exact ⟨rfl, Bx.bel B2.out (Nat.le_refl _) _ _ _ _⟩
  have hN24 := of_decide_eq_true a3
  have hng : ¬ ((24 : Int) < (N : Int)) := by omega
  cases a4 : abv l
  · go_enter Try.func42, Try.ntmps42
    go_wp2_with (first | (go_at_call_of 107 (Value.int IntKind.i64 (W : Int)); refine (impl_in (W : Int) 2 24 _).mono ?_; rintro e w1 ⟨rfl, nq1, hw1⟩; have V1 := Lib.hid (show Bx w1 w.heap.size 32 sn sn sn sn by rw [hw1]; exact (Bx.new_ w 32 sn sn sn sn).drewN nq1); have B1 := Lib.hid (show Below w.heap.size w w1 by rw [hw1]; exact below_dn (show Below w.heap.size w (w.alloc (.cells #[sn, sn, sn, sn] 32)) from (by repeat' (first | with_reducible exact Below.refl _ _ | with_reducible assumption | with_reducible refine below_dn ?_ _ | with_reducible refine Below.drew ?_ | with_reducible refine below_step ?_ (by assumption) | with_reducible refine Below.setCell ?_ ?_ _ | with_reducible refine Below.alloc ?_ ?_ _ | with_reducible exact Nat.le_refl _ | (simp; done) | (simp; omega) | omega))) nq1); clear hw1; rw [a1]) | (go_at_call_of 107 (Value.int IntKind.i64 (H : Int)); refine (impl_in (H : Int) 2 24 _).mono ?_; rintro e w2 ⟨rfl, nq2, hw2⟩; have V2 := Lib.hid (show Bx w2 w.heap.size 32 sn sn sn sn by rw [hw2]; exact (V1.out).drewN nq2); have B2 := Lib.hid (show Below w.heap.size w w2 by rw [hw2]; exact below_dn (B1.out) nq2); clear hw2; rw [a2]) | (go_at_call_of 95 (Value.float FloatKind.f32 l); refine (impl_lengthOk l _).mono ?_; rintro e w3 ⟨rfl, nq3, hw3⟩; have V3 := Lib.hid (show Bx w3 w.heap.size 32 sn sn sn sn by rw [hw3]; exact (V2.out).drewN nq3); have B3 := Lib.hid (show Below w.heap.size w w3 by rw [hw3]; exact below_dn (B2.out) nq3); clear hw3; rw [a4]; obtain ⟨v0, v1, v2, v3, vf⟩ := V3.out.facts; have lv := V3.out.lt))
    obtain ⟨r0, r1, r2, r3, rf⟩ := (V3.out.setAll sn sn sn sn).facts
    refine bodyPost_ret (v := .tuple #[.agg #[sn, sn, sn, sn], .bool false]) (by simp [results, Try.results42, go_sem, r0, r1, r2, r3]) rfl ?_
    exact ⟨rfl, Bx.bel B3.out (Nat.le_refl _) _ _ _ _⟩
  cases a5 : abv x
  · go_enter Try.func42, Try.ntmps42
    go_wp2_with (first | (go_at_call_of 107 (Value.int IntKind.i64 (W : Int)); refine (impl_in (W : Int) 2 24 _).mono ?_; rintro e w1 ⟨rfl, nq1, hw1⟩; have V1 := Lib.hid (show Bx w1 w.heap.size 32 sn sn sn sn by rw [hw1]; exact (Bx.new_ w 32 sn sn sn sn).drewN nq1); have B1 := Lib.hid (show Below w.heap.size w w1 by rw [hw1]; exact below_dn (show Below w.heap.size w (w.alloc (.cells #[sn, sn, sn, sn] 32)) from (by repeat' (first | with_reducible exact Below.refl _ _ | with_reducible assumption | with_reducible refine below_dn ?_ _ | with_reducible refine Below.drew ?_ | with_reducible refine below_step ?_ (by assumption) | with_reducible refine Below.setCell ?_ ?_ _ | with_reducible refine Below.alloc ?_ ?_ _ | with_reducible exact Nat.le_refl _ | (simp; done) | (simp; omega) | omega))) nq1); clear hw1; rw [a1]) | (go_at_call_of 107 (Value.int IntKind.i64 (H : Int)); refine (impl_in (H : Int) 2 24 _).mono ?_; rintro e w2 ⟨rfl, nq2, hw2⟩; have V2 := Lib.hid (show Bx w2 w.heap.size 32 sn sn sn sn by rw [hw2]; exact (V1.out).drewN nq2); have B2 := Lib.hid (show Below w.heap.size w w2 by rw [hw2]; exact below_dn (B1.out) nq2); clear hw2; rw [a2]) | (go_at_call_of 95 (Value.float FloatKind.f32 l); refine (impl_lengthOk l _).mono ?_; rintro e w3 ⟨rfl, nq3, hw3⟩; have V3 := Lib.hid (show Bx w3 w.heap.size 32 sn sn sn sn by rw [hw3]; exact (V2.out).drewN nq3); have B3 := Lib.hid (show Below w.heap.size w w3 by rw [hw3]; exact below_dn (B2.out) nq3); clear hw3; rw [a4]) | (go_at_call_of 95 (Value.float FloatKind.f32 x); refine (impl_lengthOk x _).mono ?_; rintro e w4 ⟨rfl, nq4, hw4⟩; have V4 := Lib.hid (show Bx w4 w.heap.size 32 sn sn sn sn by rw [hw4]; exact (V3.out).drewN nq4); have B4 := Lib.hid (show Below w.heap.size w w4 by rw [hw4]; exact below_dn (B3.out) nq4); clear hw4; rw [a5]; obtain ⟨v0, v1, v2, v3, vf⟩ := V4.out.facts; have lv := V4.out.lt))
    obtain ⟨r0, r1, r2, r3, rf⟩ := (V4.out.setAll sn sn sn sn).facts
    refine bodyPost_ret (v := .tuple #[.agg #[sn, sn, sn, sn], .bool false]) (by simp [results, Try.results42, go_sem, r0, r1, r2, r3]) rfl ?_
    exact ⟨rfl, Bx.bel B4.out (Nat.le_refl _) _ _ _ _⟩
  show Calls _ _ _ _ (RetM (okC N N N (netL l W H N).length (netE l x W H)) N N N (netL l W H N).length (netE l x W H) w)
  rw [show netE l x W H = netEL l x W (netL l W H N) by unfold netE; rw [← HN.out]]
  go_enter Try.func42, Try.ntmps42
  go_wp2_with (first | (go_at_call_of 107 (Value.int IntKind.i64 (W : Int)); refine (impl_in (W : Int) 2 24 _).mono ?_; rintro e w1 ⟨rfl, nq1, hw1⟩; have V1 := Lib.hid (show Bx w1 w.heap.size 32 sn sn sn sn by rw [hw1]; exact (Bx.new_ w 32 sn sn sn sn).drewN nq1); have B1 := Lib.hid (show Below w.heap.size w w1 by rw [hw1]; exact below_dn (show Below w.heap.size w (w.alloc (.cells #[sn, sn, sn, sn] 32)) from (by repeat' (first | with_reducible exact Below.refl _ _ | with_reducible assumption | with_reducible refine below_dn ?_ _ | with_reducible refine Below.drew ?_ | with_reducible refine below_step ?_ (by assumption) | with_reducible refine Below.setCell ?_ ?_ _ | with_reducible refine Below.alloc ?_ ?_ _ | with_reducible exact Nat.le_refl _ | (simp; done) | (simp; omega) | omega))) nq1); clear hw1; rw [a1]) | (go_at_call_of 107 (Value.int IntKind.i64 (H : Int)); refine (impl_in (H : Int) 2 24 _).mono ?_; rintro e w2 ⟨rfl, nq2, hw2⟩; have V2 := Lib.hid (show Bx w2 w.heap.size 32 sn sn sn sn by rw [hw2]; exact (V1.out).drewN nq2); have B2 := Lib.hid (show Below w.heap.size w w2 by rw [hw2]; exact below_dn (B1.out) nq2); clear hw2; rw [a2]) | (go_at_call_of 95 (Value.float FloatKind.f32 l); refine (impl_lengthOk l _).mono ?_; rintro e w3 ⟨rfl, nq3, hw3⟩; have V3 := Lib.hid (show Bx w3 w.heap.size 32 sn sn sn sn by rw [hw3]; exact (V2.out).drewN nq3); have B3 := Lib.hid (show Below w.heap.size w w3 by rw [hw3]; exact below_dn (B2.out) nq3); clear hw3; rw [a4]) | (go_at_call_of 95 (Value.float FloatKind.f32 x); refine (impl_lengthOk x _).mono ?_; rintro e w4 ⟨rfl, nq4, hw4⟩; have V4 := Lib.hid (show Bx w4 w.heap.size 32 sn sn sn sn by rw [hw4]; exact (V3.out).drewN nq4); have B4 := Lib.hid (show Below w.heap.size w w4 by rw [hw4]; exact below_dn (B3.out) nq4); clear hw4; rw [a5]))
  clear V1 B1 V2 B2 V3 B3
  have hlv := V4.out.lt
  have y0 : w.heap.size ≤ w4.heap.size := Nat.le_of_lt hlv
  go_loopw [43] (fun i wr => ∃ (k m : Nat) (L : List Rd) (A1 A2 A3 A4 : Option Addr) (c1 c2 c3 c4 : Nat) (D1 : D4), k ≤ N ∧ i = .int .i64 k ∧ L = netL l W H k ∧ L.length = m ∧ (m = 0 → c4 = 0) ∧ (k = 0 → c1 = 0 ∧ c2 = 0 ∧ c3 = 0) ∧ SimD k k k m D1 (netEL l x W L) ∧ ChS w.heap.size w4 A1 A2 A3 A4 c1 c2 c3 c4 k m D1 wr) (fun i _ => N - (intOf i).toNat)
  case atStart => exact ⟨0, 0, [], none, none, none, none, 0, 0, 0, 0, netEL l x W [], Nat.zero_le _, rfl, rfl, rfl, fun _ => rfl, fun _ => ⟨rfl, rfl, rfl⟩, SimD.none _ _, Own.nil _ _ _, Bx.new_ _ _ _ _ _ _, V4.out.alloc _, (by repeat' (first | with_reducible exact Below.refl _ _ | with_reducible assumption | with_reducible refine below_dn ?_ _ | with_reducible refine Below.drew ?_ | with_reducible refine below_step ?_ (by assumption) | with_reducible refine Below.setCell ?_ ?_ _ | with_reducible refine Below.alloc ?_ ?_ _ | with_reducible exact Nat.le_refl _ | (simp; done) | (simp; omega) | omega)), by simp⟩
  case round =>
    obtain ⟨k, m, L, A1, A2, A3, A4, c1, c2, c3, c4, D1, hk, rfl, hL, hm, hC4, hC0, hS, hC⟩ := hrel
    have HL := Lib.hid hL
    have HM := Lib.hid hm
    have HC4 := Lib.hid hC4
    have HS := Lib.hid hS
    have HC := Lib.hid hC
    have HC0 := Lib.hid hC0
    by_cases hlt : k < N
    · have hk0 : (0 : Int) ≤ (k : Int) := by omega
      have hk1 : (k : Int) < (N : Int) := by omega
      obtain ⟨xx, hxx⟩ : ∃ xx : Nat, xx = k % W := ⟨_, rfl⟩
      obtain ⟨yy, hyy⟩ : ∃ yy : Nat, yy = k / W := ⟨_, rfl⟩
      have hmod : (k : Int).tmod (W : Int) = (xx : Int) := by rw [hxx, Int.tmod_eq_emod_of_nonneg (by omega)]; rfl
      have hdiv : (k : Int).tdiv (W : Int) = (yy : Int) := by rw [hyy, Int.tdiv_eq_ediv_of_nonneg (by omega)]; rfl
      have hxl : xx < W := by rw [hxx]; exact Nat.mod_lt _ (by omega)
      have hyl : yy ≤ k := by rw [hyy]; exact Nat.div_le_self _ _
      have hy0 : (0 : Int) ≤ (yy : Int) := by omega
      have hy1 : (yy : Int) ≤ 576 := by omega
      have hyw : IntKind.i64.wrap (yy : Int) = (yy : Int) := by rw [IntKind.wrap_i64]; omega
      have HXX := Lib.hid hxx
      have HYY := Lib.hid hyy
      clear hxx hyy
      have hW0 : ¬ (W = 0) := by omega
      have hml : m ≤ 2 * k := by rw [← hm, hL]; exact netL_len _ _ _ _
      clear hL hm hC4 hC0 hS hC
      have HP := Lib.hid (show ∀ (T : Nat → Question → Nat) (n : Nat) (T' : Nat → Question → Nat) (n' : Nat), SimP ⟨opV .mul .f32 (i2f (xx : Int)) l T n, Op.negFloat .f32 (opV .mul .f32 (i2f (yy : Int)) l T' n'), 0⟩ (netP l W k) from fun T n T' n' => by
        unfold netP
        rw [← HXX.out, ← HYY.out]
        exact ⟨mul_sim (Sim.refl _ _) (Sim.refl _ _) T n, neg_sim (opV_lt32 _ _ _ _ _) (opV_lt32 _ _ _ _ _) (mul_sim (Sim.refl _ _) (Sim.refl _ _) T' n'), Sim.refl _ _⟩)
      go_upto_region 7 with fail
      have hw0 : Below wr.heap.size wr wr.drew := (Below.refl _ _).drew
      refine region_inv (stat [isE (.int .i64 (k : Int)), isE (.int .i64 (W : Int)), isE (.int .i64 (xx : Int)), isE (.int .i64 (k : Int)), isE (.int .i64 (W : Int)), isE (.int .i64 (yy : Int)), isE (.int .i64 (xx : Int)), isE (.int .i64 (yy : Int))]) (fun l W => Js [] (fun W => Below wr.heap.size wr W) l W) (by kernel_rfl) (by kernel_rfl) (by kernel_rfl) (Js.nil hw0) ⟨?r0, ?r1, ?r2, ?r3, ?r4, ?r5, ?r6, ?r7, trivial⟩ ?hend
      case r0 =>
        intro listed a u h hu hd K hK
        have e11 : a.tmps.getD 11 undef = .int .i64 (k : Int) := h.base (by kernel_rfl)
        have f11 : a.tmps[11]? = some (.int .i64 (k : Int)) := h.old (by kernel_rfl)
        rw [if_pos (by rfl)]
        go_simp
        exact hK _ _ (fact_stat _ _ _) (isE.mk rfl) (Js.neutral h.world rfl)
      case r1 =>
        intro listed a u h hu hd K hK
        have e0 : a.tmps.getD 0 undef = .int .i64 (W : Int) := h.base (by kernel_rfl)
        have f0 : a.tmps[0]? = some (.int .i64 (W : Int)) := h.old (by kernel_rfl)
        rw [if_pos (by rfl)]
        go_simp
        exact hK _ _ (fact_stat _ _ _) (isE.mk rfl) (Js.neutral h.world rfl)
      case r2 =>
        intro listed a u h hu hd K hK
        have hA : (fun W => Below wr.heap.size wr W) u := h.world
        obtain ⟨v46, ev46, em46, F46⟩ := h.slot (i := 0) rfl rfl (hd _ (Array.mem_of_getElem? (i := 0) rfl) rfl)
        have e46 := ev46.trans (isE.out F46)
        have f46 := em46.trans (congrArg some (isE.out F46))
        clear ev46 em46 F46
        obtain ⟨v47, ev47, em47, F47⟩ := h.slot (i := 1) rfl rfl (hd _ (Array.mem_of_getElem? (i := 1) rfl) rfl)
        have e47 := ev47.trans (isE.out F47)
        have f47 := em47.trans (congrArg some (isE.out F47))
        clear ev47 em47 F47
        rw [if_pos (by rfl)]
        go_simp
        exact hK _ _ (fact_stat _ _ _) (isE.mk rfl) (Js.nil hA)
      case r3 =>
        intro listed a u h hu hd K hK
        have e11 : a.tmps.getD 11 undef = .int .i64 (k : Int) := h.base (by kernel_rfl)
        have f11 : a.tmps[11]? = some (.int .i64 (k : Int)) := h.old (by kernel_rfl)
        rw [if_pos (by rfl)]
        go_simp
        exact hK _ _ (fact_stat _ _ _) (isE.mk rfl) (Js.neutral h.world rfl)
      case r4 =>
        intro listed a u h hu hd K hK
        have e0 : a.tmps.getD 0 undef = .int .i64 (W : Int) := h.base (by kernel_rfl)
        have f0 : a.tmps[0]? = some (.int .i64 (W : Int)) := h.old (by kernel_rfl)
        rw [if_pos (by rfl)]
        go_simp
        exact hK _ _ (fact_stat _ _ _) (isE.mk rfl) (Js.neutral h.world rfl)
      case r5 =>
        intro listed a u h hu hd K hK
        have hA : (fun W => Below wr.heap.size wr W) u := h.world
        obtain ⟨v49, ev49, em49, F49⟩ := h.slot (i := 3) rfl rfl (hd _ (Array.mem_of_getElem? (i := 0) rfl) rfl)
        have e49 := ev49.trans (isE.out F49)
        have f49 := em49.trans (congrArg some (isE.out F49))
        clear ev49 em49 F49
        obtain ⟨v50, ev50, em50, F50⟩ := h.slot (i := 4) rfl rfl (hd _ (Array.mem_of_getElem? (i := 1) rfl) rfl)
        have e50 := ev50.trans (isE.out F50)
        have f50 := em50.trans (congrArg some (isE.out F50))
        clear ev50 em50 F50
        rw [if_pos (by rfl)]
        go_simp
        exact hK _ _ (fact_stat _ _ _) (isE.mk rfl) (Js.nil hA)
      case r6 =>
        intro listed a u h hu hd K hK
        obtain ⟨v48, ev48, em48, F48⟩ := h.slot (i := 2) rfl rfl (hd _ (Array.mem_of_getElem? (i := 0) rfl) rfl)
        have e48 := ev48.trans (isE.out F48)
        have f48 := em48.trans (congrArg some (isE.out F48))
        clear ev48 em48 F48
        rw [if_pos (by rfl)]
        go_simp
        exact hK _ _ (fact_stat _ _ _) (isE.mk rfl) (Js.neutral h.world rfl)
      case r7 =>
        intro listed a u h hu hd K hK
        obtain ⟨v51, ev51, em51, F51⟩ := h.slot (i := 5) rfl rfl (hd _ (Array.mem_of_getElem? (i := 0) rfl) rfl)
        have e51 := ev51.trans (isE.out F51)
        have f51 := em51.trans (congrArg some (isE.out F51))
        clear ev51 em51 F51
        rw [if_pos (by rfl)]
        go_simp
        exact hK _ _ (fact_stat _ _ _) (isE.mk rfl) (Js.neutral h.world rfl)
      case hend =>
        intro listed a u h hall
        have hB : (fun W => Below wr.heap.size wr W) u := h.world
        obtain ⟨v12, ev12, em12, F12⟩ := h.slot (i := 6) rfl rfl (hall 6 (by decide))
        have f12 := em12.trans (congrArg some (isE.out F12))
        clear ev12 em12 F12
        obtain ⟨v13, ev13, em13, F13⟩ := h.slot (i := 7) rfl rfl (hall 7 (by decide))
        have f13 := em13.trans (congrArg some (isE.out F13))
        clear ev13 em13 F13
        obtain ⟨v46, ev46, em46, F46⟩ := h.slot (i := 0) rfl rfl (hall 0 (by decide))
        have f46 := em46.trans (congrArg some (isE.out F46))
        clear ev46 em46 F46
        obtain ⟨v47, ev47, em47, F47⟩ := h.slot (i := 1) rfl rfl (hall 1 (by decide))
        have f47 := em47.trans (congrArg some (isE.out F47))
        clear ev47 em47 F47
        obtain ⟨v48, ev48, em48, F48⟩ := h.slot (i := 2) rfl rfl (hall 2 (by decide))
        have f48 := em48.trans (congrArg some (isE.out F48))
        clear ev48 em48 F48
        obtain ⟨v49, ev49, em49, F49⟩ := h.slot (i := 3) rfl rfl (hall 3 (by decide))
        have f49 := em49.trans (congrArg some (isE.out F49))
        clear ev49 em49 F49
        obtain ⟨v50, ev50, em50, F50⟩ := h.slot (i := 4) rfl rfl (hall 4 (by decide))
        have f50 := em50.trans (congrArg some (isE.out F50))
        clear ev50 em50 F50
        obtain ⟨v51, ev51, em51, F51⟩ := h.slot (i := 5) rfl rfl (hall 5 (by decide))
        have f51 := em51.trans (congrArg some (isE.out F51))
        clear ev51 em51 F51
        have ha := h.act [12, 13, 46, 47, 48, 49, 50, 51] [_, _, _, _, _, _, _, _] (by kernel_rfl) ⟨f12, f13, f46, f47, f48, f49, f50, f51, trivial⟩
        clear f12 f13 f46 f47 f48 f49 f50 f51
        simp only [setAll, List.setIfInBounds_toArray, List.set_cons_zero, List.set_cons_succ] at ha
        subst ha
        clear h hall
        have hB_ := hB
        clear hw0 hmod hdiv
        have HC1 := Lib.hid (HC.out.go hB_)
        have HBU := Lib.hid hB_
        clear hB_ hB HC
        go_wp2_with fail
        refine (impl_add w4.heap.size w4.heap.size A1 A2 A3 A4 c1 c2 c3 c4 k k k m D1 ⟨_, _, _⟩ x _ (HC1.out.go (by repeat' (first | with_reducible exact Below.refl _ _ | with_reducible assumption | with_reducible refine below_dn ?_ _ | with_reducible refine Below.drew ?_ | with_reducible refine below_step ?_ (by assumption) | with_reducible refine Below.setCell ?_ ?_ _ | with_reducible refine Below.alloc ?_ ?_ _ | with_reducible exact Nat.le_refl _ | (simp; done) | (simp; omega) | omega))).2.1 (HC1.out.go (by repeat' (first | with_reducible exact Below.refl _ _ | with_reducible assumption | with_reducible refine below_dn ?_ _ | with_reducible refine Below.drew ?_ | with_reducible refine below_step ?_ (by assumption) | with_reducible refine Below.setCell ?_ ?_ _ | with_reducible refine Below.alloc ?_ ?_ _ | with_reducible exact Nat.le_refl _ | (simp; done) | (simp; omega) | omega))).1 ⟨fun h => (HC0.out h).1, fun h => (HC0.out h).2.1, fun h => (HC0.out h).2.2, HC4.out⟩ (Nat.le_refl _) (by have := HC1.out.2.2.2.2; simp; omega) (by omega) (by omega) (by omega)).mono ?_
        rintro e w5 hr5
        obtain ⟨rfl, F1, F2, F3, f1, f2, f3, hC5⟩ := (HC1.out.go (by repeat' (first | with_reducible exact Below.refl _ _ | with_reducible assumption | with_reducible refine below_dn ?_ _ | with_reducible refine Below.drew ?_ | with_reducible refine below_step ?_ (by assumption) | with_reducible refine Below.setCell ?_ ?_ _ | with_reducible refine Below.alloc ?_ ?_ _ | with_reducible exact Nat.le_refl _ | (simp; done) | (simp; omega) | omega))).ret hlv hr5
        clear hr5
        obtain ⟨D5, hC5, hS5, hS5z⟩ : ∃ D5, ChS w.heap.size w4 F1 F2 F3 A4 f1 f2 f3 c4 (k + 1) m D5 w5 ∧ (¬ k < W → SimD (k + 1) (k + 1) (k + 1) m D5 (netEL l x W L)) ∧ (k < W → SimD (k + 1) (k + 1) (k + 1) m (setW D5 k 0) (netEL l x W L)) :=
          ⟨_, hC5, fun h => HS.out.put (HP.out _ _ _ _) (HP.out _ _ _ _) (by show Sim .f32 x (if k < W then 0 else x); rw [if_neg h]; exact Sim.refl _ _), fun h => HS.out.putS (HP.out _ _ _ _) (HP.out _ _ _ _) (by show Sim .f32 0 (if k < W then 0 else x); rw [if_pos h]; exact Sim.refl _ _)⟩
        have HC5 := Lib.hid hC5
        have HS5 := Lib.hid hS5
        have HS5z := Lib.hid hS5z
        have hyz : yy = 0 ↔ k < W := by
          rw [HYY.out]
          exact Nat.div_eq_zero_iff_lt (by omega)
        have HYZ := Lib.hid hyz
        clear hC5 hS5 hS5z hyz HC1 HS HP HC0
        go_upto_if 65 with fail
        go_cut [] (fun wx => ∃ (A1 A2 A3 A4 : Option Addr) (c1 c2 c3 c4 : Nat) (D1 : D4), (m = 0 → c4 = 0) ∧ SimD (k + 1) (k + 1) (k + 1) m D1 (netEL l x W L) ∧ ChS w.heap.size w4 A1 A2 A3 A4 c1 c2 c3 c4 (k + 1) m D1 wx)
        case first =>
          by_cases hy : yy = 0
          · have hyq : ((yy : Int) == 0) = true := by rw [hy]; rfl
            obtain ⟨b3, hA3, hc3, hf3, hl3⟩ := HC5.out.st (by omega)
            have hc3k := hc3 k (by omega)
            have hf3k := hf3 k
            have hne := HC5.out.1.s3.chain HC5.out.2.1 (by decide)
            subst hA3
            obtain ⟨g0, g1, g2, g3, gf⟩ := HC5.out.2.1.facts
            have lg := HC5.out.2.1.lt
            have HR5 := Lib.hid (HC5.out.zero hlv rfl (show k < k + 1 by omega))
            have HYK := Lib.hid (HYZ.out.1 hy)
            clear hc3 hf3 hne hy
            go_wp2_with fail
            go_meet
            exact ⟨F1, F2, _, A4, f1, f2, f3, c4, _, HC4.out, HS5z.out HYK.out, HR5.out⟩
          · have hyq : ((yy : Int) == 0) = false := by simpa using hy
            have HYK := Lib.hid (fun h => hy (HYZ.out.2 h))
            clear hy
            go_wp2_with fail
            go_meet
            exact ⟨F1, F2, F3, A4, f1, f2, f3, c4, _, HC4.out, HS5.out HYK.out, HC5.out⟩
        clear HC5 HS5 HS5z HC4 HYZ
        obtain ⟨A1, A2, A3, A4, c1, c2, c3, c4, D1, hC4, hS, hC⟩ := hcut
        have HC4 := Lib.hid hC4
        have HS := Lib.hid hS
        have HC := Lib.hid hC
        clear hC4 hS hC
        go_upto_if 73 with fail
        go_cut [] (fun wx => ∃ (m' : Nat) (L' : List Rd) (A1 A2 A3 A4 : Option Addr) (c1 c2 c3 c4 : Nat) (D1 : D4), L' = netA l W k L ∧ L'.length = m' ∧ m' ≤ m + 1 ∧ (m' = 0 → c4 = 0) ∧ SimD (k + 1) (k + 1) (k + 1) m' D1 (netEL l x W L') ∧ ChS w.heap.size w4 A1 A2 A3 A4 c1 c2 c3 c4 (k + 1) m' D1 wx)
        case first =>
          by_cases ht : xx + 1 < W
          · have hti : (xx : Int) + 1 < (W : Int) := by omega
            have HTT := Lib.hid ht
            clear ht
            obtain ⟨i0, hi, hz0, hz1, hz2⟩ := info_parts infoR
            have HTa := Lib.hid (Tx.new_ wc 91 (.int .i64 ((k : Int))) (.int .i64 ((k : Int) + 1)) (.float .f32 l))
            have HCa := Lib.hid (HC.out.go (W' := wc.alloc (.cells #[.int .i64 ((k : Int)), .int .i64 ((k : Int) + 1), .float .f32 l] 91)) (by repeat' (first | with_reducible exact Below.refl _ _ | with_reducible assumption | with_reducible refine below_dn ?_ _ | with_reducible refine Below.drew ?_ | with_reducible refine below_step ?_ (by assumption) | with_reducible refine Below.setCell ?_ ?_ _ | with_reducible refine Below.alloc ?_ ?_ _ | with_reducible exact Nat.le_refl _ | (simp; done) | (simp; omega) | omega)))
            obtain ⟨g0, g1, g2, g3, gf⟩ := HC.out.2.1.facts
            have lg := HC.out.2.1.lt
            go_wp2_with (at_builtin; refine wpList_app rfl (.tmp 75) (.tmp 81) 30 rfl 91 i0 _ 3 24 Try.underlying30 hi hz0 hz1 hz2 rfl (by decide) A4 (m) c4 w4.heap.size (rc D1.R) rfl HCa.out.1.s4 HC4.out (by have := HCa.out.2.2.2.2; omega) ⟨wc.heap.size, 0, none⟩ 1 1 (rc (fun _ => ⟨(k : Int), (k : Int) + 1, l⟩)) rfl (new3_rc _ _ 91 ⟨(k : Int), (k : Int) + 1, l⟩ HTa.out) (rc_one _) (by decide) (by simp only [maxLen]; omega) (by omega) ?_; intro N4 y4 u2 hs2 hR _; have C5 := Lib.hid (HCa.out.app hlv ⟨(k : Int), (k : Int) + 1, l⟩ (hs2.congr (app_rc D1.R m _)) hR); have X3 := HCa.out.2.1.wr hR (HCa.out.1.s4.chain HCa.out.2.1 (by decide)); obtain ⟨g0, g1, g2, g3, gf⟩ := X3.facts; have lg := X3.lt)
            go_meet
            exact ⟨m + 1, _, A1, A2, A3, N4, c1, c2, c3, y4, _, (show _ = netA l W k L from (if_pos (by rw [← HXX.out]; exact HTT.out)).symm), by rw [List.length_append, HM.out]; rfl, Nat.le_refl _, fun h => absurd h (Nat.succ_ne_zero _), HS.out.rodL (E := netEL l x W L) HM.out _, C5.out⟩
          · have hti : ¬ ((xx : Int) + 1 < (W : Int)) := by omega
            have HTT := Lib.hid ht
            clear ht
            go_wp2_with fail
            go_meet
            exact ⟨m, L, A1, A2, A3, A4, c1, c2, c3, c4, D1, (if_neg (by rw [← HXX.out]; exact HTT.out)).symm, HM.out, by omega, HC4.out, HS.out, HC.out⟩
        have HLO := HL
        clear HS HC HC4 HL HM
        obtain ⟨m', L', A1, A2, A3, A4, c1, c2, c3, c4, D1, hL, hm, hml', hC4, hS, hC⟩ := hcut
        have HL := Lib.hid hL
        have HM := Lib.hid hm
        have HC4 := Lib.hid hC4
        have HS := Lib.hid hS
        have HC := Lib.hid hC
        clear hL hm hC4 hS hC
        have HL0 := HL
        clear HL
        go_upto_if 87 with fail
        by_cases ht : yy + 1 < H
        · have hti : (yy : Int) + 1 < (H : Int) := by omega
          have HTT := Lib.hid ht
          clear ht
          obtain ⟨i0, hi, hz0, hz1, hz2⟩ := info_parts infoR
          have HTa := Lib.hid (Tx.new_ wc 91 (.int .i64 ((k : Int))) (.int .i64 ((k : Int) + (W : Int))) (.float .f32 l))
          have HCa := Lib.hid (HC.out.go (W' := wc.alloc (.cells #[.int .i64 ((k : Int)), .int .i64 ((k : Int) + (W : Int)), .float .f32 l] 91)) (by repeat' (first | with_reducible exact Below.refl _ _ | with_reducible assumption | with_reducible refine below_dn ?_ _ | with_reducible refine Below.drew ?_ | with_reducible refine below_step ?_ (by assumption) | with_reducible refine Below.setCell ?_ ?_ _ | with_reducible refine Below.alloc ?_ ?_ _ | with_reducible exact Nat.le_refl _ | (simp; done) | (simp; omega) | omega)))
          obtain ⟨g0, g1, g2, g3, gf⟩ := HC.out.2.1.facts
          have lg := HC.out.2.1.lt
          go_wp2_with (at_builtin; refine wpList_app rfl (.tmp 89) (.tmp 96) 30 rfl 91 i0 _ 3 24 Try.underlying30 hi hz0 hz1 hz2 rfl (by decide) A4 (m') c4 w4.heap.size (rc D1.R) rfl HCa.out.1.s4 HC4.out (by have := HCa.out.2.2.2.2; omega) ⟨wc.heap.size, 0, none⟩ 1 1 (rc (fun _ => ⟨(k : Int), (k : Int) + (W : Int), l⟩)) rfl (new3_rc _ _ 91 ⟨(k : Int), (k : Int) + (W : Int), l⟩ HTa.out) (rc_one _) (by decide) (by simp only [maxLen]; omega) (by omega) ?_; intro N4 y4 u2 hs2 hR _; have C5 := Lib.hid (HCa.out.app hlv ⟨(k : Int), (k : Int) + (W : Int), l⟩ (hs2.congr (app_rc D1.R m' _)) hR); have X3 := HCa.out.2.1.wr hR (HCa.out.1.s4.chain HCa.out.2.1 (by decide)); obtain ⟨g0, g1, g2, g3, gf⟩ := X3.facts; have lg := X3.lt)
          go_roundw
          case rel => exact ⟨k + 1, m' + 1, _, A1, A2, A3, N4, c1, c2, c3, y4, _, by omega, by go_num, (show _ = netB l W H k (netA l W k (netL l W H k)) from by unfold netB; rw [if_pos (by rw [← HYY.out]; exact HTT.out), HL0.out, HLO.out]), by rw [List.length_append, HM.out]; rfl, fun h => absurd h (Nat.succ_ne_zero _), fun h => absurd h (Nat.succ_ne_zero _), HS.out.rodL (E := netEL l x W L') HM.out _, C5.out⟩
          case measure => simp [intOf]; omega
        · have hti : ¬ ((yy : Int) + 1 < (H : Int)) := by omega
          have HTT := Lib.hid ht
          clear ht
          go_wp2_with fail
          go_roundw
          case rel => exact ⟨k + 1, m', L', A1, A2, A3, A4, c1, c2, c3, c4, D1, by omega, by go_num, (show L' = netB l W H k (netA l W k (netL l W H k)) from by unfold netB; rw [if_neg (by rw [← HYY.out]; exact HTT.out), HL0.out, HLO.out]), HM.out, HC4.out, fun h => absurd h (Nat.succ_ne_zero _), HS.out, HC.out⟩
          case measure => simp [intOf]; omega
        
    · obtain rfl : N = k := by omega
      obtain ⟨wm, rfl⟩ : ∃ z : World, z = wr := ⟨wr, rfl⟩
      have HLL := HL
      have HMM := HM
      have XM := Lib.hid hC.2.1
      have VM := Lib.hid hC.2.2.1
      have OM := Lib.hid hC.1
      have BM := Lib.hid (show Below w.heap.size w wm from B4.out.trans (hC.2.2.2.1.mono y0))
      have SM := Lib.hid hS
      have DM := Lib.hid hC.1.bds
      clear hL hm hC4 hC0 hS hC HL HM HC4 HS HC HC0
      obtain ⟨t0, t1, t2, t3, tf⟩ := XM.out.facts
      have lt := XM.out.lt
      go_wp2_with fail
      refine (impl_toldChain A1 A2 A3 A4 c1 c2 c3 c4 N N N m _ (D1) _ OM.out).mono ?_
      rintro e w9 ⟨rfl, hb9⟩
      have V9 := Lib.hid (VM.out.go hb9)
      have B9 := Lib.hid (below_step BM.out hb9)
      have O9 := Lib.hid (OM.out.go hb9)
      have D9_ := Lib.hid (DM.out.mono (Nat.le_refl _) hb9.size)
      clear hb9 t0 t1 t2 t3 tf lt VM BM OM DM
      obtain ⟨v0, v1, v2, v3, vf⟩ := V9.out.facts
      have lv := V9.out.lt
      rw [okC_sim SM.out]
      cases q3 : okC N N N m (netEL l x W L)
      · unfold giveV
        go_wp2_with fail
        obtain ⟨r0, r1, r2, r3, rf⟩ := (V9.out.setAll sn sn sn sn).facts
        refine bodyPost_ret (v := .tuple #[.agg #[sn, sn, sn, sn], .bool false]) (by simp [results, Try.results42, go_sem, r0, r1, r2, r3]) rfl ?_
        rw [← HLL.out, HMM.out, q3]
        exact ⟨rfl, Bx.bel B9.out (by omega) _ _ _ _⟩
      · unfold giveV
        have WF := Lib.hid (show Wr (fun k => k = w.heap.size) w9 ((((w9.setCell ⟨w.heap.size, 0, none⟩ (.slice A1 N c1)).setCell ⟨w.heap.size, 1, none⟩ (.slice A2 N c2)).setCell ⟨w.heap.size, 2, none⟩ (.slice A3 N c3)).setCell ⟨w.heap.size, 3, none⟩ (.slice A4 m c4)) from by
          refine Wr.setCell (Wr.setCell (Wr.setCell (Wr.setCell (Wr.refl _ _) ?_ _) ?_ _) ?_ _) ?_ _ <;> rfl)
        go_wp2_with fail
        obtain ⟨r0, r1, r2, r3, rf⟩ := (V9.out.setAll (.slice A1 N c1) (.slice A2 N c2) (.slice A3 N c3) (.slice A4 m c4)).facts
        refine bodyPost_ret (v := .tuple #[.agg #[.slice A1 N c1, .slice A2 N c2, .slice A3 N c3, .slice A4 m c4], .bool true]) (by simp [results, Try.results42, go_sem, r0, r1, r2, r3]) rfl ?_
        rw [← HLL.out, HMM.out, q3]
        exact ⟨⟨A1, A2, A3, A4, c1, c2, c3, c4, D1, rfl, SM.out, (O9.out.off V9.out WF.out).mono y0, D9_.out.mono y0 WF.out.size⟩, Bx.bel B9.out (by omega) _ _ _ _⟩
end Go.Proofs.Ytlhgaihfghobmaa
