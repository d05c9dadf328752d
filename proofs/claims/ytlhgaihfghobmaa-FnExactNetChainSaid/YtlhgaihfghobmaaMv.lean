/- NetChain: contract of the reference. -/
import Derived.Test.YtlhgaihfghobmaaMi
namespace Go.Proofs.Ytlhgaihfghobmaa
open Go.ChangeShapes Go.WideShapes Go.ChangeAt Go.RowKit Go.Deep

set_option maxHeartbeats 16000000 in
set_option maxRecDepth 100000 in
theorem spec_NetChain (q s : Int) (l x : Nat) (w : World) : Calls Try.prog 41 #[.int .i64 q, .int .i64 s, .float .f32 l, .float .f32 x] w (RetM (true && ((inI q 2 24 && (inI s 2 24 && (decide (q * s ≤ 24) && (abv l && abv x)))) && okC (q.toNat * s.toNat) (q.toNat * s.toNat) (q.toNat * s.toNat) ((netL l q.toNat s.toNat (q.toNat * s.toNat)).length) (netE l x q.toNat s.toNat))) (q.toNat * s.toNat) (q.toNat * s.toNat) (q.toNat * s.toNat) ((netL l q.toNat s.toNat (q.toNat * s.toNat)).length) (netE l x q.toNat s.toNat) w) := by
  cases a1 : inI q 2 24
  · go_enter Try.func41, Try.ntmps41
    go_wp2_with (go_at_call_of 104 (Value.int IntKind.i64 q); refine (spec_l00In q 2 24 _).mono ?_; rintro e w1 ⟨rfl, nq1, hw1⟩; have V1 := Lib.hid (show Bx w1 w.heap.size 32 sn sn sn sn by rw [hw1]; exact (Bx.new_ w 32 sn sn sn sn).drewN nq1); have B1 := Lib.hid (show Below w.heap.size w w1 by rw [hw1]; exact below_dn (show Below w.heap.size w (w.alloc (.cells #[sn, sn, sn, sn] 32)) from (by repeat' (first | with_reducible exact Below.refl _ _ | with_reducible assumption | with_reducible refine below_dn ?_ _ | with_reducible refine Below.drew ?_ | with_reducible refine below_step ?_ (by assumption) | with_reducible refine Below.setCell ?_ ?_ _ | with_reducible refine Below.alloc ?_ ?_ _ | with_reducible exact Nat.le_refl _ | (simp; done) | (simp; omega) | omega))) nq1); clear hw1; rw [a1]; obtain ⟨v0, v1, v2, v3, vf⟩ := V1.out.facts; have lv := V1.out.lt)
    obtain ⟨r0, r1, r2, r3, rf⟩ := (V1.out.setAll sn sn sn sn).facts
    refine bodyPost_ret (v := .tuple #[.agg #[sn, sn, sn, sn], .bool false]) (by simp [results, Try.results41, go_sem, r0, r1, r2, r3]) rfl ?_
    exact ⟨rfl, Bx.bel B1.out (Nat.le_refl _) _ _ _ _⟩
  cases a2 : inI s 2 24
  · go_enter Try.func41, Try.ntmps41
    go_wp2_with (first | (go_at_call_of 104 (Value.int IntKind.i64 q); refine (spec_l00In q 2 24 _).mono ?_; rintro e w1 ⟨rfl, nq1, hw1⟩; have V1 := Lib.hid (show Bx w1 w.heap.size 32 sn sn sn sn by rw [hw1]; exact (Bx.new_ w 32 sn sn sn sn).drewN nq1); have B1 := Lib.hid (show Below w.heap.size w w1 by rw [hw1]; exact below_dn (show Below w.heap.size w (w.alloc (.cells #[sn, sn, sn, sn] 32)) from (by repeat' (first | with_reducible exact Below.refl _ _ | with_reducible assumption | with_reducible refine below_dn ?_ _ | with_reducible refine Below.drew ?_ | with_reducible refine below_step ?_ (by assumption) | with_reducible refine Below.setCell ?_ ?_ _ | with_reducible refine Below.alloc ?_ ?_ _ | with_reducible exact Nat.le_refl _ | (simp; done) | (simp; omega) | omega))) nq1); clear hw1; rw [a1]) | (go_at_call_of 104 (Value.int IntKind.i64 s); refine (spec_l00In s 2 24 _).mono ?_; rintro e w2 ⟨rfl, nq2, hw2⟩; have V2 := Lib.hid (show Bx w2 w.heap.size 32 sn sn sn sn by rw [hw2]; exact (V1.out).drewN nq2); have B2 := Lib.hid (show Below w.heap.size w w2 by rw [hw2]; exact below_dn (B1.out) nq2); clear hw2; rw [a2]; obtain ⟨v0, v1, v2, v3, vf⟩ := V2.out.facts; have lv := V2.out.lt))
    obtain ⟨r0, r1, r2, r3, rf⟩ := (V2.out.setAll sn sn sn sn).facts
    refine bodyPost_ret (v := .tuple #[.agg #[sn, sn, sn, sn], .bool false]) (by simp [results, Try.results41, go_sem, r0, r1, r2, r3]) rfl ?_
    exact ⟨rfl, Bx.bel B2.out (Nat.le_refl _) _ _ _ _⟩
  obtain ⟨W, rfl, hW1, hW2⟩ : ∃ W : Nat, q = (W : Int) ∧ 2 ≤ W ∧ W ≤ 24 := by
    unfold inI at a1
    simp only [Bool.and_eq_true, decide_eq_true_eq] at a1
    exact ⟨q.toNat, by omega, by omega, by omega⟩
  obtain ⟨H, rfl, hH1, hH2⟩ : ∃ H : Nat, s = (H : Int) ∧ 2 ≤ H ∧ H ≤ 24 := by
    unfold inI at a2
    simp only [Bool.and_eq_true, decide_eq_true_eq] at a2
    exact ⟨s.toNat, by omega, by omega, by omega⟩
  rw [show ((W : Int)).toNat = W from rfl, show ((H : Int)).toNat = H from rfl]
  obtain ⟨N, hN⟩ : ∃ N : Nat, N = W * H := ⟨_, rfl⟩
  have hNN : (W : Int) * (H : Int) = (N : Int) := by rw [hN]; exact (Int.natCast_mul W H).symm
  have hN576 : N ≤ 576 := by rw [hN]; exact Nat.le_trans (Nat.mul_le_mul hW2 hH2) (by decide)
  rw [← hN, hNN]
  have HN := Lib.hid hN
  clear hN
  have hN0 : (0 : Int) ≤ (N : Int) := by omega
  have hN9 : (N : Int) ≤ 576 := by omega
  cases a3 : decide ((N : Int) ≤ 24)
  · have hgt := of_decide_eq_false a3
    have hgt2 : (24 : Int) < (N : Int) := by omega
    clear hgt
    go_enter Try.func41, Try.ntmps41
    go_wp2_with (first | (go_at_call_of 104 (Value.int IntKind.i64 (W : Int)); refine (spec_l00In (W : Int) 2 24 _).mono ?_; rintro e w1 ⟨rfl, nq1, hw1⟩; have V1 := Lib.hid (show Bx w1 w.heap.size 32 sn sn sn sn by rw [hw1]; exact (Bx.new_ w 32 sn sn sn sn).drewN nq1); have B1 := Lib.hid (show Below w.heap.size w w1 by rw [hw1]; exact below_dn (show Below w.heap.size w (w.alloc (.cells #[sn, sn, sn, sn] 32)) from (by repeat' (first | with_reducible exact Below.refl _ _ | with_reducible assumption | with_reducible refine below_dn ?_ _ | with_reducible refine Below.drew ?_ | with_reducible refine below_step ?_ (by assumption) | with_reducible refine Below.setCell ?_ ?_ _ | with_reducible refine Below.alloc ?_ ?_ _ | with_reducible exact Nat.le_refl _ | (simp; done) | (simp; omega) | omega))) nq1); clear hw1; rw [a1]) | (go_at_call_of 104 (Value.int IntKind.i64 (H : Int)); refine (spec_l00In (H : Int) 2 24 _).mono ?_; rintro e w2 ⟨rfl, nq2, hw2⟩; have V2 := Lib.hid (show Bx w2 w.heap.size 32 sn sn sn sn by rw [hw2]; exact (V1.out).drewN nq2); have B2 := Lib.hid (show Below w.heap.size w w2 by rw [hw2]; exact below_dn (B1.out) nq2); clear hw2; rw [a2]; obtain ⟨v0, v1, v2, v3, vf⟩ := V2.out.facts; have lv := V2.out.lt))
    obtain ⟨r0, r1, r2, r3, rf⟩ := (V2.out.setAll sn sn sn sn).facts
    refine bodyPost_ret (v := .tuple #[.agg #[sn, sn, sn, sn], .bool false]) (by simp [results, Try.results41, go_sem, r0, r1, r2, r3]) rfl ?_
    exact ⟨rfl, Bx.bel B2.out (Nat.le_refl _) _ _ _ _⟩
  have hN24 := of_decide_eq_true a3
  have hng : ¬ ((24 : Int) < (N : Int)) := by omega
  cases a4 : abv l
  · go_enter Try.func41, Try.ntmps41
    go_wp2_with (first | (go_at_call_of 104 (Value.int IntKind.i64 (W : Int)); refine (spec_l00In (W : Int) 2 24 _).mono ?_; rintro e w1 ⟨rfl, nq1, hw1⟩; have V1 := Lib.hid (show Bx w1 w.heap.size 32 sn sn sn sn by rw [hw1]; exact (Bx.new_ w 32 sn sn sn sn).drewN nq1); have B1 := Lib.hid (show Below w.heap.size w w1 by rw [hw1]; exact below_dn (show Below w.heap.size w (w.alloc (.cells #[sn, sn, sn, sn] 32)) from (by repeat' (first | with_reducible exact Below.refl _ _ | with_reducible assumption | with_reducible refine below_dn ?_ _ | with_reducible refine Below.drew ?_ | with_reducible refine below_step ?_ (by assumption) | with_reducible refine Below.setCell ?_ ?_ _ | with_reducible refine Below.alloc ?_ ?_ _ | with_reducible exact Nat.le_refl _ | (simp; done) | (simp; omega) | omega))) nq1); clear hw1; rw [a1]) | (go_at_call_of 104 (Value.int IntKind.i64 (H : Int)); refine (spec_l00In (H : Int) 2 24 _).mono ?_; rintro e w2 ⟨rfl, nq2, hw2⟩; have V2 := Lib.hid (show Bx w2 w.heap.size 32 sn sn sn sn by rw [hw2]; exact (V1.out).drewN nq2); have B2 := Lib.hid (show Below w.heap.size w w2 by rw [hw2]; exact below_dn (B1.out) nq2); clear hw2; rw [a2]) | (go_at_call_of 91 (Value.float FloatKind.f32 l); refine (spec_l03Above l _).mono ?_; rintro e w3 ⟨rfl, nq3, hw3⟩; have V3 := Lib.hid (show Bx w3 w.heap.size 32 sn sn sn sn by rw [hw3]; exact (V2.out).drewN nq3); have B3 := Lib.hid (show Below w.heap.size w w3 by rw [hw3]; exact below_dn (B2.out) nq3); clear hw3; rw [a4]; obtain ⟨v0, v1, v2, v3, vf⟩ := V3.out.facts; have lv := V3.out.lt))
    obtain ⟨r0, r1, r2, r3, rf⟩ := (V3.out.setAll sn sn sn sn).facts
    refine bodyPost_ret (v := .tuple #[.agg #[sn, sn, sn, sn], .bool false]) (by simp [results, Try.results41, go_sem, r0, r1, r2, r3]) rfl ?_
    exact ⟨rfl, Bx.bel B3.out (Nat.le_refl _) _ _ _ _⟩
  cases a5 : abv x
  · go_enter Try.func41, Try.ntmps41
    go_wp2_with (first | (go_at_call_of 104 (Value.int IntKind.i64 (W : Int)); refine (spec_l00In (W : Int) 2 24 _).mono ?_; rintro e w1 ⟨rfl, nq1, hw1⟩; have V1 := Lib.hid (show Bx w1 w.heap.size 32 sn sn sn sn by rw [hw1]; exact (Bx.new_ w 32 sn sn sn sn).drewN nq1); have B1 := Lib.hid (show Below w.heap.size w w1 by rw [hw1]; exact below_dn (show Below w.heap.size w (w.alloc (.cells #[sn, sn, sn, sn] 32)) from (by repeat' (first | with_reducible exact Below.refl _ _ | with_reducible assumption | with_reducible refine below_dn ?_ _ | with_reducible refine Below.drew ?_ | with_reducible refine below_step ?_ (by assumption) | with_reducible refine Below.setCell ?_ ?_ _ | with_reducible refine Below.alloc ?_ ?_ _ | with_reducible exact Nat.le_refl _ | (simp; done) | (simp; omega) | omega))) nq1); clear hw1; rw [a1]) | (go_at_call_of 104 (Value.int IntKind.i64 (H : Int)); refine (spec_l00In (H : Int) 2 24 _).mono ?_; rintro e w2 ⟨rfl, nq2, hw2⟩; have V2 := Lib.hid (show Bx w2 w.heap.size 32 sn sn sn sn by rw [hw2]; exact (V1.out).drewN nq2); have B2 := Lib.hid (show Below w.heap.size w w2 by rw [hw2]; exact below_dn (B1.out) nq2); clear hw2; rw [a2]) | (go_at_call_of 91 (Value.float FloatKind.f32 l); refine (spec_l03Above l _).mono ?_; rintro e w3 ⟨rfl, nq3, hw3⟩; have V3 := Lib.hid (show Bx w3 w.heap.size 32 sn sn sn sn by rw [hw3]; exact (V2.out).drewN nq3); have B3 := Lib.hid (show Below w.heap.size w w3 by rw [hw3]; exact below_dn (B2.out) nq3); clear hw3; rw [a4]) | (go_at_call_of 91 (Value.float FloatKind.f32 x); refine (spec_l03Above x _).mono ?_; rintro e w4 ⟨rfl, nq4, hw4⟩; have V4 := Lib.hid (show Bx w4 w.heap.size 32 sn sn sn sn by rw [hw4]; exact (V3.out).drewN nq4); have B4 := Lib.hid (show Below w.heap.size w w4 by rw [hw4]; exact below_dn (B3.out) nq4); clear hw4; rw [a5]; obtain ⟨v0, v1, v2, v3, vf⟩ := V4.out.facts; have lv := V4.out.lt))
    obtain ⟨r0, r1, r2, r3, rf⟩ := (V4.out.setAll sn sn sn sn).facts
    refine bodyPost_ret (v := .tuple #[.agg #[sn, sn, sn, sn], .bool false]) (by simp [results, Try.results41, go_sem, r0, r1, r2, r3]) rfl ?_
    exact ⟨rfl, Bx.bel B4.out (Nat.le_refl _) _ _ _ _⟩
  show Calls _ _ _ _ (RetM (okC N N N (netL l W H N).length (netE l x W H)) N N N (netL l W H N).length (netE l x W H) w)
  rw [show netE l x W H = netEL l x W (netL l W H N) by unfold netE; rw [← HN.out]]
  go_enter Try.func41, Try.ntmps41
  go_wp2_with (first | (go_at_call_of 104 (Value.int IntKind.i64 (W : Int)); refine (spec_l00In (W : Int) 2 24 _).mono ?_; rintro e w1 ⟨rfl, nq1, hw1⟩; have V1 := Lib.hid (show Bx w1 w.heap.size 32 sn sn sn sn by rw [hw1]; exact (Bx.new_ w 32 sn sn sn sn).drewN nq1); have B1 := Lib.hid (show Below w.heap.size w w1 by rw [hw1]; exact below_dn (show Below w.heap.size w (w.alloc (.cells #[sn, sn, sn, sn] 32)) from (by repeat' (first | with_reducible exact Below.refl _ _ | with_reducible assumption | with_reducible refine below_dn ?_ _ | with_reducible refine Below.drew ?_ | with_reducible refine below_step ?_ (by assumption) | with_reducible refine Below.setCell ?_ ?_ _ | with_reducible refine Below.alloc ?_ ?_ _ | with_reducible exact Nat.le_refl _ | (simp; done) | (simp; omega) | omega))) nq1); clear hw1; rw [a1]) | (go_at_call_of 104 (Value.int IntKind.i64 (H : Int)); refine (spec_l00In (H : Int) 2 24 _).mono ?_; rintro e w2 ⟨rfl, nq2, hw2⟩; have V2 := Lib.hid (show Bx w2 w.heap.size 32 sn sn sn sn by rw [hw2]; exact (V1.out).drewN nq2); have B2 := Lib.hid (show Below w.heap.size w w2 by rw [hw2]; exact below_dn (B1.out) nq2); clear hw2; rw [a2]) | (go_at_call_of 91 (Value.float FloatKind.f32 l); refine (spec_l03Above l _).mono ?_; rintro e w3 ⟨rfl, nq3, hw3⟩; have V3 := Lib.hid (show Bx w3 w.heap.size 32 sn sn sn sn by rw [hw3]; exact (V2.out).drewN nq3); have B3 := Lib.hid (show Below w.heap.size w w3 by rw [hw3]; exact below_dn (B2.out) nq3); clear hw3; rw [a4]) | (go_at_call_of 91 (Value.float FloatKind.f32 x); refine (spec_l03Above x _).mono ?_; rintro e w4 ⟨rfl, nq4, hw4⟩; have V4 := Lib.hid (show Bx w4 w.heap.size 32 sn sn sn sn by rw [hw4]; exact (V3.out).drewN nq4); have B4 := Lib.hid (show Below w.heap.size w w4 by rw [hw4]; exact below_dn (B3.out) nq4); clear hw4; rw [a5]))
  clear V1 B1 V2 B2 V3 B3
  have hlv := V4.out.lt
  have y0 : w.heap.size ≤ w4.heap.size := Nat.le_of_lt hlv
  go_loopw [11] (fun i wr => ∃ (yy k : Nat) (A1 A2 A3 A4 : Option Addr) (c1 c2 c3 c4 : Nat) (D1 : D4), yy ≤ H ∧ k = yy * W ∧ i = .int .i64 yy ∧ (k = 0 → c1 = 0 ∧ c2 = 0 ∧ c3 = 0) ∧ c4 = 0 ∧ SimD k k k 0 D1 (netEL l x W []) ∧ ChS w.heap.size w4 A1 A2 A3 A4 c1 c2 c3 c4 k 0 D1 wr) (fun i _ => H - (intOf i).toNat)
  case atStart => exact ⟨0, 0, none, none, none, none, 0, 0, 0, 0, netEL l x W [], Nat.zero_le _, by rw [Nat.zero_mul], rfl, fun _ => ⟨rfl, rfl, rfl⟩, rfl, SimD.none _ _, Own.nil _ _ _, Bx.new_ _ _ _ _ _ _, V4.out.alloc _, (by repeat' (first | with_reducible exact Below.refl _ _ | with_reducible assumption | with_reducible refine below_dn ?_ _ | with_reducible refine Below.drew ?_ | with_reducible refine below_step ?_ (by assumption) | with_reducible refine Below.setCell ?_ ?_ _ | with_reducible refine Below.alloc ?_ ?_ _ | with_reducible exact Nat.le_refl _ | (simp; done) | (simp; omega) | omega)), by simp⟩
  case round =>
    obtain ⟨yy, k0, A1, A2, A3, A4, c1, c2, c3, c4, D1, hy, hk0, rfl, hC0, hC4, hS, hC⟩ := hrel
    have HK0 := Lib.hid hk0
    have HC0 := Lib.hid hC0
    have HC4 := Lib.hid hC4
    have HS := Lib.hid hS
    have HC := Lib.hid hC
    by_cases hlty : yy < H
    · have hy0 : (0 : Int) ≤ (yy : Int) := by omega
      have hy1 : (yy : Int) < (H : Int) := by omega
      have hrow : k0 + W ≤ N := by
        have h1 : (yy + 1) * W ≤ H * W := Nat.mul_le_mul_right W hlty
        rw [Nat.add_mul, Nat.one_mul, ← hk0] at h1
        rw [HN.out, Nat.mul_comm W H]
        exact h1
      clear hk0 hC0 hC4 hS hC
      go_wp2_with fail
      rename World => wo
      go_loopw [12] (fun i wr => ∃ (xx k : Nat) (A1 A2 A3 A4 : Option Addr) (c1 c2 c3 c4 : Nat) (D1 : D4), xx ≤ W ∧ k = k0 + xx ∧ i = .int .i64 xx ∧ (k = 0 → c1 = 0 ∧ c2 = 0 ∧ c3 = 0) ∧ c4 = 0 ∧ SimD k k k 0 D1 (netEL l x W []) ∧ ChS w.heap.size w4 A1 A2 A3 A4 c1 c2 c3 c4 k 0 D1 wr) (fun i _ => W - (intOf i).toNat)
      case atStart => exact ⟨0, k0, A1, A2, A3, A4, c1, c2, c3, c4, D1, Nat.zero_le _, rfl, rfl, HC0.out, HC4.out, HS.out, HC.out⟩
      case round =>
        clear HC0 HC4 HS HC
        obtain ⟨xx, k, A1, A2, A3, A4, c1, c2, c3, c4, D1, hx, hk, rfl, hC0, hC4, hS, hC⟩ := hrel
        have HK := Lib.hid hk
        have HC0 := Lib.hid hC0
        have HC4 := Lib.hid hC4
        have HS := Lib.hid hS
        have HC := Lib.hid hC
        by_cases hltx : xx < W
        · have hx0 : (0 : Int) ≤ (xx : Int) := by omega
          have hx1 : (xx : Int) < (W : Int) := by omega
          have hkN : k < N := by omega
          obtain ⟨hm1, hm2⟩ := net_at yy xx hltx
          rw [← HK0.out, ← hk] at hm1 hm2
          have HP := Lib.hid (show ∀ (T : Nat → Question → Nat) (n : Nat) (T' : Nat → Question → Nat) (n' : Nat), SimP ⟨opV .mul .f32 (i2f (xx : Int)) l T n, Op.negFloat .f32 (opV .mul .f32 (i2f (yy : Int)) l T' n'), 0⟩ (netP l W k) from fun T n T' n' => by
            unfold netP
            rw [hm1, hm2]
            exact ⟨mul_sim (Sim.refl _ _) (Sim.refl _ _) T n, neg_sim (opV_lt32 _ _ _ _ _) (opV_lt32 _ _ _ _ _) (mul_sim (Sim.refl _ _) (Sim.refl _ _) T' n'), Sim.refl _ _⟩)
          have hyz : yy = 0 ↔ k < W := by
            rw [← hm2]
            exact Nat.div_eq_zero_iff_lt (by omega)
          have HYZ := Lib.hid hyz
          obtain ⟨wt, hwt⟩ : ∃ wt : Nat, wt = if k < W then 0 else x := ⟨_, rfl⟩
          have HWT := Lib.hid hwt
          clear hm1 hm2 hk hC0 hC4 hS hC hyz hwt
          go_upto_if 53 with fail
          go_cut [13] (fun s wx => s = .float .f32 wt ∧ Below wr.heap.size wr wx)
          case first =>
            by_cases hy : yy = 0
            · have hyq : ((yy : Int) == 0) = true := by rw [hy]; rfl
              have HYK := Lib.hid (HYZ.out.1 hy)
              clear hy
              go_wp2_with fail
              go_meet
              exact ⟨by rw [HWT.out, if_pos HYK.out], (by repeat' (first | with_reducible exact Below.refl _ _ | with_reducible assumption | with_reducible refine below_dn ?_ _ | with_reducible refine Below.drew ?_ | with_reducible refine below_step ?_ (by assumption) | with_reducible refine Below.setCell ?_ ?_ _ | with_reducible refine Below.alloc ?_ ?_ _ | with_reducible exact Nat.le_refl _ | (simp; done) | (simp; omega) | omega))⟩
            · have hyq : ((yy : Int) == 0) = false := by simpa using hy
              have HYK := Lib.hid (fun h => hy (HYZ.out.2 h))
              clear hy
              go_wp2_with fail
              go_meet
              exact ⟨by rw [HWT.out, if_neg HYK.out], (by repeat' (first | with_reducible exact Below.refl _ _ | with_reducible assumption | with_reducible refine below_dn ?_ _ | with_reducible refine Below.drew ?_ | with_reducible refine below_step ?_ (by assumption) | with_reducible refine Below.setCell ?_ ?_ _ | with_reducible refine Below.alloc ?_ ?_ _ | with_reducible exact Nat.le_refl _ | (simp; done) | (simp; omega) | omega))⟩
          obtain ⟨rfl, hbc⟩ := hcut
          have HC1 := Lib.hid (HC.out.go hbc)
          clear hbc HC
          go_wp2_with fail
          refine (spec_l03Put w4.heap.size w4.heap.size A1 A2 A3 A4 c1 c2 c3 c4 k k k 0 D1 ⟨_, _, _⟩ wt _ (HC1.out.go (by repeat' (first | with_reducible exact Below.refl _ _ | with_reducible assumption | with_reducible refine below_dn ?_ _ | with_reducible refine Below.drew ?_ | with_reducible refine below_step ?_ (by assumption) | with_reducible refine Below.setCell ?_ ?_ _ | with_reducible refine Below.alloc ?_ ?_ _ | with_reducible exact Nat.le_refl _ | (simp; done) | (simp; omega) | omega))).2.1 (HC1.out.go (by repeat' (first | with_reducible exact Below.refl _ _ | with_reducible assumption | with_reducible refine below_dn ?_ _ | with_reducible refine Below.drew ?_ | with_reducible refine below_step ?_ (by assumption) | with_reducible refine Below.setCell ?_ ?_ _ | with_reducible refine Below.alloc ?_ ?_ _ | with_reducible exact Nat.le_refl _ | (simp; done) | (simp; omega) | omega))).1 ⟨fun h => (HC0.out h).1, fun h => (HC0.out h).2.1, fun h => (HC0.out h).2.2, fun _ => HC4.out⟩ (Nat.le_refl _) (by have := HC1.out.2.2.2.2; simp; omega) (by omega) (by omega) (by omega)).mono ?_
          rintro e w5 hr5
          obtain ⟨rfl, F1, F2, F3, f1, f2, f3, hC5⟩ := (HC1.out.go (by repeat' (first | with_reducible exact Below.refl _ _ | with_reducible assumption | with_reducible refine below_dn ?_ _ | with_reducible refine Below.drew ?_ | with_reducible refine below_step ?_ (by assumption) | with_reducible refine Below.setCell ?_ ?_ _ | with_reducible refine Below.alloc ?_ ?_ _ | with_reducible exact Nat.le_refl _ | (simp; done) | (simp; omega) | omega))).ret hlv hr5
          clear hr5
          obtain ⟨D5, hC5, hS5⟩ : ∃ D5, ChS w.heap.size w4 F1 F2 F3 A4 f1 f2 f3 c4 (k + 1) 0 D5 w5 ∧ SimD (k + 1) (k + 1) (k + 1) 0 D5 (netEL l x W []) :=
            ⟨_, hC5, HS.out.put (HP.out _ _ _ _) (HP.out _ _ _ _) (by show Sim .f32 wt (if k < W then 0 else x); rw [← HWT.out]; exact Sim.refl _ _)⟩
          have HC5 := Lib.hid hC5
          have HS5 := Lib.hid hS5
          clear hC5 hS5 HC1 HS HP
          go_wp2_with fail
          go_roundw
          case rel => exact ⟨xx + 1, k + 1, F1, F2, F3, A4, f1, f2, f3, c4, D5, by omega, by have := HK.out; omega, by go_num, fun h => absurd h (Nat.succ_ne_zero _), HC4.out, HS5.out, HC5.out⟩
          case measure => simp [intOf]; omega
        · obtain rfl : W = xx := by omega
          clear hk hC0 hC4 hS hC
          go_wp2_with fail
          go_roundw
          case rel => exact ⟨yy + 1, k, A1, A2, A3, A4, c1, c2, c3, c4, D1, by omega, by rw [HK.out, HK0.out, Nat.add_mul, Nat.one_mul], by go_num, HC0.out, HC4.out, HS.out, HC.out⟩
          case measure => simp [intOf]; omega
    · obtain rfl : H = yy := by omega
      obtain rfl : k0 = N := by rw [hk0, HN.out, Nat.mul_comm]
      clear hk0 hC0 hC4 hS hC HC0 HK0
      rename World => wo
      go_wp2_with fail
      go_loopw [14] (fun i wr => ∃ (k m : Nat) (L : List Rd) (A1 A2 A3 A4 : Option Addr) (c1 c2 c3 c4 : Nat) (D1 : D4), k ≤ k0 ∧ i = .int .i64 k ∧ L = netL l W H k ∧ L.length = m ∧ (m = 0 → c4 = 0) ∧ SimD k0 k0 k0 m D1 (netEL l x W L) ∧ ChS w.heap.size w4 A1 A2 A3 A4 c1 c2 c3 c4 k0 m D1 wr) (fun i _ => k0 - (intOf i).toNat)
      case atStart => exact ⟨0, 0, [], A1, A2, A3, A4, c1, c2, c3, c4, D1, Nat.zero_le _, rfl, rfl, rfl, fun _ => HC4.out, HS.out, HC.out⟩
      case round =>
        clear HC4 HS HC
        obtain ⟨k, m, L, A1, A2, A3, A4, c1, c2, c3, c4, D1, hk, rfl, hL, hm, hC4, hS, hC⟩ := hrel
        have HL := Lib.hid hL
        have HM := Lib.hid hm
        have HC4 := Lib.hid hC4
        have HS := Lib.hid hS
        have HC := Lib.hid hC
        by_cases hlt : k < k0
        · have hk0 : (0 : Int) ≤ (k : Int) := by omega
          have hk1 : (k : Int) < (k0 : Int) := by omega
          obtain ⟨xx, hxx⟩ : ∃ xx : Nat, xx = k % W := ⟨_, rfl⟩
          obtain ⟨yy, hyy⟩ : ∃ yy : Nat, yy = k / W := ⟨_, rfl⟩
          have hmod : (k : Int).tmod (W : Int) = (xx : Int) := by rw [hxx, Int.tmod_eq_emod_of_nonneg (by omega)]; rfl
          have hdiv : (k : Int).tdiv (W : Int) = (yy : Int) := by rw [hyy, Int.tdiv_eq_ediv_of_nonneg (by omega)]; rfl
          have hxl : xx < W := by rw [hxx]; exact Nat.mod_lt _ (by omega)
          have hyl : yy ≤ k := by rw [hyy]; exact Nat.div_le_self _ _
          have hy0 : (0 : Int) ≤ (yy : Int) := by omega
          have hy1 : (yy : Int) ≤ 576 := by omega
          have hyw : IntKind.i64.wrap (yy : Int) = (yy : Int) := by rw [IntKind.wrap_i64]; omega
          have HXX := Lib.hid hxx
          have HYY := Lib.hid hyy
          clear hxx hyy
          have hW0 : ¬ (W = 0) := by omega
          have hml : m ≤ 2 * k := by rw [← hm, hL]; exact netL_len _ _ _ _
          clear hL hm hC4 hS hC
          go_upto_if 78 with fail
          go_cut [] (fun wx => ∃ (m' : Nat) (L' : List Rd) (A1 A2 A3 A4 : Option Addr) (c1 c2 c3 c4 : Nat) (D1 : D4), L' = netA l W k L ∧ L'.length = m' ∧ m' ≤ m + 1 ∧ (m' = 0 → c4 = 0) ∧ SimD k0 k0 k0 m' D1 (netEL l x W L') ∧ ChS w.heap.size w4 A1 A2 A3 A4 c1 c2 c3 c4 k0 m' D1 wx)
          case first =>
            obtain ⟨wc, rfl⟩ : ∃ z : World, z = wr := ⟨wr, rfl⟩
            by_cases ht : xx + 1 < W
            · have hti : (xx : Int) < (W : Int) - 1 := by omega
              have HTT := Lib.hid ht
              clear ht
              obtain ⟨i0, hi, hz0, hz1, hz2⟩ := info_parts infoR
              have HTa := Lib.hid (Tx.new_ wc 91 (.int .i64 ((k : Int))) (.int .i64 ((k : Int) + 1)) (.float .f32 l))
              have HCa := Lib.hid (HC.out.go (W' := wc.alloc (.cells #[.int .i64 ((k : Int)), .int .i64 ((k : Int) + 1), .float .f32 l] 91)) (by repeat' (first | with_reducible exact Below.refl _ _ | with_reducible assumption | with_reducible refine below_dn ?_ _ | with_reducible refine Below.drew ?_ | with_reducible refine below_step ?_ (by assumption) | with_reducible refine Below.setCell ?_ ?_ _ | with_reducible refine Below.alloc ?_ ?_ _ | with_reducible exact Nat.le_refl _ | (simp; done) | (simp; omega) | omega)))
              obtain ⟨g0, g1, g2, g3, gf⟩ := HC.out.2.1.facts
              have lg := HC.out.2.1.lt
              go_wp2_with (at_builtin; refine wpList_app rfl (.tmp 80) (.tmp 86) 30 rfl 91 i0 _ 3 24 Try.underlying30 hi hz0 hz1 hz2 rfl (by decide) A4 (m) c4 w4.heap.size (rc D1.R) rfl HCa.out.1.s4 HC4.out (by have := HCa.out.2.2.2.2; omega) ⟨wc.heap.size, 0, none⟩ 1 1 (rc (fun _ => ⟨(k : Int), (k : Int) + 1, l⟩)) rfl (new3_rc _ _ 91 ⟨(k : Int), (k : Int) + 1, l⟩ HTa.out) (rc_one _) (by decide) (by simp only [maxLen]; omega) (by omega) ?_; intro N4 y4 u2 hs2 hR _; have C5 := Lib.hid (HCa.out.app hlv ⟨(k : Int), (k : Int) + 1, l⟩ (hs2.congr (app_rc D1.R m _)) hR); have X3 := HCa.out.2.1.wr hR (HCa.out.1.s4.chain HCa.out.2.1 (by decide)); obtain ⟨g0, g1, g2, g3, gf⟩ := X3.facts; have lg := X3.lt)
              go_meet
              exact ⟨m + 1, _, A1, A2, A3, N4, c1, c2, c3, y4, _, (show _ = netA l W k L from (if_pos (by rw [← HXX.out]; exact HTT.out)).symm), by rw [List.length_append, HM.out]; rfl, Nat.le_refl _, fun h => absurd h (Nat.succ_ne_zero _), HS.out.rodL (E := netEL l x W L) HM.out _, C5.out⟩
            · have hti : ¬ ((xx : Int) < (W : Int) - 1) := by omega
              have HTT := Lib.hid ht
              clear ht
              go_wp2_with fail
              go_meet
              exact ⟨m, L, A1, A2, A3, A4, c1, c2, c3, c4, D1, (if_neg (by rw [← HXX.out]; exact HTT.out)).symm, HM.out, by omega, HC4.out, HS.out, HC.out⟩
          have HLO := HL
          clear HS HC HC4 HL HM
          obtain ⟨m', L', A1, A2, A3, A4, c1, c2, c3, c4, D1, hL, hm, hml', hC4, hS, hC⟩ := hcut
          have HL := Lib.hid hL
          have HM := Lib.hid hm
          have HC4 := Lib.hid hC4
          have HS := Lib.hid hS
          have HC := Lib.hid hC
          clear hL hm hC4 hS hC
          have HL0 := HL
          clear HL
          go_upto_if 94 with fail
          by_cases ht : yy + 1 < H
          · have hti : (yy : Int) < (H : Int) - 1 := by omega
            have HTT := Lib.hid ht
            clear ht
            obtain ⟨i0, hi, hz0, hz1, hz2⟩ := info_parts infoR
            have HTa := Lib.hid (Tx.new_ wc 91 (.int .i64 ((k : Int))) (.int .i64 ((k : Int) + (W : Int))) (.float .f32 l))
            have HCa := Lib.hid (HC.out.go (W' := wc.alloc (.cells #[.int .i64 ((k : Int)), .int .i64 ((k : Int) + (W : Int)), .float .f32 l] 91)) (by repeat' (first | with_reducible exact Below.refl _ _ | with_reducible assumption | with_reducible refine below_dn ?_ _ | with_reducible refine Below.drew ?_ | with_reducible refine below_step ?_ (by assumption) | with_reducible refine Below.setCell ?_ ?_ _ | with_reducible refine Below.alloc ?_ ?_ _ | with_reducible exact Nat.le_refl _ | (simp; done) | (simp; omega) | omega)))
            obtain ⟨g0, g1, g2, g3, gf⟩ := HC.out.2.1.facts
            have lg := HC.out.2.1.lt
            go_wp2_with (at_builtin; refine wpList_app rfl (.tmp 96) (.tmp 103) 30 rfl 91 i0 _ 3 24 Try.underlying30 hi hz0 hz1 hz2 rfl (by decide) A4 (m') c4 w4.heap.size (rc D1.R) rfl HCa.out.1.s4 HC4.out (by have := HCa.out.2.2.2.2; omega) ⟨wc.heap.size, 0, none⟩ 1 1 (rc (fun _ => ⟨(k : Int), (k : Int) + (W : Int), l⟩)) rfl (new3_rc _ _ 91 ⟨(k : Int), (k : Int) + (W : Int), l⟩ HTa.out) (rc_one _) (by decide) (by simp only [maxLen]; omega) (by omega) ?_; intro N4 y4 u2 hs2 hR _; have C5 := Lib.hid (HCa.out.app hlv ⟨(k : Int), (k : Int) + (W : Int), l⟩ (hs2.congr (app_rc D1.R m' _)) hR); have X3 := HCa.out.2.1.wr hR (HCa.out.1.s4.chain HCa.out.2.1 (by decide)); obtain ⟨g0, g1, g2, g3, gf⟩ := X3.facts; have lg := X3.lt)
            go_roundw
            case rel => exact ⟨k + 1, m' + 1, _, A1, A2, A3, N4, c1, c2, c3, y4, _, by omega, by go_num, (show _ = netB l W H k (netA l W k (netL l W H k)) from by unfold netB; rw [if_pos (by rw [← HYY.out]; exact HTT.out), HL0.out, HLO.out]), by rw [List.length_append, HM.out]; rfl, fun h => absurd h (Nat.succ_ne_zero _), HS.out.rodL (E := netEL l x W L') HM.out _, C5.out⟩
            case measure => simp [intOf]; omega
          · have hti : ¬ ((yy : Int) < (H : Int) - 1) := by omega
            have HTT := Lib.hid ht
            clear ht
            go_wp2_with fail
            go_roundw
            case rel => exact ⟨k + 1, m', L', A1, A2, A3, A4, c1, c2, c3, c4, D1, by omega, by go_num, (show L' = netB l W H k (netA l W k (netL l W H k)) from by unfold netB; rw [if_neg (by rw [← HYY.out]; exact HTT.out), HL0.out, HLO.out]), HM.out, HC4.out, HS.out, HC.out⟩
            case measure => simp [intOf]; omega
        · obtain rfl : k0 = k := by omega
          obtain ⟨wm, rfl⟩ : ∃ z : World, z = wr := ⟨wr, rfl⟩
          have HLL := HL
          have HMM := HM
          have XM := Lib.hid hC.2.1
          have VM := Lib.hid hC.2.2.1
          have OM := Lib.hid hC.1
          have BM := Lib.hid (show Below w.heap.size w wm from B4.out.trans (hC.2.2.2.1.mono y0))
          have SM := Lib.hid hS
          have DM := Lib.hid hC.1.bds
          clear hL hm hC4 hS hC HL HM HC4 HS HC
          obtain ⟨t0, t1, t2, t3, tf⟩ := XM.out.facts
          have lt := XM.out.lt
          go_wp2_with fail
          refine (spec_l03Give A1 A2 A3 A4 c1 c2 c3 c4 k0 k0 k0 m _ (D1) _ OM.out).mono ?_
          rintro e w9 ⟨rfl, hb9⟩
          have V9 := Lib.hid (VM.out.go hb9)
          have B9 := Lib.hid (below_step BM.out hb9)
          have O9 := Lib.hid (OM.out.go hb9)
          have D9_ := Lib.hid (DM.out.mono (Nat.le_refl _) hb9.size)
          clear hb9 t0 t1 t2 t3 tf lt VM BM OM DM
          obtain ⟨v0, v1, v2, v3, vf⟩ := V9.out.facts
          have lv := V9.out.lt
          rw [okC_sim SM.out]
          cases q3 : okC k0 k0 k0 m (netEL l x W L)
          · unfold giveV
            go_wp2_with fail
            obtain ⟨r0, r1, r2, r3, rf⟩ := (V9.out.setAll sn sn sn sn).facts
            refine bodyPost_ret (v := .tuple #[.agg #[sn, sn, sn, sn], .bool false]) (by simp [results, Try.results41, go_sem, r0, r1, r2, r3]) rfl ?_
            rw [← HLL.out, HMM.out, q3]
            exact ⟨rfl, Bx.bel B9.out (by omega) _ _ _ _⟩
          · unfold giveV
            have WF := Lib.hid (show Wr (fun k => k = w.heap.size) w9 ((((w9.setCell ⟨w.heap.size, 0, none⟩ (.slice A1 k0 c1)).setCell ⟨w.heap.size, 1, none⟩ (.slice A2 k0 c2)).setCell ⟨w.heap.size, 2, none⟩ (.slice A3 k0 c3)).setCell ⟨w.heap.size, 3, none⟩ (.slice A4 m c4)) from by
              refine Wr.setCell (Wr.setCell (Wr.setCell (Wr.setCell (Wr.refl _ _) ?_ _) ?_ _) ?_ _) ?_ _ <;> rfl)
            go_wp2_with fail
            obtain ⟨r0, r1, r2, r3, rf⟩ := (V9.out.setAll (.slice A1 k0 c1) (.slice A2 k0 c2) (.slice A3 k0 c3) (.slice A4 m c4)).facts
            refine bodyPost_ret (v := .tuple #[.agg #[.slice A1 k0 c1, .slice A2 k0 c2, .slice A3 k0 c3, .slice A4 m c4], .bool true]) (by simp [results, Try.results41, go_sem, r0, r1, r2, r3]) rfl ?_
            rw [← HLL.out, HMM.out, q3]
            exact ⟨⟨A1, A2, A3, A4, c1, c2, c3, c4, D1, rfl, SM.out, (O9.out.off V9.out WF.out).mono y0, D9_.out.mono y0 WF.out.size⟩, Bx.bel B9.out (by omega) _ _ _ _⟩
end Go.Proofs.Ytlhgaihfghobmaa
