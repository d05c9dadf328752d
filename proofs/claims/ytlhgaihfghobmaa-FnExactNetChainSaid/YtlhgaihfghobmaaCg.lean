/- How a law counts a chain that came in; how such a chain is opened. -/
import Derived.Test.YtlhgaihfghobmaaCf
import Derived.Deep.Fields
import Derived.ChangeSame
namespace Go.Proofs.Ytlhgaihfghobmaa
open Go.ChangeShapes Go.WideShapes Go.ChangeAt Go.RowKit Go.Deep

set_option maxHeartbeats 1000000 in
theorem laws_szChain_fit (A1 A2 A3 A4 : Option Addr) (c1 c2 c3 c4 n1 n2 n3 n4 : Nat) (h : n1 + n2 + n3 + n4 ≤ 1048576) (w : World) :
    Calls Try.prog 23 #[.agg #[.slice A1 n1 c1, .slice A2 n2 c2, .slice A3 n3 c3, .slice A4 n4 c4], .int .i64 1048576] w (RetV (.int .i64 (1048576 - n1 - n2 - n3 - n4)) w) := by
  have j1 : (0 : Int) ≤ (n1 : Int) ∧ (n1 : Int) ≤ 1048576 := by omega
  have j2 : (0 : Int) ≤ (n2 : Int) ∧ (n2 : Int) ≤ 1048576 - n1 := by omega
  have j3 : (0 : Int) ≤ (n3 : Int) ∧ (n3 : Int) ≤ 1048576 - n1 - n2 := by omega
  have j4 : (0 : Int) ≤ (n4 : Int) ∧ (n4 : Int) ≤ 1048576 - n1 - n2 - n3 := by omega
  have g1 : ¬ ((1048576 : Int) - n1 < 0) := by omega
  have g2 : ¬ ((1048576 : Int) - n1 - n2 < 0) := by omega
  have g3 : ¬ ((1048576 : Int) - n1 - n2 - n3 < 0) := by omega
  have g4 : ¬ ((1048576 : Int) - n1 - n2 - n3 - n4 < 0) := by omega
  go_enter Try.func23, Try.ntmps23
  go_wp2
  go_ret
  exact ⟨rfl, (by repeat' (first | with_reducible exact Below.refl _ _ | with_reducible assumption | with_reducible refine below_dn ?_ _ | with_reducible refine Below.drew ?_ | with_reducible refine below_step ?_ (by assumption) | with_reducible refine Below.setCell ?_ ?_ _ | with_reducible refine Below.alloc ?_ ?_ _ | with_reducible exact Nat.le_refl _ | (simp; done) | (simp; omega) | omega))⟩
set_option maxHeartbeats 2000000 in
theorem laws_szChain_over (A1 A2 A3 A4 : Option Addr) (c1 c2 c3 c4 n1 n2 n3 n4 : Nat) (k1 : n1 ≤ maxLen) (k2 : n2 ≤ maxLen) (k3 : n3 ≤ maxLen) (k4 : n4 ≤ maxLen) (h : 1048576 < n1 + n2 + n3 + n4) (w : World) :
    Calls Try.prog 23 #[.agg #[.slice A1 n1 c1, .slice A2 n2 c2, .slice A3 n3 c3, .slice A4 n4 c4], .int .i64 1048576] w (RetV (.int .i64 (-1)) w) := by
  unfold maxLen at k1 k2 k3 k4
  by_cases h1 : n1 ≤ 1048576
  · by_cases h2 : n1 + n2 ≤ 1048576
    · by_cases h3 : n1 + n2 + n3 ≤ 1048576
      · have g1 : ¬ ((1048576 : Int) - n1 < 0) := by omega
        have g2 : ¬ ((1048576 : Int) - n1 - n2 < 0) := by omega
        have g3 : ¬ ((1048576 : Int) - n1 - n2 - n3 < 0) := by omega
        have g4 : ((1048576 : Int) - n1 - n2 - n3 - n4 < 0) := by omega
        go_enter Try.func23, Try.ntmps23
        go_wp2
        go_ret
        exact ⟨rfl, (by repeat' (first | with_reducible exact Below.refl _ _ | with_reducible assumption | with_reducible refine below_dn ?_ _ | with_reducible refine Below.drew ?_ | with_reducible refine below_step ?_ (by assumption) | with_reducible refine Below.setCell ?_ ?_ _ | with_reducible refine Below.alloc ?_ ?_ _ | with_reducible exact Nat.le_refl _ | (simp; done) | (simp; omega) | omega))⟩
      · have g1 : ¬ ((1048576 : Int) - n1 < 0) := by omega
        have g2 : ¬ ((1048576 : Int) - n1 - n2 < 0) := by omega
        have g3 : ((1048576 : Int) - n1 - n2 - n3 < 0) := by omega
        go_enter Try.func23, Try.ntmps23
        go_wp2
        go_ret
        exact ⟨rfl, (by repeat' (first | with_reducible exact Below.refl _ _ | with_reducible assumption | with_reducible refine below_dn ?_ _ | with_reducible refine Below.drew ?_ | with_reducible refine below_step ?_ (by assumption) | with_reducible refine Below.setCell ?_ ?_ _ | with_reducible refine Below.alloc ?_ ?_ _ | with_reducible exact Nat.le_refl _ | (simp; done) | (simp; omega) | omega))⟩
    · have g1 : ¬ ((1048576 : Int) - n1 < 0) := by omega
      have g2 : ((1048576 : Int) - n1 - n2 < 0) := by omega
      go_enter Try.func23, Try.ntmps23
      go_wp2
      go_ret
      exact ⟨rfl, (by repeat' (first | with_reducible exact Below.refl _ _ | with_reducible assumption | with_reducible refine below_dn ?_ _ | with_reducible refine Below.drew ?_ | with_reducible refine below_step ?_ (by assumption) | with_reducible refine Below.setCell ?_ ?_ _ | with_reducible refine Below.alloc ?_ ?_ _ | with_reducible exact Nat.le_refl _ | (simp; done) | (simp; omega) | omega))⟩
  · have g1 : ((1048576 : Int) - n1 < 0) := by omega
    go_enter Try.func23, Try.ntmps23
    go_wp2
    go_ret
    exact ⟨rfl, (by repeat' (first | with_reducible exact Below.refl _ _ | with_reducible assumption | with_reducible refine below_dn ?_ _ | with_reducible refine Below.drew ?_ | with_reducible refine below_step ?_ (by assumption) | with_reducible refine Below.setCell ?_ ?_ _ | with_reducible refine Below.alloc ?_ ?_ _ | with_reducible exact Nat.le_refl _ | (simp; done) | (simp; omega) | omega))⟩

/-! ### a chain that came in -/
section
variable {H : Type} {enc : TypeId × Value → H} {P : Program} {w : World}
theorem add_form {a : Addr} (ha : a = ⟨a.block, a.off, none⟩) (j : Nat) : a.add j = ⟨a.block, a.off + j, none⟩ := by
  rw [ha]
  unfold Addr.add
  by_cases h0 : j = 0 <;> simp [h0]
theorem open_three {t e : TypeId} {f0 f1 f2 : Field} {fuel : Nat} {v : Value} {x : DataW H × List MemPlace} (ht : P.underlying t = some (.slice e)) (he : P.underlying e = some (.struct #[f0, f1, f2])) (hone : oneCellFields P #[f0, f1, f2] = true) (hC : P.cellsOf e = 3)
    (h : DataW.trod enc P w 0 (fun _ => true) true fuel t [v] = some x) :
    ∃ (A : Option Addr) (n cap : Nat), v = .slice A n cap ∧ n ≤ maxLen ∧ (0 < n → ∃ b off, A = some ⟨b, off, none⟩ ∧ b < w.heap.size ∧ ∀ i, i < n → ∃ (x0 x1 x2 : Value) (q : Nat) (y0 y1 y2 : DataW H × List MemPlace),
      w.cell? ⟨b, off + (i * 3), none⟩ = some x0 ∧ w.cell? ⟨b, off + (i * 3 + 1), none⟩ = some x1 ∧ w.cell? ⟨b, off + (i * 3 + 2), none⟩ = some x2 ∧
      DataW.trod enc P w 0 (fun _ => true) true q f0.type [x0] = some y0 ∧ DataW.trod enc P w 0 (fun _ => true) true q f1.type [x1] = some y1 ∧ DataW.trod enc P w 0 (fun _ => true) true q f2.type [x2] = some y2) := by
  rcases open_slice ht h with ⟨hc, _⟩ | ⟨a, n, cap, m, q, D, Pl, hc, _, hl, hm, hmm, _, hi⟩
  · cases hc
    exact ⟨none, 0, 0, rfl, Nat.zero_le _, fun h => absurd h (Nat.lt_irrefl 0)⟩
  · cases hc
    have hnm : n ≤ m := by rw [hmm]; split <;> omega
    have key : ∀ i, i < n → ∃ (x0 x1 x2 : Value) (q : Nat) (y0 y1 y2 : DataW H × List MemPlace), w.cell? (a.add (i * 3)) = some x0 ∧ w.cell? (a.add (i * 3 + 1)) = some x1 ∧ w.cell? (a.add (i * 3 + 2)) = some x2 ∧
        DataW.trod enc P w 0 (fun _ => true) true q f0.type [x0] = some y0 ∧ DataW.trod enc P w 0 (fun _ => true) true q f1.type [x1] = some y1 ∧ DataW.trod enc P w 0 (fun _ => true) true q f2.type [x2] = some y2 := fun i hin => by
      obtain ⟨cs', hcs, htr⟩ := hi i (by omega)
      rw [hC] at hcs
      obtain ⟨ys, q', _, _, hlen, hyl, hf⟩ := DataW.trod_struct he htr
      obtain ⟨_, hcl, hat⟩ := World.cells?_some hcs
      match cs', hcl with
      | [x0, x1, x2], _ =>
        match ys, hyl with
        | [y0, y1, y2], _ =>
          obtain ⟨o0, k0⟩ := hone_of hone 0 f0 rfl
          obtain ⟨o1, k1⟩ := hone_of hone 1 f1 rfl
          obtain ⟨o2, k2⟩ := hone_of hone 2 f2 rfl
          have g0 := hf 0 f0 rfl
          have g1 := hf 1 f1 rfl
          have g2 := hf 2 f2 rfl
          rw [o0, k0] at g0
          rw [o1, k1] at g1
          rw [o2, k2] at g2
          have c0 := hat 0 (by omega)
          have c1 := hat 1 (by omega)
          have c2 := hat 2 (by omega)
          rw [Go.Deep.add_add] at c0 c1 c2
          exact ⟨x0, x1, x2, q', y0, y1, y2, c0, c1, c2, g0, g1, g2⟩
    refine ⟨some a, n, cap, rfl, by omega, fun h0 => ?_⟩
    obtain ⟨x0, _, _, _, _, _, _, c0, _⟩ := key 0 h0
    have ha : a = ⟨a.block, a.off, none⟩ := by
      have : a.add (0 * 3) = a := by simp [Addr.add]
      rw [this] at c0
      exact addr_form c0
    refine ⟨a.block, a.off, by rw [← ha], ?_, fun i hin => ?_⟩
    · have : a.add (0 * 3) = a := by simp [Addr.add]
      rw [this] at c0
      exact World.block_lt_of_cell? w _ c0
    · obtain ⟨x0, x1, x2, q', y0, y1, y2, c0, c1, c2, g⟩ := key i hin
      rw [add_form ha] at c0 c1 c2
      exact ⟨x0, x1, x2, q', y0, y1, y2, c0, c1, c2, g⟩
theorem trod_flt {t : TypeId} {k : FloatKind} {fuel : Nat} {v : Value} {x : DataW H × List MemPlace} (ht : P.underlying t = some (.float k)) (hd : DataW.trod enc P w 0 (fun _ => true) true fuel t [v] = some x) : ∃ b, v = .float k b ∧ (Lit.float k b).wf = true := trod_float ht hd
theorem trod_i64 {t : TypeId} {fuel : Nat} {v : Value} {x : DataW H × List MemPlace} (ht : P.underlying t = some (.int .i64)) (hd : DataW.trod enc P w 0 (fun _ => true) true fuel t [v] = some x) : ∃ i, v = .int .i64 i ∧ -9223372036854775808 ≤ i ∧ i ≤ 9223372036854775807 := by
  obtain ⟨i, e, _, hw⟩ := DataW.trod_int ht hd
  cases e
  exact ⟨i, rfl, i64_range hw⟩
def okP (n : Nat) (p : Nat → V3) : Prop := ∀ i, i < n → (p i).x < 4294967296 ∧ (p i).y < 4294967296 ∧ (p i).z < 4294967296
def okR (n : Nat) (r : Nat → Rd) : Prop := ∀ i, i < n → (r i).l < 4294967296 ∧ -9223372036854775808 ≤ (r i).a ∧ (r i).a ≤ 9223372036854775807 ∧ -9223372036854775808 ≤ (r i).b ∧ (r i).b ≤ 9223372036854775807
def okF (n : Nat) (q : Nat → Nat) : Prop := ∀ i, i < n → q i < 4294967296
theorem open_vecs {t e t3 : TypeId} {f0 f1 f2 : Field} {fuel : Nat} {v : Value} {x : DataW H × List MemPlace} (ht : P.underlying t = some (.slice e)) (he : P.underlying e = some (.struct #[f0, f1, f2])) (hone : oneCellFields P #[f0, f1, f2] = true) (hC : P.cellsOf e = 3)
    (h0 : f0.type = t3) (h1 : f1.type = t3) (h2 : f2.type = t3) (h3 : P.underlying t3 = some (.float .f32)) (h : DataW.trod enc P w 0 (fun _ => true) true fuel t [v] = some x) :
    ∃ (A : Option Addr) (n cap : Nat) (p : Nat → V3), v = .slice A n cap ∧ n ≤ maxLen ∧ In w w.heap.size 3 A n (vc p) ∧ okP n p := by
  obtain ⟨A, n, cap, rfl, hn, hc⟩ := open_three ht he hone hC h
  by_cases hx : 0 < n
  · obtain ⟨b, off, rfl, hb, hi⟩ := hc hx
    have key : ∀ i, i < n → ∃ q : V3, (w.cell? ⟨b, off + (i * 3), none⟩ = some (.float .f32 q.x) ∧ w.cell? ⟨b, off + (i * 3 + 1), none⟩ = some (.float .f32 q.y) ∧ w.cell? ⟨b, off + (i * 3 + 2), none⟩ = some (.float .f32 q.z)) ∧ q.x < 4294967296 ∧ q.y < 4294967296 ∧ q.z < 4294967296 := fun i hin => by
      obtain ⟨x0, x1, x2, q, y0, y1, y2, c0, c1, c2, g0, g1, g2⟩ := hi i hin
      rw [h0] at g0
      rw [h1] at g1
      rw [h2] at g2
      obtain ⟨a, rfl, ha⟩ := trod_flt h3 g0
      obtain ⟨b', rfl, hb'⟩ := trod_flt h3 g1
      obtain ⟨c, rfl, hc'⟩ := trod_flt h3 g2
      exact ⟨⟨a, b', c⟩, ⟨c0, c1, c2⟩, f32_lt ha, f32_lt hb', f32_lt hc'⟩
    haveI : Inhabited V3 := ⟨⟨0, 0, 0⟩⟩
    obtain ⟨p, hp⟩ := choose_lt key
    refine ⟨_, n, cap, p, rfl, hn, fun _ => ⟨b, off, rfl, hb, fun j hj => ?_⟩, fun i hin => (hp i hin).2⟩
    obtain ⟨⟨c0, c1, c2⟩, _⟩ := hp (j / 3) (by omega)
    have hj3 : j % 3 = 0 ∨ j % 3 = 1 ∨ j % 3 = 2 := by omega
    rcases hj3 with e | e | e
    · rw [show j / 3 * 3 = j by omega] at c0
      rw [c0]; unfold vc; rw [if_pos e]
    · rw [show j / 3 * 3 + 1 = j by omega] at c1
      rw [c1]; unfold vc; rw [if_neg (by omega), if_pos e]
    · rw [show j / 3 * 3 + 2 = j by omega] at c2
      rw [c2]; unfold vc; rw [if_neg (by omega), if_neg (by omega)]
  · have h0 : n = 0 := by omega
    subst h0
    exact ⟨A, 0, cap, fun _ => ⟨0, 0, 0⟩, rfl, hn, fun h => absurd h hx, fun i hi => absurd hi (Nat.not_lt_zero _)⟩
theorem open_rods {t e ti t3 : TypeId} {f0 f1 f2 : Field} {fuel : Nat} {v : Value} {x : DataW H × List MemPlace} (ht : P.underlying t = some (.slice e)) (he : P.underlying e = some (.struct #[f0, f1, f2])) (hone : oneCellFields P #[f0, f1, f2] = true) (hC : P.cellsOf e = 3)
    (h0 : f0.type = ti) (h1 : f1.type = ti) (h2 : f2.type = t3) (hti : P.underlying ti = some (.int .i64)) (h3 : P.underlying t3 = some (.float .f32)) (h : DataW.trod enc P w 0 (fun _ => true) true fuel t [v] = some x) :
    ∃ (A : Option Addr) (n cap : Nat) (p : Nat → Rd), v = .slice A n cap ∧ n ≤ maxLen ∧ In w w.heap.size 3 A n (rc p) ∧ okR n p := by
  obtain ⟨A, n, cap, rfl, hn, hc⟩ := open_three ht he hone hC h
  by_cases hx : 0 < n
  · obtain ⟨b, off, rfl, hb, hi⟩ := hc hx
    have key : ∀ i, i < n → ∃ q : Rd, (w.cell? ⟨b, off + (i * 3), none⟩ = some (.int .i64 q.a) ∧ w.cell? ⟨b, off + (i * 3 + 1), none⟩ = some (.int .i64 q.b) ∧ w.cell? ⟨b, off + (i * 3 + 2), none⟩ = some (.float .f32 q.l)) ∧ q.l < 4294967296 ∧ -9223372036854775808 ≤ q.a ∧ q.a ≤ 9223372036854775807 ∧ -9223372036854775808 ≤ q.b ∧ q.b ≤ 9223372036854775807 := fun i hin => by
      obtain ⟨x0, x1, x2, q, y0, y1, y2, c0, c1, c2, g0, g1, g2⟩ := hi i hin
      rw [h0] at g0
      rw [h1] at g1
      rw [h2] at g2
      obtain ⟨a, rfl, ha1, ha2⟩ := trod_i64 hti g0
      obtain ⟨b', rfl, hb1, hb2⟩ := trod_i64 hti g1
      obtain ⟨c, rfl, hc'⟩ := trod_flt h3 g2
      exact ⟨⟨a, b', c⟩, ⟨c0, c1, c2⟩, f32_lt hc', ha1, ha2, hb1, hb2⟩
    haveI : Inhabited Rd := ⟨⟨0, 0, 0⟩⟩
    obtain ⟨p, hp⟩ := choose_lt key
    refine ⟨_, n, cap, p, rfl, hn, fun _ => ⟨b, off, rfl, hb, fun j hj => ?_⟩, fun i hin => (hp i hin).2⟩
    obtain ⟨⟨c0, c1, c2⟩, _⟩ := hp (j / 3) (by omega)
    have hj3 : j % 3 = 0 ∨ j % 3 = 1 ∨ j % 3 = 2 := by omega
    rcases hj3 with e | e | e
    · rw [show j / 3 * 3 = j by omega] at c0
      rw [c0]; unfold rc; rw [if_pos e]
    · rw [show j / 3 * 3 + 1 = j by omega] at c1
      rw [c1]; unfold rc; rw [if_neg (by omega), if_pos e]
    · rw [show j / 3 * 3 + 2 = j by omega] at c2
      rw [c2]; unfold rc; rw [if_neg (by omega), if_neg (by omega)]
  · have h0 : n = 0 := by omega
    subst h0
    exact ⟨A, 0, cap, fun _ => ⟨0, 0, 0⟩, rfl, hn, fun h => absurd h hx, fun i hi => absurd hi (Nat.not_lt_zero _)⟩
theorem open_flts {t e : TypeId} {fuel : Nat} {v : Value} {x : DataW H × List MemPlace} (ht : P.underlying t = some (.slice e)) (he : P.underlying e = some (.float .f32)) (hC : P.cellsOf e = 1) (h : DataW.trod enc P w 0 (fun _ => true) true fuel t [v] = some x) :
    ∃ (A : Option Addr) (n cap : Nat) (q : Nat → Nat), v = .slice A n cap ∧ n ≤ maxLen ∧ In w w.heap.size 1 A n (fc q) ∧ okF n q := by
  rcases open_slice1 ht hC h with ⟨hc, _⟩ | ⟨a, n, cap, m, k, V, D, Pl, hc, _, hl, hm, hmm, _, hi⟩
  · cases hc
    exact ⟨none, 0, 0, fun _ => 0, rfl, Nat.zero_le _, fun h => absurd h (Nat.lt_irrefl 0), fun i hi => absurd hi (Nat.not_lt_zero _)⟩
  · cases hc
    have hnm : n ≤ m := by rw [hmm]; split <;> omega
    have hV : ∀ i, i < n → ∃ x, V i = .float .f32 x ∧ x < 4294967296 := fun i hin => by
      obtain ⟨b, hb1, hb2⟩ := trod_flt he (hi i (by omega)).2
      exact ⟨b, hb1, f32_lt hb2⟩
    obtain ⟨f, hf⟩ := choose_lt hV
    refine ⟨some a, n, cap, f, rfl, by omega, fun h0 => ?_, fun i hin => (hf i hin).2⟩
    have c0 := (hi 0 (by omega)).1
    have e0 : a.add 0 = a := by simp [Addr.add]
    rw [e0] at c0
    have ha := addr_form c0
    refine ⟨a.block, a.off, by rw [← ha], World.block_lt_of_cell? w _ c0, fun j hj => ?_⟩
    have := (hi j (by omega)).1
    rw [add_form ha, (hf j (by omega)).1] at this
    exact this
end
end Go.Proofs.Ytlhgaihfghobmaa
