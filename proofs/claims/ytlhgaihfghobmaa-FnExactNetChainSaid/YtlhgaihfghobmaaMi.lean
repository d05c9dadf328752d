/- NetChain: what the net is. -/
import Derived.Test.YtlhgaihfghobmaaMg
import Derived.Deep.DeepCutAuto
namespace Go.Proofs.Ytlhgaihfghobmaa
open Go.ChangeShapes Go.WideShapes Go.ChangeAt Go.RowKit Go.Deep

theorem xor31 (x : Nat) (hx : x < 4294967296) : x ^^^ 2147483648 = if x < 2147483648 then x + 2147483648 else x - 2147483648 := by
  have key : ∀ y : Nat, y < 2 ^ 31 → y ^^^ 2 ^ 31 = y + 2 ^ 31 := by
    intro y hy
    apply Nat.eq_of_testBit_eq
    intro i
    rw [Nat.testBit_xor, Nat.testBit_two_pow, Nat.add_comm]
    by_cases h : i < 31
    · rw [Nat.testBit_two_pow_add_gt h]
      have : ¬ 31 = i := by omega
      simp [this]
    · by_cases h2 : i = 31
      · subst h2
        rw [Nat.testBit_two_pow_add_eq, Nat.testBit_lt_two_pow hy]
        simp
      · have h3 : 2 ^ 31 + y < 2 ^ i := by
          have : 2 ^ 32 ≤ 2 ^ i := Nat.pow_le_pow_right (by decide) (by omega)
          omega
        have h4 : y < 2 ^ i := by omega
        rw [Nat.testBit_lt_two_pow h3, Nat.testBit_lt_two_pow h4]
        have : ¬ 31 = i := by omega
        simp [this]
  split
  · exact key x (by omega)
  · have h1 := key (x - 2147483648) (by omega)
    have h2 : x - 2147483648 + 2 ^ 31 = x := by omega
    rw [h2] at h1
    have h3 : x ^^^ 2147483648 = (x - 2147483648) ^^^ 2 ^ 31 ^^^ 2147483648 := by rw [h1]
    rw [h3]
    show (x - 2147483648) ^^^ 2147483648 ^^^ 2147483648 = _
    rw [Nat.xor_assoc, Nat.xor_self, Nat.xor_zero]
theorem neg32 (x : Nat) (hx : x < 4294967296) : Op.negFloat .f32 x = if x < 2147483648 then x + 2147483648 else x - 2147483648 := xor31 x hx
theorem isN_neg (x : Nat) (hx : x < 4294967296) : isN .f32 (Op.negFloat .f32 x) = isN .f32 x := by
  rw [neg32 x hx, isN_f32, isN_f32]
  split
  · have e : (x + 2147483648) % 2147483648 = x % 2147483648 := by omega
    rw [e]
  · have e : (x - 2147483648) % 2147483648 = x % 2147483648 := by omega
    rw [e]
theorem neg_sim {x y : Nat} (hx : x < 4294967296) (hy : y < 4294967296) (h : Sim .f32 x y) : Sim .f32 (Op.negFloat .f32 x) (Op.negFloat .f32 y) := by
  rcases h with ⟨h1, h2⟩ | ⟨h1, rfl⟩
  · exact .inl ⟨(isN_neg x hx).trans h1, (isN_neg y hy).trans h2⟩
  · exact Sim.refl _ _
def netP (l W i : Nat) : V3 := ⟨F.mul (i2f ((i % W : Nat) : Int)) l, Op.negFloat .f32 (F.mul (i2f ((i / W : Nat) : Int)) l), 0⟩
def RL (L : List Rd) : Nat → Rd := fun j => L.getD j ⟨0, 0, 0⟩
def netEL (l x W : Nat) (L : List Rd) : D4 := ⟨netP l W, netP l W, fun i => if i < W then 0 else x, RL L⟩
def netA (l W k : Nat) (L : List Rd) : List Rd := if k % W + 1 < W then L ++ [⟨(k : Int), (k : Int) + 1, l⟩] else L
def netB (l W H k : Nat) (L : List Rd) : List Rd := if k / W + 1 < H then L ++ [⟨(k : Int), (k : Int) + (W : Int), l⟩] else L
def netL (l W H : Nat) : Nat → List Rd
  | 0 => []
  | k + 1 => netB l W H k (netA l W k (netL l W H k))
def netE (l x W H : Nat) : D4 := netEL l x W (netL l W H (W * H))
theorem SimD.rodL {n1 n2 n3 m : Nat} {D E : D4} {L : List Rd} (h : SimD n1 n2 n3 m D ⟨E.P, E.B, E.W, RL L⟩) (hm : L.length = m) (r : Rd) : SimD n1 n2 n3 (m + 1) (addR D m r) ⟨E.P, E.B, E.W, RL (L ++ [r])⟩ := by
  refine ⟨h.1, h.2.1, h.2.2.1, fun i hi => ?_⟩
  show SimR (upd D.R m r i) (RL (L ++ [r]) i)
  by_cases e : i = m
  · rw [e, show upd D.R m r m = r from if_pos rfl]
    have : RL (L ++ [r]) m = r := by unfold RL; rw [← hm]; simp [List.getD]
    rw [this]
    exact SimR.refl _
  · rw [show upd D.R m r i = D.R i from if_neg e]
    have h2 : RL (L ++ [r]) i = RL L i := by unfold RL; simp only [List.getD]; rw [List.getElem?_append_left (by omega)]
    rw [h2]
    exact h.2.2.2 i (by omega)
theorem SimD.putS {n m : Nat} {D E : D4} {p : V3} {x : Nat} (h : SimD n n n m D E) (h1 : SimP p (E.P n)) (h2 : SimP p (E.B n)) (h3 : Sim .f32 0 (E.W n)) : SimD (n + 1) (n + 1) (n + 1) m (setW (putD D n n n p x) n 0) E := by
  have h4 := h.put h1 h2 h3
  refine ⟨h4.1, h4.2.1, fun i hi => ?_, h4.2.2.2⟩
  show Sim .f32 (upd (upd D.W n x) n 0 i) _
  have h5 := h4.2.2.1 i hi
  have h6 : upd (upd D.W n x) n 0 i = upd D.W n 0 i := by
    unfold upd
    by_cases e : i = n
    · rw [if_pos e, if_pos e]
    · rw [if_neg e, if_neg e, if_neg e]
  rw [h6]
  exact h5
theorem SimD.to {n1 n2 n3 m : Nat} {D : D4} {l x W : Nat} {L L' : List Rd} (h : SimD n1 n2 n3 m D (netEL l x W L)) (e : L = L') : SimD n1 n2 n3 m D (netEL l x W L') := e ▸ h
/-- a chain being made, from world w0 on, in the block behind it. -/
def ChS (v : Nat) (w0 : World) (A1 A2 A3 A4 : Option Addr) (c1 c2 c3 c4 n m : Nat) (D : D4) (W : World) : Prop :=
  Own W w0.heap.size A1 A2 A3 A4 c1 c2 c3 c4 n n n m D ∧ Bx W w0.heap.size 32 (.slice A1 n c1) (.slice A2 n c2) (.slice A3 n c3) (.slice A4 m c4) ∧ Bx W v 32 sn sn sn sn ∧ Below w0.heap.size w0 W ∧ w0.heap.size + 1 ≤ W.heap.size
section
variable {v : Nat} {w0 W W' : World} {A1 A2 A3 A4 : Option Addr} {c1 c2 c3 c4 n m : Nat} {D : D4}
theorem ChS.go (h : ChS v w0 A1 A2 A3 A4 c1 c2 c3 c4 n m D W) (hb : Below W.heap.size W W') : ChS v w0 A1 A2 A3 A4 c1 c2 c3 c4 n m D W' := by
  obtain ⟨h1, h2, h3, h4, h5⟩ := h
  exact ⟨h1.go hb, h2.go hb, h3.go hb, h4.trans (hb.mono (by omega)), Nat.le_trans h5 hb.size⟩
theorem ChS.app (h : ChS v w0 A1 A2 A3 A4 c1 c2 c3 c4 n m D W) (hv : v < w0.heap.size) (r : Rd) {A5 : Option Addr} {c5 : Nat} (hs : Sl W' w0.heap.size 91 3 A5 (m + 1) c5 (rc (upd D.R m r))) (hw : Wr (fun k => 0 < m ∧ A4 = some ⟨k, 0, none⟩) W W') :
    ChS v w0 A1 A2 A3 A5 c1 c2 c3 c5 n (m + 1) (addR D m r) (W'.setCell ⟨w0.heap.size, 3, none⟩ (.slice A5 (m + 1) c5)) := by
  obtain ⟨h1, h2, h3, h4, h5⟩ := h
  have hl := fun k (y : 0 < m ∧ A4 = some ⟨k, 0, none⟩) => (h1.s4.bd k y.2 y.1).1
  have X3 := h2.wr hw (h1.s4.chain h2 (by decide))
  have O3 := h1.app4 hw hs
  have y := hw.size
  refine ⟨O3.off X3 (Wr.set1 _ _ _ _), X3.set3 _, (h3.wr hw (fun y => by have := hl _ y; omega)).far (Nat.ne_of_lt hv) _, (h4.trans (hw.below (by omega) (fun k _ y => by have := hl _ y; omega))).setCell (Nat.le_refl _) _, ?_⟩
  simp [World.setCell]
  omega
theorem ChS.ret (h : ChS v w0 A1 A2 A3 A4 c1 c2 c3 c4 n m D W) (hv : v < w0.heap.size) {E : D4} {e : Ending} (hr : RetPut w0.heap.size w0.heap.size A4 c4 (n + 1) (n + 1) (n + 1) m E W e W') : e = .returned (.tuple #[]) ∧ ∃ F1 F2 F3 f1 f2 f3, ChS v w0 F1 F2 F3 A4 f1 f2 f3 c4 (n + 1) m E W' := by
  obtain ⟨h1, h2, h3, h4, h5⟩ := h
  obtain ⟨e1, e2, F1, F2, F3, f1, f2, f3, e3, e4⟩ := hr
  exact ⟨e1, F1, F2, F3, f1, f2, f3, e4, e3, h3.below e2 hv, h4.trans e2, Nat.le_trans h5 e2.size⟩
theorem ChS.zero (h : ChS v w0 A1 A2 A3 A4 c1 c2 c3 c4 n m D W) (hv : v < w0.heap.size) {b k : Nat} (hA : A3 = some ⟨b, 0, none⟩) (hk : k < n) : ChS v w0 A1 A2 A3 A4 c1 c2 c3 c4 n m (setW D k 0) (W.setCell ⟨b, k, none⟩ (.float .f32 0)) := by
  obtain ⟨h1, h2, h3, h4, h5⟩ := h
  obtain ⟨b', e, hB, _, _, hr⟩ := h1.s3 (by omega)
  rw [hA] at e
  cases e
  refine ⟨h1.setW hA hk 0, h2.far (Rw.ne_ h2 hr (by decide)) _, h3.far (by show v ≠ b; omega) _, h4.setCell hB _, ?_⟩
  simp [World.setCell]
  omega
theorem ChS.st (h : ChS v w0 A1 A2 A3 A4 c1 c2 c3 c4 n m D W) (hn : 0 < n) : ∃ b, A3 = some ⟨b, 0, none⟩ ∧ (∀ k, k < n → W.cell? ⟨b, k, none⟩ = some (fc D.W k)) ∧ (∀ k, W.frozen? ⟨b, k, none⟩ = false) ∧ b < W.heap.size := by
  obtain ⟨b, e, _, _, _, hr⟩ := h.1.s3 hn
  exact ⟨b, e, fun k hk => hr.cell (by omega), fun k => hr.frozen k, hr.lt⟩
end
theorem netL_len (l W H : Nat) : ∀ k, (netL l W H k).length ≤ 2 * k
  | 0 => Nat.le_refl _
  | k + 1 => by
    have := netL_len l W H k
    unfold netL netB netA
    split <;> split <;> simp <;> omega
theorem net_at {W : Nat} (yy xx : Nat) (h : xx < W) : (yy * W + xx) % W = xx ∧ (yy * W + xx) / W = yy := by
  rw [Nat.mul_comm]
  exact ⟨by rw [Nat.mul_add_mod, Nat.mod_eq_of_lt h], by rw [Nat.mul_add_div (by omega), Nat.div_eq_of_lt h, Nat.add_zero]⟩
end Go.Proofs.Ytlhgaihfghobmaa
