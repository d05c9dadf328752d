/- Chains changed in place; boxes of one cell; small tests of the chain's methods. -/
import Derived.Test.YtlhgaihfghobmaaEg
import Derived.Test.YtlhgaihfghobmaaRk
namespace Go.Proofs.Ytlhgaihfghobmaa
open Go.ChangeShapes Go.WideShapes Go.ChangeAt Go.RowKit Go.Deep

/-! ### a block of one cell -/
def Ox (w : World) (g : Nat) (t : TypeId) (v : Value) : Prop := Rw w g t 1 1 (fun _ => v)
namespace Ox
variable {w w' : World} {g : Nat} {t : TypeId} {v : Value}
theorem new_ (w : World) (t : TypeId) (v : Value) : Ox (w.alloc (.cells #[v] t)) w.heap.size t v := ⟨#[v], heap_alloc_new w _, rfl, Nat.le_refl _, fun j hj => by
  obtain rfl : j = 0 := by omega
  rfl⟩
theorem c (h : Ox w g t v) : w.cell? ⟨g, 0, none⟩ = some v := Rw.cell h (by omega)
theorem lt (h : Ox w g t v) : g < w.heap.size := Rw.lt h
theorem f (h : Ox w g t v) (j : Nat) : w.frozen? ⟨g, j, none⟩ = false := Rw.frozen h j
theorem alloc (h : Ox w g t v) (o : Obj) : Ox (w.alloc o) g t v := Rw.alloc h o
theorem go (h : Ox w g t v) (hb : Below w.heap.size w w') : Ox w' g t v := Rw.go h hb
theorem below {B : Nat} (h : Ox w g t v) (hb : Below B w w') (hg : g < B) : Ox w' g t v := Rw.below h hb hg
end Ox
theorem Tx.below {B : Nat} {w w' : World} {g : Nat} {t : TypeId} {x0 x1 x2 : Value} (h : Tx w g t x0 x1 x2) (hb : Below B w w') (hg : g < B) : Tx w' g t x0 x1 x2 := Rw.below h hb hg

theorem Tx.bel3 {S g i j k : Nat} {w w' : World} (h : Below S w w') (hS : S ≤ g) (y0 y1 y2 : Value) : Below S w (((w'.setCell ⟨g, i, none⟩ y0).setCell ⟨g, j, none⟩ y1).setCell ⟨g, k, none⟩ y2) := Below.setCell (Below.setCell (Below.setCell h hS y0) hS y1) hS y2
theorem Bx.far3' {w : World} {g : Nat} {t : TypeId} {x0 x1 x2 x3 : Value} (h : Bx w g t x0 x1 x2 x3) {b i j k : Nat} (hb : g ≠ b) (y0 y1 y2 : Value) : Bx (((w.setCell ⟨b, i, none⟩ y0).setCell ⟨b, j, none⟩ y1).setCell ⟨b, k, none⟩ y2) g t x0 x1 x2 x3 := ((h.far hb y0).far hb y1).far hb y2
theorem Tx.far3' {w : World} {g : Nat} {t : TypeId} {x0 x1 x2 : Value} (h : Tx w g t x0 x1 x2) {b i j k : Nat} (hb : g ≠ b) (y0 y1 y2 : Value) : Tx (((w.setCell ⟨b, i, none⟩ y0).setCell ⟨b, j, none⟩ y1).setCell ⟨b, k, none⟩ y2) g t x0 x1 x2 := ((h.far hb y0).far hb y1).far hb y2

theorem Rw.far3 {w : World} {g : Nat} {t : TypeId} {cs c : Nat} {f : Nat → Value} (h : Rw w g t cs c f) {b i j k : Nat} (hb : g ≠ b) (y0 y1 y2 : Value) : Rw (((w.setCell ⟨b, i, none⟩ y0).setCell ⟨b, j, none⟩ y1).setCell ⟨b, k, none⟩ y2) g t cs c f := ((h.setOther hb y0).setOther hb y1).setOther hb y2

/-! ### stores to a slice's elements -/
theorem Wr.set1 (w : World) (g i : Nat) (v : Value) : Wr (fun k => k = g) w (w.setCell ⟨g, i, none⟩ v) := (Wr.refl (fun k => k = g) w).setCell (p := ⟨g, i, none⟩) rfl v
theorem Wr.set3 (w : World) (g i j k : Nat) (x y z : Value) : Wr (fun b => b = g) w (((w.setCell ⟨g, i, none⟩ x).setCell ⟨g, j, none⟩ y).setCell ⟨g, k, none⟩ z) := (((Wr.refl (fun b => b = g) w).setCell (p := ⟨g, i, none⟩) rfl x).setCell (p := ⟨g, j, none⟩) rfl y).setCell (p := ⟨g, k, none⟩) rfl z
theorem Wr.set4 (w : World) (g : Nat) (x y z v : Value) : Wr (fun b => b = g) w ((((w.setCell ⟨g, 0, none⟩ x).setCell ⟨g, 1, none⟩ y).setCell ⟨g, 2, none⟩ z).setCell ⟨g, 3, none⟩ v) := ((((Wr.refl (fun b => b = g) w).setCell (p := ⟨g, 0, none⟩) rfl x).setCell (p := ⟨g, 1, none⟩) rfl y).setCell (p := ⟨g, 2, none⟩) rfl z).setCell (p := ⟨g, 3, none⟩) rfl v
def setP (D : D4) (k : Nat) (p : V3) : D4 := ⟨upd D.P k p, D.B, D.W, D.R⟩
def setB (D : D4) (k : Nat) (p : V3) : D4 := ⟨D.P, upd D.B k p, D.W, D.R⟩
def setW (D : D4) (k : Nat) (x : Nat) : D4 := ⟨D.P, D.B, upd D.W k x, D.R⟩
theorem fc_upd (q : Nat → Nat) (i x j : Nat) : (if j = i then Value.float .f32 x else fc q j) = fc (upd q i x) j := by
  unfold fc upd
  by_cases h : j = i
  · rw [if_pos h, if_pos h]
  · rw [if_neg h, if_neg h]
section
variable {w : World} {M g k : Nat} {A1 A2 A3 A4 : Option Addr} {c1 c2 c3 c4 n1 n2 n3 n4 : Nat} {D : D4}
theorem Own.setW (h : Own w M A1 A2 A3 A4 c1 c2 c3 c4 n1 n2 n3 n4 D) (hA : A3 = some ⟨g, 0, none⟩) (hk : k < n3) (x : Nat) : Own (w.setCell ⟨g, k, none⟩ (.float .f32 x)) M A1 A2 A3 A4 c1 c2 c3 c4 n1 n2 n3 n4 (setW D k x) := by
  have hw := Wr.set1 w g k (.float .f32 x)
  refine ⟨h.s1.wr hw (fun g' e h0 e' => ?_), h.s2.wr hw (fun g' e h0 e' => ?_), fun h0 => ?_, h.s4.wr hw (fun g' e h0 e' => ?_), h.ne⟩
  · exact h.s1.ne_ h.s3 (by decide) e (by rw [hA, e']) h0 (by omega)
  · exact h.s2.ne_ h.s3 (by decide) e (by rw [hA, e']) h0 (by omega)
  · obtain ⟨g', e, h2, h3, h4, h5⟩ := h.s3 h0
    rw [hA] at e
    cases e
    exact ⟨g, hA, h2, h3, h4, (h5.set k _).congr fun j _ => fc_upd _ _ _ _⟩
  · exact h.s4.ne_ h.s3 (by decide) e (by rw [hA, e']) h0 (by omega)
theorem Own.setP (h : Own w M A1 A2 A3 A4 c1 c2 c3 c4 n1 n2 n3 n4 D) (hA : A1 = some ⟨g, 0, none⟩) (hk : k < n1) (x y z : Nat) : Own (((w.setCell ⟨g, k * 3, none⟩ (.float .f32 x)).setCell ⟨g, k * 3 + 1, none⟩ (.float .f32 y)).setCell ⟨g, k * 3 + 2, none⟩ (.float .f32 z)) M A1 A2 A3 A4 c1 c2 c3 c4 n1 n2 n3 n4 (setP D k ⟨x, y, z⟩) := by
  have hw := Wr.set3 w g (k * 3) (k * 3 + 1) (k * 3 + 2) (.float .f32 x) (.float .f32 y) (.float .f32 z)
  refine ⟨fun h0 => ?_, h.s2.wr hw (fun g' e h0 e' => ?_), h.s3.wr hw (fun g' e h0 e' => ?_), h.s4.wr hw (fun g' e h0 e' => ?_), h.ne⟩
  · obtain ⟨g', e, h2, h3, h4, h5⟩ := h.s1 h0
    rw [hA] at e
    cases e
    exact ⟨g, hA, h2, h3, h4, (((h5.set (k * 3) _).set (k * 3 + 1) _).set (k * 3 + 2) _).congr fun j _ => set3v _ _ _ _ _ _⟩
  · exact h.ne g' (by rw [hA, e']) e (by omega) h0
  · exact h.s1.ne_ h.s3 (by decide) (by rw [hA, e']) e (by omega) h0
  · exact h.s1.ne_ h.s4 (by decide) (by rw [hA, e']) e (by omega) h0
theorem Own.setB (h : Own w M A1 A2 A3 A4 c1 c2 c3 c4 n1 n2 n3 n4 D) (hA : A2 = some ⟨g, 0, none⟩) (hk : k < n2) (x y z : Nat) : Own (((w.setCell ⟨g, k * 3, none⟩ (.float .f32 x)).setCell ⟨g, k * 3 + 1, none⟩ (.float .f32 y)).setCell ⟨g, k * 3 + 2, none⟩ (.float .f32 z)) M A1 A2 A3 A4 c1 c2 c3 c4 n1 n2 n3 n4 (setB D k ⟨x, y, z⟩) := by
  have hw := Wr.set3 w g (k * 3) (k * 3 + 1) (k * 3 + 2) (.float .f32 x) (.float .f32 y) (.float .f32 z)
  refine ⟨h.s1.wr hw (fun g' e h0 e' => ?_), fun h0 => ?_, h.s3.wr hw (fun g' e h0 e' => ?_), h.s4.wr hw (fun g' e h0 e' => ?_), h.ne⟩
  · exact h.ne g' e (by rw [hA, e']) h0 (by omega)
  · obtain ⟨g', e, h2, h3, h4, h5⟩ := h.s2 h0
    rw [hA] at e
    cases e
    exact ⟨g, hA, h2, h3, h4, (((h5.set (k * 3) _).set (k * 3 + 1) _).set (k * 3 + 2) _).congr fun j _ => set3v _ _ _ _ _ _⟩
  · exact h.s2.ne_ h.s3 (by decide) (by rw [hA, e']) e (by omega) h0
  · exact h.s2.ne_ h.s4 (by decide) (by rw [hA, e']) e (by omega) h0
end
theorem Sl.chain {w : World} {B n cap g : Nat} {A : Option Addr} {sz : Nat} {t : TypeId} {f : Nat → Value} {x0 x1 x2 x3 : Value} (h : Sl w B t sz A n cap f) (hx : Bx w g 32 x0 x1 x2 x3) (ht : t ≠ 32) : ¬ (0 < n ∧ A = some ⟨g, 0, none⟩) := fun y => by
  obtain ⟨k, e, _, _, _, hr⟩ := h y.1
  rw [y.2] at e
  cases e
  exact Rw.ne_ hr hx ht rfl
theorem Own.chainN {w : World} {M g : Nat} {A1 A2 A3 A4 : Option Addr} {c1 c2 c3 c4 n1 n2 n3 n4 : Nat} {D : D4} {x0 x1 x2 x3 : Value} (h : Own w M A1 A2 A3 A4 c1 c2 c3 c4 n1 n2 n3 n4 D) (hx : Bx w g 32 x0 x1 x2 x3) : ¬ blkC A1 A2 A3 A4 n1 n2 n3 n4 g := fun hk => by
  rcases hk with ⟨e, h0⟩ | ⟨e, h0⟩ | ⟨e, h0⟩ | ⟨e, h0⟩
  · exact h.s1.chain hx (by decide) ⟨h0, e⟩
  · exact h.s2.chain hx (by decide) ⟨h0, e⟩
  · exact h.s3.chain hx (by decide) ⟨h0, e⟩
  · exact h.s4.chain hx (by decide) ⟨h0, e⟩
theorem upd_sim {α : Type} {S : α → α → Prop} {f f' : Nat → α} {p q : α} {k n : Nat} (hf : ∀ i, i < n → S (f i) (f' i)) (h : S p q) : ∀ i, i < n → S (upd f k p i) (upd f' k q i) := fun i hi => by
  unfold upd
  by_cases e : i = k
  · rw [if_pos e, if_pos e]; exact h
  · rw [if_neg e, if_neg e]; exact hf i hi
theorem setP_sim {n1 n2 n3 n4 k : Nat} {D E : D4} {p q : V3} (hD : SimD n1 n2 n3 n4 D E) (h : SimP p q) : SimD n1 n2 n3 n4 (setP D k p) (setP E k q) := ⟨upd_sim hD.1 h, hD.2⟩
theorem setB_sim {n1 n2 n3 n4 k : Nat} {D E : D4} {p q : V3} (hD : SimD n1 n2 n3 n4 D E) (h : SimP p q) : SimD n1 n2 n3 n4 (setB D k p) (setB E k q) := ⟨hD.1, upd_sim hD.2.1 h, hD.2.2⟩
theorem setW_sim {n1 n2 n3 n4 k : Nat} {D E : D4} {p q : Nat} (hD : SimD n1 n2 n3 n4 D E) (h : Sim .f32 p q) : SimD n1 n2 n3 n4 (setW D k p) (setW E k q) := ⟨hD.1, hD.2.1, upd_sim hD.2.2.1 h, hD.2.2.2⟩
theorem Bds.grow {lo hi hi' : Nat} {A1 A2 A3 A4 : Option Addr} {n1 n2 n3 n4 : Nat} (h : Bds lo hi A1 A2 A3 A4 n1 n2 n3 n4) (h2 : hi ≤ hi') : Bds lo hi' A1 A2 A3 A4 n1 n2 n3 n4 :=
  ⟨h.b1.mono (Nat.le_refl _) h2, h.b2.mono (Nat.le_refl _) h2, h.b3.mono (Nat.le_refl _) h2, h.b4.mono (Nat.le_refl _) h2⟩
theorem Bds.mono {lo lo' hi hi' : Nat} {A1 A2 A3 A4 : Option Addr} {n1 n2 n3 n4 : Nat} (h : Bds lo hi A1 A2 A3 A4 n1 n2 n3 n4) (h1 : lo' ≤ lo) (h2 : hi ≤ hi') : Bds lo' hi' A1 A2 A3 A4 n1 n2 n3 n4 :=
  ⟨h.b1.mono h1 h2, h.b2.mono h1 h2, h.b3.mono h1 h2, h.b4.mono h1 h2⟩

theorem pk_okC {x y : Bool} {m1 m2 m3 m4 : Nat} {E : D4} : pk (x && (y && okC m1 m2 m3 m4 E)) m1 ≤ 1048576 ∧ pk (x && (y && okC m1 m2 m3 m4 E)) m2 ≤ 1048576 ∧ pk (x && (y && okC m1 m2 m3 m4 E)) m3 ≤ 1048576 ∧ pk (x && (y && okC m1 m2 m3 m4 E)) m4 ≤ 1048576 := by
  cases h : (x && (y && okC m1 m2 m3 m4 E))
  · exact ⟨Nat.zero_le _, Nat.zero_le _, Nat.zero_le _, Nat.zero_le _⟩
  · simp only [Bool.and_eq_true] at h
    obtain ⟨z1, z2, z3, z4⟩ := okC_sz h.2.2
    refine ⟨?_, ?_, ?_, ?_⟩ <;> simp only [pk] <;> omega

/-! ### indices -/
theorem impl_hasPlace (g : Nat) (i : Int) (A1 A2 A3 A4 : Option Addr) (c1 c2 c3 c4 n1 n2 n3 n4 : Nat) (hn : n1 ≤ 1048576) (u : World) (hx : Bx u g 32 (.slice A1 n1 c1) (.slice A2 n2 c2) (.slice A3 n3 c3) (.slice A4 n4 c4)) :
    Calls Try.prog 129 #[.pointer (some ⟨g, 0, none⟩), .int .i64 i] u (RetQ (.bool (inI i 0 ((n1 : Int) - 1))) u) := by
  obtain ⟨p0, p1, p2, p3, pf⟩ := hx.facts
  have lp := hx.lt
  clear hx
  go_enter Try.func129, Try.ntmps129
  go_wp2_with fail
  refine (impl_in i 0 ((n1 : Int) - 1) _).mono ?_
  rintro e w' ⟨rfl, n, rfl⟩
  go_wp2_with fail
  go_ret
  exact ⟨rfl, n, rfl⟩
theorem impl_hasRod' (g : Nat) (i : Int) (A1 A2 A3 A4 : Option Addr) (c1 c2 c3 c4 n1 n2 n3 n4 : Nat) (hn : n4 ≤ 1048576) (u : World) (hx : Bx u g 32 (.slice A1 n1 c1) (.slice A2 n2 c2) (.slice A3 n3 c3) (.slice A4 n4 c4)) :
    Calls Try.prog 118 #[.pointer (some ⟨g, 0, none⟩), .int .i64 i] u (RetQ (.bool (inI i 0 ((n4 : Int) - 1))) u) := by
  obtain ⟨p0, p1, p2, p3, pf⟩ := hx.facts
  have lp := hx.lt
  clear hx
  go_enter Try.func118, Try.ntmps118
  go_wp2_with fail
  refine (impl_in i 0 ((n4 : Int) - 1) _).mono ?_
  rintro e w' ⟨rfl, n, rfl⟩
  go_wp2_with fail
  go_ret
  exact ⟨rfl, n, rfl⟩
theorem inI_nat {i : Int} {n : Nat} (h : inI i 0 ((n : Int) - 1) = true) : ∃ k : Nat, i = (k : Int) ∧ k < n := by
  unfold inI at h
  simp only [Bool.and_eq_true, decide_eq_true_eq] at h
  exact ⟨i.toNat, by omega, by omega⟩
end Go.Proofs.Ytlhgaihfghobmaa
