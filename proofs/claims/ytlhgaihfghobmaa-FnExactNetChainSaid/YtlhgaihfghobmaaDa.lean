/- Vectors as values, blocks of three cells, and what a valid chain is known by. -/
import Derived.Test.YtlhgaihfghobmaaCl
import Derived.Test.YtlhgaihfghobmaaW2
import Derived.Test.YtlhgaihfghobmaaRg
import Derived.Deep.RegionHeld3
import Derived.Deep.DeepCutAuto
namespace Go.Proofs.Ytlhgaihfghobmaa
open Go.ChangeShapes Go.WideShapes Go.ChangeAt Go.RowKit Go.Deep

def vadd (p q : V3) : V3 := ⟨F.add p.x q.x, F.add p.y q.y, F.add p.z q.z⟩
def vsub (p q : V3) : V3 := ⟨F.sub p.x q.x, F.sub p.y q.y, F.sub p.z q.z⟩
def vmul (p : V3) (s : Nat) : V3 := ⟨F.mul p.x s, F.mul p.y s, F.mul p.z s⟩
theorem fadd_sim {a a' b b' : Nat} (ha : Sim .f32 a a') (hb : Sim .f32 b b') : Sim .f32 (F.add a b) (F.add a' b') := add_sim ha hb _ _
theorem fsub_sim {a a' b b' : Nat} (ha : Sim .f32 a a') (hb : Sim .f32 b b') : Sim .f32 (F.sub a b) (F.sub a' b') := sub_sim ha hb _ _
theorem fmul_sim {a a' b b' : Nat} (ha : Sim .f32 a a') (hb : Sim .f32 b b') : Sim .f32 (F.mul a b) (F.mul a' b') := mul_sim ha hb _ _
theorem fquo_sim {a a' b b' : Nat} (ha : Sim .f32 a a') (hb : Sim .f32 b b') : Sim .f32 (F.quo a b) (F.quo a' b') := quo_sim ha hb _ _
theorem vadd_sim {p p' q q' : V3} (h : SimP p p') (k : SimP q q') : SimP (vadd p q) (vadd p' q') := ⟨fadd_sim h.1 k.1, fadd_sim h.2.1 k.2.1, fadd_sim h.2.2 k.2.2⟩
theorem vsub_sim {p p' q q' : V3} (h : SimP p p') (k : SimP q q') : SimP (vsub p q) (vsub p' q') := ⟨fsub_sim h.1 k.1, fsub_sim h.2.1 k.2.1, fsub_sim h.2.2 k.2.2⟩
theorem vmul_sim {p p' : V3} {s s' : Nat} (h : SimP p p') (k : Sim .f32 s s') : SimP (vmul p s) (vmul p' s') := ⟨fmul_sim h.1 k, fmul_sim h.2.1 k, fmul_sim h.2.2 k⟩
/-- the sum of so many vectors. -/
def sumV (f : Nat → V3) : Nat → V3
  | 0 => ⟨0, 0, 0⟩
  | k + 1 => vadd (sumV f k) (f k)
/-- the sum of so many numbers. -/
def sumF (f : Nat → Nat) : Nat → Nat
  | 0 => 0
  | k + 1 => F.add (sumF f k) (f k)

/-! ### a block of three cells -/
def f3 (x0 x1 x2 : Value) (j : Nat) : Value := if j = 0 then x0 else if j = 1 then x1 else x2
def Tx (w : World) (g : Nat) (t : TypeId) (x0 x1 x2 : Value) : Prop := Rw w g t 3 3 (f3 x0 x1 x2)
namespace Tx
variable {w w' : World} {g : Nat} {t : TypeId} {x0 x1 x2 : Value}
theorem new_ (w : World) (t : TypeId) (x0 x1 x2 : Value) : Tx (w.alloc (.cells #[x0, x1, x2] t)) w.heap.size t x0 x1 x2 :=
  ⟨#[x0, x1, x2], heap_alloc_new w _, rfl, Nat.le_refl _, fun j hj => by
    have : j = 0 ∨ j = 1 ∨ j = 2 := by omega
    rcases this with rfl | rfl | rfl <;> rfl⟩
theorem c0 (h : Tx w g t x0 x1 x2) : w.cell? ⟨g, 0, none⟩ = some x0 := Rw.cell h (by omega)
theorem c1 (h : Tx w g t x0 x1 x2) : w.cell? ⟨g, 1, none⟩ = some x1 := Rw.cell h (by omega)
theorem c2 (h : Tx w g t x0 x1 x2) : w.cell? ⟨g, 2, none⟩ = some x2 := Rw.cell h (by omega)
theorem f (h : Tx w g t x0 x1 x2) (j : Nat) : w.frozen? ⟨g, j, none⟩ = false := Rw.frozen h j
theorem lt (h : Tx w g t x0 x1 x2) : g < w.heap.size := Rw.lt h
theorem alloc (h : Tx w g t x0 x1 x2) (o : Obj) : Tx (w.alloc o) g t x0 x1 x2 := Rw.alloc h o
theorem drewN (h : Tx w g t x0 x1 x2) (n : Nat) : Tx (w.drewN n) g t x0 x1 x2 := h
theorem go (h : Tx w g t x0 x1 x2) (hb : Below w.heap.size w w') : Tx w' g t x0 x1 x2 := Rw.go h hb
theorem wr {S : Nat → Prop} (h : Tx w g t x0 x1 x2) (hw : Wr S w w') (hn : ¬ S g) : Tx w' g t x0 x1 x2 := Rw.wr h hw hn
theorem far (h : Tx w g t x0 x1 x2) {a : Addr} (ha : g ≠ a.block) (v : Value) : Tx (w.setCell a v) g t x0 x1 x2 := Rw.setOther h ha v
theorem set0 (h : Tx w g t x0 x1 x2) (v : Value) : Tx (w.setCell ⟨g, 0, none⟩ v) g t v x1 x2 := (Rw.set h 0 v).congr fun j hj => by
  have : j = 0 ∨ j = 1 ∨ j = 2 := by omega
  rcases this with rfl | rfl | rfl <;> rfl
theorem set1 (h : Tx w g t x0 x1 x2) (v : Value) : Tx (w.setCell ⟨g, 1, none⟩ v) g t x0 v x2 := (Rw.set h 1 v).congr fun j hj => by
  have : j = 0 ∨ j = 1 ∨ j = 2 := by omega
  rcases this with rfl | rfl | rfl <;> rfl
theorem set2 (h : Tx w g t x0 x1 x2) (v : Value) : Tx (w.setCell ⟨g, 2, none⟩ v) g t x0 x1 v := (Rw.set h 2 v).congr fun j hj => by
  have : j = 0 ∨ j = 1 ∨ j = 2 := by omega
  rcases this with rfl | rfl | rfl <;> rfl
theorem setAll (h : Tx w g t x0 x1 x2) (y0 y1 y2 : Value) : Tx (((w.setCell ⟨g, 0, none⟩ y0).setCell ⟨g, 1, none⟩ y1).setCell ⟨g, 2, none⟩ y2) g t y0 y1 y2 := ((h.set0 y0).set1 y1).set2 y2
theorem facts (h : Tx w g t x0 x1 x2) : w.cell? ⟨g, 0, none⟩ = some x0 ∧ w.cell? ⟨g, 1, none⟩ = some x1 ∧ w.cell? ⟨g, 2, none⟩ = some x2 ∧ (∀ j, w.frozen? ⟨g, j, none⟩ = false) := ⟨h.c0, h.c1, h.c2, h.f⟩
theorem bel {S : Nat} (h : Below S w w') (hS : S ≤ g) (y0 y1 y2 : Value) : Below S w (((w'.setCell ⟨g, 0, none⟩ y0).setCell ⟨g, 1, none⟩ y1).setCell ⟨g, 2, none⟩ y2) := Below.setCell (Below.setCell (Below.setCell h hS y0) hS y1) hS y2
end Tx
theorem Bx.far3 {w : World} {g : Nat} {t : TypeId} {x0 x1 x2 x3 : Value} (h : Bx w g t x0 x1 x2 x3) {b : Nat} (hb : g ≠ b) (y0 y1 y2 : Value) : Bx (((w.setCell ⟨b, 0, none⟩ y0).setCell ⟨b, 1, none⟩ y1).setCell ⟨b, 2, none⟩ y2) g t x0 x1 x2 x3 := ((h.far hb y0).far hb y1).far hb y2
theorem Tx.far3 {w : World} {g : Nat} {t : TypeId} {x0 x1 x2 : Value} (h : Tx w g t x0 x1 x2) {b : Nat} (hb : g ≠ b) (y0 y1 y2 : Value) : Tx (((w.setCell ⟨b, 0, none⟩ y0).setCell ⟨b, 1, none⟩ y1).setCell ⟨b, 2, none⟩ y2) g t x0 x1 x2 := ((h.far hb y0).far hb y1).far hb y2

/-! ### a valid chain -/
theorem okC_sz {n1 n2 n3 n4 : Nat} {D : D4} (h : okC n1 n2 n3 n4 D = true) : n1 ≤ 24 ∧ n2 = n1 ∧ n3 = n1 ∧ n4 ≤ 40 := by
  unfold okC szB at h
  simp only [Bool.and_eq_true, decide_eq_true_eq] at h
  exact ⟨h.1.1.1.1.1, h.1.1.1.1.2, h.1.1.1.2, h.1.1.2⟩
theorem okC_rod {n1 n2 n3 n4 : Nat} {D : D4} (h : okC n1 n2 n3 n4 D = true) {j : Nat} (hj : j < n4) : (0 ≤ (D.R j).a ∧ (D.R j).a < n1) ∧ (0 ≤ (D.R j).b ∧ (D.R j).b < n1) ∧ (D.R j).a ≠ (D.R j).b ∧ lvl (D.R j).l = true := by
  unfold okC at h
  simp only [Bool.and_eq_true] at h
  have h1 := allB_iff.1 h.2 j hj
  unfold rdB inI at h1
  simp only [Bool.and_eq_true, decide_eq_true_eq, Bool.not_eq_true', beq_eq_false_iff_ne] at h1
  exact ⟨⟨h1.1.1.1.1, by omega⟩, ⟨h1.1.1.2.1, by omega⟩, h1.1.2, h1.2⟩
theorem okC_pl {n1 n2 n3 n4 : Nat} {D : D4} (h : okC n1 n2 n3 n4 D = true) {j : Nat} (hj : j < n1) : finV (D.P j) = true ∧ finV (D.B j) = true ∧ lvl (D.W j) = true := by
  unfold okC at h
  simp only [Bool.and_eq_true] at h
  have h1 := allB_iff.1 h.1.2 j hj
  unfold vwB at h1
  simp only [Bool.and_eq_true] at h1
  exact ⟨h1.1.1, h1.1.2, h1.2⟩

/-- returns a vector, up to the choice of NaNs, and a Boolean. -/
def RetVB (v : V3) (b : Bool) (w : World) (e : Ending) (w' : World) : Prop :=
  ∃ x y z, e = .returned (.tuple #[.agg #[.float .f32 x, .float .f32 y, .float .f32 z], .bool b]) ∧ SimP ⟨x, y, z⟩ v ∧ Below w.heap.size w w'
/-- returns a number, up to the choice of a NaN, and a Boolean. -/
def RetNB (v : Nat) (b : Bool) (w : World) (e : Ending) (w' : World) : Prop :=
  ∃ x, e = .returned (.tuple #[.float .f32 x, .bool b]) ∧ x < 4294967296 ∧ Sim .f32 x v ∧ Below w.heap.size w w'
theorem RetQ.v {v : Value} {w : World} {e : Ending} {w' : World} (h : RetQ v w e w') : RetV v w e w' := by obtain ⟨rfl, n, rfl⟩ := h; exact ⟨rfl, below_n _ _ _⟩
def isV (q : V3) : Value → Prop := fun v => ∃ x y z, v = .agg #[.float .f32 x, .float .f32 y, .float .f32 z] ∧ SimP ⟨x, y, z⟩ q
theorem isV.mk {q : V3} {x y z : Nat} (h : SimP ⟨x, y, z⟩ q) : isV q (.agg #[.float .f32 x, .float .f32 y, .float .f32 z]) := ⟨x, y, z, rfl, h⟩
theorem isV.out {q : V3} {v : Value} (h : isV q v) : ∃ x y z, v = .agg #[.float .f32 x, .float .f32 y, .float .f32 z] ∧ SimP ⟨x, y, z⟩ q := h
end Go.Proofs.Ytlhgaihfghobmaa
