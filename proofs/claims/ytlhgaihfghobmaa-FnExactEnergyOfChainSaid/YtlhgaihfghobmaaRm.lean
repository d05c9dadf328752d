/- Facts of values that the laws on chains ask for in a region that draws. -/
import Derived.Test.YtlhgaihfghobmaaRl
namespace Go.Proofs.Ytlhgaihfghobmaa
open Go.ChangeShapes Go.WideShapes Go.ChangeAt Go.RowKit Go.Deep

/-! ### facts of chains -/
/-- a chain in blocks from M on, as toChain makes it. -/
def isT (M n1 n2 n3 n4 : Nat) (D : D4) (v : Value) (w : World) : Prop :=
  ∃ x1 x2 x3 x4, v = .agg #[.slice (some ⟨x1, 0, none⟩) n1 n1, .slice (some ⟨x2, 0, none⟩) n2 n2, .slice (some ⟨x3, 0, none⟩) n3 n3, .slice (some ⟨x4, 0, none⟩) n4 n4] ∧ Own w M (some ⟨x1, 0, none⟩) (some ⟨x2, 0, none⟩) (some ⟨x3, 0, none⟩) (some ⟨x4, 0, none⟩) n1 n2 n3 n4 n1 n2 n3 n4 D
/-- a chain of its own, as D up to NaNs; and with a Boolean. -/
def isC (M n1 n2 n3 n4 : Nat) (D : D4) (v : Value) (w : World) : Prop :=
  ∃ A1 A2 A3 A4 c1 c2 c3 c4 D', v = .agg #[.slice A1 n1 c1, .slice A2 n2 c2, .slice A3 n3 c3, .slice A4 n4 c4] ∧ SimD n1 n2 n3 n4 D' D ∧ Own w M A1 A2 A3 A4 c1 c2 c3 c4 n1 n2 n3 n4 D'
def isCB (b : Bool) (M n1 n2 n3 n4 : Nat) (D : D4) (v : Value) (w : World) : Prop :=
  ∃ A1 A2 A3 A4 c1 c2 c3 c4 D', v = .tuple #[.agg #[.slice A1 n1 c1, .slice A2 n2 c2, .slice A3 n3 c3, .slice A4 n4 c4], .bool b] ∧ SimD n1 n2 n3 n4 D' D ∧ Own w M A1 A2 A3 A4 c1 c2 c3 c4 n1 n2 n3 n4 D'
/-- a number up to a NaN's bits, and a Boolean. -/
def isNB (b : Bool) (N : Nat) (v : Value) (_ : World) : Prop := ∃ x, v = .tuple #[.float .f32 x, .bool b] ∧ x < 4294967296 ∧ Sim .f32 x N
/-- the address of a new block that holds a chain. -/
def isA (S : Nat) (v : Value) (w : World) : Prop := ∃ k x0 x1 x2 x3, v = .pointer (some ⟨k, 0, none⟩) ∧ S ≤ k ∧ Bx w k 32 x0 x1 x2 x3
/-- the address of a new block that holds such a chain. -/
def isAC (S M n1 n2 n3 n4 : Nat) (D : D4) (v : Value) (w : World) : Prop :=
  ∃ k A1 A2 A3 A4 c1 c2 c3 c4 D', v = .pointer (some ⟨k, 0, none⟩) ∧ S ≤ k ∧ Bx w k 32 (.slice A1 n1 c1) (.slice A2 n2 c2) (.slice A3 n3 c3) (.slice A4 n4 c4) ∧ SimD n1 n2 n3 n4 D' D ∧ Own w M A1 A2 A3 A4 c1 c2 c3 c4 n1 n2 n3 n4 D'
/-- a store to a chain's block. -/
def Cw (w w' : World) : Prop := ∃ k x0 x1 x2 x3 y0 y1 y2 y3, Bx w k 32 x0 x1 x2 x3 ∧ Wr (fun b => b = k) w w' ∧ Bx w' k 32 y0 y1 y2 y3
section
variable {w w' : World} {v : Value}
theorem isT.go {M n1 n2 n3 n4 : Nat} {D : D4} (h : isT M n1 n2 n3 n4 D v w) (hw : Gw w w') : isT M n1 n2 n3 n4 D v w' := by
  obtain ⟨x1, x2, x3, x4, h1, h2⟩ := h
  exact ⟨x1, x2, x3, x4, h1, h2.go hw⟩
theorem isT.st {M n1 n2 n3 n4 : Nat} {D : D4} (h : isT M n1 n2 n3 n4 D v w) (hw : Cw w w') : isT M n1 n2 n3 n4 D v w' := by
  obtain ⟨x1, x2, x3, x4, h1, h2⟩ := h
  obtain ⟨k, _, _, _, _, _, _, _, _, hx, hW, _⟩ := hw
  exact ⟨x1, x2, x3, x4, h1, h2.off hx hW⟩
theorem isC.go {M n1 n2 n3 n4 : Nat} {D : D4} (h : isC M n1 n2 n3 n4 D v w) (hw : Gw w w') : isC M n1 n2 n3 n4 D v w' := by
  obtain ⟨A1, A2, A3, A4, c1, c2, c3, c4, D', h1, h2, h3⟩ := h
  exact ⟨A1, A2, A3, A4, c1, c2, c3, c4, D', h1, h2, h3.go hw⟩
theorem isC.st {M n1 n2 n3 n4 : Nat} {D : D4} (h : isC M n1 n2 n3 n4 D v w) (hw : Cw w w') : isC M n1 n2 n3 n4 D v w' := by
  obtain ⟨A1, A2, A3, A4, c1, c2, c3, c4, D', h1, h2, h3⟩ := h
  obtain ⟨k, _, _, _, _, _, _, _, _, hx, hW, _⟩ := hw
  exact ⟨A1, A2, A3, A4, c1, c2, c3, c4, D', h1, h2, h3.off hx hW⟩
theorem isCB.go {b : Bool} {M n1 n2 n3 n4 : Nat} {D : D4} (h : isCB b M n1 n2 n3 n4 D v w) (hw : Gw w w') : isCB b M n1 n2 n3 n4 D v w' := by
  obtain ⟨A1, A2, A3, A4, c1, c2, c3, c4, D', h1, h2, h3⟩ := h
  exact ⟨A1, A2, A3, A4, c1, c2, c3, c4, D', h1, h2, h3.go hw⟩
theorem isCB.st {b : Bool} {M n1 n2 n3 n4 : Nat} {D : D4} (h : isCB b M n1 n2 n3 n4 D v w) (hw : Cw w w') : isCB b M n1 n2 n3 n4 D v w' := by
  obtain ⟨A1, A2, A3, A4, c1, c2, c3, c4, D', h1, h2, h3⟩ := h
  obtain ⟨k, _, _, _, _, _, _, _, _, hx, hW, _⟩ := hw
  exact ⟨A1, A2, A3, A4, c1, c2, c3, c4, D', h1, h2, h3.off hx hW⟩
theorem isA.go {S : Nat} (h : isA S v w) (hw : Gw w w') : isA S v w' := by
  obtain ⟨k, x0, x1, x2, x3, h1, h2, h3⟩ := h
  exact ⟨k, x0, x1, x2, x3, h1, h2, h3.go hw⟩
theorem isA.st {S : Nat} (h : isA S v w) (hw : Cw w w') : isA S v w' := by
  obtain ⟨k, x0, x1, x2, x3, h1, h2, h3⟩ := h
  obtain ⟨k', _, _, _, _, y0, y1, y2, y3, _, hW, hy⟩ := hw
  by_cases e : k = k'
  · subst e
    exact ⟨k, y0, y1, y2, y3, h1, h2, hy⟩
  · exact ⟨k, x0, x1, x2, x3, h1, h2, h3.wr hW e⟩
end
end Go.Proofs.Ytlhgaihfghobmaa
