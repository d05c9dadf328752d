/- A chain that came in, opened whole. -/
import Derived.Test.YtlhgaihfghobmaaCg
namespace Go.Proofs.Ytlhgaihfghobmaa
open Go.ChangeShapes Go.WideShapes Go.ChangeAt Go.RowKit Go.Deep

structure Came (w : World) (A1 A2 A3 A4 : Option Addr) (n1 n2 n3 n4 : Nat) (D : D4) : Prop where
  m1 : n1 ≤ maxLen
  m2 : n2 ≤ maxLen
  m3 : n3 ≤ maxLen
  m4 : n4 ≤ maxLen
  i1 : In w w.heap.size 3 A1 n1 (vc D.P)
  i2 : In w w.heap.size 3 A2 n2 (vc D.B)
  i3 : In w w.heap.size 1 A3 n3 (fc D.W)
  i4 : In w w.heap.size 3 A4 n4 (rc D.R)
  o1 : okP n1 D.P
  o2 : okP n2 D.B
  o3 : okF n3 D.W
  o4 : okR n4 D.R
theorem Came.go {w w' : World} {A1 A2 A3 A4 : Option Addr} {n1 n2 n3 n4 : Nat} {D : D4} (h : Came w A1 A2 A3 A4 n1 n2 n3 n4 D) (hb : Below w.heap.size w w') : Came w' A1 A2 A3 A4 n1 n2 n3 n4 D :=
  ⟨h.m1, h.m2, h.m3, h.m4, h.i1.go hb, h.i2.go hb, h.i3.go hb, h.i4.go hb, h.o1, h.o2, h.o3, h.o4⟩
section
variable {H : Type} {enc : TypeId × Value → H} {w : World}
set_option maxRecDepth 100000 in
theorem open_chain {r : Reach} {b0 : Nat} {v : Value} {d : DataW H} {p : List MemPlace} (hv : Value.okWide Try.prog w r b0 26 v) (h : DataW.Trod enc Try.prog w 0 (fun _ => true) true 26 v d p) :
    ∃ (A1 A2 A3 A4 : Option Addr) (c1 c2 c3 c4 n1 n2 n3 n4 : Nat) (D : D4), v = .agg #[.slice A1 n1 c1, .slice A2 n2 c2, .slice A3 n3 c3, .slice A4 n4 c4] ∧ Came w A1 A2 A3 A4 n1 n2 n3 n4 D := by
  obtain ⟨v0, v1, v2, v3, y0, y1, y2, y3, q, rfl, _, _, g0, g1, g2, g3⟩ := Joins.open_agg4 Try.underlying26 (by kernel_rfl) (by kernel_rfl) hv h
  obtain ⟨A1, n1, c1, P, rfl, m1, i1, o1⟩ := open_vecs Try.underlying22 Try.underlying44 (by kernel_rfl) (by kernel_rfl) rfl rfl rfl Try.underlying36 g0
  obtain ⟨A2, n2, c2, B, rfl, m2, i2, o2⟩ := open_vecs Try.underlying22 Try.underlying44 (by kernel_rfl) (by kernel_rfl) rfl rfl rfl Try.underlying36 g1
  obtain ⟨A3, n3, c3, W, rfl, m3, i3, o3⟩ := open_flts Try.underlying23 Try.underlying36 (by kernel_rfl) g2
  obtain ⟨A4, n4, c4, R, rfl, m4, i4, o4⟩ := open_rods Try.underlying24 Try.underlying125 (by kernel_rfl) (by kernel_rfl) rfl rfl rfl Try.underlying2 Try.underlying36 g3
  exact ⟨A1, A2, A3, A4, c1, c2, c3, c4, n1, n2, n3, n4, ⟨P, B, W, R⟩, rfl, m1, m2, m3, m4, i1, i2, i3, i4, o1, o2, o3, o4⟩
end
end Go.Proofs.Ytlhgaihfghobmaa
