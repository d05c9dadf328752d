/- What a law on a changed chain wants of the results. -/
import Derived.Test.YtlhgaihfghobmaaEf
namespace Go.Proofs.Ytlhgaihfghobmaa
open Go.ChangeShapes Go.WideShapes Go.ChangeAt Go.RowKit Go.Deep

/-- so many, if it could be done. -/
def pk (b : Bool) (n : Nat) : Nat := match b with | true => n | false => 0
theorem RetM.g {b : Bool} {n1 n2 n3 n4 l1 l2 l3 l4 : Nat} {D : D4} {w : World} {e : Ending} {w' : World} (h : RetM b n1 n2 n3 n4 D w e w') (e1 : l1 = pk b n1) (e2 : l2 = pk b n2) (e3 : l3 = pk b n3) (e4 : l4 = pk b n4) :
    ∃ A1 A2 A3 A4 c1 c2 c3 c4 D', e = .returned (.tuple #[.agg #[.slice A1 l1 c1, .slice A2 l2 c2, .slice A3 l3 c3, .slice A4 l4 c4], .bool b]) ∧ SimD l1 l2 l3 l4 D' D ∧
      Own w' w.heap.size A1 A2 A3 A4 c1 c2 c3 c4 l1 l2 l3 l4 D' ∧ Bds w.heap.size w'.heap.size A1 A2 A3 A4 l1 l2 l3 l4 ∧ Below w.heap.size w w' := by
  obtain ⟨h1, h2⟩ := h
  subst e1 e2 e3 e4
  cases b with
  | true =>
    obtain ⟨A1, A2, A3, A4, c1, c2, c3, c4, D', rfl, hs, ho, hd⟩ := h1
    exact ⟨A1, A2, A3, A4, c1, c2, c3, c4, D', rfl, hs, ho, hd, h2⟩
  | false =>
    obtain rfl := h1
    exact ⟨none, none, none, none, 0, 0, 0, 0, D, rfl, SimD.refl _ _ _ _ _, ⟨Sl.empty _ _ _ _ _ _ _, Sl.empty _ _ _ _ _ _ _, Sl.empty _ _ _ _ _ _ _, Sl.empty _ _ _ _ _ _ _, fun g e => absurd e (by simp)⟩, ⟨fun g e => absurd e (by simp), fun g e => absurd e (by simp), fun g e => absurd e (by simp), fun g e => absurd e (by simp)⟩, h2⟩
theorem pk_le {b : Bool} {n m : Nat} (h : n ≤ m) : pk b n ≤ m := by cases b; exact Nat.zero_le _; exact h
theorem turn_ok (n1 n2 n3 n4 : Nat) (D : D4) : (okC n1 n2 n3 n4 D && (true && okC n2 n1 n3 n4 (turnD D))) = okC n1 n2 n3 n4 D := by
  cases h : okC n1 n2 n3 n4 D
  · rfl
  · rw [Bool.true_and, Bool.true_and]
    obtain ⟨z1, rfl, rfl, z4⟩ := okC_sz h
    unfold okC at h ⊢
    simp only [Bool.and_eq_true] at h ⊢
    refine ⟨⟨h.1.1, ?_⟩, h.2⟩
    rw [allB_iff]
    intro i hi
    have := allB_iff.1 h.1.2 i hi
    unfold vwB turnD at *
    simp only [Bool.and_eq_true] at this ⊢
    exact ⟨⟨this.1.2, this.1.1⟩, this.2⟩
theorem blkC_bd {lo hi : Nat} {A1 A2 A3 A4 : Option Addr} {n1 n2 n3 n4 k : Nat} (h : Bds lo hi A1 A2 A3 A4 n1 n2 n3 n4) (hk : blkC A1 A2 A3 A4 n1 n2 n3 n4 k) : lo ≤ k ∧ k < hi := by
  rcases hk with ⟨e, h0⟩ | ⟨e, h0⟩ | ⟨e, h0⟩ | ⟨e, h0⟩
  · exact h.b1 k e h0
  · exact h.b2 k e h0
  · exact h.b3 k e h0
  · exact h.b4 k e h0
theorem Own.bd {w : World} {B : Nat} {A1 A2 A3 A4 : Option Addr} {c1 c2 c3 c4 n1 n2 n3 n4 : Nat} {D : D4} (h : Own w B A1 A2 A3 A4 c1 c2 c3 c4 n1 n2 n3 n4 D) : Bds B w.heap.size A1 A2 A3 A4 n1 n2 n3 n4 := ⟨h.s1.bd, h.s2.bd, h.s3.bd, h.s4.bd⟩
end Go.Proofs.Ytlhgaihfghobmaa
