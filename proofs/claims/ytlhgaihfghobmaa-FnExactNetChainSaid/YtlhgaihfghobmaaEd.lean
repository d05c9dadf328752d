/- A chain, if it is right: l03Give, toldChain. -/
import Derived.Test.YtlhgaihfghobmaaEc
namespace Go.Proofs.Ytlhgaihfghobmaa
open Go.ChangeShapes Go.WideShapes Go.ChangeAt Go.RowKit Go.Deep

def giveV (b : Bool) (A1 A2 A3 A4 : Option Addr) (c1 c2 c3 c4 n1 n2 n3 n4 : Nat) : Value :=
  match b with
  | true => .tuple #[.agg #[.slice A1 n1 c1, .slice A2 n2 c2, .slice A3 n3 c3, .slice A4 n4 c4], .bool true]
  | false => .tuple #[.agg #[.slice none 0 0, .slice none 0 0, .slice none 0 0, .slice none 0 0], .bool false]
theorem Bx.bel {w w' : World} {g S : Nat} (h : Below S w w') (hS : S ≤ g) (y0 y1 y2 y3 : Value) : Below S w ((((w'.setCell ⟨g, 0, none⟩ y0).setCell ⟨g, 1, none⟩ y1).setCell ⟨g, 2, none⟩ y2).setCell ⟨g, 3, none⟩ y3) :=
  Below.setCell (Below.setCell (Below.setCell (Below.setCell h hS y0) hS y1) hS y2) hS y3
theorem spec_l03Give (A1 A2 A3 A4 : Option Addr) (c1 c2 c3 c4 n1 n2 n3 n4 B : Nat) (D : D4) (w : World) (h : Own w B A1 A2 A3 A4 c1 c2 c3 c4 n1 n2 n3 n4 D) :
    Calls Try.prog 106 #[.agg #[.slice A1 n1 c1, .slice A2 n2 c2, .slice A3 n3 c3, .slice A4 n4 c4]] w (RetV (giveV (okC n1 n2 n3 n4 D) A1 A2 A3 A4 c1 c2 c3 c4 n1 n2 n3 n4) w) := by
  have H := Lib.hid h
  clear h
  cases q1 : okC n1 n2 n3 n4 D
  all_goals
    go_enter Try.func106, Try.ntmps106
    go_wp2_with fail
    refine (spec_l03Is w.heap.size A1 A2 A3 A4 c1 c2 c3 c4 n1 n2 n3 n4 B D _ ((Bx.new_ _ _ _ _ _ _).alloc _) (H.out.go (by repeat' (first | with_reducible exact Below.refl _ _ | with_reducible assumption | with_reducible refine below_dn ?_ _ | with_reducible refine Below.drew ?_ | with_reducible refine below_step ?_ (by assumption) | with_reducible refine Below.setCell ?_ ?_ _ | with_reducible refine Below.alloc ?_ ?_ _ | with_reducible exact Nat.le_refl _ | (simp; done) | (simp; omega) | omega)))).mono ?_
    rintro e w1 ⟨rfl, hb1⟩
    have P1 := Lib.hid (((Bx.new_ w 32 (.slice A1 n1 c1) (.slice A2 n2 c2) (.slice A3 n3 c3) (.slice A4 n4 c4)).alloc _).go hb1)
    have V1 := Lib.hid ((Bx.new_ (w.alloc (.cells #[.slice A1 n1 c1, .slice A2 n2 c2, .slice A3 n3 c3, .slice A4 n4 c4] 32)) 32 sn sn sn sn).go hb1)
    have B1 := Lib.hid (show Below w.heap.size w w1 from below_step (w := w) ((by repeat' (first | with_reducible exact Below.refl _ _ | with_reducible assumption | with_reducible refine below_dn ?_ _ | with_reducible refine Below.drew ?_ | with_reducible refine below_step ?_ (by assumption) | with_reducible refine Below.setCell ?_ ?_ _ | with_reducible refine Below.alloc ?_ ?_ _ | with_reducible exact Nat.le_refl _ | (simp; done) | (simp; omega) | omega))) hb1)
    have e1 : (w.alloc (.cells #[.slice A1 n1 c1, .slice A2 n2 c2, .slice A3 n3 c3, .slice A4 n4 c4] 32)).heap.size = w.heap.size + 1 := by simp
    rw [e1] at V1
    clear hb1 e1
    obtain ⟨v0, v1, v2, v3, vf⟩ := V1.out.facts
    have lv := V1.out.lt
    obtain ⟨p0, p1, p2, p3, pf⟩ := P1.out.facts
    have lp := P1.out.lt
    rw [q1]
    go_wp2_with fail
    first
      | (obtain ⟨r0, r1, r2, r3, rf⟩ := (V1.out.setAll sn sn sn sn).facts
         refine bodyPost_ret (v := .tuple #[.agg #[sn, sn, sn, sn], .bool false]) (by simp [results, Try.results106, go_sem, r0, r1, r2, r3]) rfl ?_
         exact ⟨rfl, Bx.bel B1.out (by omega) _ _ _ _⟩)
      | (obtain ⟨r0, r1, r2, r3, rf⟩ := (V1.out.setAll (.slice A1 n1 c1) (.slice A2 n2 c2) (.slice A3 n3 c3) (.slice A4 n4 c4)).facts
         refine bodyPost_ret (v := .tuple #[.agg #[.slice A1 n1 c1, .slice A2 n2 c2, .slice A3 n3 c3, .slice A4 n4 c4], .bool true]) (by simp [results, Try.results106, go_sem, r0, r1, r2, r3]) rfl ?_
         exact ⟨rfl, Bx.bel B1.out (by omega) _ _ _ _⟩)
theorem impl_toldChain (A1 A2 A3 A4 : Option Addr) (c1 c2 c3 c4 n1 n2 n3 n4 B : Nat) (D : D4) (w : World) (h : Own w B A1 A2 A3 A4 c1 c2 c3 c4 n1 n2 n3 n4 D) :
    Calls Try.prog 109 #[.agg #[.slice A1 n1 c1, .slice A2 n2 c2, .slice A3 n3 c3, .slice A4 n4 c4]] w (RetV (giveV (okC n1 n2 n3 n4 D) A1 A2 A3 A4 c1 c2 c3 c4 n1 n2 n3 n4) w) := by
  have H := Lib.hid h
  clear h
  cases q1 : okC n1 n2 n3 n4 D
  all_goals
    go_enter Try.func109, Try.ntmps109
    go_wp2_with fail
    refine (impl_ValidChain A1 A2 A3 A4 c1 c2 c3 c4 n1 n2 n3 n4 B D _ (H.out.go (by repeat' (first | with_reducible exact Below.refl _ _ | with_reducible assumption | with_reducible refine below_dn ?_ _ | with_reducible refine Below.drew ?_ | with_reducible refine below_step ?_ (by assumption) | with_reducible refine Below.setCell ?_ ?_ _ | with_reducible refine Below.alloc ?_ ?_ _ | with_reducible exact Nat.le_refl _ | (simp; done) | (simp; omega) | omega)))).mono ?_
    rintro e w1 ⟨rfl, hb1⟩
    have P1 := Lib.hid (((Bx.new_ w 32 (.slice A1 n1 c1) (.slice A2 n2 c2) (.slice A3 n3 c3) (.slice A4 n4 c4)).alloc _).go hb1)
    have V1 := Lib.hid ((Bx.new_ (w.alloc (.cells #[.slice A1 n1 c1, .slice A2 n2 c2, .slice A3 n3 c3, .slice A4 n4 c4] 32)) 32 sn sn sn sn).go hb1)
    have B1 := Lib.hid (show Below w.heap.size w w1 from below_step (w := w) ((by repeat' (first | with_reducible exact Below.refl _ _ | with_reducible assumption | with_reducible refine below_dn ?_ _ | with_reducible refine Below.drew ?_ | with_reducible refine below_step ?_ (by assumption) | with_reducible refine Below.setCell ?_ ?_ _ | with_reducible refine Below.alloc ?_ ?_ _ | with_reducible exact Nat.le_refl _ | (simp; done) | (simp; omega) | omega))) hb1)
    have e1 : (w.alloc (.cells #[.slice A1 n1 c1, .slice A2 n2 c2, .slice A3 n3 c3, .slice A4 n4 c4] 32)).heap.size = w.heap.size + 1 := by simp
    rw [e1] at V1
    clear hb1 e1
    obtain ⟨v0, v1, v2, v3, vf⟩ := V1.out.facts
    have lv := V1.out.lt
    obtain ⟨p0, p1, p2, p3, pf⟩ := P1.out.facts
    have lp := P1.out.lt
    rw [q1]
    go_wp2_with fail
    first
      | (obtain ⟨r0, r1, r2, r3, rf⟩ := (V1.out.setAll sn sn sn sn).facts
         refine bodyPost_ret (v := .tuple #[.agg #[sn, sn, sn, sn], .bool false]) (by simp [results, Try.results109, go_sem, r0, r1, r2, r3]) rfl ?_
         exact ⟨rfl, Bx.bel B1.out (by omega) _ _ _ _⟩)
      | (obtain ⟨r0, r1, r2, r3, rf⟩ := (V1.out.setAll (.slice A1 n1 c1) (.slice A2 n2 c2) (.slice A3 n3 c3) (.slice A4 n4 c4)).facts
         refine bodyPost_ret (v := .tuple #[.agg #[.slice A1 n1 c1, .slice A2 n2 c2, .slice A3 n3 c3, .slice A4 n4 c4], .bool true]) (by simp [results, Try.results109, go_sem, r0, r1, r2, r3]) rfl ?_
         exact ⟨rfl, Bx.bel B1.out (by omega) _ _ _ _⟩)
end Go.Proofs.Ytlhgaihfghobmaa
