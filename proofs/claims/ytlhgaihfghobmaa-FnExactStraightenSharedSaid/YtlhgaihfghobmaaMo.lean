/- ColoursOfRods: contracts. -/
import Derived.Test.YtlhgaihfghobmaaMc
import Derived.Test.YtlhgaihfghobmaaDg
namespace Go.Proofs.Ytlhgaihfghobmaa
open Go.ChangeShapes Go.WideShapes Go.ChangeAt Go.RowKit Go.Deep

theorem Ow.less {w : World} {B B' : Nat} {v : Value} {xs : List Int} (h : Ow w B v xs) (hb : B' ≤ B) : Ow w B' v xs := by
  refine ⟨h.1, ?_⟩
  rcases h.2 with hn | ⟨g, cap, cur, rfl, hB, rest⟩
  · exact .inl hn
  · exact .inr ⟨g, cap, cur, rfl, Nat.le_trans hb hB, rest⟩
def CP (ok : Bool) (R : Nat → Rd) (m : Nat) (xs : List Int) : Prop := (ok = true → xs.length = m ∧ IsC R xs) ∧ (ok = false → xs = [])
theorem CP.same {ok : Bool} {R : Nat → Rd} {m : Nat} {xs ys : List Int} (h : CP ok R m xs) (h' : CP ok R m ys) : ys = xs := by
  cases ok
  · rw [h.2 rfl, h'.2 rfl]
  · exact (h'.1 rfl).2.same (h.1 rfl).2 ((h'.1 rfl).1.trans (h.1 rfl).1.symm)
theorem CP.le {ok : Bool} {R : Nat → Rd} {m N : Nat} {xs : List Int} (h : CP ok R m xs) (hm : m ≤ N) : xs.length ≤ N := by
  cases ok
  · rw [h.2 rfl]; exact Nat.zero_le _
  · rw [(h.1 rfl).1]; exact hm
def RetCB (ok : Bool) (R : Nat → Rd) (m : Nat) (w : World) (e : Ending) (w' : World) : Prop := ∃ xs, CP ok R m xs ∧ RetIB xs ok w e w'
theorem okC_m {n1 n2 n3 n4 : Nat} {D : D4} (h : okC n1 n2 n3 n4 D = true) : n4 ≤ 40 := (okC_sz h).2.2.2
theorem Own.room {w : World} {B : Nat} {A1 A2 A3 A4 : Option Addr} {c1 c2 c3 c4 n1 n2 n3 n4 : Nat} {D : D4} (h : Own w B A1 A2 A3 A4 c1 c2 c3 c4 n1 n2 n3 n4 D) : n4 ≤ c4 := by
  by_cases h0 : 0 < n4
  · obtain ⟨_, _, _, hc, _⟩ := h.s4 h0
    exact hc
  · omega
set_option maxHeartbeats 2000000 in
theorem spec_ColoursOfRods (A1 A2 A3 A4 : Option Addr) (c1 c2 c3 c4 n1 n2 n3 n4 B : Nat) (D : D4) (w : World) (h : Own w B A1 A2 A3 A4 c1 c2 c3 c4 n1 n2 n3 n4 D) :
    Calls Try.prog 45 #[.agg #[.slice A1 n1 c1, .slice A2 n2 c2, .slice A3 n3 c3, .slice A4 n4 c4]] w (RetCB (okC n1 n2 n3 n4 D) D.R n4 w) := by
  have H := Lib.hid h
  clear h
  cases q1 : okC n1 n2 n3 n4 D
  · go_enter Try.func45, Try.ntmps45
    go_wp2_with fail
    refine (spec_l03Is w.heap.size A1 A2 A3 A4 c1 c2 c3 c4 n1 n2 n3 n4 B D _ (Bx.new_ _ _ _ _ _ _) (H.out.go (by repeat' (first | with_reducible exact Below.refl _ _ | with_reducible assumption | with_reducible refine below_dn ?_ _ | with_reducible refine Below.drew ?_ | with_reducible refine below_step ?_ (by assumption) | with_reducible refine Below.setCell ?_ ?_ _ | with_reducible refine Below.alloc ?_ ?_ _ | with_reducible exact Nat.le_refl _ | (simp; done) | (simp; omega) | omega)))).mono ?_
    rintro e w1 ⟨rfl, hb1⟩
    rw [q1]
    have B1 := Lib.hid (show Below w.heap.size w w1 from below_step (w := w) ((by repeat' (first | with_reducible exact Below.refl _ _ | with_reducible assumption | with_reducible refine below_dn ?_ _ | with_reducible refine Below.drew ?_ | with_reducible refine below_step ?_ (by assumption) | with_reducible refine Below.setCell ?_ ?_ _ | with_reducible refine Below.alloc ?_ ?_ _ | with_reducible exact Nat.le_refl _ | (simp; done) | (simp; omega) | omega))) hb1)
    clear hb1
    go_wp2_with fail
    go_ret2
    exact ⟨[], ⟨fun h => absurd h (by simp), fun _ => rfl⟩, _, rfl, World.ownsRow_nil _ _ _ _, B1.out⟩
  · have hm := okC_m q1
    go_enter Try.func45, Try.ntmps45
    go_wp2_with fail
    refine (spec_l03Is w.heap.size A1 A2 A3 A4 c1 c2 c3 c4 n1 n2 n3 n4 B D _ (Bx.new_ _ _ _ _ _ _) (H.out.go (by repeat' (first | with_reducible exact Below.refl _ _ | with_reducible assumption | with_reducible refine below_dn ?_ _ | with_reducible refine Below.drew ?_ | with_reducible refine below_step ?_ (by assumption) | with_reducible refine Below.setCell ?_ ?_ _ | with_reducible refine Below.alloc ?_ ?_ _ | with_reducible exact Nat.le_refl _ | (simp; done) | (simp; omega) | omega)))).mono ?_
    rintro e w1 ⟨rfl, hb1⟩
    rw [q1]
    have P1 := Lib.hid ((Bx.new_ w 32 (.slice A1 n1 c1) (.slice A2 n2 c2) (.slice A3 n3 c3) (.slice A4 n4 c4)).go hb1)
    have B1 := Lib.hid (show Below w.heap.size w w1 from below_step (w := w) ((by repeat' (first | with_reducible exact Below.refl _ _ | with_reducible assumption | with_reducible refine below_dn ?_ _ | with_reducible refine Below.drew ?_ | with_reducible refine below_step ?_ (by assumption) | with_reducible refine Below.setCell ?_ ?_ _ | with_reducible refine Below.alloc ?_ ?_ _ | with_reducible exact Nat.le_refl _ | (simp; done) | (simp; omega) | omega))) hb1)
    have O1 := Lib.hid (H.out.go B1.out)
    clear hb1
    go_wp2_with fail
    refine (spec_colours w.heap.size _ _ _ A4 c4 n4 D.R _ P1.out O1.out.s4.in_ hm).mono ?_
    rintro e w2 ⟨xs, x1, x2, v, rfl, ho2, hb2⟩
    have V2 := Lib.hid ho2
    have X2 := Lib.hid x2
    have B2 := Lib.hid (below_step B1.out hb2)
    have sz := B1.out.size
    clear ho2 x2 hb2
    go_wp2_with fail
    go_ret2
    exact ⟨xs, ⟨fun _ => ⟨x1, X2.out⟩, fun h => absurd h (by simp)⟩, _, rfl, Ow.less V2.out sz, B2.out⟩
set_option maxHeartbeats 2000000 in
theorem impl_ColoursOfRods (A1 A2 A3 A4 : Option Addr) (c1 c2 c3 c4 n1 n2 n3 n4 B : Nat) (D : D4) (w : World) (h : Own w B A1 A2 A3 A4 c1 c2 c3 c4 n1 n2 n3 n4 D) :
    Calls Try.prog 46 #[.agg #[.slice A1 n1 c1, .slice A2 n2 c2, .slice A3 n3 c3, .slice A4 n4 c4]] w (RetCB (okC n1 n2 n3 n4 D) D.R n4 w) := by
  have H := Lib.hid h
  clear h
  cases q1 : okC n1 n2 n3 n4 D
  · go_enter Try.func46, Try.ntmps46
    go_wp2_with fail
    refine (impl_ValidChain A1 A2 A3 A4 c1 c2 c3 c4 n1 n2 n3 n4 B D _ (H.out.go (by repeat' (first | with_reducible exact Below.refl _ _ | with_reducible assumption | with_reducible refine below_dn ?_ _ | with_reducible refine Below.drew ?_ | with_reducible refine below_step ?_ (by assumption) | with_reducible refine Below.setCell ?_ ?_ _ | with_reducible refine Below.alloc ?_ ?_ _ | with_reducible exact Nat.le_refl _ | (simp; done) | (simp; omega) | omega)))).mono ?_
    rintro e w1 ⟨rfl, hb1⟩
    rw [q1]
    have B1 := Lib.hid (show Below w.heap.size w w1 from below_step (w := w) ((by repeat' (first | with_reducible exact Below.refl _ _ | with_reducible assumption | with_reducible refine below_dn ?_ _ | with_reducible refine Below.drew ?_ | with_reducible refine below_step ?_ (by assumption) | with_reducible refine Below.setCell ?_ ?_ _ | with_reducible refine Below.alloc ?_ ?_ _ | with_reducible exact Nat.le_refl _ | (simp; done) | (simp; omega) | omega))) hb1)
    clear hb1
    go_wp2_with fail
    go_ret2
    exact ⟨[], ⟨fun h => absurd h (by simp), fun _ => rfl⟩, _, rfl, World.ownsRow_nil _ _ _ _, B1.out⟩
  · have hm := okC_m q1
    go_enter Try.func46, Try.ntmps46
    go_wp2_with fail
    refine (impl_ValidChain A1 A2 A3 A4 c1 c2 c3 c4 n1 n2 n3 n4 B D _ (H.out.go (by repeat' (first | with_reducible exact Below.refl _ _ | with_reducible assumption | with_reducible refine below_dn ?_ _ | with_reducible refine Below.drew ?_ | with_reducible refine below_step ?_ (by assumption) | with_reducible refine Below.setCell ?_ ?_ _ | with_reducible refine Below.alloc ?_ ?_ _ | with_reducible exact Nat.le_refl _ | (simp; done) | (simp; omega) | omega)))).mono ?_
    rintro e w1 ⟨rfl, hb1⟩
    rw [q1]
    have P1 := Lib.hid ((Bx.new_ w 32 (.slice A1 n1 c1) (.slice A2 n2 c2) (.slice A3 n3 c3) (.slice A4 n4 c4)).go hb1)
    have B1 := Lib.hid (show Below w.heap.size w w1 from below_step (w := w) ((by repeat' (first | with_reducible exact Below.refl _ _ | with_reducible assumption | with_reducible refine below_dn ?_ _ | with_reducible refine Below.drew ?_ | with_reducible refine below_step ?_ (by assumption) | with_reducible refine Below.setCell ?_ ?_ _ | with_reducible refine Below.alloc ?_ ?_ _ | with_reducible exact Nat.le_refl _ | (simp; done) | (simp; omega) | omega))) hb1)
    have O1 := Lib.hid (H.out.go B1.out)
    clear hb1
    go_wp2_with fail
    refine (impl_colours w.heap.size _ _ _ A4 c4 n4 D.R _ P1.out O1.out.s4.in_ hm O1.out.room).mono ?_
    rintro e w2 ⟨xs, x1, x2, v, rfl, ho2, hb2⟩
    have V2 := Lib.hid ho2
    have X2 := Lib.hid x2
    have B2 := Lib.hid (below_step B1.out hb2)
    have sz := B1.out.size
    clear ho2 x2 hb2
    go_wp2_with fail
    go_ret2
    exact ⟨xs, ⟨fun _ => ⟨x1, X2.out⟩, fun h => absurd h (by simp)⟩, _, rfl, Ow.less V2.out sz, B2.out⟩
end Go.Proofs.Ytlhgaihfghobmaa
