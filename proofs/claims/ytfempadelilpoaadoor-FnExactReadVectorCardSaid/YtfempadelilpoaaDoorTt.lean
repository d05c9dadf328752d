/- ReadVector: contracts of program and reference. -/
import Derived.Test.YtfempadelilpoaaDoorTu
import Derived.BigRegion
namespace Go.Proofs.YtfempadelilpoaaDoor
open Go.ChangeShapes Go.WideShapes Go.ChangeAt Go.RowKit Go.Deep

/-! ### a block of three cells -/
def f3 (x y z : Value) (j : Nat) : Value := if j = 0 then x else if j = 1 then y else z
def T3 (w : World) (g : Nat) (x y z : Value) : Prop := w.rowIs g 32 3 (f3 x y z)
namespace T3
variable {w w' : World} {g : Nat} {x y z : Value}
theorem new_ (w : World) (x y z : Value) : T3 (w.alloc (.cells #[x, y, z] 32)) w.heap.size x y z :=
  World.rowIs_alloc w #[x, y, z] 32 (f3 x y z) fun j hj => by
    have hj' : j < 3 := hj
    have : j = 0 ∨ j = 1 ∨ j = 2 := by omega
    rcases this with rfl | rfl | rfl <;> rfl
theorem go (h : T3 w g x y z) (hb : Below w.heap.size w w') : T3 w' g x y z := by
  have hlt := World.rowIs.lt h
  obtain ⟨c, hc, rest⟩ := h
  exact ⟨c, (hb.block g hlt).trans hc, rest⟩
theorem setAll (h : T3 w g x y z) (a b c : Value) : T3 (((w.setCell ⟨g, 0, none⟩ a).setCell ⟨g, 1, none⟩ b).setCell ⟨g, 2, none⟩ c) g a b c :=
  (((World.rowIs.set h 0 a).set 1 b).set 2 c).congr fun j hj => by
    have : j = 0 ∨ j = 1 ∨ j = 2 := by omega
    rcases this with rfl | rfl | rfl <;> rfl
theorem facts (h : T3 w g x y z) : w.cell? ⟨g, 0, none⟩ = some x ∧ w.cell? ⟨g, 1, none⟩ = some y ∧ w.cell? ⟨g, 2, none⟩ = some z ∧ (∀ j, w.frozen? ⟨g, j, none⟩ = false) :=
  ⟨World.rowIs.cell h (i := 0) (by omega), World.rowIs.cell h (i := 1) (by omega), World.rowIs.cell h (i := 2) (by omega), World.rowIs.frozen h⟩
theorem bel {S : Nat} (h : Below S w w') (hS : S ≤ g) (a b c : Value) : Below S w (((w'.setCell ⟨g, 0, none⟩ a).setCell ⟨g, 1, none⟩ b).setCell ⟨g, 2, none⟩ c) := Below.setCell (Below.setCell (Below.setCell h hS a) hS b) hS c
end T3
def okV (R : List Nat) (b : Bool) : Bool := b && (R.length == 3)
def vecN (R : List Nat) (b : Bool) (i : Nat) : Nat := if okV R b then nth R i else 0
def vecT (R : List Nat) (b : Bool) : Value := .tuple #[.agg #[.float .f32 (vecN R b 0), .float .f32 (vecN R b 1), .float .f32 (vecN R b 2)], .bool (okV R b)]
theorem vecT_no {R : List Nat} {b : Bool} (h : okV R b = false) : vecT R b = .tuple #[.agg #[.float .f32 0, .float .f32 0, .float .f32 0], .bool false] := by
  unfold vecT vecN
  rw [h]
  rfl
theorem owF3 {W : World} {B : Nat} {v : Value} {a b c : Nat} (h : OwF W B v [a, b, c]) : ∃ g cap, v = .slice (some ⟨g, 0, none⟩) 3 cap ∧ B ≤ g ∧ W.cell? ⟨g, 0, none⟩ = some (.float .f32 a) ∧ W.cell? ⟨g, 1, none⟩ = some (.float .f32 b) ∧ W.cell? ⟨g, 2, none⟩ = some (.float .f32 c) := by
  rcases owF_form h with ⟨h0, _⟩ | ⟨g, cap, _, rfl, hB, _, hc, _⟩
  · cases h0
  · exact ⟨g, cap, rfl, hB, hc 0 (by simp), hc 1 (by simp), hc 2 (by simp)⟩
theorem three {R : List Nat} (h : R.length = 3) : ∃ a b c, R = [a, b, c] := by
  match R, h with
  | [a, b, c], _ => exact ⟨a, b, c, rfl⟩
theorem spec_l01VRead (s : ByteArray) (R : List Nat) (b : Bool) (w : World) (hs : ∀ W, Below w.heap.size w W → Calls Tryd.prog 37 #[.string s] W (RetFL R b W)) : Calls Tryd.prog 35 #[.string s] w (RetV (vecT R b) w) := by
  have HS := Lib.hid hs
  clear hs
  cases b
  · rw [vecT_no (R := R) (b := false) rfl]
    go_enter Tryd.func35, Tryd.ntmps35
    go_wp2_with fail
    refine (HS.out _ (by repeat' (first | with_reducible exact Below.refl _ _ | with_reducible assumption | with_reducible refine below_dn ?_ _ | with_reducible refine Below.drew ?_ | with_reducible refine below_step ?_ (by assumption) | with_reducible refine Below.setCell ?_ ?_ _ | with_reducible refine Below.alloc ?_ ?_ _ | with_reducible exact Nat.le_refl _ | (simp; done) | (simp; omega) | omega))).mono ?_
    rintro e w1 ⟨v, rfl, ho, hb⟩
    have V1 := Lib.hid ((T3.new_ w (.float .f32 0) (.float .f32 0) (.float .f32 0)).go hb)
    have B1 := Lib.hid (show Below w.heap.size w w1 from below_step (w := w) (by repeat' (first | with_reducible exact Below.refl _ _ | with_reducible assumption | with_reducible refine below_dn ?_ _ | with_reducible refine Below.drew ?_ | with_reducible refine below_step ?_ (by assumption) | with_reducible refine Below.setCell ?_ ?_ _ | with_reducible refine Below.alloc ?_ ?_ _ | with_reducible exact Nat.le_refl _ | (simp; done) | (simp; omega) | omega)) hb)
    clear hb ho
    obtain ⟨v0, v1, v2, vf⟩ := V1.out.facts
    have lv := World.rowIs.lt V1.out
    go_wp2_with fail
    obtain ⟨r0, r1, r2, rf⟩ := (V1.out.setAll (.float .f32 0) (.float .f32 0) (.float .f32 0)).facts
    refine bodyPost_ret (v := .tuple #[.agg #[.float .f32 0, .float .f32 0, .float .f32 0], .bool false]) (by simp [results, Tryd.results35, go_sem, r0, r1, r2]) rfl ?_
    exact ⟨rfl, T3.bel B1.out (Nat.le_refl _) _ _ _⟩
  · by_cases h3 : R.length = 3
    · obtain ⟨x, y, z, rfl⟩ := three h3
      clear h3
      show Calls Tryd.prog 35 #[.string s] w (RetV (.tuple #[.agg #[.float .f32 x, .float .f32 y, .float .f32 z], .bool true]) w)
      go_enter Tryd.func35, Tryd.ntmps35
      go_wp2_with fail
      refine (HS.out _ (by repeat' (first | with_reducible exact Below.refl _ _ | with_reducible assumption | with_reducible refine below_dn ?_ _ | with_reducible refine Below.drew ?_ | with_reducible refine below_step ?_ (by assumption) | with_reducible refine Below.setCell ?_ ?_ _ | with_reducible refine Below.alloc ?_ ?_ _ | with_reducible exact Nat.le_refl _ | (simp; done) | (simp; omega) | omega))).mono ?_
      rintro e w1 ⟨v, rfl, ho, hb⟩
      have V1 := Lib.hid ((T3.new_ w (.float .f32 0) (.float .f32 0) (.float .f32 0)).go hb)
      have B1 := Lib.hid (show Below w.heap.size w w1 from below_step (w := w) (by repeat' (first | with_reducible exact Below.refl _ _ | with_reducible assumption | with_reducible refine below_dn ?_ _ | with_reducible refine Below.drew ?_ | with_reducible refine below_step ?_ (by assumption) | with_reducible refine Below.setCell ?_ ?_ _ | with_reducible refine Below.alloc ?_ ?_ _ | with_reducible exact Nat.le_refl _ | (simp; done) | (simp; omega) | omega)) hb)
      obtain ⟨g, cap, rfl, hg, c0, c1, c2⟩ := owF3 ho
      clear hb ho
      obtain ⟨v0, v1, v2, vf⟩ := V1.out.facts
      have lv := World.rowIs.lt V1.out
      go_wp2_with fail
      go_region
      go_wp2_with fail
      obtain ⟨r0, r1, r2, rf⟩ := (V1.out.setAll (.float .f32 x) (.float .f32 y) (.float .f32 z)).facts
      refine bodyPost_ret (v := .tuple #[.agg #[.float .f32 x, .float .f32 y, .float .f32 z], .bool true]) (by simp [results, Tryd.results35, go_sem, r0, r1, r2]) rfl ?_
      exact ⟨rfl, (T3.bel B1.out (Nat.le_refl _) _ _ _).drew⟩
    · rw [vecT_no (R := R) (b := true) (by unfold okV; rw [Bool.true_and, beq_eq_false_iff_ne]; exact h3)]
      have h3' : ((R.length : Int) != 3) = true := by rw [bne_iff_ne]; omega
      clear h3
      go_enter Tryd.func35, Tryd.ntmps35
      go_wp2_with fail
      refine (HS.out _ (by repeat' (first | with_reducible exact Below.refl _ _ | with_reducible assumption | with_reducible refine below_dn ?_ _ | with_reducible refine Below.drew ?_ | with_reducible refine below_step ?_ (by assumption) | with_reducible refine Below.setCell ?_ ?_ _ | with_reducible refine Below.alloc ?_ ?_ _ | with_reducible exact Nat.le_refl _ | (simp; done) | (simp; omega) | omega))).mono ?_
      rintro e w1 ⟨v, rfl, ho, hb⟩
      have V1 := Lib.hid ((T3.new_ w (.float .f32 0) (.float .f32 0) (.float .f32 0)).go hb)
      have B1 := Lib.hid (show Below w.heap.size w w1 from below_step (w := w) (by repeat' (first | with_reducible exact Below.refl _ _ | with_reducible assumption | with_reducible refine below_dn ?_ _ | with_reducible refine Below.drew ?_ | with_reducible refine below_step ?_ (by assumption) | with_reducible refine Below.setCell ?_ ?_ _ | with_reducible refine Below.alloc ?_ ?_ _ | with_reducible exact Nat.le_refl _ | (simp; done) | (simp; omega) | omega)) hb)
      obtain ⟨A, cap, rfl, _⟩ := owF_fl ho
      clear hb ho
      obtain ⟨v0, v1, v2, vf⟩ := V1.out.facts
      have lv := World.rowIs.lt V1.out
      go_wp2_with fail
      obtain ⟨r0, r1, r2, rf⟩ := (V1.out.setAll (.float .f32 0) (.float .f32 0) (.float .f32 0)).facts
      refine bodyPost_ret (v := .tuple #[.agg #[.float .f32 0, .float .f32 0, .float .f32 0], .bool false]) (by simp [results, Tryd.results35, go_sem, r0, r1, r2]) rfl ?_
      exact ⟨rfl, T3.bel B1.out (Nat.le_refl _) _ _ _⟩
theorem impl_ReadVector (s : ByteArray) (R : List Nat) (b : Bool) (w : World) (hs : ∀ W, Below w.heap.size w W → Calls Tryd.prog 19 #[.string s] W (RetFL R b W)) : Calls Tryd.prog 16 #[.string s] w (RetV (vecT R b) w) := by
  have HS := Lib.hid hs
  clear hs
  cases b
  · rw [vecT_no (R := R) (b := false) rfl]
    go_enter Tryd.func16, Tryd.ntmps16
    go_wp2_with fail
    refine (HS.out _ (by repeat' (first | with_reducible exact Below.refl _ _ | with_reducible assumption | with_reducible refine below_dn ?_ _ | with_reducible refine Below.drew ?_ | with_reducible refine below_step ?_ (by assumption) | with_reducible refine Below.setCell ?_ ?_ _ | with_reducible refine Below.alloc ?_ ?_ _ | with_reducible exact Nat.le_refl _ | (simp; done) | (simp; omega) | omega))).mono ?_
    rintro e w1 ⟨v, rfl, ho, hb⟩
    have V1 := Lib.hid ((T3.new_ w (.float .f32 0) (.float .f32 0) (.float .f32 0)).go hb)
    have B1 := Lib.hid (show Below w.heap.size w w1 from below_step (w := w) (by repeat' (first | with_reducible exact Below.refl _ _ | with_reducible assumption | with_reducible refine below_dn ?_ _ | with_reducible refine Below.drew ?_ | with_reducible refine below_step ?_ (by assumption) | with_reducible refine Below.setCell ?_ ?_ _ | with_reducible refine Below.alloc ?_ ?_ _ | with_reducible exact Nat.le_refl _ | (simp; done) | (simp; omega) | omega)) hb)
    clear hb ho
    obtain ⟨v0, v1, v2, vf⟩ := V1.out.facts
    have lv := World.rowIs.lt V1.out
    go_wp2_with fail
    obtain ⟨r0, r1, r2, rf⟩ := (V1.out.setAll (.float .f32 0) (.float .f32 0) (.float .f32 0)).facts
    refine bodyPost_ret (v := .tuple #[.agg #[.float .f32 0, .float .f32 0, .float .f32 0], .bool false]) (by simp [results, Tryd.results16, go_sem, r0, r1, r2]) rfl ?_
    exact ⟨rfl, T3.bel B1.out (Nat.le_refl _) _ _ _⟩
  · by_cases h3 : R.length = 3
    · obtain ⟨x, y, z, rfl⟩ := three h3
      clear h3
      show Calls Tryd.prog 16 #[.string s] w (RetV (.tuple #[.agg #[.float .f32 x, .float .f32 y, .float .f32 z], .bool true]) w)
      go_enter Tryd.func16, Tryd.ntmps16
      go_wp2_with fail
      refine (HS.out _ (by repeat' (first | with_reducible exact Below.refl _ _ | with_reducible assumption | with_reducible refine below_dn ?_ _ | with_reducible refine Below.drew ?_ | with_reducible refine below_step ?_ (by assumption) | with_reducible refine Below.setCell ?_ ?_ _ | with_reducible refine Below.alloc ?_ ?_ _ | with_reducible exact Nat.le_refl _ | (simp; done) | (simp; omega) | omega))).mono ?_
      rintro e w1 ⟨v, rfl, ho, hb⟩
      have V1 := Lib.hid ((T3.new_ w (.float .f32 0) (.float .f32 0) (.float .f32 0)).go hb)
      have B1 := Lib.hid (show Below w.heap.size w w1 from below_step (w := w) (by repeat' (first | with_reducible exact Below.refl _ _ | with_reducible assumption | with_reducible refine below_dn ?_ _ | with_reducible refine Below.drew ?_ | with_reducible refine below_step ?_ (by assumption) | with_reducible refine Below.setCell ?_ ?_ _ | with_reducible refine Below.alloc ?_ ?_ _ | with_reducible exact Nat.le_refl _ | (simp; done) | (simp; omega) | omega)) hb)
      obtain ⟨g, cap, rfl, hg, c0, c1, c2⟩ := owF3 ho
      clear hb ho
      obtain ⟨v0, v1, v2, vf⟩ := V1.out.facts
      have lv := World.rowIs.lt V1.out
      go_wp2_with fail
      go_region
      go_wp2_with fail
      obtain ⟨r0, r1, r2, rf⟩ := (V1.out.setAll (.float .f32 x) (.float .f32 y) (.float .f32 z)).facts
      refine bodyPost_ret (v := .tuple #[.agg #[.float .f32 x, .float .f32 y, .float .f32 z], .bool true]) (by simp [results, Tryd.results16, go_sem, r0, r1, r2]) rfl ?_
      exact ⟨rfl, (T3.bel B1.out (Nat.le_refl _) _ _ _).drew⟩
    · rw [vecT_no (R := R) (b := true) (by unfold okV; rw [Bool.true_and, beq_eq_false_iff_ne]; exact h3)]
      have h3' : ((R.length : Int) != 3) = true := by rw [bne_iff_ne]; omega
      clear h3
      go_enter Tryd.func16, Tryd.ntmps16
      go_wp2_with fail
      refine (HS.out _ (by repeat' (first | with_reducible exact Below.refl _ _ | with_reducible assumption | with_reducible refine below_dn ?_ _ | with_reducible refine Below.drew ?_ | with_reducible refine below_step ?_ (by assumption) | with_reducible refine Below.setCell ?_ ?_ _ | with_reducible refine Below.alloc ?_ ?_ _ | with_reducible exact Nat.le_refl _ | (simp; done) | (simp; omega) | omega))).mono ?_
      rintro e w1 ⟨v, rfl, ho, hb⟩
      have V1 := Lib.hid ((T3.new_ w (.float .f32 0) (.float .f32 0) (.float .f32 0)).go hb)
      have B1 := Lib.hid (show Below w.heap.size w w1 from below_step (w := w) (by repeat' (first | with_reducible exact Below.refl _ _ | with_reducible assumption | with_reducible refine below_dn ?_ _ | with_reducible refine Below.drew ?_ | with_reducible refine below_step ?_ (by assumption) | with_reducible refine Below.setCell ?_ ?_ _ | with_reducible refine Below.alloc ?_ ?_ _ | with_reducible exact Nat.le_refl _ | (simp; done) | (simp; omega) | omega)) hb)
      obtain ⟨A, cap, rfl, _⟩ := owF_fl ho
      clear hb ho
      obtain ⟨v0, v1, v2, vf⟩ := V1.out.facts
      have lv := World.rowIs.lt V1.out
      go_wp2_with fail
      obtain ⟨r0, r1, r2, rf⟩ := (V1.out.setAll (.float .f32 0) (.float .f32 0) (.float .f32 0)).facts
      refine bodyPost_ret (v := .tuple #[.agg #[.float .f32 0, .float .f32 0, .float .f32 0], .bool false]) (by simp [results, Tryd.results16, go_sem, r0, r1, r2]) rfl ?_
      exact ⟨rfl, T3.bel B1.out (Nat.le_refl _) _ _ _⟩
theorem spec_ReadVector (s : ByteArray) (R : List Nat) (b : Bool) (w : World) (hs : ∀ W, Below w.heap.size w W → Calls Tryd.prog 37 #[.string s] W (RetFL R b W)) : Calls Tryd.prog 15 #[.string s] w (RetV (vecT R b) w) := by
  have HS := Lib.hid hs
  clear hs
  show Calls Tryd.prog 15 #[.string s] w (RetV (.tuple #[.agg #[.float .f32 (vecN R b 0), .float .f32 (vecN R b 1), .float .f32 (vecN R b 2)], .bool (okV R b)]) w)
  go_enter Tryd.func15, Tryd.ntmps15
  go_wp2_with fail
  refine (spec_l01VRead s R b _ (fun W hb => HS.out W (below_step (w := w) (by repeat' (first | with_reducible exact Below.refl _ _ | with_reducible assumption | with_reducible refine below_dn ?_ _ | with_reducible refine Below.drew ?_ | with_reducible refine below_step ?_ (by assumption) | with_reducible refine Below.setCell ?_ ?_ _ | with_reducible refine Below.alloc ?_ ?_ _ | with_reducible exact Nat.le_refl _ | (simp; done) | (simp; omega) | omega)) hb))).mono ?_
  rintro e w1 ⟨rfl, hb⟩
  have V1 := Lib.hid ((T3.new_ w (.float .f32 0) (.float .f32 0) (.float .f32 0)).go hb)
  have B1 := Lib.hid (show Below w.heap.size w w1 from below_step (w := w) (by repeat' (first | with_reducible exact Below.refl _ _ | with_reducible assumption | with_reducible refine below_dn ?_ _ | with_reducible refine Below.drew ?_ | with_reducible refine below_step ?_ (by assumption) | with_reducible refine Below.setCell ?_ ?_ _ | with_reducible refine Below.alloc ?_ ?_ _ | with_reducible exact Nat.le_refl _ | (simp; done) | (simp; omega) | omega)) hb)
  clear hb
  obtain ⟨v0, v1, v2, vf⟩ := V1.out.facts
  have lv := World.rowIs.lt V1.out
  unfold vecT
  go_wp2_with fail
  obtain ⟨r0, r1, r2, rf⟩ := (V1.out.setAll (.float .f32 (vecN R b 0)) (.float .f32 (vecN R b 1)) (.float .f32 (vecN R b 2))).facts
  refine bodyPost_ret (v := .tuple #[.agg #[.float .f32 (vecN R b 0), .float .f32 (vecN R b 1), .float .f32 (vecN R b 2)], .bool (okV R b)]) (by simp [results, Tryd.results15, go_sem, r0, r1, r2]) rfl ?_
  exact ⟨rfl, T3.bel B1.out (Nat.le_refl _) _ _ _⟩
end Go.Proofs.YtfempadelilpoaaDoor
