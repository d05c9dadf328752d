/- Chains owned whole; toChain; the laws' comparisons of chains. -/
import Derived.Test.YtlhgaihfghobmaaCb
namespace Go.Proofs.Ytlhgaihfghobmaa
open Go.ChangeShapes Go.WideShapes Go.ChangeAt Go.RowKit Go.Deep

/-! ### the same up to NaNs -/
def SimP (a b : V3) : Prop := Sim .f32 a.x b.x ∧ Sim .f32 a.y b.y ∧ Sim .f32 a.z b.z
def SimR (a b : Rd) : Prop := a.a = b.a ∧ a.b = b.b ∧ Sim .f32 a.l b.l
theorem SimP.refl (a : V3) : SimP a a := ⟨Sim.refl _ _, Sim.refl _ _, Sim.refl _ _⟩
theorem SimR.refl (a : Rd) : SimR a a := ⟨rfl, rfl, Sim.refl _ _⟩
theorem SimP.symm {a b : V3} (h : SimP a b) : SimP b a := ⟨h.1.symm, h.2.1.symm, h.2.2.symm⟩
theorem SimR.symm {a b : Rd} (h : SimR a b) : SimR b a := ⟨h.1.symm, h.2.1.symm, h.2.2.symm⟩
theorem SimP.trans {a b c : V3} (h : SimP a b) (k : SimP b c) : SimP a c := ⟨h.1.trans k.1, h.2.1.trans k.2.1, h.2.2.trans k.2.2⟩
theorem SimR.trans {a b c : Rd} (h : SimR a b) (k : SimR b c) : SimR a c := ⟨h.1.trans k.1, h.2.1.trans k.2.1, h.2.2.trans k.2.2⟩
/-- the contents of a chain. -/
structure D4 where
  P : Nat → V3
  B : Nat → V3
  W : Nat → Nat
  R : Nat → Rd
def SimD (n1 n2 n3 n4 : Nat) (D E : D4) : Prop := (∀ i, i < n1 → SimP (D.P i) (E.P i)) ∧ (∀ i, i < n2 → SimP (D.B i) (E.B i)) ∧ (∀ i, i < n3 → Sim .f32 (D.W i) (E.W i)) ∧ (∀ i, i < n4 → SimR (D.R i) (E.R i))
theorem SimD.refl (n1 n2 n3 n4 : Nat) (D : D4) : SimD n1 n2 n3 n4 D D := ⟨fun _ _ => SimP.refl _, fun _ _ => SimP.refl _, fun _ _ => Sim.refl _ _, fun _ _ => SimR.refl _⟩
theorem SimD.symm {n1 n2 n3 n4 : Nat} {D E : D4} (h : SimD n1 n2 n3 n4 D E) : SimD n1 n2 n3 n4 E D := ⟨fun i hi => (h.1 i hi).symm, fun i hi => (h.2.1 i hi).symm, fun i hi => (h.2.2.1 i hi).symm, fun i hi => (h.2.2.2 i hi).symm⟩
theorem SimD.trans {n1 n2 n3 n4 : Nat} {D E F : D4} (h : SimD n1 n2 n3 n4 D E) (k : SimD n1 n2 n3 n4 E F) : SimD n1 n2 n3 n4 D F :=
  ⟨fun i hi => (h.1 i hi).trans (k.1 i hi), fun i hi => (h.2.1 i hi).trans (k.2.1 i hi), fun i hi => (h.2.2.1 i hi).trans (k.2.2.1 i hi), fun i hi => (h.2.2.2 i hi).trans (k.2.2.2 i hi)⟩

/-! ### worlds that part in some blocks alone -/
structure Wr (S : Nat → Prop) (w w' : World) : Prop where
  os : w'.os = w.os
  tape : w'.tape = w.tape
  output : w'.output = w.output
  size : w.heap.size ≤ w'.heap.size
  block : ∀ k, k < w.heap.size → ¬ S k → w'.heap[k]? = w.heap[k]?
namespace Wr
variable {S S' : Nat → Prop} {w w' w'' : World}
theorem refl (S : Nat → Prop) (w : World) : Wr S w w := ⟨rfl, rfl, rfl, Nat.le_refl _, fun _ _ _ => rfl⟩
theorem trans (h : Wr S w w') (k : Wr S w' w'') : Wr S w w'' := ⟨k.os.trans h.os, k.tape.trans h.tape, k.output.trans h.output, Nat.le_trans h.size k.size, fun i hi hs => (k.block i (Nat.lt_of_lt_of_le hi h.size) hs).trans (h.block i hi hs)⟩
theorem mono (h : Wr S w w') (hs : ∀ k, k < w.heap.size → S k → S' k) : Wr S' w w' := ⟨h.os, h.tape, h.output, h.size, fun k hk hn => h.block k hk (fun x => hn (hs k hk x))⟩
theorem of_below {B : Nat} (h : Below B w w') : Wr (fun k => B ≤ k) w w' := ⟨h.os, h.tape, h.output, h.size, fun k _ hn => h.block k (by omega)⟩
theorem of_go (h : Below w.heap.size w w') (S : Nat → Prop) : Wr S w w' := ⟨h.os, h.tape, h.output, h.size, fun k hk _ => h.block k hk⟩
theorem below {B : Nat} (h : Wr S w w') (hB : B ≤ w.heap.size) (hs : ∀ k, k < B → ¬ S k) : Below B w w' := ⟨h.os, h.tape, h.output, h.size, fun k hk => h.block k (by omega) (hs k hk)⟩
theorem setCell (h : Wr S w w') {p : Addr} (hp : S p.block) (u : Value) : Wr S w (w'.setCell p u) := h.trans ⟨rfl, rfl, rfl, by simp [World.setCell], fun k _ hn => Below.heap_setCell w' p u k (fun e => by subst e; exact hn hp)⟩
theorem drewN (h : Wr S w w') (n : Nat) : Wr S w (w'.drewN n) := h.trans ⟨rfl, rfl, rfl, Nat.le_refl _, fun _ _ _ => rfl⟩
theorem alloc (h : Wr S w w') (o : Obj) : Wr S w (w'.alloc o) := h.trans ⟨rfl, rfl, rfl, by simp, fun k hk _ => Below.heap_alloc w' o k hk⟩
theorem step (h : Wr S w w') (k : Below w'.heap.size w' w'') : Wr S w w'' := h.trans (of_go k S)
theorem of_grown {row : Option Nat} (h : w.grownBy w' row) : Wr (fun k => some k = row) w w' := ⟨h.os, h.tape, h.output, h.size, fun k hk hn => h.block k hk hn⟩
end Wr
theorem Rw.wr {S : Nat → Prop} {w w' : World} {g cs c : Nat} {t : TypeId} {f : Nat → Value} (h : Rw w g t cs c f) (hw : Wr S w w') (hn : ¬ S g) : Rw w' g t cs c f := h.of_block (hw.block g h.lt hn)
theorem Sl.wr {S : Nat → Prop} {w w' : World} {B sz n cap : Nat} {A : Option Addr} {t : TypeId} {f : Nat → Value} (h : Sl w B t sz A n cap f) (hw : Wr S w w') (hn : ∀ g, A = some ⟨g, 0, none⟩ → 0 < n → ¬ S g) : Sl w' B t sz A n cap f := fun h0 => by
  obtain ⟨g, h1, h2, h3, h4, h5⟩ := h h0
  exact ⟨g, h1, h2, h3, h4, h5.wr hw (hn g h1 h0)⟩

/-! ### chains owned -/
/-- the blocks of a slice lie from lo on and below hi. -/
def Bd (lo hi : Nat) (A : Option Addr) (n : Nat) : Prop := ∀ g, A = some ⟨g, 0, none⟩ → 0 < n → lo ≤ g ∧ g < hi
theorem Sl.bd {w : World} {B sz n cap : Nat} {A : Option Addr} {t : TypeId} {f : Nat → Value} (h : Sl w B t sz A n cap f) : Bd B w.heap.size A n := fun g e h0 => by
  obtain ⟨g', h1, h2, _, _, h5⟩ := h h0
  rw [h1] at e
  cases e
  exact ⟨h2, h5.lt⟩
structure Own (w : World) (B : Nat) (A1 A2 A3 A4 : Option Addr) (c1 c2 c3 c4 n1 n2 n3 n4 : Nat) (D : D4) : Prop where
  s1 : Sl w B 38 3 A1 n1 c1 (vc D.P)
  s2 : Sl w B 38 3 A2 n2 c2 (vc D.B)
  s3 : Sl w B 36 1 A3 n3 c3 (fc D.W)
  s4 : Sl w B 91 3 A4 n4 c4 (rc D.R)
  ne : ∀ g, A1 = some ⟨g, 0, none⟩ → A2 = some ⟨g, 0, none⟩ → 0 < n1 → 0 < n2 → False
/-- an empty slice has no room. -/
def Zc (c1 c2 c3 c4 n1 n2 n3 n4 : Nat) : Prop := (n1 = 0 → c1 = 0) ∧ (n2 = 0 → c2 = 0) ∧ (n3 = 0 → c3 = 0) ∧ (n4 = 0 → c4 = 0)
structure Bds (lo hi : Nat) (A1 A2 A3 A4 : Option Addr) (n1 n2 n3 n4 : Nat) : Prop where
  b1 : Bd lo hi A1 n1
  b2 : Bd lo hi A2 n2
  b3 : Bd lo hi A3 n3
  b4 : Bd lo hi A4 n4
namespace Own
variable {w w' : World} {B : Nat} {A1 A2 A3 A4 : Option Addr} {c1 c2 c3 c4 n1 n2 n3 n4 : Nat} {D : D4}
theorem go (h : Own w B A1 A2 A3 A4 c1 c2 c3 c4 n1 n2 n3 n4 D) (hb : Below w.heap.size w w') : Own w' B A1 A2 A3 A4 c1 c2 c3 c4 n1 n2 n3 n4 D := ⟨h.s1.go hb, h.s2.go hb, h.s3.go hb, h.s4.go hb, h.ne⟩
theorem drewN (h : Own w B A1 A2 A3 A4 c1 c2 c3 c4 n1 n2 n3 n4 D) (k : Nat) : Own (w.drewN k) B A1 A2 A3 A4 c1 c2 c3 c4 n1 n2 n3 n4 D := ⟨h.s1.drewN k, h.s2.drewN k, h.s3.drewN k, h.s4.drewN k, h.ne⟩
theorem mono {B' : Nat} (h : Own w B A1 A2 A3 A4 c1 c2 c3 c4 n1 n2 n3 n4 D) (hB : B' ≤ B) : Own w B' A1 A2 A3 A4 c1 c2 c3 c4 n1 n2 n3 n4 D := ⟨h.s1.mono hB, h.s2.mono hB, h.s3.mono hB, h.s4.mono hB, h.ne⟩
theorem bds (h : Own w B A1 A2 A3 A4 c1 c2 c3 c4 n1 n2 n3 n4 D) : Bds B w.heap.size A1 A2 A3 A4 n1 n2 n3 n4 := ⟨h.s1.bd, h.s2.bd, h.s3.bd, h.s4.bd⟩
theorem wr {S : Nat → Prop} {lo hi : Nat} (h : Own w B A1 A2 A3 A4 c1 c2 c3 c4 n1 n2 n3 n4 D) (hw : Wr S w w') (hb : Bds lo hi A1 A2 A3 A4 n1 n2 n3 n4) (hs : ∀ k, lo ≤ k → k < hi → ¬ S k) : Own w' B A1 A2 A3 A4 c1 c2 c3 c4 n1 n2 n3 n4 D :=
  ⟨h.s1.wr hw (fun g e h0 => hs g (hb.b1 g e h0).1 (hb.b1 g e h0).2), h.s2.wr hw (fun g e h0 => hs g (hb.b2 g e h0).1 (hb.b2 g e h0).2), h.s3.wr hw (fun g e h0 => hs g (hb.b3 g e h0).1 (hb.b3 g e h0).2), h.s4.wr hw (fun g e h0 => hs g (hb.b4 g e h0).1 (hb.b4 g e h0).2), h.ne⟩
end Own

/-! ### toFloat32S, toChain -/
def flist (n : Nat) (q : Nat → Nat) : List Nat := (List.range n).map q
theorem flist_length (n : Nat) (q : Nat → Nat) : (flist n q).length = n := by simp [flist]
theorem flist_nth {n i : Nat} (q : Nat → Nat) (h : i < n) : nth (flist n q) i = q i := by simp [nth, flist, List.getD, h]
theorem In.flat {w : World} {B n : Nat} {A : Option Addr} {q : Nat → Nat} (h : In w B 1 A n (fc q)) : FlAt w B A (flist n q) := fun hx => by
  rw [flist_length] at hx ⊢
  obtain ⟨b, off, rfl, hb, hc⟩ := h hx
  exact ⟨b, off, rfl, hb, fun i hi => by rw [hc i (by omega), flist_nth q hi]; rfl⟩
theorem FlAt.in_ {w : World} {B : Nat} {A : Option Addr} {xs : List Nat} (h : FlAt w B A xs) : In w B 1 A xs.length (fc (nth xs)) := fun hx => by
  obtain ⟨b, off, rfl, hb, hc⟩ := h hx
  exact ⟨b, off, rfl, hb, fun j hj => hc j (by omega)⟩
theorem laws_toFloat32S' (A : Option Addr) (n cap : Nat) (q : Nat → Nat) (hn : n ≤ 1048576) (w : World) (h : In w w.heap.size 1 A n (fc q)) : Calls Try.prog 79 #[.slice A n cap] w (RetSl 36 1 n (fc q) w) := by
  have hc := laws_toFloat32S A cap (flist n q) (by rw [flist_length]; exact hn) w h.flat
  rw [flist_length] at hc
  refine hc.mono ?_
  rintro e w' ⟨g, rfl, hg, hr, hb⟩
  rw [flist_length] at hr ⊢
  refine ⟨g, rfl, hg, hr.lt, fun _ => ⟨g, rfl, hg, Nat.le_refl _, by unfold maxLen; omega, ?_⟩, hb⟩
  obtain ⟨c, h1, h2, h3⟩ := hr
  exact ⟨c, h1, by omega, by omega, fun j hj => by rw [h3 j (by omega)]; unfold fv fc; rw [flist_nth q (by omega)]⟩
/-- returns a new chain that reads as D. -/
def RetTo (n1 n2 n3 n4 : Nat) (D : D4) (w : World) (e : Ending) (w' : World) : Prop :=
  ∃ g1 g2 g3 g4, e = .returned (.agg #[.slice (some ⟨g1, 0, none⟩) n1 n1, .slice (some ⟨g2, 0, none⟩) n2 n2, .slice (some ⟨g3, 0, none⟩) n3 n3, .slice (some ⟨g4, 0, none⟩) n4 n4]) ∧
    Own w' w.heap.size (some ⟨g1, 0, none⟩) (some ⟨g2, 0, none⟩) (some ⟨g3, 0, none⟩) (some ⟨g4, 0, none⟩) n1 n2 n3 n4 n1 n2 n3 n4 D ∧ Below w.heap.size w w'
/-- a block of four cells. -/
def f4 (x0 x1 x2 x3 : Value) (j : Nat) : Value := if j = 0 then x0 else if j = 1 then x1 else if j = 2 then x2 else x3
def Bx (w : World) (g : Nat) (t : TypeId) (x0 x1 x2 x3 : Value) : Prop := Rw w g t 4 4 (f4 x0 x1 x2 x3)
namespace Bx
variable {w w' : World} {g : Nat} {t : TypeId} {x0 x1 x2 x3 : Value}
theorem new_ (w : World) (t : TypeId) (x0 x1 x2 x3 : Value) : Bx (w.alloc (.cells #[x0, x1, x2, x3] t)) w.heap.size t x0 x1 x2 x3 :=
  ⟨#[x0, x1, x2, x3], heap_alloc_new w _, rfl, Nat.le_refl _, fun j hj => by
    have : j = 0 ∨ j = 1 ∨ j = 2 ∨ j = 3 := by omega
    rcases this with rfl | rfl | rfl | rfl <;> rfl⟩
theorem c0 (h : Bx w g t x0 x1 x2 x3) : w.cell? ⟨g, 0, none⟩ = some x0 := Rw.cell h (by omega)
theorem c1 (h : Bx w g t x0 x1 x2 x3) : w.cell? ⟨g, 1, none⟩ = some x1 := Rw.cell h (by omega)
theorem c2 (h : Bx w g t x0 x1 x2 x3) : w.cell? ⟨g, 2, none⟩ = some x2 := Rw.cell h (by omega)
theorem c3 (h : Bx w g t x0 x1 x2 x3) : w.cell? ⟨g, 3, none⟩ = some x3 := Rw.cell h (by omega)
theorem f (h : Bx w g t x0 x1 x2 x3) (j : Nat) : w.frozen? ⟨g, j, none⟩ = false := Rw.frozen h j
theorem lt (h : Bx w g t x0 x1 x2 x3) : g < w.heap.size := Rw.lt h
theorem alloc (h : Bx w g t x0 x1 x2 x3) (o : Obj) : Bx (w.alloc o) g t x0 x1 x2 x3 := Rw.alloc h o
theorem drewN (h : Bx w g t x0 x1 x2 x3) (n : Nat) : Bx (w.drewN n) g t x0 x1 x2 x3 := h
theorem go (h : Bx w g t x0 x1 x2 x3) (hb : Below w.heap.size w w') : Bx w' g t x0 x1 x2 x3 := Rw.go h hb
theorem wr {S : Nat → Prop} (h : Bx w g t x0 x1 x2 x3) (hw : Wr S w w') (hn : ¬ S g) : Bx w' g t x0 x1 x2 x3 := Rw.wr h hw hn
theorem far (h : Bx w g t x0 x1 x2 x3) {a : Addr} (ha : g ≠ a.block) (v : Value) : Bx (w.setCell a v) g t x0 x1 x2 x3 := Rw.setOther h ha v
theorem set0 (h : Bx w g t x0 x1 x2 x3) (v : Value) : Bx (w.setCell ⟨g, 0, none⟩ v) g t v x1 x2 x3 := (Rw.set h 0 v).congr fun j hj => by
  have : j = 0 ∨ j = 1 ∨ j = 2 ∨ j = 3 := by omega
  rcases this with rfl | rfl | rfl | rfl <;> rfl
theorem set1 (h : Bx w g t x0 x1 x2 x3) (v : Value) : Bx (w.setCell ⟨g, 1, none⟩ v) g t x0 v x2 x3 := (Rw.set h 1 v).congr fun j hj => by
  have : j = 0 ∨ j = 1 ∨ j = 2 ∨ j = 3 := by omega
  rcases this with rfl | rfl | rfl | rfl <;> rfl
theorem set2 (h : Bx w g t x0 x1 x2 x3) (v : Value) : Bx (w.setCell ⟨g, 2, none⟩ v) g t x0 x1 v x3 := (Rw.set h 2 v).congr fun j hj => by
  have : j = 0 ∨ j = 1 ∨ j = 2 ∨ j = 3 := by omega
  rcases this with rfl | rfl | rfl | rfl <;> rfl
theorem set3 (h : Bx w g t x0 x1 x2 x3) (v : Value) : Bx (w.setCell ⟨g, 3, none⟩ v) g t x0 x1 x2 v := (Rw.set h 3 v).congr fun j hj => by
  have : j = 0 ∨ j = 1 ∨ j = 2 ∨ j = 3 := by omega
  rcases this with rfl | rfl | rfl | rfl <;> rfl
theorem setAll (h : Bx w g t x0 x1 x2 x3) (y0 y1 y2 y3 : Value) : Bx ((((w.setCell ⟨g, 0, none⟩ y0).setCell ⟨g, 1, none⟩ y1).setCell ⟨g, 2, none⟩ y2).setCell ⟨g, 3, none⟩ y3) g t y0 y1 y2 y3 := (((h.set0 y0).set1 y1).set2 y2).set3 y3
end Bx
/-- what the walk wants of a block of four cells. -/
theorem Bx.facts {w : World} {g : Nat} {t : TypeId} {x0 x1 x2 x3 : Value} (h : Bx w g t x0 x1 x2 x3) : w.cell? ⟨g, 0, none⟩ = some x0 ∧ w.cell? ⟨g, 1, none⟩ = some x1 ∧ w.cell? ⟨g, 2, none⟩ = some x2 ∧ w.cell? ⟨g, 3, none⟩ = some x3 ∧ (∀ j, w.frozen? ⟨g, j, none⟩ = false) := ⟨h.c0, h.c1, h.c2, h.c3, h.f⟩
abbrev sn : Value := .slice none 0 0
set_option maxHeartbeats 1000000 in
theorem laws_toChain (A1 A2 A3 A4 : Option Addr) (c1 c2 c3 c4 n1 n2 n3 n4 : Nat) (D : D4) (k1 : n1 ≤ 1048576) (k2 : n2 ≤ 1048576) (k3 : n3 ≤ 1048576) (k4 : n4 ≤ 1048576) (w : World) (h1 : In w w.heap.size 3 A1 n1 (vc D.P)) (h2 : In w w.heap.size 3 A2 n2 (vc D.B)) (h3 : In w w.heap.size 1 A3 n3 (fc D.W)) (h4 : In w w.heap.size 3 A4 n4 (rc D.R)) :
    Calls Try.prog 25 #[.agg #[.slice A1 n1 c1, .slice A2 n2 c2, .slice A3 n3 c3, .slice A4 n4 c4]] w (RetTo n1 n2 n3 n4 D w) := by
  have H1 := Lib.hid h1
  have H2 := Lib.hid h2
  have H3 := Lib.hid h3
  have H4 := Lib.hid h4
  clear h1 h2 h3 h4
  go_enter Try.func25, Try.ntmps25
  go_wp2_with fail
  refine (laws_toVectorS A1 n1 c1 D.P k1 _ (H1.out.go (by repeat' (first | with_reducible exact Below.refl _ _ | with_reducible assumption | with_reducible refine below_dn ?_ _ | with_reducible refine Below.drew ?_ | with_reducible refine below_step ?_ (by assumption) | with_reducible refine Below.setCell ?_ ?_ _ | with_reducible refine Below.alloc ?_ ?_ _ | with_reducible exact Nat.le_refl _ | (simp; done) | (simp; omega) | omega)))).mono ?_
  rintro e w1 ⟨g1, rfl, hg1, hl1, hs1, hb1⟩
  have P1 := Lib.hid ((((Bx.new_ w 26 (.slice A1 n1 c1) (.slice A2 n2 c2) (.slice A3 n3 c3) (.slice A4 n4 c4)).alloc _).alloc _).go hb1)
  have R1 := Lib.hid (((Bx.new_ (w.alloc (.cells #[.slice A1 n1 c1, .slice A2 n2 c2, .slice A3 n3 c3, .slice A4 n4 c4] 26)) 32 sn sn sn sn).alloc _).go hb1)
  have O1 := Lib.hid ((Bx.new_ ((w.alloc (.cells #[.slice A1 n1 c1, .slice A2 n2 c2, .slice A3 n3 c3, .slice A4 n4 c4] 26)).alloc (.cells #[sn, sn, sn, sn] 32)) 32 sn sn sn sn).go hb1)
  have S1 := Lib.hid hs1
  have B1 := Lib.hid (show Below w.heap.size w w1 from below_step (w := w) ((by repeat' (first | with_reducible exact Below.refl _ _ | with_reducible assumption | with_reducible refine below_dn ?_ _ | with_reducible refine Below.drew ?_ | with_reducible refine below_step ?_ (by assumption) | with_reducible refine Below.setCell ?_ ?_ _ | with_reducible refine Below.alloc ?_ ?_ _ | with_reducible exact Nat.le_refl _ | (simp; done) | (simp; omega) | omega))) hb1)
  have z1 : w.heap.size + 3 ≤ g1 := by simp at hg1; omega
  have e1 : (w.alloc (.cells #[.slice A1 n1 c1, .slice A2 n2 c2, .slice A3 n3 c3, .slice A4 n4 c4] 26)).heap.size = w.heap.size + 1 := by simp
  have e2 : ((w.alloc (.cells #[.slice A1 n1 c1, .slice A2 n2 c2, .slice A3 n3 c3, .slice A4 n4 c4] 26)).alloc (.cells #[sn, sn, sn, sn] 32)).heap.size = w.heap.size + 1 + 1 := by simp
  rw [e1] at R1
  rw [e2] at O1
  clear hs1 hb1 hg1 e1 e2
  obtain ⟨p10, p11, p12, p13, p1f⟩ := P1.out.facts
  obtain ⟨o10, o11, o12, o13, o1f⟩ := O1.out.facts
  go_wp2_with fail
  refine (laws_toVectorS A2 n2 c2 D.B k2 _ (H2.out.go ?hb2)).mono ?_
  case hb2 => exact B1.out.setCell (by first | exact Nat.le_refl _ | (simp; done) | (simp; omega) | omega) _
  rintro e w2 ⟨g2, rfl, hg2, hl2, hs2, hb2⟩
  clear p10 p11 p12 p13 p1f o10 o11 o12 o13 o1f
  have P2 := Lib.hid ((P1.out.far (by simp; omega) _).go hb2)
  have R2 := Lib.hid ((R1.out.far (by simp) _).go hb2)
  have O2 := Lib.hid ((O1.out.set0 _).go hb2)
  have S2 := Lib.hid hs2
  have B2 := Lib.hid (show Below w.heap.size w w2 from below_step (B1.out.setCell (by first | exact Nat.le_refl _ | (simp; done) | (simp; omega) | omega) _) hb2)
  have W2 := Lib.hid (show Wr (fun k => k < w.heap.size + 3) w1 w2 from ((Wr.refl _ _).setCell (by first | exact Nat.le_refl _ | (simp; done) | (simp; omega) | omega) _).step hb2)
  have z2 : w1.heap.size ≤ g2 := by first | omega | (simp at hg2; omega)
  clear hs2 hb2 hl2 hg2 P1 R1 O1 B1
  obtain ⟨p10, p11, p12, p13, p1f⟩ := P2.out.facts
  obtain ⟨o10, o11, o12, o13, o1f⟩ := O2.out.facts
  go_wp2_with fail
  refine (laws_toFloat32S' A3 n3 c3 D.W k3 _ (H3.out.go ?hb3)).mono ?_
  case hb3 => exact B2.out.setCell (by first | exact Nat.le_refl _ | (simp; done) | (simp; omega) | omega) _
  rintro e w3 ⟨g3, rfl, hg3, hl3, hs3, hb3⟩
  clear p10 p11 p12 p13 p1f o10 o11 o12 o13 o1f
  have P3 := Lib.hid ((P2.out.far (by simp; omega) _).go hb3)
  have R3 := Lib.hid ((R2.out.far (by simp) _).go hb3)
  have O3 := Lib.hid ((O2.out.set1 _).go hb3)
  have S3 := Lib.hid hs3
  have B3 := Lib.hid (show Below w.heap.size w w3 from below_step (B2.out.setCell (by first | exact Nat.le_refl _ | (simp; done) | (simp; omega) | omega) _) hb3)
  have W3 := Lib.hid (show Wr (fun k => k < w.heap.size + 3) w2 w3 from ((Wr.refl _ _).setCell (by first | exact Nat.le_refl _ | (simp; done) | (simp; omega) | omega) _).step hb3)
  have z3 : w.heap.size + 3 ≤ g3 := by
    have := W2.out.size
    first | omega | (simp at hg3; omega)
  clear hs3 hb3 hl3 hg3 P2 R2 O2 B2
  obtain ⟨p10, p11, p12, p13, p1f⟩ := P3.out.facts
  obtain ⟨o10, o11, o12, o13, o1f⟩ := O3.out.facts
  go_wp2_with fail
  refine (laws_toRodS A4 n4 c4 D.R k4 _ (H4.out.go ?hb4)).mono ?_
  case hb4 => exact B3.out.setCell (by first | exact Nat.le_refl _ | (simp; done) | (simp; omega) | omega) _
  rintro e w4 ⟨g4, rfl, hg4, hl4, hs4, hb4⟩
  clear p10 p11 p12 p13 p1f o10 o11 o12 o13 o1f
  have R4 := Lib.hid ((R3.out.far (by simp) _).go hb4)
  have O4 := Lib.hid ((O3.out.set2 _).go hb4)
  have S4 := Lib.hid hs4
  have B4 := Lib.hid (show Below w.heap.size w w4 from below_step (B3.out.setCell (by first | exact Nat.le_refl _ | (simp; done) | (simp; omega) | omega) _) hb4)
  have W4 := Lib.hid (show Wr (fun k => k < w.heap.size + 3) w3 w4 from ((Wr.refl _ _).setCell (by first | exact Nat.le_refl _ | (simp; done) | (simp; omega) | omega) _).step hb4)
  have z4 : w.heap.size + 3 ≤ g4 := by
    have := W2.out.size
    have := W3.out.size
    first | omega | (simp at hg4; omega)
  clear hs4 hb4 hl4 hg4 P3 R3 O3 B3
  obtain ⟨o10, o11, o12, o13, o1f⟩ := O4.out.facts
  obtain ⟨r10, r11, r12, r13, r1f⟩ := R4.out.facts
  have W5 := Lib.hid (fun (v v0 v1 v2 v3 : Value) => show Wr (fun k => k < w.heap.size + 3) w4 (((((w4.setCell ⟨w.heap.size + 1 + 1, 3, none⟩ v).setCell ⟨w.heap.size + 1, 0, none⟩ v0).setCell ⟨w.heap.size + 1, 1, none⟩ v1).setCell ⟨w.heap.size + 1, 2, none⟩ v2).setCell ⟨w.heap.size + 1, 3, none⟩ v3) from
    ((((((Wr.refl _ _).setCell (by first | exact Nat.le_refl _ | (simp; done) | (simp; omega) | omega) _).setCell (by first | exact Nat.le_refl _ | (simp; done) | (simp; omega) | omega) _).setCell (by first | exact Nat.le_refl _ | (simp; done) | (simp; omega) | omega) _).setCell (by first | exact Nat.le_refl _ | (simp; done) | (simp; omega) | omega) _).setCell (by first | exact Nat.le_refl _ | (simp; done) | (simp; omega) | omega) _))
  have RF := Lib.hid (fun v v0 v1 v2 v3 => (R4.out.far (a := ⟨w.heap.size + 1 + 1, 3, none⟩) (by simp) v).setAll v0 v1 v2 v3)
  go_wp2_with fail
  clear o10 o11 o12 o13 o1f r10 r11 r12 r13 r1f
  obtain ⟨r10, r11, r12, r13, r1f⟩ := (RF.out (.slice (some ⟨g4, 0, none⟩) n4 n4) (.slice (some ⟨g1, 0, none⟩) n1 n1) (.slice (some ⟨g2, 0, none⟩) n2 n2) (.slice (some ⟨g3, 0, none⟩) n3 n3) (.slice (some ⟨g4, 0, none⟩) n4 n4)).facts
  refine bodyPost_ret (v := .agg #[.slice (some ⟨g1, 0, none⟩) n1 n1, .slice (some ⟨g2, 0, none⟩) n2 n2, .slice (some ⟨g3, 0, none⟩) n3 n3, .slice (some ⟨g4, 0, none⟩) n4 n4]) (by simp [results, Try.results25, go_sem, r10, r11, r12, r13]) rfl ?_
  have V := W5.out (.slice (some ⟨g4, 0, none⟩) n4 n4) (.slice (some ⟨g1, 0, none⟩) n1 n1) (.slice (some ⟨g2, 0, none⟩) n2 n2) (.slice (some ⟨g3, 0, none⟩) n3 n3) (.slice (some ⟨g4, 0, none⟩) n4 n4)
  have V1 := ((W2.out.trans W3.out).trans W4.out).trans V
  have V2 := (W3.out.trans W4.out).trans V
  have V3 := W4.out.trans V
  refine ⟨g1, g2, g3, g4, rfl, ⟨?_, ?_, ?_, ?_, ?_⟩, ?_⟩
  · exact (S1.out.wr V1 (fun g e _ => by cases e; omega)).mono (by simp; omega)
  · exact (S2.out.wr V2 (fun g e _ => by cases e; omega)).mono (by have := B4.out.size; simp; omega)
  · exact (S3.out.wr V3 (fun g e _ => by cases e; omega)).mono (by have := W2.out.size; simp; omega)
  · exact (S4.out.wr V (fun g e _ => by cases e; omega)).mono (by have := W2.out.size; have := W3.out.size; simp; omega)
  · intro g e1 e2 h1 h2
    cases e1
    cases e2
    omega
  · exact (((((B4.out.setCell (by first | exact Nat.le_refl _ | (simp; done) | (simp; omega) | omega) _).setCell (by first | exact Nat.le_refl _ | (simp; done) | (simp; omega) | omega) _).setCell (by first | exact Nat.le_refl _ | (simp; done) | (simp; omega) | omega) _).setCell (by first | exact Nat.le_refl _ | (simp; done) | (simp; omega) | omega) _).setCell (by first | exact Nat.le_refl _ | (simp; done) | (simp; omega) | omega) _)
end Go.Proofs.Ytlhgaihfghobmaa
