/- Slices of structs in memory, their contents told by the index; chains. -/
import Derived.Test.YtlhgaihfghobmaaKf
import Derived.Laws.OwnMore
namespace Go.Proofs.Ytlhgaihfghobmaa
open Go.ChangeShapes Go.WideShapes Go.ChangeAt Go.RowKit Go.Deep

structure V3 where
  x : Nat
  y : Nat
  z : Nat
structure Rd where
  a : Int
  b : Int
  l : Nat
/-- a chain: how many places, places before, weights and rods; and which. -/
structure Ch where
  n1 : Nat
  n2 : Nat
  n3 : Nat
  n4 : Nat
  P : Nat → V3
  B : Nat → V3
  W : Nat → Nat
  R : Nat → Rd

/-! ### cells by the index -/
def vc (p : Nat → V3) (j : Nat) : Value := .float .f32 (if j % 3 = 0 then (p (j / 3)).x else if j % 3 = 1 then (p (j / 3)).y else (p (j / 3)).z)
def rc (r : Nat → Rd) (j : Nat) : Value := if j % 3 = 0 then .int .i64 (r (j / 3)).a else if j % 3 = 1 then .int .i64 (r (j / 3)).b else .float .f32 (r (j / 3)).l
def fc (q : Nat → Nat) (j : Nat) : Value := .float .f32 (q j)
theorem mod3 (i : Nat) : (i * 3) / 3 = i ∧ (i * 3) % 3 = 0 ∧ (i * 3 + 1) / 3 = i ∧ (i * 3 + 1) % 3 = 1 ∧ (i * 3 + 2) / 3 = i ∧ (i * 3 + 2) % 3 = 2 := by omega
theorem vc0 (p : Nat → V3) (i : Nat) : vc p (i * 3) = .float .f32 (p i).x := by
  obtain ⟨h1, h2, _⟩ := mod3 i
  unfold vc; rw [h1, h2]; rfl
theorem vc1 (p : Nat → V3) (i : Nat) : vc p (i * 3 + 1) = .float .f32 (p i).y := by
  obtain ⟨_, _, h1, h2, _⟩ := mod3 i
  unfold vc; rw [h1, h2]; rfl
theorem vc2 (p : Nat → V3) (i : Nat) : vc p (i * 3 + 2) = .float .f32 (p i).z := by
  obtain ⟨_, _, _, _, h1, h2⟩ := mod3 i
  unfold vc; rw [h1, h2]; rfl
theorem rc0 (p : Nat → Rd) (i : Nat) : rc p (i * 3) = .int .i64 (p i).a := by
  obtain ⟨h1, h2, _⟩ := mod3 i
  unfold rc; rw [h1, h2]; rfl
theorem rc1 (p : Nat → Rd) (i : Nat) : rc p (i * 3 + 1) = .int .i64 (p i).b := by
  obtain ⟨_, _, h1, h2, _⟩ := mod3 i
  unfold rc; rw [h1, h2]; rfl
theorem rc2 (p : Nat → Rd) (i : Nat) : rc p (i * 3 + 2) = .float .f32 (p i).l := by
  obtain ⟨_, _, _, _, h1, h2⟩ := mod3 i
  unfold rc; rw [h1, h2]; rfl
def upd {α : Type} (p : Nat → α) (i : Nat) (q : α) : Nat → α := fun k => if k = i then q else p k
theorem upd_same {α : Type} (p : Nat → α) (i : Nat) (q : α) : upd p i q i = q := if_pos rfl
theorem upd_ne {α : Type} (p : Nat → α) {i k : Nat} (q : α) (h : k ≠ i) : upd p i q k = p k := if_neg h
theorem set3v (p : Nat → V3) (i x y z j : Nat) : (if j = i * 3 + 2 then Value.float .f32 z else if j = i * 3 + 1 then .float .f32 y else if j = i * 3 then .float .f32 x else vc p j) = vc (upd p i ⟨x, y, z⟩) j := by
  by_cases h : j / 3 = i
  · have e : upd p i ⟨x, y, z⟩ (j / 3) = ⟨x, y, z⟩ := if_pos h
    unfold vc
    rw [e]
    by_cases h0 : j % 3 = 0
    · rw [if_neg (by omega), if_neg (by omega), if_pos (by omega), if_pos h0]
    · by_cases h1 : j % 3 = 1
      · rw [if_neg (by omega), if_pos (by omega), if_neg h0, if_pos h1]
      · rw [if_pos (by omega), if_neg h0, if_neg h1]
  · rw [if_neg (by omega), if_neg (by omega), if_neg (by omega)]
    unfold vc upd
    rw [if_neg h]
theorem set3r (p : Nat → Rd) (i : Nat) (a b : Int) (l j : Nat) : (if j = i * 3 + 2 then Value.float .f32 l else if j = i * 3 + 1 then .int .i64 b else if j = i * 3 then .int .i64 a else rc p j) = rc (upd p i ⟨a, b, l⟩) j := by
  by_cases h : j / 3 = i
  · have e : upd p i ⟨a, b, l⟩ (j / 3) = ⟨a, b, l⟩ := if_pos h
    unfold rc
    rw [e]
    by_cases h0 : j % 3 = 0
    · rw [if_neg (by omega), if_neg (by omega), if_pos (by omega), if_pos h0]
    · by_cases h1 : j % 3 = 1
      · rw [if_neg (by omega), if_pos (by omega), if_neg h0, if_pos h1]
      · rw [if_pos (by omega), if_neg h0, if_neg h1]
  · rw [if_neg (by omega), if_neg (by omega), if_neg (by omega)]
    unfold rc upd
    rw [if_neg h]

/-! ### a block whose first cells are known -/
def Rw (w : World) (g : Nat) (t : TypeId) (cs c : Nat) (f : Nat → Value) : Prop := ∃ cur : Array Value, w.heap[g]? = some (.cells cur t (0, 0)) ∧ cur.size = cs ∧ c ≤ cs ∧ ∀ j, j < c → cur[j]? = some (f j)
namespace Rw
variable {w w' : World} {g cs c : Nat} {t : TypeId} {f f' : Nat → Value}
theorem cell (h : Rw w g t cs c f) {j : Nat} (hj : j < c) : w.cell? ⟨g, j, none⟩ = some (f j) := by
  obtain ⟨cur, h1, _, _, h2⟩ := h
  exact (cell_of_row w g j cur t (0, 0) h1).trans (h2 j hj)
theorem frozen (h : Rw w g t cs c f) (j : Nat) : w.frozen? ⟨g, j, none⟩ = false := by
  obtain ⟨cur, h1, _⟩ := h
  simp [World.frozen?, h1]
theorem lt (h : Rw w g t cs c f) : g < w.heap.size := by
  obtain ⟨cur, h1, _⟩ := h
  exact (Array.getElem?_eq_some_iff.1 h1).1
theorem congr (h : Rw w g t cs c f) (e : ∀ j, j < c → f j = f' j) : Rw w g t cs c f' := by
  obtain ⟨cur, h1, h2, h3, h4⟩ := h
  exact ⟨cur, h1, h2, h3, fun j hj => by rw [h4 j hj, e j hj]⟩
theorem of_block (h : Rw w g t cs c f) (e : w'.heap[g]? = w.heap[g]?) : Rw w' g t cs c f := by
  obtain ⟨cur, h1, r⟩ := h
  exact ⟨cur, e.trans h1, r⟩
theorem set (h : Rw w g t cs c f) (i : Nat) (v : Value) : Rw (w.setCell ⟨g, i, none⟩ v) g t cs c (fun j => if j = i then v else f j) := by
  obtain ⟨cur, h1, h2, h3, h4⟩ := h
  refine ⟨cur.setIfInBounds i v, ?_, by simpa using h2, h3, fun j hj => ?_⟩
  · simp [World.setCell, Array.getElem?_modify, h1]
  · rw [Array.getElem?_setIfInBounds]
    by_cases e : j = i
    · subst e
      have : j < cur.size := by omega
      simp [this]
    · rw [if_neg (fun h => e h.symm)]
      show cur[j]? = some (if j = i then v else f j)
      rw [if_neg e]
      exact h4 j hj
theorem setOther (h : Rw w g t cs c f) {a : Addr} (ha : g ≠ a.block) (v : Value) : Rw (w.setCell a v) g t cs c f := h.of_block (Below.heap_setCell _ _ _ _ ha)
theorem alloc (h : Rw w g t cs c f) (o : Obj) : Rw (w.alloc o) g t cs c f := h.of_block (Below.heap_alloc _ _ _ h.lt)
theorem drewN (h : Rw w g t cs c f) (n : Nat) : Rw (w.drewN n) g t cs c f := h
theorem below {B : Nat} (h : Rw w g t cs c f) (hb : Below B w w') (hg : g < B) : Rw w' g t cs c f := h.of_block (hb.block g hg)
theorem go (h : Rw w g t cs c f) (hb : Below w.heap.size w w') : Rw w' g t cs c f := h.of_block (hb.block g h.lt)
theorem grown {row : Option Nat} (h : Rw w g t cs c f) (hb : w.grownBy w' row) (hg : some g ≠ row) : Rw w' g t cs c f := h.of_block (hb.block g h.lt hg)
theorem ne_ {g' cs' c' : Nat} {t' : TypeId} (h : Rw w g t cs c f) (h' : Rw w g' t' cs' c' f') (hne : t ≠ t') : g ≠ g' := by
  rintro rfl
  obtain ⟨cur, h1, _⟩ := h
  obtain ⟨cur', h1', _⟩ := h'
  rw [h1] at h1'
  injection h1' with h2
  injection h2 with _ h3
  exact hne h3
theorem less (h : Rw w g t cs c f) {c' : Nat} (hc : c' ≤ c) : Rw w g t cs c' f := by
  obtain ⟨cur, h1, h2, h3, h4⟩ := h
  exact ⟨cur, h1, h2, by omega, fun j hj => h4 j (by omega)⟩
end Rw

/-- a slice of the call's own: n elements of sz cells each, at the head of a block from B on. -/
def Sl (w : World) (B : Nat) (t : TypeId) (sz : Nat) (A : Option Addr) (n cap : Nat) (f : Nat → Value) : Prop := 0 < n → ∃ g, A = some ⟨g, 0, none⟩ ∧ B ≤ g ∧ n ≤ cap ∧ cap ≤ maxLen ∧ Rw w g t (cap * sz) (n * sz) f
namespace Sl
variable {w w' : World} {B sz n cap : Nat} {A : Option Addr} {t : TypeId} {f f' : Nat → Value}
theorem go (h : Sl w B t sz A n cap f) (hb : Below w.heap.size w w') : Sl w' B t sz A n cap f := fun hn => by
  obtain ⟨g, h1, h2, h3, h4, h5⟩ := h hn
  exact ⟨g, h1, h2, h3, h4, h5.go hb⟩
theorem below {C : Nat} (h : Sl w B t sz A n cap f) (hb : Below C w w') (hC : ∀ g, A = some ⟨g, 0, none⟩ → 0 < n → g < C) : Sl w' B t sz A n cap f := fun hn => by
  obtain ⟨g, h1, h2, h3, h4, h5⟩ := h hn
  exact ⟨g, h1, h2, h3, h4, h5.below hb (hC g h1 hn)⟩
theorem drewN (h : Sl w B t sz A n cap f) (k : Nat) : Sl (w.drewN k) B t sz A n cap f := h
theorem mono {B' : Nat} (h : Sl w B t sz A n cap f) (hB : B' ≤ B) : Sl w B' t sz A n cap f := fun hn => by
  obtain ⟨g, h1, h2, r⟩ := h hn
  exact ⟨g, h1, by omega, r⟩
theorem congr (h : Sl w B t sz A n cap f) (e : ∀ j, j < n * sz → f j = f' j) : Sl w B t sz A n cap f' := fun hn => by
  obtain ⟨g, h1, h2, h3, h4, h5⟩ := h hn
  exact ⟨g, h1, h2, h3, h4, h5.congr e⟩
theorem grown {row : Option Nat} (h : Sl w B t sz A n cap f) (hb : w.grownBy w' row) (hne : ∀ g, A = some ⟨g, 0, none⟩ → 0 < n → some g ≠ row) : Sl w' B t sz A n cap f := fun hn => by
  obtain ⟨g, h1, h2, h3, h4, h5⟩ := h hn
  exact ⟨g, h1, h2, h3, h4, h5.grown hb (hne g h1 hn)⟩
theorem empty (w : World) (B : Nat) (t : TypeId) (sz : Nat) (A : Option Addr) (cap : Nat) (f : Nat → Value) : Sl w B t sz A 0 cap f := fun h => absurd h (Nat.lt_irrefl 0)
theorem of_own {v : Value} {xs : List Value} (h : w.ownsRow B t sz v n xs) (hf : ∀ j, j < n * sz → xs[j]? = some (f j)) : ∃ A cap, v = .slice A n cap ∧ Sl w B t sz A n cap f ∧ (∀ g, A = some ⟨g, 0, none⟩ → v.ownBlock = some g) := by
  obtain ⟨hl, ⟨rfl, rfl⟩ | ⟨g, cap, cur, rfl, hB, hg, hnc, hcm, hcs, ht⟩⟩ := h
  · exact ⟨none, 0, rfl, empty _ _ _ _ _ _ _, fun g e => by cases e⟩
  · refine ⟨_, cap, rfl, fun hn => ⟨g, rfl, hB, hnc, hcm, cur, hg, hcs, Nat.mul_le_mul_right _ hnc, fun j hj => ?_⟩, fun g' e => by cases e; rfl⟩
    have := hf j hj
    rw [← ht, List.getElem?_take_of_lt hj] at this
    simpa using this
theorem to_own (h : Sl w B t sz A n cap f) (hn : 0 < n) : w.ownsRow B t sz (.slice A n cap) n ((List.range (n * sz)).map f) := by
  obtain ⟨g, rfl, h2, h3, h4, cur, h5, h6, h7, h8⟩ := h hn
  refine ⟨by simp, .inr ⟨g, cap, cur, rfl, h2, h5, h3, h4, h6, ?_⟩⟩
  apply List.ext_getElem?
  intro i
  by_cases hi : i < n * sz
  · rw [List.getElem?_take_of_lt hi]
    have := h8 i hi
    simp [hi, this]
  · rw [List.getElem?_eq_none (by simp; omega), List.getElem?_eq_none (by simp; omega)]
end Sl
/-- a slice that came in. -/
def In (w : World) (B : Nat) (sz : Nat) (A : Option Addr) (n : Nat) (f : Nat → Value) : Prop := 0 < n → ∃ b off, A = some ⟨b, off, none⟩ ∧ b < B ∧ ∀ j, j < n * sz → w.cell? ⟨b, off + j, none⟩ = some (f j)
namespace In
variable {w w' : World} {B sz n : Nat} {A : Option Addr} {f : Nat → Value}
theorem below (h : In w B sz A n f) {C : Nat} (hC : B ≤ C) (hb : Below C w w') : In w' B sz A n f := fun hn => by
  obtain ⟨b, off, rfl, hlt, hc⟩ := h hn
  exact ⟨b, off, rfl, hlt, fun j hj => (hb.cell (p := ⟨b, off + j, none⟩) (Nat.lt_of_lt_of_le hlt hC)).trans (hc j hj)⟩
theorem mono (h : In w B sz A n f) {B' : Nat} (hB : B ≤ B') : In w B' sz A n f := fun hn => by
  obtain ⟨b, off, rfl, hlt, hc⟩ := h hn
  exact ⟨b, off, rfl, Nat.lt_of_lt_of_le hlt hB, hc⟩
theorem go (h : In w w.heap.size sz A n f) (hb : Below w.heap.size w w') : In w' w'.heap.size sz A n f := (h.below (Nat.le_refl _) hb).mono hb.size
end In
theorem Sl.in_ {w : World} {B sz n cap : Nat} {A : Option Addr} {t : TypeId} {f : Nat → Value} (h : Sl w B t sz A n cap f) : In w w.heap.size sz A n f := fun hn => by
  obtain ⟨g, rfl, _, _, _, h5⟩ := h hn
  exact ⟨g, 0, rfl, h5.lt, fun j hj => by rw [Nat.zero_add]; exact h5.cell hj⟩

/-! ### the sizes of the element types; make -/
theorem infoV : (Try.prog.info? 38).map (fun i => (i.zero, i.size, i.bytes)) = some (some (.agg #[.float .f32 0, .float .f32 0, .float .f32 0]), 3, 12) := by kernel_rfl
theorem infoR : (Try.prog.info? 91).map (fun i => (i.zero, i.size, i.bytes)) = some (some (.agg #[.int .i64 0, .int .i64 0, .float .f32 0]), 3, 24) := by kernel_rfl
theorem make_vecs (n : Nat) (hn : n ≤ 1048576) (W : World) : (Instr.makeSlice 29 (.int .i64 (n : Int)) (.int .i64 (n : Int))).run Try.prog W = .ok (.slice (some ⟨W.heap.size, 0, none⟩) n n) (W.alloc (.cells (madeCells #[.float .f32 0, .float .f32 0, .float .f32 0] (n * 3)) 38)) := by
  obtain ⟨i, hi, hzz⟩ := Option.map_eq_some_iff.1 infoV
  simp only [Prod.mk.injEq] at hzz
  obtain ⟨hz, hs, hb⟩ := hzz
  have := run_make (P := Try.prog) W 29 38 i _ Try.underlying29 hi hz .i64 .i64 n n (by omega) (Int.le_refl _) (by rw [hb]; omega) (by omega)
  rw [hs] at this
  exact this
theorem make_rods (n : Nat) (hn : n ≤ 1048576) (W : World) : (Instr.makeSlice 30 (.int .i64 (n : Int)) (.int .i64 (n : Int))).run Try.prog W = .ok (.slice (some ⟨W.heap.size, 0, none⟩) n n) (W.alloc (.cells (madeCells #[.int .i64 0, .int .i64 0, .float .f32 0] (n * 3)) 91)) := by
  obtain ⟨i, hi, hzz⟩ := Option.map_eq_some_iff.1 infoR
  simp only [Prod.mk.injEq] at hzz
  obtain ⟨hz, hs, hb⟩ := hzz
  have := run_make (P := Try.prog) W 30 91 i _ Try.underlying30 hi hz .i64 .i64 n n (by omega) (Int.le_refl _) (by rw [hb]; omega) (by omega)
  rw [hs] at this
  exact this
theorem made_vec (n j : Nat) (h : j < n * 3) : (madeCells #[.float .f32 0, .float .f32 0, .float .f32 0] (n * 3))[j]? = some (vc (fun _ => ⟨0, 0, 0⟩) j) := by
  unfold madeCells vc
  have hj : j % 3 = 0 ∨ j % 3 = 1 ∨ j % 3 = 2 := by omega
  rcases hj with e | e | e <;> simp [h, e]
theorem made_rod (n j : Nat) (h : j < n * 3) : (madeCells #[.int .i64 0, .int .i64 0, .float .f32 0] (n * 3))[j]? = some (rc (fun _ => ⟨0, 0, 0⟩) j) := by
  unfold madeCells rc
  have hj : j % 3 = 0 ∨ j % 3 = 1 ∨ j % 3 = 2 := by omega
  rcases hj with e | e | e <;> simp [h, e]
theorem Rw.made_vecs (w : World) (n : Nat) : Rw (w.alloc (.cells (madeCells #[.float .f32 0, .float .f32 0, .float .f32 0] (n * 3)) 38)) w.heap.size 38 (n * 3) (n * 3) (vc (fun _ => ⟨0, 0, 0⟩)) :=
  ⟨_, heap_alloc_new w _, size_madeCells _ _, Nat.le_refl _, fun j hj => made_vec n j hj⟩
theorem Rw.made_rods (w : World) (n : Nat) : Rw (w.alloc (.cells (madeCells #[.int .i64 0, .int .i64 0, .float .f32 0] (n * 3)) 91)) w.heap.size 91 (n * 3) (n * 3) (rc (fun _ => ⟨0, 0, 0⟩)) :=
  ⟨_, heap_alloc_new w _, size_madeCells _ _, Nat.le_refl _, fun j hj => made_rod n j hj⟩
end Go.Proofs.Ytlhgaihfghobmaa
