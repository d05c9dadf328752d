/- Floating-point operations as a walk meets them: what each gives in a world, how many answers it draws, and that results agree up to the choice of a NaN. -/
import Derived.WalkKit
import Derived.WalkLawsBesides
import Derived.Deep.Draws
import Derived.Laws.FloatArith
import Derived.Laws.FloatBits
import Derived.Laws.Externs
import Derived.Below
namespace Go.Proofs.YtfempadelilpoaaDoor
open Go.RowKit

/-! ### what an operation gives -/
section
variable (w : World) (o : Obj) (a : Addr) (v : Value) (n : Nat)
@[simp, go_sem] theorem drawn_alloc : (w.alloc o).drawn = w.drawn := rfl
@[simp, go_sem] theorem drawn_setCell : (w.setCell a v).drawn = w.drawn := rfl
@[simp, go_sem] theorem drawn_drewN : (w.drewN n).drawn = w.drawn + n := rfl
@[simp, go_sem] theorem drawn_drew : w.drew.drawn = w.drawn + 1 := rfl
@[go_sem] theorem tape_alloc' : (w.alloc o).tape = w.tape := rfl
@[go_sem] theorem tape_setCell' : (w.setCell a v).tape = w.tape := rfl
@[go_sem] theorem tape_drew' : w.drew.tape = w.tape := rfl
end

def opV (op : BinOp) (k : FloatKind) (x y : Nat) (T : Nat → Question → Nat) (n : Nat) : Nat :=
  match floatBits op k x y with
  | some r => r
  | none => (Question.nanBits k x y).cut (T n (.nanBits k x y))

def opN (op : BinOp) (k : FloatKind) (x y : Nat) : Nat :=
  match floatBits op k x y with
  | some _ => 0
  | none => 1

section
variable {P : Program} (w : World)
theorem run_opV (op : BinOp) (h : op = .add ∨ op = .sub ∨ op = .mul ∨ op = .quo) (t : TypeId) (k : FloatKind) (x y : Nat) :
    (binOp op t (.float k x) (.float k y)).run P w = .ok (.float k (opV op k x y w.tape w.drawn)) (w.drewN (opN op k x y)) := by
  cases hf : floatBits op k x y with
  | some r =>
    rw [run_float_arith w op t k x y r hf]
    simp only [opV, opN, hf]
    rfl
  | none =>
    rcases h with rfl | rfl | rfl | rfl
    all_goals
      have hf' := hf
      simp only [floatBits] at hf'
      simp [binOp, Op.floatArith, hf', opV, opN, hf, Question.forced]
      rfl
@[go_sem] theorem run_fadd (t : TypeId) (k : FloatKind) (x y : Nat) : (binOp .add t (.float k x) (.float k y)).run P w = .ok (.float k (opV .add k x y w.tape w.drawn)) (w.drewN (opN .add k x y)) := run_opV w .add (by simp) t k x y
@[go_sem] theorem run_fsub (t : TypeId) (k : FloatKind) (x y : Nat) : (binOp .sub t (.float k x) (.float k y)).run P w = .ok (.float k (opV .sub k x y w.tape w.drawn)) (w.drewN (opN .sub k x y)) := run_opV w .sub (by simp) t k x y
@[go_sem] theorem run_fmul (t : TypeId) (k : FloatKind) (x y : Nat) : (binOp .mul t (.float k x) (.float k y)).run P w = .ok (.float k (opV .mul k x y w.tape w.drawn)) (w.drewN (opN .mul k x y)) := run_opV w .mul (by simp) t k x y
@[go_sem] theorem run_fquo (t : TypeId) (k : FloatKind) (x y : Nat) : (binOp .quo t (.float k x) (.float k y)).run P w = .ok (.float k (opV .quo k x y w.tape w.drawn)) (w.drewN (opN .quo k x y)) := run_opV w .quo (by simp) t k x y
end

/-! ### conversions between the two formats -/
def cvV (s k : FloatKind) (b : Nat) (T : Nat → Question → Nat) (n : Nat) : Nat :=
  match s.decode b with
  | .nan _ _ => (Question.nanConv k b).cut (T n (.nanConv k b))
  | .infinity sg => k.encode (.infinity sg)
  | .number sg m e => if (k.decode (k.encode (.number sg m e))).isInfinity then (Question.floatToFloat b).cut (T n (.floatToFloat b)) else k.encode (.number sg m e)

def cvN (s k : FloatKind) (b : Nat) : Nat :=
  match s.decode b with
  | .nan _ _ => 1
  | .infinity _ => 0
  | .number sg m e => if (k.decode (k.encode (.number sg m e))).isInfinity then 1 else 0

section
variable {P : Program} (w : World)
theorem run_cvV (src dst : TypeId) (s k : FloatKind) (b : Nat) (hne : s ≠ k) (hs : (P.underlying src).isSome = true) (hd : P.underlying dst = some (.float k)) :
    (convert src dst (.float s b)).run P w = .ok (.float k (cvV s k b w.tape w.drawn)) (w.drewN (cvN s k b)) := by
  obtain ⟨u, hs'⟩ := Option.isSome_iff_exists.1 hs
  have hc : (convert src dst (.float s b)).run P w = (Conv.floatToFloat s b k).run P w := by
    cases u <;> simp [convert, run_underlying hs', run_underlying hd]
  rw [hc]
  unfold cvV cvN
  cases he : s.decode b with
  | nan sg f =>
    simp [Conv.floatToFloat, hne, he, Question.forced]
    rfl
  | infinity sg =>
    simp [Conv.floatToFloat, hne, he]
    rfl
  | number sg m e =>
    by_cases ho : (k.decode (k.encode (.number sg m e))).isInfinity = true
    · simp [Conv.floatToFloat, hne, he, ho, Question.forced]
      rfl
    · simp [Conv.floatToFloat, hne, he, ho]
      rfl
@[go_sem] theorem run_widen (src dst : TypeId) (b : Nat) (hs : (P.underlying src).isSome = true) (hd : P.underlying dst = some (.float .f64)) :
    (convert src dst (.float .f32 b)).run P w = .ok (.float .f64 (cvV .f32 .f64 b w.tape w.drawn)) (w.drewN (cvN .f32 .f64 b)) := run_cvV w src dst .f32 .f64 b (by decide) hs hd
@[go_sem] theorem run_narrow (src dst : TypeId) (b : Nat) (hs : (P.underlying src).isSome = true) (hd : P.underlying dst = some (.float .f32)) :
    (convert src dst (.float .f64 b)).run P w = .ok (.float .f32 (cvV .f64 .f32 b w.tape w.drawn)) (w.drewN (cvN .f64 .f32 b)) := run_cvV w src dst .f64 .f32 b (by decide) hs hd
@[go_sem] theorem run_same (src dst : TypeId) (k : FloatKind) (b : Nat) (hs : (P.underlying src).isSome = true) (hd : P.underlying dst = some (.float k)) :
    (convert src dst (.float k b)).run P w = .ok (.float k b) w := by
  obtain ⟨u, hs'⟩ := Option.isSome_iff_exists.1 hs
  cases u <;> simp [convert, run_underlying hs', run_underlying hd, Conv.floatToFloat]
@[go_sem] theorem run_fneg (k : FloatKind) (b : Nat) : (Op.unary .neg (.float k b)).run P w = .ok (.float k (Op.negFloat k b)) w := rfl
@[go_sem] theorem run_store_float (a : Addr) (m : Mode) (k : FloatKind) (b : Nat) : (store a (.float k b) m).run P w = stored P w a (.float k b) m := run_store P w a _ m rfl
end

/-! ### the same number, up to the choice of a NaN -/
def isN (k : FloatKind) (x : Nat) : Bool := (k.decode x).isNaN
def Sim (k : FloatKind) (a b : Nat) : Prop := (isN k a = true ∧ isN k b = true) ∨ (isN k a = false ∧ a = b)

theorem Sim.refl (k : FloatKind) (a : Nat) : Sim k a a := by
  unfold Sim
  cases h : isN k a <;> simp
theorem Sim.symm {k : FloatKind} {a b : Nat} (h : Sim k a b) : Sim k b a := by
  rcases h with ⟨h1, h2⟩ | ⟨h1, rfl⟩
  · exact .inl ⟨h2, h1⟩
  · exact .inr ⟨h1, rfl⟩
theorem Sim.trans {k : FloatKind} {a b c : Nat} (h : Sim k a b) (g : Sim k b c) : Sim k a c := by
  rcases h with ⟨h1, h2⟩ | ⟨h1, rfl⟩
  · rcases g with ⟨g1, g2⟩ | ⟨g1, rfl⟩
    · exact .inl ⟨h1, g2⟩
    · exact .inl ⟨h1, h2⟩
  · exact g
theorem Sim.of_nan {k : FloatKind} {a b : Nat} (ha : isN k a = true) (hb : isN k b = true) : Sim k a b := .inl ⟨ha, hb⟩
theorem Sim.isN {k : FloatKind} {a b : Nat} (h : Sim k a b) : isN k a = isN k b := by
  rcases h with ⟨h1, h2⟩ | ⟨h1, rfl⟩
  · rw [h1, h2]
  · rfl
theorem Sim.eq {k : FloatKind} {a b : Nat} (h : Sim k a b) (hn : Go.Proofs.YtfempadelilpoaaDoor.isN k a = false) : a = b := by
  rcases h with ⟨h1, h2⟩ | ⟨h1, rfl⟩
  · rw [h1] at hn; cases hn
  · rfl

theorem isN_iff {k : FloatKind} {x : Nat} : isN k x = true ↔ ∃ s f, k.decode x = .nan s f := by
  unfold isN Ieee.Datum.isNaN
  cases h : k.decode x <;> simp

theorem isN_f32 (x : Nat) : isN .f32 x = decide (2139095040 < x % 2147483648) := by
  have h1 : Ieee.single.signWeight = 2147483648 := rfl
  have h2 : Ieee.single.binade = 8388608 := rfl
  have h3 : Ieee.single.infRung = 2139095040 := rfl
  unfold isN FloatKind.decode FloatKind.format Ieee.Format.read
  simp only [h1, h2, h3]
  split
  · simp [Ieee.Datum.isNaN]; omega
  · split
    · simp [Ieee.Datum.isNaN]; omega
    · split
      · simp [Ieee.Datum.isNaN]; omega
      · simp [Ieee.Datum.isNaN]; omega
theorem isN_f64 (x : Nat) : isN .f64 x = decide (9218868437227405312 < x % 9223372036854775808) := by
  have h1 : Ieee.double.signWeight = 9223372036854775808 := rfl
  have h2 : Ieee.double.binade = 4503599627370496 := rfl
  have h3 : Ieee.double.infRung = 9218868437227405312 := rfl
  unfold isN FloatKind.decode FloatKind.format Ieee.Format.read
  simp only [h1, h2, h3]
  split
  · simp [Ieee.Datum.isNaN]; omega
  · split
    · simp [Ieee.Datum.isNaN]; omega
    · split
      · simp [Ieee.Datum.isNaN]; omega
      · simp [Ieee.Datum.isNaN]; omega

theorem isN_nanBits (k : FloatKind) (x y t : Nat) : isN k ((Question.nanBits k x y).cut t) = true := by
  cases k
  · rw [isN_f32]; rw [decide_eq_true_eq]; simp only [Question.cut]; rcases Nat.mod_two_eq_zero_or_one t with h | h <;> rw [h] <;> omega
  · rw [isN_f64]; rw [decide_eq_true_eq]; simp only [Question.cut]; rcases Nat.mod_two_eq_zero_or_one t with h | h <;> rw [h] <;> omega
theorem isN_nanConv (k : FloatKind) (x t : Nat) : isN k ((Question.nanConv k x).cut t) = true := by
  cases k
  · rw [isN_f32]; rw [decide_eq_true_eq]; simp only [Question.cut]; rcases Nat.mod_two_eq_zero_or_one t with h | h <;> rw [h] <;> omega
  · rw [isN_f64]; rw [decide_eq_true_eq]; simp only [Question.cut]; rcases Nat.mod_two_eq_zero_or_one t with h | h <;> rw [h] <;> omega

theorem isN_word (k : FloatKind) (s : Bool) (r : Nat) (h : r ≤ k.format.infRung) : isN k (k.format.word s r) = false := by
  cases k
  · have h3 : FloatKind.f32.format.infRung = 2139095040 := rfl
    have h1 : FloatKind.f32.format.signWeight = 2147483648 := rfl
    rw [isN_f32]; unfold Ieee.Format.word; rw [h1]; rw [h3] at h
    cases s <;> simp <;> omega
  · have h3 : FloatKind.f64.format.infRung = 9218868437227405312 := rfl
    have h1 : FloatKind.f64.format.signWeight = 9223372036854775808 := rfl
    rw [isN_f64]; unfold Ieee.Format.word; rw [h1]; rw [h3] at h
    cases s <;> simp <;> omega
theorem isN_encode (k : FloatKind) (d : Ieee.Datum) (h : d.isNaN = false) : isN k (k.encode d) = false := by
  cases d with
  | number s m e =>
    show isN k (k.format.nearest s m e) = false
    unfold Ieee.Format.nearest
    dsimp only
    split
    · exact isN_word k s 0 (Nat.zero_le _)
    · exact isN_word k s _ (Nat.min_le_right ..)
  | infinity s => exact isN_word k s _ (Nat.le_refl _)
  | nan s f => cases h

theorem decode_nan {k : FloatKind} {x : Nat} (h : isN k x = true) : ∃ s f, k.format.read x = .nan s f := isN_iff.1 h
theorem sum_nan_r (d : Ieee.Datum) (s : Bool) (f : Nat) : d.sum (.nan s f) = none := by cases d <;> rfl
theorem product_nan_r (d : Ieee.Datum) (s : Bool) (f : Nat) : d.product (.nan s f) = none := by cases d <;> rfl
theorem quotient_nan_r (n : Nat) (d : Ieee.Datum) (s : Bool) (f : Nat) : d.quotient n (.nan s f) = none := by cases d <;> rfl
theorem order_nan_r (d : Ieee.Datum) (s : Bool) (f : Nat) : d.order (.nan s f) = none := by cases d <;> rfl

theorem floatBits_nan_l (op : BinOp) {k : FloatKind} {x : Nat} (y : Nat) (h : isN k x = true) : floatBits op k x y = none := by
  obtain ⟨s, f, hx⟩ := decode_nan h
  cases op <;> simp only [floatBits] <;> simp only [Ieee.Format.add, Ieee.Format.sub, Ieee.Format.mul, Ieee.Format.div, hx] <;> rfl
theorem floatBits_nan_r (op : BinOp) {k : FloatKind} (x : Nat) {y : Nat} (h : isN k y = true) : floatBits op k x y = none := by
  obtain ⟨s, f, hx⟩ := decode_nan h
  cases op <;> simp only [floatBits] <;> simp only [Ieee.Format.add, Ieee.Format.sub, Ieee.Format.mul, Ieee.Format.div, hx, Ieee.Datum.opposite, sum_nan_r, product_nan_r, quotient_nan_r] <;> rfl
theorem order_nan_l' {k : FloatKind} {x : Nat} (y : Nat) (h : isN k x = true) : k.format.order x y = none := by
  obtain ⟨s, f, hx⟩ := decode_nan h
  simp only [Ieee.Format.order, hx]; rfl
theorem order_nan_r' {k : FloatKind} (x : Nat) {y : Nat} (h : isN k y = true) : k.format.order x y = none := by
  obtain ⟨s, f, hx⟩ := decode_nan h
  simp only [Ieee.Format.order, hx, order_nan_r]

theorem opV_nan {op : BinOp} {k : FloatKind} {x y : Nat} (T : Nat → Question → Nat) (n : Nat) (h : floatBits op k x y = none) : isN k (opV op k x y T n) = true := by
  simp only [opV, h]; exact isN_nanBits _ _ _ _
theorem opV_sim (op : BinOp) {k : FloatKind} {a a' b b' : Nat} (ha : Sim k a a') (hb : Sim k b b') (T : Nat → Question → Nat) (n : Nat) (T' : Nat → Question → Nat) (n' : Nat) : Sim k (opV op k a b T n) (opV op k a' b' T' n') := by
  rcases ha with ⟨h1, h2⟩ | ⟨h1, rfl⟩
  · exact .inl ⟨opV_nan T n (floatBits_nan_l op b h1), opV_nan T' n' (floatBits_nan_l op b' h2)⟩
  · rcases hb with ⟨g1, g2⟩ | ⟨g1, rfl⟩
    · exact .inl ⟨opV_nan T n (floatBits_nan_r op a g1), opV_nan T' n' (floatBits_nan_r op a g2)⟩
    · cases hf : floatBits op k a b with
      | none => exact .inl ⟨opV_nan T n hf, opV_nan T' n' hf⟩
      | some r => simp only [opV, hf]; exact Sim.refl _ _
theorem order_sim {k : FloatKind} {a a' b b' : Nat} (ha : Sim k a a') (hb : Sim k b b') : k.format.order a b = k.format.order a' b' := by
  rcases ha with ⟨h1, h2⟩ | ⟨h1, rfl⟩
  · rw [order_nan_l' b h1, order_nan_l' b' h2]
  · rcases hb with ⟨g1, g2⟩ | ⟨g1, rfl⟩
    · rw [order_nan_r' a g1, order_nan_r' a g2]
    · rfl
theorem order_self (k : FloatKind) (x : Nat) : k.format.order x x = if isN k x then none else some .eq := by
  unfold isN FloatKind.decode Ieee.Format.order
  cases k.format.read x with
  | number s m e => simp [Ieee.Datum.order, Ieee.Datum.isNaN]
  | infinity s => simp [Ieee.Datum.order, Ieee.Datum.isNaN]
  | nan s f => simp [Ieee.Datum.order, Ieee.Datum.isNaN]

theorem cvV_nan {s k : FloatKind} {b : Nat} (T : Nat → Question → Nat) (n : Nat) (h : isN s b = true) : isN k (cvV s k b T n) = true := by
  obtain ⟨sg, f, hx⟩ := isN_iff.1 h
  simp only [cvV, hx]; exact isN_nanConv _ _ _

/-- what a conversion gives is fixed: no finite number is too great for it. -/
def cvOk (s k : FloatKind) (b : Nat) : Prop := match s.decode b with | .number sg m e => (k.decode (k.encode (.number sg m e))).isInfinity = false | _ => True

theorem cvV_sim {s k : FloatKind} {a b : Nat} (h : Sim s a b) (hok : isN s a = false → cvOk s k a) (T : Nat → Question → Nat) (n : Nat) (T' : Nat → Question → Nat) (n' : Nat) : Sim k (cvV s k a T n) (cvV s k b T' n') := by
  rcases h with ⟨h1, h2⟩ | ⟨h1, rfl⟩
  · exact .inl ⟨cvV_nan T n h1, cvV_nan T' n' h2⟩
  · have ho := hok h1
    unfold cvOk at ho
    unfold cvV
    cases hd : s.decode a with
    | nan sg f => rw [isN_iff.2 ⟨sg, f, hd⟩] at h1; cases h1
    | infinity sg => exact Sim.refl _ _
    | number sg m e => rw [hd] at ho; simp only [ho]; exact Sim.refl _ _

/-! ### the bits fit -/
theorem nanBits_lt (k : FloatKind) (x y t : Nat) : (Question.nanBits k x y).cut t < 2 ^ k.format.width := by
  cases k
  · show _ < 2 ^ 32; simp only [Question.cut]; omega
  · show _ < 2 ^ 64; simp only [Question.cut]; omega
theorem nanConv_lt (k : FloatKind) (x t : Nat) : (Question.nanConv k x).cut t < 2 ^ k.format.width := by
  cases k
  · show _ < 2 ^ 32; simp only [Question.cut]; omega
  · show _ < 2 ^ 64; simp only [Question.cut]; omega
theorem opV_lt (op : BinOp) (k : FloatKind) (x y : Nat) (T : Nat → Question → Nat) (n : Nat) : opV op k x y T n < 2 ^ k.format.width := by
  unfold opV
  split
  · rename_i r hr
    unfold floatBits at hr
    split at hr
    · exact k.format.add_lt hr
    · exact k.format.sub_lt hr
    · exact k.format.mul_lt hr
    · exact k.format.div_lt hr
    · cases hr
  · exact nanBits_lt _ _ _ _
theorem opV_lt32 (op : BinOp) (x y : Nat) (T : Nat → Question → Nat) (n : Nat) : opV op .f32 x y T n < 4294967296 := opV_lt op .f32 x y T n
theorem cvV_lt32 (s : FloatKind) (b : Nat) (T : Nat → Question → Nat) (n : Nat) : cvV s .f32 b T n < 4294967296 := by
  unfold cvV
  split
  · exact nanConv_lt .f32 _ _
  · exact FloatKind.f32.format.write_lt _
  · split
    · simp only [Question.cut]; omega
    · exact FloatKind.f32.format.write_lt _

/-! ### the endings of contracts -/
/-- returns a float that is 'v' up to the choice of a NaN; below B nothing has turned. -/
def RetF (k : FloatKind) (v : Nat) (w : World) (e : Ending) (w' : World) : Prop :=
  ∃ r, e = .returned (.float k r) ∧ r < 2 ^ k.format.width ∧ Sim k r v ∧ Below w.heap.size w w'
def RetV (v : Value) (w : World) (e : Ending) (w' : World) : Prop := e = .returned v ∧ Below w.heap.size w w'
def RetVec (x y z : Nat) (w : World) (e : Ending) (w' : World) : Prop :=
  ∃ a b c, e = .returned (.agg #[.float .f32 a, .float .f32 b, .float .f32 c]) ∧ (a < 4294967296 ∧ b < 4294967296 ∧ c < 4294967296) ∧ Sim .f32 a x ∧ Sim .f32 b y ∧ Sim .f32 c z ∧ Below w.heap.size w w'
theorem below_n (B : Nat) (w : World) (n : Nat) : Below B w (w.drewN n) := ⟨rfl, rfl, rfl, Nat.le_refl _, fun _ _ => rfl⟩
theorem below_dn {B : Nat} {a w : World} (h : Below B a w) (n : Nat) : Below B a (w.drewN n) := h.trans (below_n B w n)
theorem below_step {w X w3 : World} (h : Below w.heap.size w X) (k : Below X.heap.size X w3) : Below w.heap.size w w3 := h.trans (k.mono h.size)
theorem cell_keep {B : Nat} {W w1 : World} (hb : Below W.heap.size W w1) (h : B ≤ W.heap.size) : ∀ b o, b < B → w1.cell? ⟨b, o, none⟩ = W.cell? ⟨b, o, none⟩ := fun b o hlt => hb.cell (p := ⟨b, o, none⟩) (Nat.lt_of_lt_of_le hlt h)
theorem cell_set_ne (w : World) (b o b' o' : Nat) (v : Value) (h : b ≠ b') : (w.setCell ⟨b, o, none⟩ v).cell? ⟨b', o', none⟩ = w.cell? ⟨b', o', none⟩ := World.cell?_of_block (Below.heap_setCell w ⟨b, o, none⟩ v b' (fun e => h e.symm))
theorem cell_alloc_lt (w : World) (O : Obj) (b o : Nat) (h : b < w.heap.size) : (w.alloc O).cell? ⟨b, o, none⟩ = w.cell? ⟨b, o, none⟩ := World.cell?_of_block (Below.heap_alloc w O b h)
theorem set3 (w : World) (g : Nat) (x y z u0 u1 u2 : Value) (h0 : w.cell? ⟨g, 0, none⟩ = some u0) (h1 : w.cell? ⟨g, 1, none⟩ = some u1) (h2 : w.cell? ⟨g, 2, none⟩ = some u2) :
    (((w.setCell ⟨g, 0, none⟩ x).setCell ⟨g, 1, none⟩ y).setCell ⟨g, 2, none⟩ z).cell? ⟨g, 0, none⟩ = some x ∧ (((w.setCell ⟨g, 0, none⟩ x).setCell ⟨g, 1, none⟩ y).setCell ⟨g, 2, none⟩ z).cell? ⟨g, 1, none⟩ = some y ∧
    (((w.setCell ⟨g, 0, none⟩ x).setCell ⟨g, 1, none⟩ y).setCell ⟨g, 2, none⟩ z).cell? ⟨g, 2, none⟩ = some z := by
  have n01 : (⟨g, 0, none⟩ : Addr) ≠ ⟨g, 1, none⟩ := by simp
  have n02 : (⟨g, 0, none⟩ : Addr) ≠ ⟨g, 2, none⟩ := by simp
  have n12 : (⟨g, 1, none⟩ : Addr) ≠ ⟨g, 2, none⟩ := by simp
  refine ⟨?_, ?_, ?_⟩
  · rw [World.cell?_setCell_other (h := n02.symm), World.cell?_setCell_other (h := n01.symm), World.cell?_setCell_same (h := h0)]
  · rw [World.cell?_setCell_other (h := n12.symm), World.cell?_setCell_same (u := u1) (h := by rw [World.cell?_setCell_other (h := n01)]; exact h1)]
  · rw [World.cell?_setCell_same (u := u2) (h := by rw [World.cell?_setCell_other (h := n12), World.cell?_setCell_other (h := n02)]; exact h2)]
theorem bcell {W w1 : World} (hb : Below W.heap.size W w1) : (∀ b o, b < W.heap.size → w1.cell? ⟨b, o, none⟩ = W.cell? ⟨b, o, none⟩) ∧ (∀ b o, b < W.heap.size → w1.frozen? ⟨b, o, none⟩ = W.frozen? ⟨b, o, none⟩) :=
  ⟨fun b o h => hb.cell (p := ⟨b, o, none⟩) h, fun b o h => hb.frozen (p := ⟨b, o, none⟩) h⟩

/-- the operations on plain numbers, with one NaN for all -/
def F.add (a b : Nat) : Nat := opV .add .f32 a b (fun _ _ => 0) 0
def F.sub (a b : Nat) : Nat := opV .sub .f32 a b (fun _ _ => 0) 0
def F.mul (a b : Nat) : Nat := opV .mul .f32 a b (fun _ _ => 0) 0
def F.quo (a b : Nat) : Nat := opV .quo .f32 a b (fun _ _ => 0) 0
theorem add_sim {a a' b b' : Nat} (ha : Sim .f32 a a') (hb : Sim .f32 b b') (T : Nat → Question → Nat) (n : Nat) : Sim .f32 (opV .add .f32 a b T n) (F.add a' b') := opV_sim .add ha hb T n _ _
theorem sub_sim {a a' b b' : Nat} (ha : Sim .f32 a a') (hb : Sim .f32 b b') (T : Nat → Question → Nat) (n : Nat) : Sim .f32 (opV .sub .f32 a b T n) (F.sub a' b') := opV_sim .sub ha hb T n _ _
theorem mul_sim {a a' b b' : Nat} (ha : Sim .f32 a a') (hb : Sim .f32 b b') (T : Nat → Question → Nat) (n : Nat) : Sim .f32 (opV .mul .f32 a b T n) (F.mul a' b') := opV_sim .mul ha hb T n _ _
theorem quo_sim {a a' b b' : Nat} (ha : Sim .f32 a a') (hb : Sim .f32 b b') (T : Nat → Question → Nat) (n : Nat) : Sim .f32 (opV .quo .f32 a b T n) (F.quo a' b') := opV_sim .quo ha hb T n _ _
end Go.Proofs.YtfempadelilpoaaDoor
