/- As XRh; an operation need keep the facts of the other operations alone. -/
import Derived.Test.YtlhgaihfghobmaaMa
namespace Go.Proofs.Ytlhgaihfghobmaa
open Go.ChangeShapes Go.WideShapes Go.ChangeAt Go.RowKit Go.Deep

section
variable {P : Program} {ops : Array Oper} {Q : Exit → Act → World → Prop} {md : Region.Mode}
/-- what holds when the operations of a list have come up. -/
structure RI3 (md : Region.Mode) (ops : Array Oper) (a0 : Act) (Fs : List (Value → World → Prop)) (J : Array Bool → Act → World → Prop) (listed : Array Bool) (a : Act) (w : World) : Prop where
  size : listed.size = ops.size
  defers : a.defers = a0.defers
  tmps : a.tmps.size = a0.tmps.size
  keep : ∀ t, (∀ i o, ops[i]? = some o → o.dst = some t → listed.getD i true = false) → a.tmps[t]? = a0.tmps[t]?
  val : ∀ i o t, ops[i]? = some o → o.dst = some t → listed.getD i false = true → ∃ v, a.tmps[t]? = some v ∧ Fact Fs i v w
  world : J listed a w
  closed : ∀ i o, ops[i]? = some o → listed.getD i false = true → ∀ e ∈ o.after, Region.binds md e = true → listed.getD e.on false = true
variable {a0 : Act} {Fs : List (Value → World → Prop)} {J : Array Bool → Act → World → Prop}
theorem RI3.step (ho : once ops a0.tmps.size = true) {listed : Array Bool} {a : Act} {w w' : World} (h : RI3 md ops a0 Fs J listed a w) {i : Nat} {o : Oper} (hi : ops[i]? = some o) {v : Value}
    (hd : ∀ e ∈ o.after, Region.binds md e = true → listed.getD e.on false = true) (hst : ∀ j u, j ≠ i → Fact Fs j u w → Fact Fs j u w') (hv : Fact Fs i v w') (hJ : J (listed.setIfInBounds i true) (a.put o.dst v) w') : RI3 md ops a0 Fs J (listed.setIfInBounds i true) (a.put o.dst v) w' := by
  have hlt : i < listed.size := by rw [h.size]; exact (Array.getElem?_eq_some_iff.1 hi).1
  refine ⟨by rw [Array.size_setIfInBounds]; exact h.size, ?_, ?_, ?_, ?_, hJ, ?_⟩
  · rw [← h.defers]
    unfold Act.put
    split <;> rfl
  · rw [← h.tmps]
    unfold Act.put
    split
    · exact Array.size_setIfInBounds
    · rfl
  · intro t ht
    have hd : o.dst ≠ some t := fun e => by
      have := ht i o hi e
      rw [getD_set_self hlt] at this
      cases this
    have h1 : (a.put o.dst v).tmps[t]? = a.tmps[t]? := by
      unfold Act.put
      split
      · rename_i d hd'
        rw [hd'] at hd
        exact Array.getElem?_setIfInBounds_ne (fun e => hd (by rw [e]))
      · rfl
    rw [h1]
    refine h.keep t fun j q hj hq => ?_
    have hji : i ≠ j := fun e => by
      subst e
      rw [hi] at hj
      cases hj
      exact hd hq
    have := ht j q hj hq
    rw [getD_set_ne true hji] at this
    exact this
  · intro j q t hj hq hl
    by_cases hji : i = j
    · subst hji
      rw [hi] at hj
      cases hj
      refine ⟨v, ?_, hv⟩
      rw [hq]
      unfold Act.put
      show (a.tmps.setIfInBounds t v)[t]? = some v
      have : t < a.tmps.size := by rw [h.tmps]; exact once_lt ho hi hq
      simp [this]
    · rw [getD_set_ne false hji] at hl
      obtain ⟨u, hu, hF⟩ := h.val j q t hj hq hl
      refine ⟨u, ?_, hst j u (fun e => hji e.symm) hF⟩
      rw [← hu]
      unfold Act.put
      split
      · rename_i d hd
        refine Array.getElem?_setIfInBounds_ne fun e => ?_
        subst e
        exact hji (once_spec ho hi hd hj hq).symm
      · rfl
  · intro j q hj hl e he hb
    by_cases hji : i = j
    · subst hji
      rw [hi] at hj
      cases hj
      exact getD_set_true (hd e he hb)
    · rw [getD_set_ne false hji] at hl
      exact getD_set_true (h.closed j q hj hl e he hb)
/-- what is asked of one operation. -/
def StepOk3 (P : Program) (md : Region.Mode) (ops : Array Oper) (Q : Exit → Act → World → Prop) (a0 : Act) (Fs : List (Value → World → Prop)) (J : Array Bool → Act → World → Prop) (i : Nat) (o : Oper) : Prop :=
  ∀ (listed : Array Bool) (a : Act) (w : World), RI3 md ops a0 Fs J listed a w → listed.getD i true = false → (∀ e ∈ o.after, Region.binds md e = true → listed.getD e.on false = true) →
      ∀ K : Act → World → Prop, (∀ v w', (∀ j u, j ≠ i → Fact Fs j u w → Fact Fs j u w') → Fact Fs i v w' → J (listed.setIfInBounds i true) (a.put o.dst v) w' → K (a.put o.dst v) w') →
        if Region.wanted o (yielded ops a.tmps) = true then o.wp P a w K Q else K (a.put o.dst undef) w
def StepAll3 (P : Program) (md : Region.Mode) (ops : Array Oper) (Q : Exit → Act → World → Prop) (a0 : Act) (Fs : List (Value → World → Prop)) (J : Array Bool → Act → World → Prop) : List Oper → Nat → Prop
  | [], _ => True
  | o :: os, i => StepOk3 P md ops Q a0 Fs J i o ∧ StepAll3 P md ops Q a0 Fs J os (i + 1)
theorem StepAll3.at : ∀ {os : List Oper} {k : Nat}, StepAll3 P md ops Q a0 Fs J os k → ∀ i o, os[i]? = some o → StepOk3 P md ops Q a0 Fs J (k + i) o
  | [], _, _, i, o, h => by simp at h
  | p :: os, k, hs, 0, o, h => by
    simp at h
    subst h
    exact hs.1
  | p :: os, k, hs, i + 1, o, h => by
    have := hs.2.at i o (by simpa using h)
    rw [show k + (i + 1) = k + 1 + i by omega]
    exact this
theorem region_any3 {n : Nat} (ho : once ops a0.tmps.size = true) (ha : ahead md ops = true)
    (hstep : ∀ i o, ops[i]? = some o → StepOk3 P md ops Q a0 Fs J i o)
    (hend : ∀ (listed : Array Bool) (a : Act) (w : World), RI3 md ops a0 Fs J listed a w → (∀ i, i < ops.size → listed.getD i false = true) → Q .normal a w) :
    ∀ (listed : Array Bool) (a : Act) (w : World), RI3 md ops a0 Fs J listed a w → cntU listed ops.size ≤ n → wpAny P md ops Q n listed a w := by
  induction n with
  | zero =>
    intro listed a w h hc
    have hall : ∀ i, i < ops.size → listed.getD i true = true := cntU_zero (by omega)
    refine ⟨List.eq_nil_iff_forall_not_mem.2 fun i hi => ?_, hend listed a w h fun i hi => getD_true (by rw [h.size]; exact hi) (hall i hi)⟩
    obtain ⟨h1, o, h2, _⟩ := mem_ready.1 hi
    rw [hall i (Array.getElem?_eq_some_iff.1 h2).1] at h1
    cases h1
  | succ n ih =>
    intro listed a w h hc
    refine ⟨fun hr => hend listed a w h (ready_nil ha h.size hr), fun i hi => ?_⟩
    obtain ⟨hu, o, hio, hdep⟩ := mem_ready.1 hi
    have hlt : i < ops.size := (Array.getElem?_eq_some_iff.1 hio).1
    refine wpOp_step hio fun K' hK => hstep i o hio listed a w h hu hdep K' fun v w' hst hv hJ => hK _ _ (ih _ _ _ (h.step ho hio hdep hst hv hJ) ?_)
    have := cntU_set (by rw [h.size]; exact hlt) hu ops.size
    rw [if_pos hlt] at this
    omega
/-- **a region that draws its order, by an invariant.** -/
theorem region_inv3 (Fs : List (Value → World → Prop)) (J : Array Bool → Act → World → Prop) {id : Nat} {w : World} (hm : P.follows .mixedOrders = true) (ho : once ops a0.tmps.size = true) (ha : ahead .any ops = true) (h0 : J (Array.replicate ops.size false) a0 w.drew)
    (hstep : StepAll3 P .any ops Q a0 Fs J ops.toList 0)
    (hend : ∀ (listed : Array Bool) (a : Act) (w : World), RI3 .any ops a0 Fs J listed a w → (∀ i, i < ops.size → listed.getD i false = true) → Q .normal a w) :
    (Code.region id ops true).wp P Q a0 w := by
  refine wp_region_any hm (region_any3 ho ha (fun i o hi => by have := hstep.at i o (by rw [← hi]; simp); rw [Nat.zero_add] at this; exact this) hend _ _ _ ?_ (cntU_le _ _))
  refine ⟨Array.size_replicate, rfl, rfl, fun _ _ => rfl, fun i o t hi _ hl => ?_, h0, fun i o hi hl => ?_⟩
  all_goals
    have : i < ops.size := (Array.getElem?_eq_some_iff.1 hi).1
    simp [this] at hl
/-- what an operation may read. -/
theorem RI3.slot {listed : Array Bool} {a : Act} {w : World} (h : RI3 md ops a0 Fs J listed a w) {i : Nat} {o : Oper} {t : Tmp} (hi : ops[i]? = some o) (ht : o.dst = some t) (hl : listed.getD i false = true) : ∃ v, a.tmps.getD t undef = v ∧ a.tmps[t]? = some v ∧ Fact Fs i v w := by
  obtain ⟨v, h1, h2⟩ := h.val i o t hi ht hl
  exact ⟨v, by simp [h1], h1, h2⟩
theorem RI3.old {listed : Array Bool} {a : Act} {w : World} (h : RI3 md ops a0 Fs J listed a w) {t : Nat} (hn : noDst ops t = true) : a.tmps[t]? = a0.tmps[t]? :=
  h.keep t fun i o hi ht => by
    have := Array.all_eq_true_iff_forall_mem.1 hn o (Array.mem_of_getElem? hi)
    simp [ht] at this
theorem RI3.base {listed : Array Bool} {a : Act} {w : World} (h : RI3 md ops a0 Fs J listed a w) {t : Nat} (hn : noDst ops t = true) : a.tmps.getD t undef = a0.tmps.getD t undef := by
  have := h.old hn
  simp [this]
/-- while i has not come up, nothing has that waits for it. -/
theorem RI3.wait {listed : Array Bool} {a : Act} {w : World} (h : RI3 md ops a0 Fs J listed a w) {i T : Nat} {o : Oper} (hu : listed.getD i true = false) (hT : ops[T]? = some o) {e : Edge} (he : e ∈ o.after) (hb : Region.binds md e = true) (hi : e.on = i) : listed.getD T false = false := by
  cases hl : listed.getD T false
  · rfl
  · have h1 := h.closed T o hT hl e he hb
    rw [hi] at h1
    by_cases hlt : i < listed.size
    · simp [hlt] at h1 hu
      rw [h1] at hu
      cases hu
    · simp [Array.getElem?_eq_none (Nat.le_of_not_lt hlt)] at h1
theorem RI3.act {listed : Array Bool} {a : Act} {w : World} (h : RI3 md ops a0 Fs J listed a w) (ts : List Nat) (vs : List Value) (hc : covers ops ts = true) (hA : AllIn a.tmps ts vs) : a = ⟨setAll a0.tmps ts vs, a0.defers⟩ := by
  have e : setAll a0.tmps ts vs = a.tmps := by
    apply Array.ext_getElem?
    intro i
    refine setAll_get ts vs _ hA h.tmps i ?_
    by_cases hi : i ∈ ts
    · exact .inl hi
    · refine .inr (h.keep i fun j o hj ho => ?_).symm
      have := Array.all_eq_true_iff_forall_mem.1 hc o (Array.mem_of_getElem? hj)
      simp [ho] at this
      exact absurd this hi
  rw [e, ← h.defers]
theorem RI3.wait' {listed : Array Bool} {a : Act} {w : World} (h : RI3 md ops a0 Fs J listed a w) {i T : Nat} {o : Oper} (hu : listed.getD i false = false) (hT : ops[T]? = some o) {e : Edge} (he : e ∈ o.after) (hb : Region.binds md e = true) (hi : e.on = i) : listed.getD T false = false := by
  cases hl : listed.getD T false
  · rfl
  · have h1 := h.closed T o hT hl e he hb
    rw [hi, hu] at h1
    cases h1
/-- facts that a relation of worlds keeps, but for operation i's. -/
def AllStX (R : World → World → Prop) (i : Nat) : List (Value → World → Prop) → Nat → Prop
  | [], _ => True
  | F :: Fs, k => (k ≠ i → ∀ v W W', R W W' → F v W → F v W') ∧ AllStX R i Fs (k + 1)
theorem AllStX.fact {R : World → World → Prop} {i : Nat} : ∀ {Fs : List (Value → World → Prop)} {k : Nat}, AllStX R i Fs k → ∀ {W W' : World}, R W W' → ∀ j v, k + j ≠ i → Fact Fs j v W → Fact Fs j v W'
  | [], _, _, _, _, _, j, v, _, h => by simp [Fact]
  | F :: Fs, k, hA, W, W', hR, 0, v, hn, h => hA.1 (by omega) v W W' hR h
  | F :: Fs, k, hA, W, W', hR, j + 1, v, hn, h => AllStX.fact (Fs := Fs) hA.2 hR j v (by omega) h
theorem AllStX.fact0 {R : World → World → Prop} {i : Nat} {Fs : List (Value → World → Prop)} (hA : AllStX R i Fs 0) {W W' : World} (hR : R W W') : ∀ j v, j ≠ i → Fact Fs j v W → Fact Fs j v W' := fun j v hn h => hA.fact hR j v (by omega) h
end
/-- an operation at no known stage: each stage's fact is kept. -/
theorem Js.any {l : Array Bool} {i : Nat} {w w' : World} : ∀ {r : List (Nat × (World → Prop))} {A : World → Prop}, Js r A l w → (r.all fun p => decide (i ≠ p.1)) = true → ((A w → A w') ∧ ∀ p ∈ r, p.2 w → p.2 w') → Js r A (l.setIfInBounds i true) w'
  | [], _, h, _, hm => hm.1 h
  | (T, B) :: r, A, h, hn, hm => by
    rw [List.all_cons, Bool.and_eq_true] at hn
    have hne : i ≠ T := of_decide_eq_true hn.1
    exact ⟨fun hl => hm.1 (h.1 (by rw [getD_set_ne false hne] at hl; exact hl)), fun hl => Js.any (r := r) (h.2 (by rw [getD_set_ne false hne] at hl; exact hl)) hn.2 ⟨hm.2 _ (List.mem_cons_self ..), fun p hp => hm.2 p (List.mem_cons_of_mem _ hp)⟩⟩
theorem Jt.neutral {T i : Nat} {A B : World → Prop} {l : Array Bool} {w : World} (h : Jt T A B l w) (hne : i ≠ T) : Jt T A B (l.setIfInBounds i true) w :=
  ⟨fun hl => h.1 (by rw [getD_set_ne false hne] at hl; exact hl), fun hl => h.2 (by rw [getD_set_ne false hne] at hl; exact hl)⟩
theorem Jt.done {T i : Nat} {A : World → Prop} {l : Array Bool} {w w' : World} (_h : Jt T A (fun _ => True) l w) (hne : i ≠ T) (hl : l.getD T false = true) : Jt T A (fun _ => True) (l.setIfInBounds i true) w' :=
  ⟨fun hn => absurd hl (by rw [getD_set_ne false hne] at hn; rw [hn]; exact Bool.false_ne_true), fun _ => trivial⟩
/-- when operation T has come up, cell p holds what slot s holds. -/
def Lk (T s : Nat) (p : Addr) (l : Array Bool) (a : Act) (w : World) : Prop := l.getD T false = true → ∃ v, a.tmps[s]? = some v ∧ w.cell? p = some v
section
variable {T s i : Nat} {p : Addr} {l : Array Bool} {a : Act} {w w' : World}
theorem Lk.first {n : Nat} : Lk T s p (Array.replicate n false) a w := fun hl => absurd hl (by rw [getD_rep]; exact Bool.false_ne_true)
theorem Lk.neutral (h : Lk T s p l a w) (hne : i ≠ T) {d : Option Tmp} (hd : d ≠ some s) (v : Value) : Lk T s p (l.setIfInBounds i true) (a.put d v) w := fun hl => by
  rw [getD_set_ne false hne] at hl
  obtain ⟨u, h1, h2⟩ := h hl
  exact ⟨u, by rw [put_ne a hd]; exact h1, h2⟩
theorem Lk.no (hn : l.getD T false = false) (hne : i ≠ T) {a' : Act} : Lk T s p (l.setIfInBounds i true) a' w' := fun hl => absurd hl (by rw [getD_set_ne false hne, hn]; exact Bool.false_ne_true)
theorem Lk.hit {v : Value} (hf : a.tmps[s]? = some v) (hc : w'.cell? p = some v) : Lk T s p (l.setIfInBounds i true) a w' := fun _ => ⟨v, hf, hc⟩
theorem Lk.over (h : Lk T s p l a w) (hne : i ≠ T) (hc : w'.cell? p = w.cell? p) : Lk T s p (l.setIfInBounds i true) a w' := fun hl => by
  rw [getD_set_ne false hne] at hl
  obtain ⟨u, h1, h2⟩ := h hl
  exact ⟨u, h1, hc.trans h2⟩
end
/-! ### facts of blocks -/
/-- a new block of some cells, one element. -/
def isN3 (S : Nat) (t : TypeId) (x y z : Value) (v : Value) (w : World) : Prop := ∃ k, v = .slice (some ⟨k, 0, none⟩) 1 1 ∧ S ≤ k ∧ Tx w k t x y z
/-- a slice of its own, in the block of A or in one from S on. -/
def isLoc (S M : Nat) (A : Option Addr) (m : Nat) (t : TypeId) (sz n : Nat) (f : Nat → Value) (v : Value) (w : World) : Prop :=
  ∃ A' c, v = .slice A' n c ∧ Sl w M t sz A' n c f ∧ (∀ k, A' = some ⟨k, 0, none⟩ → (0 < m ∧ A = some ⟨k, 0, none⟩) ∨ S ≤ k)
theorem isN3.wr {S : Nat} {t : TypeId} {x y z v : Value} {X : Nat → Prop} {w w' : World} (h : isN3 S t x y z v w) (hw : Wr X w w') (hX : ∀ k, X k → k < S) : isN3 S t x y z v w' := by
  obtain ⟨k, h1, h2, h3⟩ := h
  exact ⟨k, h1, h2, h3.wr hw (fun hx => by have := hX k hx; omega)⟩
theorem isLoc.wr {S M m : Nat} {A : Option Addr} {t : TypeId} {sz n : Nat} {f : Nat → Value} {v : Value} {X : Nat → Prop} {w w' : World} (h : isLoc S M A m t sz n f v w) (hw : Wr X w w') (hX : ∀ k, X k → k < S) (hA : ∀ k, 0 < m → A = some ⟨k, 0, none⟩ → ¬ X k) : isLoc S M A m t sz n f v w' := by
  obtain ⟨A', c, h1, h2, h3⟩ := h
  refine ⟨A', c, h1, h2.wr hw (fun g e hn hx => ?_), h3⟩
  rcases h3 g e with ⟨h4, h5⟩ | h4
  · exact hA g h4 h5 hx
  · have := hX g hx
    omega
/-- a new block of one cell. -/
def isN1 (S : Nat) (t : TypeId) (x : Value) (v : Value) (w : World) : Prop := ∃ k, v = .slice (some ⟨k, 0, none⟩) 1 1 ∧ S ≤ k ∧ Ox w k t x
theorem isN1.wr {S : Nat} {t : TypeId} {x v : Value} {X : Nat → Prop} {w w' : World} (h : isN1 S t x v w) (hw : Wr X w w') (hX : ∀ k, X k → k < S) : isN1 S t x v w' := by
  obtain ⟨k, h1, h2, h3⟩ := h
  exact ⟨k, h1, h2, Rw.wr h3 hw (fun hx => by have := hX k hx; omega)⟩
/-- the same where a store goes to a block of another type. -/
theorem isLoc.off {S M m g cs c : Nat} {A : Option Addr} {t t' : TypeId} {sz n : Nat} {f f' : Nat → Value} {v : Value} {w w' : World} (h : isLoc S M A m t sz n f v w) (hx : Rw w g t' cs c f') (ht : t ≠ t') (hw : Wr (fun k => k = g) w w') : isLoc S M A m t sz n f v w' := by
  obtain ⟨A', c', h1, h2, h3⟩ := h
  exact ⟨A', c', h1, fun hn => by
    obtain ⟨k, e1, e2, e3, e4, e5⟩ := h2 hn
    exact ⟨k, e1, e2, e3, e4, e5.wr hw (Rw.ne_ e5 hx ht)⟩, h3⟩
/-- when operation T has come up, Φ holds of what slot s holds. -/
def Fn (T s : Nat) (Φ : Value → World → Prop) (l : Array Bool) (a : Act) (w : World) : Prop := l.getD T false = true → ∃ v, a.tmps[s]? = some v ∧ Φ v w
section
variable {T s i : Nat} {Φ : Value → World → Prop} {l : Array Bool} {a : Act} {w w' : World}
theorem Fn.first {n : Nat} : Fn T s Φ (Array.replicate n false) a w := fun hl => absurd hl (by rw [getD_rep]; exact Bool.false_ne_true)
theorem Fn.neutral (h : Fn T s Φ l a w) (hne : i ≠ T) {d : Option Tmp} (hd : d ≠ some s) (v : Value) : Fn T s Φ (l.setIfInBounds i true) (a.put d v) w := fun hl => by
  rw [getD_set_ne false hne] at hl
  obtain ⟨u, h1, h2⟩ := h hl
  exact ⟨u, by rw [put_ne a hd]; exact h1, h2⟩
theorem Fn.no (hn : l.getD T false = false) (hne : i ≠ T) {a' : Act} : Fn T s Φ (l.setIfInBounds i true) a' w' := fun hl => absurd hl (by rw [getD_set_ne false hne, hn]; exact Bool.false_ne_true)
theorem Fn.hit {v : Value} (hf : a.tmps[s]? = some v) (hc : Φ v w') : Fn T s Φ (l.setIfInBounds i true) a w' := fun _ => ⟨v, hf, hc⟩
end
/-- new blocks alone. -/
def Gw (w w' : World) : Prop := Below w.heap.size w w'
/-- the address of a new block that holds a vector. -/
def isP (S : Nat) (v : Value) (w : World) : Prop := ∃ k x0 x1 x2, v = .pointer (some ⟨k, 0, none⟩) ∧ S ≤ k ∧ Tx w k 38 x0 x1 x2
/-- the address of a new block that holds such a vector. -/
def isPV (S : Nat) (q : V3) (v : Value) (w : World) : Prop := ∃ k x0 x1 x2, v = .pointer (some ⟨k, 0, none⟩) ∧ S ≤ k ∧ Tx w k 38 (.float .f32 x0) (.float .f32 x1) (.float .f32 x2) ∧ SimP ⟨x0, x1, x2⟩ q
/-- a store to a vector's block. -/
def Pw (w w' : World) : Prop := ∃ k x0 x1 x2 y0 y1 y2, Tx w k 38 x0 x1 x2 ∧ Wr (fun b => b = k) w w' ∧ Tx w' k 38 y0 y1 y2
section
variable {w w' : World} {v : Value}
theorem isP.go {S : Nat} (h : isP S v w) (hw : Gw w w') : isP S v w' := by
  obtain ⟨k, x0, x1, x2, h1, h2, h3⟩ := h
  exact ⟨k, x0, x1, x2, h1, h2, h3.go hw⟩
theorem isP.st {S : Nat} (h : isP S v w) (hw : Pw w w') : isP S v w' := by
  obtain ⟨k, x0, x1, x2, h1, h2, h3⟩ := h
  obtain ⟨k', _, _, _, y0, y1, y2, _, hW, hy⟩ := hw
  by_cases e : k = k'
  · subst e
    exact ⟨k, y0, y1, y2, h1, h2, hy⟩
  · exact ⟨k, x0, x1, x2, h1, h2, h3.wr hW e⟩
end
end Go.Proofs.Ytlhgaihfghobmaa
