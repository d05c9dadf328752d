/- As XRg, where what is kept speaks of the slots too: for values that must differ from one another (blocks). -/
import Derived.Test.YtlhgaihfghobmaaRg
namespace Go.Proofs.Ytlhgaihfghobmaa

section
variable {P : Program} {ops : Array Oper} {Q : Exit → Act → World → Prop} {md : Region.Mode}
/-- what holds when the operations of a list have come up. -/
structure RI2 (md : Region.Mode) (ops : Array Oper) (a0 : Act) (Fs : List (Value → World → Prop)) (J : Array Bool → Act → World → Prop) (listed : Array Bool) (a : Act) (w : World) : Prop where
  size : listed.size = ops.size
  defers : a.defers = a0.defers
  tmps : a.tmps.size = a0.tmps.size
  keep : ∀ t, (∀ i o, ops[i]? = some o → o.dst = some t → listed.getD i true = false) → a.tmps[t]? = a0.tmps[t]?
  val : ∀ i o t, ops[i]? = some o → o.dst = some t → listed.getD i false = true → ∃ v, a.tmps[t]? = some v ∧ Fact Fs i v w
  world : J listed a w
  closed : ∀ i o, ops[i]? = some o → listed.getD i false = true → ∀ e ∈ o.after, Region.binds md e = true → listed.getD e.on false = true
variable {a0 : Act} {Fs : List (Value → World → Prop)} {J : Array Bool → Act → World → Prop}
theorem RI2.step (ho : once ops a0.tmps.size = true) {listed : Array Bool} {a : Act} {w w' : World} (h : RI2 md ops a0 Fs J listed a w) {i : Nat} {o : Oper} (hi : ops[i]? = some o) {v : Value}
    (hd : ∀ e ∈ o.after, Region.binds md e = true → listed.getD e.on false = true) (hst : ∀ j u, Fact Fs j u w → Fact Fs j u w') (hv : Fact Fs i v w') (hJ : J (listed.setIfInBounds i true) (a.put o.dst v) w') : RI2 md ops a0 Fs J (listed.setIfInBounds i true) (a.put o.dst v) w' := by
  have hlt : i < listed.size := by rw [h.size]; exact (Array.getElem?_eq_some_iff.1 hi).1
  refine ⟨by rw [Array.size_setIfInBounds]; exact h.size, ?_, ?_, ?_, ?_, hJ, ?_⟩
  · rw [← h.defers]
    unfold Act.put
    split <;> rfl
  · rw [← h.tmps]
    unfold Act.put
    split
    · exact Array.size_setIfInBounds
    · rfl
  · intro t ht
    have hd : o.dst ≠ some t := fun e => by
      have := ht i o hi e
      rw [getD_set_self hlt] at this
      cases this
    have h1 : (a.put o.dst v).tmps[t]? = a.tmps[t]? := by
      unfold Act.put
      split
      · rename_i d hd'
        rw [hd'] at hd
        exact Array.getElem?_setIfInBounds_ne (fun e => hd (by rw [e]))
      · rfl
    rw [h1]
    refine h.keep t fun j q hj hq => ?_
    have hji : i ≠ j := fun e => by
      subst e
      rw [hi] at hj
      cases hj
      exact hd hq
    have := ht j q hj hq
    rw [getD_set_ne true hji] at this
    exact this
  · intro j q t hj hq hl
    by_cases hji : i = j
    · subst hji
      rw [hi] at hj
      cases hj
      refine ⟨v, ?_, hv⟩
      rw [hq]
      unfold Act.put
      show (a.tmps.setIfInBounds t v)[t]? = some v
      have : t < a.tmps.size := by rw [h.tmps]; exact once_lt ho hi hq
      simp [this]
    · rw [getD_set_ne false hji] at hl
      obtain ⟨u, hu, hF⟩ := h.val j q t hj hq hl
      refine ⟨u, ?_, hst j u hF⟩
      rw [← hu]
      unfold Act.put
      split
      · rename_i d hd
        refine Array.getElem?_setIfInBounds_ne fun e => ?_
        subst e
        exact hji (once_spec ho hi hd hj hq).symm
      · rfl
  · intro j q hj hl e he hb
    by_cases hji : i = j
    · subst hji
      rw [hi] at hj
      cases hj
      exact getD_set_true (hd e he hb)
    · rw [getD_set_ne false hji] at hl
      exact getD_set_true (h.closed j q hj hl e he hb)
/-- what is asked of one operation. -/
def StepOk2 (P : Program) (md : Region.Mode) (ops : Array Oper) (Q : Exit → Act → World → Prop) (a0 : Act) (Fs : List (Value → World → Prop)) (J : Array Bool → Act → World → Prop) (i : Nat) (o : Oper) : Prop :=
  ∀ (listed : Array Bool) (a : Act) (w : World), RI2 md ops a0 Fs J listed a w → listed.getD i true = false → (∀ e ∈ o.after, Region.binds md e = true → listed.getD e.on false = true) →
      ∀ K : Act → World → Prop, (∀ v w', (∀ j u, Fact Fs j u w → Fact Fs j u w') → Fact Fs i v w' → J (listed.setIfInBounds i true) (a.put o.dst v) w' → K (a.put o.dst v) w') →
        if Region.wanted o (yielded ops a.tmps) = true then o.wp P a w K Q else K (a.put o.dst undef) w
def StepAll2 (P : Program) (md : Region.Mode) (ops : Array Oper) (Q : Exit → Act → World → Prop) (a0 : Act) (Fs : List (Value → World → Prop)) (J : Array Bool → Act → World → Prop) : List Oper → Nat → Prop
  | [], _ => True
  | o :: os, i => StepOk2 P md ops Q a0 Fs J i o ∧ StepAll2 P md ops Q a0 Fs J os (i + 1)
theorem StepAll2.at : ∀ {os : List Oper} {k : Nat}, StepAll2 P md ops Q a0 Fs J os k → ∀ i o, os[i]? = some o → StepOk2 P md ops Q a0 Fs J (k + i) o
  | [], _, _, i, o, h => by simp at h
  | p :: os, k, hs, 0, o, h => by
    simp at h
    subst h
    exact hs.1
  | p :: os, k, hs, i + 1, o, h => by
    have := hs.2.at i o (by simpa using h)
    rw [show k + (i + 1) = k + 1 + i by omega]
    exact this
theorem region_any2 {n : Nat} (ho : once ops a0.tmps.size = true) (ha : ahead md ops = true)
    (hstep : ∀ i o, ops[i]? = some o → StepOk2 P md ops Q a0 Fs J i o)
    (hend : ∀ (listed : Array Bool) (a : Act) (w : World), RI2 md ops a0 Fs J listed a w → (∀ i, i < ops.size → listed.getD i false = true) → Q .normal a w) :
    ∀ (listed : Array Bool) (a : Act) (w : World), RI2 md ops a0 Fs J listed a w → cntU listed ops.size ≤ n → wpAny P md ops Q n listed a w := by
  induction n with
  | zero =>
    intro listed a w h hc
    have hall : ∀ i, i < ops.size → listed.getD i true = true := cntU_zero (by omega)
    refine ⟨List.eq_nil_iff_forall_not_mem.2 fun i hi => ?_, hend listed a w h fun i hi => getD_true (by rw [h.size]; exact hi) (hall i hi)⟩
    obtain ⟨h1, o, h2, _⟩ := mem_ready.1 hi
    rw [hall i (Array.getElem?_eq_some_iff.1 h2).1] at h1
    cases h1
  | succ n ih =>
    intro listed a w h hc
    refine ⟨fun hr => hend listed a w h (ready_nil ha h.size hr), fun i hi => ?_⟩
    obtain ⟨hu, o, hio, hdep⟩ := mem_ready.1 hi
    have hlt : i < ops.size := (Array.getElem?_eq_some_iff.1 hio).1
    refine wpOp_step hio fun K' hK => hstep i o hio listed a w h hu hdep K' fun v w' hst hv hJ => hK _ _ (ih _ _ _ (h.step ho hio hdep hst hv hJ) ?_)
    have := cntU_set (by rw [h.size]; exact hlt) hu ops.size
    rw [if_pos hlt] at this
    omega
/-- **a region that draws its order, by an invariant.** -/
theorem region_inv2 (Fs : List (Value → World → Prop)) (J : Array Bool → Act → World → Prop) {id : Nat} {w : World} (hm : P.follows .mixedOrders = true) (ho : once ops a0.tmps.size = true) (ha : ahead .any ops = true) (h0 : J (Array.replicate ops.size false) a0 w.drew)
    (hstep : StepAll2 P .any ops Q a0 Fs J ops.toList 0)
    (hend : ∀ (listed : Array Bool) (a : Act) (w : World), RI2 .any ops a0 Fs J listed a w → (∀ i, i < ops.size → listed.getD i false = true) → Q .normal a w) :
    (Code.region id ops true).wp P Q a0 w := by
  refine wp_region_any hm (region_any2 ho ha (fun i o hi => by have := hstep.at i o (by rw [← hi]; simp); rw [Nat.zero_add] at this; exact this) hend _ _ _ ?_ (cntU_le _ _))
  refine ⟨Array.size_replicate, rfl, rfl, fun _ _ => rfl, fun i o t hi _ hl => ?_, h0, fun i o hi hl => ?_⟩
  all_goals
    have : i < ops.size := (Array.getElem?_eq_some_iff.1 hi).1
    simp [this] at hl
/-- what an operation may read. -/
theorem RI2.slot {listed : Array Bool} {a : Act} {w : World} (h : RI2 md ops a0 Fs J listed a w) {i : Nat} {o : Oper} {t : Tmp} (hi : ops[i]? = some o) (ht : o.dst = some t) (hl : listed.getD i false = true) : ∃ v, a.tmps.getD t undef = v ∧ a.tmps[t]? = some v ∧ Fact Fs i v w := by
  obtain ⟨v, h1, h2⟩ := h.val i o t hi ht hl
  exact ⟨v, by simp [h1], h1, h2⟩
theorem RI2.old {listed : Array Bool} {a : Act} {w : World} (h : RI2 md ops a0 Fs J listed a w) {t : Nat} (hn : noDst ops t = true) : a.tmps[t]? = a0.tmps[t]? :=
  h.keep t fun i o hi ht => by
    have := Array.all_eq_true_iff_forall_mem.1 hn o (Array.mem_of_getElem? hi)
    simp [ht] at this
theorem RI2.base {listed : Array Bool} {a : Act} {w : World} (h : RI2 md ops a0 Fs J listed a w) {t : Nat} (hn : noDst ops t = true) : a.tmps.getD t undef = a0.tmps.getD t undef := by
  have := h.old hn
  simp [this]
/-- while i has not come up, nothing has that waits for it. -/
theorem RI2.wait {listed : Array Bool} {a : Act} {w : World} (h : RI2 md ops a0 Fs J listed a w) {i T : Nat} {o : Oper} (hu : listed.getD i true = false) (hT : ops[T]? = some o) {e : Edge} (he : e ∈ o.after) (hb : Region.binds md e = true) (hi : e.on = i) : listed.getD T false = false := by
  cases hl : listed.getD T false
  · rfl
  · have h1 := h.closed T o hT hl e he hb
    rw [hi] at h1
    by_cases hlt : i < listed.size
    · simp [hlt] at h1 hu
      rw [h1] at hu
      cases hu
    · simp [Array.getElem?_eq_none (Nat.le_of_not_lt hlt)] at h1
theorem RI2.act {listed : Array Bool} {a : Act} {w : World} (h : RI2 md ops a0 Fs J listed a w) (ts : List Nat) (vs : List Value) (hc : covers ops ts = true) (hA : AllIn a.tmps ts vs) : a = ⟨setAll a0.tmps ts vs, a0.defers⟩ := by
  have e : setAll a0.tmps ts vs = a.tmps := by
    apply Array.ext_getElem?
    intro i
    refine setAll_get ts vs _ hA h.tmps i ?_
    by_cases hi : i ∈ ts
    · exact .inl hi
    · refine .inr (h.keep i fun j o hj ho => ?_).symm
      have := Array.all_eq_true_iff_forall_mem.1 hc o (Array.mem_of_getElem? hj)
      simp [ho] at this
      exact absurd this hi
  rw [e, ← h.defers]
/-- another slot is as it was. -/
theorem put_ne (a : Act) {d : Option Tmp} {t : Nat} (h : d ≠ some t) (v : Value) : (a.put d v).tmps[t]? = a.tmps[t]? := by
  unfold Act.put
  split
  · rename_i e
    exact Array.getElem?_setIfInBounds_ne (fun x => h (by rw [x]))
  · rfl
theorem put_self (a : Act) {t : Nat} (h : t < a.tmps.size) (v : Value) : (a.put (some t) v).tmps[t]? = some v := by
  unfold Act.put
  simp [h]
/-- facts that a relation of worlds keeps. -/
def AllSt (R : World → World → Prop) : List (Value → World → Prop) → Prop
  | [] => True
  | F :: Fs => (∀ v W W', R W W' → F v W → F v W') ∧ AllSt R Fs
theorem AllSt.fact {R : World → World → Prop} : ∀ {Fs : List (Value → World → Prop)}, AllSt R Fs → ∀ {W W' : World}, R W W' → ∀ j v, Fact Fs j v W → Fact Fs j v W'
  | [], _, _, _, _, j, v, h => by simp [Fact]
  | F :: Fs, hA, W, W', hR, 0, v, h => hA.1 v W W' hR h
  | F :: Fs, hA, W, W', hR, j + 1, v, h => AllSt.fact (Fs := Fs) hA.2 hR j v h
theorem st_any {R : World → World → Prop} (G : Value → Prop) : ∀ v W W', R W W' → (fun v (_ : World) => G v) v W → (fun v (_ : World) => G v) v W' := fun _ _ _ _ h => h
/-- two slots that must not share a block. -/
def isEm : Value → Prop := fun v => ∃ g, v = .slice (some ⟨g, 0, none⟩) 0 0
/-- A till operation T has come up, then B; and C of the slots from operation q on. -/
def J3 (T q : Nat) (A B : World → Prop) (C : Act → Prop) (listed : Array Bool) (a : Act) (w : World) : Prop := Jt T A B listed w ∧ (listed.getD q false = true → C a)
theorem J3.first {T q n : Nat} {A B : World → Prop} {C : Act → Prop} {a : Act} {w : World} (h : A w) : J3 T q A B C (Array.replicate n false) a w := ⟨Jt.first h, fun hl => by
  by_cases ht : q < n
  · simp [ht] at hl
  · simp [ht] at hl⟩
theorem J3.next {T q i : Nat} {A B : World → Prop} {C : Act → Prop} {listed : Array Bool} {a a' : Act} {w w' : World} (h : J3 T q A B C listed a w) (hn : listed.getD T false = false) (hne : i ≠ T) (hq : i ≠ q) (hA : A w') (hC : C a → C a') : J3 T q A B C (listed.setIfInBounds i true) a' w' :=
  ⟨Jt.next hn hne hA, fun hl => hC (h.2 (by rw [getD_set_ne false hq] at hl; exact hl))⟩
theorem J3.skip {T q i : Nat} {A B : World → Prop} {C : Act → Prop} {listed : Array Bool} {a' : Act} {w' : World} (hn : listed.getD T false = false) (hne : i ≠ T) (hq : i ≠ q) (hqn : listed.getD q false = false) (hA : A w') : J3 T q A B C (listed.setIfInBounds i true) a' w' :=
  ⟨Jt.next hn hne hA, fun hl => absurd hl (by rw [getD_set_ne false hq, hqn]; exact Bool.false_ne_true)⟩
theorem J3.hit {T q : Nat} {A B : World → Prop} {C : Act → Prop} {listed : Array Bool} {a' : Act} {w' : World} (hn : listed.getD T false = false) (hne : q ≠ T) (hA : A w') (hC : C a') : J3 T q A B C (listed.setIfInBounds q true) a' w' :=
  ⟨Jt.next hn hne hA, fun _ => hC⟩
theorem J3.last {T q : Nat} {A B : World → Prop} {C : Act → Prop} {listed : Array Bool} {a a' : Act} {w w' : World} (h : J3 T q A B C listed a w) (hT : T < listed.size) (hq : T ≠ q) (hB : B w') (hC : C a → C a') : J3 T q A B C (listed.setIfInBounds T true) a' w' :=
  ⟨Jt.last hT hB, fun hl => hC (h.2 (by rw [getD_set_ne false hq] at hl; exact hl))⟩
/-- two slots hold slices of different blocks. -/
def Dif (s t n n' : Nat) (a : Act) : Prop := ∀ k k' c c', a.tmps[s]? = some (.slice (some ⟨k, 0, none⟩) n c) → a.tmps[t]? = some (.slice (some ⟨k', 0, none⟩) n' c') → 0 < n → 0 < n' → k ≠ k'
theorem Dif.put {s t n n' : Nat} {a : Act} {d : Option Tmp} {v : Value} (hs : d ≠ some s) (ht : d ≠ some t) (h : Dif s t n n' a) : Dif s t n n' (a.put d v) := fun k k' c c' h1 h2 => h k k' c c' (by rw [put_ne a hs] at h1; exact h1) (by rw [put_ne a ht] at h2; exact h2)
end
end Go.Proofs.Ytlhgaihfghobmaa
