/- A region that draws its order, by an invariant: each operation is looked at once, in whatever order they come. -/
import Derived.Orders
import Derived.RegionTactic
import Derived.WalkKit
import Derived.Test.YtlhgaihfghobmaaFl
namespace Go.Proofs.Ytlhgaihfghobmaa

section
variable {P : Program} {ops : Array Oper} {Q : Exit → Act → World → Prop} {md : Region.Mode}
/-- what is known of the value of operation i. -/
def Fact (Fs : List (Value → World → Prop)) (i : Nat) (v : Value) (w : World) : Prop := match Fs[i]? with | some F => F v w | none => True
/-- what holds when the operations of a list have come up. -/
structure RI (md : Region.Mode) (ops : Array Oper) (a0 : Act) (Fs : List (Value → World → Prop)) (J : Array Bool → World → Prop) (listed : Array Bool) (a : Act) (w : World) : Prop where
  size : listed.size = ops.size
  defers : a.defers = a0.defers
  tmps : a.tmps.size = a0.tmps.size
  keep : ∀ t, (∀ i o, ops[i]? = some o → o.dst = some t → listed.getD i true = false) → a.tmps[t]? = a0.tmps[t]?
  val : ∀ i o t, ops[i]? = some o → o.dst = some t → listed.getD i false = true → ∃ v, a.tmps[t]? = some v ∧ Fact Fs i v w
  world : J listed w
  closed : ∀ i o, ops[i]? = some o → listed.getD i false = true → ∀ e ∈ o.after, Region.binds md e = true → listed.getD e.on false = true
/-- each slot is written by one operation, and lies in the frame. -/
def once (ops : Array Oper) (n : Nat) : Bool :=
  (List.range ops.size).all fun i => match ops[i]? with
    | some o => match o.dst with
      | some t => decide (t < n) && (List.range ops.size).all fun j => j == i || match ops[j]? with | some q => q.dst != some t | none => true
      | none => true
    | none => true
/-- an operation waits for operations ahead of it alone. -/
def ahead (md : Region.Mode) (ops : Array Oper) : Bool := (List.range ops.size).all fun i => match ops[i]? with
    | some o => o.after.all fun e => !Region.binds md e || decide (e.on < i)
    | none => true
theorem once_spec {n : Nat} (h : once ops n = true) {i j : Nat} {o q : Oper} {t : Tmp} (hi : ops[i]? = some o) (ht : o.dst = some t) (hj : ops[j]? = some q) (hq : q.dst = some t) : j = i := by
  unfold once at h
  rw [List.all_eq_true] at h
  have h1 := h i (List.mem_range.2 (Array.getElem?_eq_some_iff.1 hi).1)
  simp only [hi, ht, Bool.and_eq_true, List.all_eq_true] at h1
  have h2 := h1.2 j (List.mem_range.2 (Array.getElem?_eq_some_iff.1 hj).1)
  simp only [hj, hq, bne_self_eq_false, Bool.or_false, beq_iff_eq] at h2
  exact h2
theorem once_lt {n : Nat} (h : once ops n = true) {i : Nat} {o : Oper} {t : Tmp} (hi : ops[i]? = some o) (ht : o.dst = some t) : t < n := by
  unfold once at h
  rw [List.all_eq_true] at h
  have h1 := h i (List.mem_range.2 (Array.getElem?_eq_some_iff.1 hi).1)
  simp only [hi, ht, Bool.and_eq_true, decide_eq_true_eq] at h1
  exact h1.1
theorem ahead_spec (h : ahead md ops = true) {i : Nat} {o : Oper} (hi : ops[i]? = some o) {e : Edge} (he : e ∈ o.after) (hb : Region.binds md e = true) : e.on < i := by
  unfold ahead at h
  rw [List.all_eq_true] at h
  have h1 := h i (List.mem_range.2 (Array.getElem?_eq_some_iff.1 hi).1)
  simp only [hi] at h1
  have h2 := Array.all_eq_true_iff_forall_mem.1 h1 e he
  rw [hb] at h2
  simpa using h2
/-- how many of the first k have not come up. -/
def cntU (listed : Array Bool) : Nat → Nat
  | 0 => 0
  | k + 1 => cntU listed k + if listed.getD k true = false then 1 else 0
theorem getD_set_self {listed : Array Bool} {i : Nat} (hi : i < listed.size) (d : Bool) : (listed.setIfInBounds i true).getD i d = true := by
  simp [hi]
theorem cntU_set {listed : Array Bool} {i : Nat} (hi : i < listed.size) (hu : listed.getD i true = false) : ∀ k, cntU (listed.setIfInBounds i true) k + (if i < k then 1 else 0) = cntU listed k
  | 0 => by simp [cntU]
  | k + 1 => by
    have ih := cntU_set hi hu k
    simp only [cntU]
    by_cases hk : i = k
    · subst hk
      rw [getD_set_self hi, hu]
      simp at ih ⊢
      omega
    · rw [getD_set_ne true hk]
      by_cases h1 : i < k
      · rw [if_pos h1] at ih
        rw [if_pos (show i < k + 1 by omega)]
        omega
      · rw [if_neg h1] at ih
        rw [if_neg (show ¬ i < k + 1 by omega)]
        omega
theorem cntU_zero {listed : Array Bool} : ∀ {k : Nat}, cntU listed k = 0 → ∀ i, i < k → listed.getD i true = true
  | 0, _, i, h => absurd h (Nat.not_lt_zero _)
  | k + 1, h, i, hi => by
    simp only [cntU] at h
    by_cases hk : i = k
    · subst hk
      cases e : listed.getD i true
      · rw [e] at h; simp at h
      · rfl
    · exact cntU_zero (k := k) (by omega) i (by omega)
theorem getD_true {listed : Array Bool} {i : Nat} (hi : i < listed.size) (h : listed.getD i true = true) : listed.getD i false = true := by
  simp [hi] at h ⊢
  exact h
theorem getD_false {listed : Array Bool} {i : Nat} (hi : i < listed.size) (h : ¬ listed.getD i false = true) : listed.getD i true = false := by
  simp [hi] at h ⊢
  exact h
theorem ready_nil (ha : ahead md ops = true) {listed : Array Bool} (hs : listed.size = ops.size) (h : Region.ready md ops listed = []) : ∀ i, i < ops.size → listed.getD i false = true := by
  intro i
  induction i using Nat.strongRecOn with
  | ind i ih =>
    intro hi
    refine Classical.byContradiction fun hc => ?_
    have hm : i ∈ Region.ready md ops listed := by
      refine mem_ready.2 ⟨getD_false (by omega) hc, ops[i], Array.getElem?_eq_getElem hi, fun e he hb => ?_⟩
      have h1 := ahead_spec ha (Array.getElem?_eq_getElem hi) he hb
      exact ih _ h1 (by omega)
    rw [h] at hm
    cases hm
variable {a0 : Act} {Fs : List (Value → World → Prop)} {J : Array Bool → World → Prop}
theorem RI.step (ho : once ops a0.tmps.size = true) {listed : Array Bool} {a : Act} {w w' : World} (h : RI md ops a0 Fs J listed a w) {i : Nat} {o : Oper} (hi : ops[i]? = some o) {v : Value}
    (hd : ∀ e ∈ o.after, Region.binds md e = true → listed.getD e.on false = true) (hst : ∀ j u, Fact Fs j u w → Fact Fs j u w') (hv : Fact Fs i v w') (hJ : J (listed.setIfInBounds i true) w') : RI md ops a0 Fs J (listed.setIfInBounds i true) (a.put o.dst v) w' := by
  have hlt : i < listed.size := by rw [h.size]; exact (Array.getElem?_eq_some_iff.1 hi).1
  refine ⟨by rw [Array.size_setIfInBounds]; exact h.size, ?_, ?_, ?_, ?_, hJ, ?_⟩
  · rw [← h.defers]
    unfold Act.put
    split <;> rfl
  · rw [← h.tmps]
    unfold Act.put
    split
    · exact Array.size_setIfInBounds
    · rfl
  · intro t ht
    have hd : o.dst ≠ some t := fun e => by
      have := ht i o hi e
      rw [getD_set_self hlt] at this
      cases this
    have h1 : (a.put o.dst v).tmps[t]? = a.tmps[t]? := by
      unfold Act.put
      split
      · rename_i d hd'
        rw [hd'] at hd
        exact Array.getElem?_setIfInBounds_ne (fun e => hd (by rw [e]))
      · rfl
    rw [h1]
    refine h.keep t fun j q hj hq => ?_
    have hji : i ≠ j := fun e => by
      subst e
      rw [hi] at hj
      cases hj
      exact hd hq
    have := ht j q hj hq
    rw [getD_set_ne true hji] at this
    exact this
  · intro j q t hj hq hl
    by_cases hji : i = j
    · subst hji
      rw [hi] at hj
      cases hj
      refine ⟨v, ?_, hv⟩
      rw [hq]
      unfold Act.put
      show (a.tmps.setIfInBounds t v)[t]? = some v
      have : t < a.tmps.size := by rw [h.tmps]; exact once_lt ho hi hq
      simp [this]
    · rw [getD_set_ne false hji] at hl
      obtain ⟨u, hu, hF⟩ := h.val j q t hj hq hl
      refine ⟨u, ?_, hst j u hF⟩
      rw [← hu]
      unfold Act.put
      split
      · rename_i d hd
        refine Array.getElem?_setIfInBounds_ne fun e => ?_
        subst e
        exact hji (once_spec ho hi hd hj hq).symm
      · rfl
  · intro j q hj hl e he hb
    by_cases hji : i = j
    · subst hji
      rw [hi] at hj
      cases hj
      exact getD_set_true (hd e he hb)
    · rw [getD_set_ne false hji] at hl
      exact getD_set_true (h.closed j q hj hl e he hb)
/-- what is asked of one operation. -/
def StepOk (P : Program) (md : Region.Mode) (ops : Array Oper) (Q : Exit → Act → World → Prop) (a0 : Act) (Fs : List (Value → World → Prop)) (J : Array Bool → World → Prop) (i : Nat) (o : Oper) : Prop :=
  ∀ (listed : Array Bool) (a : Act) (w : World), RI md ops a0 Fs J listed a w → listed.getD i true = false → (∀ e ∈ o.after, Region.binds md e = true → listed.getD e.on false = true) →
      ∀ K : Act → World → Prop, (∀ v w', (∀ j u, Fact Fs j u w → Fact Fs j u w') → Fact Fs i v w' → J (listed.setIfInBounds i true) w' → K (a.put o.dst v) w') →
        if Region.wanted o (yielded ops a.tmps) = true then o.wp P a w K Q else K (a.put o.dst undef) w
def StepAll (P : Program) (md : Region.Mode) (ops : Array Oper) (Q : Exit → Act → World → Prop) (a0 : Act) (Fs : List (Value → World → Prop)) (J : Array Bool → World → Prop) : List Oper → Nat → Prop
  | [], _ => True
  | o :: os, i => StepOk P md ops Q a0 Fs J i o ∧ StepAll P md ops Q a0 Fs J os (i + 1)
theorem StepAll.at : ∀ {os : List Oper} {k : Nat}, StepAll P md ops Q a0 Fs J os k → ∀ i o, os[i]? = some o → StepOk P md ops Q a0 Fs J (k + i) o
  | [], _, _, i, o, h => by simp at h
  | p :: os, k, hs, 0, o, h => by
    simp at h
    subst h
    exact hs.1
  | p :: os, k, hs, i + 1, o, h => by
    have := hs.2.at i o (by simpa using h)
    rw [show k + (i + 1) = k + 1 + i by omega]
    exact this
theorem region_any {n : Nat} (ho : once ops a0.tmps.size = true) (ha : ahead md ops = true)
    (hstep : ∀ i o, ops[i]? = some o → StepOk P md ops Q a0 Fs J i o)
    (hend : ∀ (listed : Array Bool) (a : Act) (w : World), RI md ops a0 Fs J listed a w → (∀ i, i < ops.size → listed.getD i false = true) → Q .normal a w) :
    ∀ (listed : Array Bool) (a : Act) (w : World), RI md ops a0 Fs J listed a w → cntU listed ops.size ≤ n → wpAny P md ops Q n listed a w := by
  induction n with
  | zero =>
    intro listed a w h hc
    have hall : ∀ i, i < ops.size → listed.getD i true = true := cntU_zero (by omega)
    refine ⟨List.eq_nil_iff_forall_not_mem.2 fun i hi => ?_, hend listed a w h fun i hi => getD_true (by rw [h.size]; exact hi) (hall i hi)⟩
    obtain ⟨h1, o, h2, _⟩ := mem_ready.1 hi
    rw [hall i (Array.getElem?_eq_some_iff.1 h2).1] at h1
    cases h1
  | succ n ih =>
    intro listed a w h hc
    refine ⟨fun hr => hend listed a w h (ready_nil ha h.size hr), fun i hi => ?_⟩
    obtain ⟨hu, o, hio, hdep⟩ := mem_ready.1 hi
    have hlt : i < ops.size := (Array.getElem?_eq_some_iff.1 hio).1
    refine wpOp_step hio fun K' hK => hstep i o hio listed a w h hu hdep K' fun v w' hst hv hJ => hK _ _ (ih _ _ _ (h.step ho hio hdep hst hv hJ) ?_)
    have := cntU_set (by rw [h.size]; exact hlt) hu ops.size
    rw [if_pos hlt] at this
    omega
theorem cntU_le (listed : Array Bool) : ∀ k, cntU listed k ≤ k
  | 0 => Nat.le_refl 0
  | k + 1 => by
    have := cntU_le listed k
    simp only [cntU]
    split <;> omega
/-- **a region that draws its order, by an invariant.** -/
theorem region_inv (Fs : List (Value → World → Prop)) (J : Array Bool → World → Prop) {id : Nat} {w : World} (hm : P.follows .mixedOrders = true) (ho : once ops a0.tmps.size = true) (ha : ahead .any ops = true) (h0 : J (Array.replicate ops.size false) w.drew)
    (hstep : StepAll P .any ops Q a0 Fs J ops.toList 0)
    (hend : ∀ (listed : Array Bool) (a : Act) (w : World), RI .any ops a0 Fs J listed a w → (∀ i, i < ops.size → listed.getD i false = true) → Q .normal a w) :
    (Code.region id ops true).wp P Q a0 w := by
  refine wp_region_any hm (region_any ho ha (fun i o hi => by have := hstep.at i o (by rw [← hi]; simp); rw [Nat.zero_add] at this; exact this) hend _ _ _ ?_ (cntU_le _ _))
  refine ⟨Array.size_replicate, rfl, rfl, fun _ _ => rfl, fun i o t hi _ hl => ?_, h0, fun i o hi hl => ?_⟩
  all_goals
    have : i < ops.size := (Array.getElem?_eq_some_iff.1 hi).1
    simp [this] at hl
/-- what an operation may read. -/
theorem RI.slot {listed : Array Bool} {a : Act} {w : World} (h : RI md ops a0 Fs J listed a w) {i : Nat} {o : Oper} {t : Tmp} (hi : ops[i]? = some o) (ht : o.dst = some t) (hl : listed.getD i false = true) : ∃ v, a.tmps.getD t undef = v ∧ a.tmps[t]? = some v ∧ Fact Fs i v w := by
  obtain ⟨v, h1, h2⟩ := h.val i o t hi ht hl
  exact ⟨v, by simp [h1], h1, h2⟩
/-- no operation writes slot t. -/
def noDst (ops : Array Oper) (t : Nat) : Bool := ops.all fun o => o.dst != some t
theorem RI.old {listed : Array Bool} {a : Act} {w : World} (h : RI md ops a0 Fs J listed a w) {t : Nat} (hn : noDst ops t = true) : a.tmps[t]? = a0.tmps[t]? :=
  h.keep t fun i o hi ht => by
    have := Array.all_eq_true_iff_forall_mem.1 hn o (Array.mem_of_getElem? hi)
    simp [ht] at this
theorem RI.base {listed : Array Bool} {a : Act} {w : World} (h : RI md ops a0 Fs J listed a w) {t : Nat} (hn : noDst ops t = true) : a.tmps.getD t undef = a0.tmps.getD t undef := by
  have := h.old hn
  simp [this]
/-- while i has not come up, nothing has that waits for it. -/
theorem RI.wait {listed : Array Bool} {a : Act} {w : World} (h : RI md ops a0 Fs J listed a w) {i T : Nat} {o : Oper} (hu : listed.getD i true = false) (hT : ops[T]? = some o) {e : Edge} (he : e ∈ o.after) (hb : Region.binds md e = true) (hi : e.on = i) : listed.getD T false = false := by
  cases hl : listed.getD T false
  · rfl
  · have h1 := h.closed T o hT hl e he hb
    rw [hi] at h1
    by_cases hlt : i < listed.size
    · simp [hlt] at h1 hu
      rw [h1] at hu
      cases hu
    · simp [Array.getElem?_eq_none (Nat.le_of_not_lt hlt)] at h1
/-- facts that say nothing of the world. -/
def stat (Gs : List (Value → Prop)) : List (Value → World → Prop) := Gs.map fun G v _ => G v
theorem fact_stat (Gs : List (Value → Prop)) (w w' : World) : ∀ j u, Fact (stat Gs) j u w → Fact (stat Gs) j u w' := fun j u h => by
  unfold Fact stat at *
  rw [List.getElem?_map] at *
  cases e : Gs[j]? with
  | none => trivial
  | some G => rw [e] at h; exact h
/-- A till operation T has come up, then B. -/
def Jt (T : Nat) (A B : World → Prop) (listed : Array Bool) (w : World) : Prop := (listed.getD T false = false → A w) ∧ (listed.getD T false = true → B w)
theorem Jt.first {T n : Nat} {A B : World → Prop} {w : World} (h : A w) : Jt T A B (Array.replicate n false) w := ⟨fun _ => h, fun hl => by
  by_cases ht : T < n
  · simp [ht] at hl
  · simp [ht] at hl⟩
theorem Jt.next {T i : Nat} {A B : World → Prop} {listed : Array Bool} {w' : World} (hn : listed.getD T false = false) (hne : i ≠ T) (h : A w') : Jt T A B (listed.setIfInBounds i true) w' :=
  ⟨fun _ => h, fun hl => absurd hl (by rw [getD_set_ne false hne, hn]; exact Bool.false_ne_true)⟩
theorem Jt.last {T : Nat} {A B : World → Prop} {listed : Array Bool} {w' : World} (hT : T < listed.size) (h : B w') : Jt T A B (listed.setIfInBounds T true) w' :=
  ⟨fun hl => absurd hl (by rw [getD_set_self hT]; exact Ne.symm Bool.false_ne_true), fun _ => h⟩
theorem getD_un {listed : Array Bool} {i : Nat} (h : listed.getD i true = false) : listed.getD i false = false := by
  by_cases hi : i < listed.size
  · simp [hi] at h ⊢; exact h
  · simp [hi]
theorem un_lt {listed : Array Bool} {i : Nat} (h : listed.getD i true = false) : i < listed.size := by
  by_cases hi : i < listed.size
  · exact hi
  · simp [Array.getElem?_eq_none (Nat.le_of_not_lt hi)] at h
/-- the slots ts of a frame set to the values vs. -/
def setAll (xs : Array Value) : List Nat → List Value → Array Value
  | t :: ts, v :: vs => setAll (xs.setIfInBounds t v) ts vs
  | _, _ => xs
def AllIn (xs : Array Value) : List Nat → List Value → Prop
  | t :: ts, v :: vs => xs[t]? = some v ∧ AllIn xs ts vs
  | [], [] => True
  | _, _ => False
theorem setAll_size : ∀ (ts : List Nat) (vs : List Value) (xs : Array Value), (setAll xs ts vs).size = xs.size
  | t :: ts, v :: vs, xs => by
    show (setAll (xs.setIfInBounds t v) ts vs).size = _
    rw [setAll_size ts vs]
    exact Array.size_setIfInBounds
  | [], _, _ => rfl
  | _ :: _, [], _ => rfl
theorem setAll_get {ys : Array Value} : ∀ (ts : List Nat) (vs : List Value) (xs : Array Value), AllIn ys ts vs → ys.size = xs.size → ∀ i, (i ∈ ts ∨ xs[i]? = ys[i]?) → (setAll xs ts vs)[i]? = ys[i]?
  | [], [], xs, _, _, i, h => by
    rcases h with h | h
    · cases h
    · exact h
  | t :: ts, v :: vs, xs, hA, hs, i, h => by
    show (setAll (xs.setIfInBounds t v) ts vs)[i]? = _
    refine setAll_get ts vs _ hA.2 (hs.trans Array.size_setIfInBounds.symm) i ?_
    by_cases hti : t = i
    · subst hti
      refine .inr ?_
      rw [hA.1]
      have : t < xs.size := by
        rw [← hs]
        exact (Array.getElem?_eq_some_iff.1 hA.1).1
      simp [this]
    · rcases h with h | h
      · rcases List.mem_cons.1 h with h | h
        · exact absurd h.symm hti
        · exact .inl h
      · exact .inr (by rw [Array.getElem?_setIfInBounds_ne hti]; exact h)
def covers (ops : Array Oper) (ts : List Nat) : Bool := ops.all fun o => match o.dst with | some t => ts.contains t | none => true
theorem RI.act {listed : Array Bool} {a : Act} {w : World} (h : RI md ops a0 Fs J listed a w) (ts : List Nat) (vs : List Value) (hc : covers ops ts = true) (hA : AllIn a.tmps ts vs) : a = ⟨setAll a0.tmps ts vs, a0.defers⟩ := by
  have e : setAll a0.tmps ts vs = a.tmps := by
    apply Array.ext_getElem?
    intro i
    refine setAll_get ts vs _ hA h.tmps i ?_
    by_cases hi : i ∈ ts
    · exact .inl hi
    · refine .inr (h.keep i fun j o hj ho => ?_).symm
      have := Array.all_eq_true_iff_forall_mem.1 hc o (Array.mem_of_getElem? hj)
      simp [ho] at this
      exact absurd this hi
  rw [e, ← h.defers]
end
/-! ### facts of values -/
def isE (e : Value) : Value → Prop := fun v => v = e
theorem isE.mk {e v : Value} (h : v = e) : isE e v := h
theorem isE.out {e v : Value} (h : isE e v) : v = e := h
def isF (q : Nat) : Value → Prop := fun v => ∃ x, v = .float .f32 x ∧ x < 4294967296 ∧ Sim .f32 x q
theorem isF.mk {q x : Nat} (hl : x < 4294967296) (h : Sim .f32 x q) : isF q (.float .f32 x) := ⟨x, rfl, hl, h⟩
theorem isF.out {q : Nat} {v : Value} (h : isF q v) : ∃ x, v = .float .f32 x ∧ x < 4294967296 ∧ Sim .f32 x q := h
end Go.Proofs.Ytlhgaihfghobmaa
