/- Regions with several stores, one behind the other: what holds of the world between them. -/
import Derived.Test.YtlhgaihfghobmaaRh
namespace Go.Proofs.Ytlhgaihfghobmaa

/-- A till the first operation of the list has come up, then what stands beside it, till the next. -/
def Js : List (Nat × (World → Prop)) → (World → Prop) → Array Bool → World → Prop
  | [], A, _, w => A w
  | (T, B) :: r, A, l, w => (l.getD T false = false → A w) ∧ (l.getD T false = true → Js r B l w)
section
variable {T i : Nat} {B A : World → Prop} {r : List (Nat × (World → Prop))} {l : Array Bool} {w w' : World}
theorem Js.nil (h : A w) : Js [] A l w := h
theorem Js.now (h : Js ((T, B) :: r) A l w) (hn : l.getD T false = false) : A w := h.1 hn
theorem Js.past (h : Js ((T, B) :: r) A l w) (hl : l.getD T false = true) : Js r B l w := h.2 hl
theorem Js.stay (hn : l.getD T false = false) (hne : i ≠ T) (h : A w') : Js ((T, B) :: r) A (l.setIfInBounds i true) w' :=
  ⟨fun _ => h, fun hl => absurd hl (by rw [getD_set_ne false hne, hn]; exact Bool.false_ne_true)⟩
theorem Js.keep (hl : l.getD T false = true) (h : Js r B (l.setIfInBounds i true) w') : Js ((T, B) :: r) A (l.setIfInBounds i true) w' :=
  ⟨fun hn => absurd (getD_set_true (i := i) hl) (by rw [hn]; exact Bool.false_ne_true), fun _ => h⟩
theorem Js.hit (hT : T < l.size) (h : Js r B (l.setIfInBounds T true) w') : Js ((T, B) :: r) A (l.setIfInBounds T true) w' :=
  ⟨fun hn => absurd hn (by rw [getD_set_self hT]; exact Ne.symm Bool.false_ne_true), fun _ => h⟩
theorem Js.neutral : ∀ {r : List (Nat × (World → Prop))} {A : World → Prop}, Js r A l w → (r.all fun p => decide (i ≠ p.1)) = true → Js r A (l.setIfInBounds i true) w
  | [], _, h, _ => h
  | (T, B) :: r, A, h, hn => by
    rw [List.all_cons, Bool.and_eq_true] at hn
    have hne : i ≠ T := of_decide_eq_true hn.1
    exact ⟨fun hl => h.1 (by rw [getD_set_ne false hne] at hl; exact hl), fun hl => Js.neutral (r := r) (h.2 (by rw [getD_set_ne false hne] at hl; exact hl)) hn.2⟩
end
theorem RI.wait' {ops : Array Oper} {md : Region.Mode} {a0 : Act} {Fs : List (Value → World → Prop)} {J : Array Bool → World → Prop} {listed : Array Bool} {a : Act} {w : World} (h : RI md ops a0 Fs J listed a w) {i T : Nat} {o : Oper} (hu : listed.getD i false = false) (hT : ops[T]? = some o) {e : Edge} (he : e ∈ o.after) (hb : Region.binds md e = true) (hi : e.on = i) : listed.getD T false = false := by
  cases hl : listed.getD T false
  · rfl
  · have h1 := h.closed T o hT hl e he hb
    rw [hi, hu] at h1
    cases h1
theorem getD_rep (T n : Nat) : (Array.replicate n false).getD T false = false := by
  by_cases h : T < n <;> simp [h]
theorem Js.first {T n : Nat} {B A : World → Prop} {r : List (Nat × (World → Prop))} {w : World} (h : A w) : Js ((T, B) :: r) A (Array.replicate n false) w :=
  ⟨fun _ => h, fun hl => absurd hl (by rw [getD_rep]; exact Bool.false_ne_true)⟩
end Go.Proofs.Ytlhgaihfghobmaa
