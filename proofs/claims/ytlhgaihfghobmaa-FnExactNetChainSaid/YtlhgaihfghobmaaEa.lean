/- Copies of slices by append: slices.Clone, append onto an empty row. -/
import Derived.Test.YtlhgaihfghobmaaDa
import Derived.Maps.AppendAt
import Derived.ArgAppend
import Derived.OwnWalk
import Derived.Lib.SliceRun
namespace Go.Proofs.Ytlhgaihfghobmaa
open Go.ChangeShapes Go.WideShapes Go.ChangeAt Go.RowKit Go.Deep

section
variable {P : Program}
/-- an empty row of its own. -/
theorem run_empty (w : World) (t e : TypeId) (i : TypeInfo) (ht : P.underlying t = some (.slice e)) (hi : P.info? e = some i) :
    (Instr.buildSlice t 0 #[]).run P w = .ok (.slice (some ⟨w.heap.size, 0, none⟩) 0 0) (w.alloc (.cells #[] e)) := by
  simp [Instr.buildSlice, run_underlying ht, sizeOf, typeInfo, hi, newRow, Instr.fill]
  have : Array.range 0 = #[] := by decide
  rw [this]
  simp
theorem owns_empty {w : World} {base g : Nat} {e : TypeId} {size : Nat} (hb : base ≤ g) (hg : w.heap[g]? = some (.cells #[] e (0, 0))) : w.ownsRow base e size (.slice (some ⟨g, 0, none⟩) 0 0) 0 [] :=
  ⟨by simp, .inr ⟨g, 0, #[], rfl, hb, hg, Nat.le_refl _, Nat.zero_le _, by simp, by simp⟩⟩
theorem range_get {α : Type} {f : Nat → α} {k j : Nat} (h : j < k) : ((List.range k).map f)[j]? = some (f j) := by simp [h]
theorem own_lt {w : World} {base k : Nat} {e : TypeId} {size n cap : Nat} {xs : List Value} (h : w.ownsRow base e size (.slice (some ⟨k, 0, none⟩) n cap) n xs) : k < w.heap.size := by
  rcases h.2 with ⟨h1, _⟩ | ⟨g, c, cur, h1, _, h2, _⟩
  · cases h1
  · cases h1
    rcases Nat.lt_or_ge k w.heap.size with hl | hl
    · exact hl
    · rw [Array.getElem?_eq_none hl] at h2
      cases h2
/-- append onto an empty row: a copy in a new block; no block that was there turns. -/
theorem run_copy (w : World) (t ty e : TypeId) (i : TypeInfo) (z : Value) (size bytes : Nat) (ht : P.underlying t = some (.slice e)) (hi : P.info? e = some i) (hz : i.zero = some z)
    (hsize : i.size = size) (hby : i.bytes = bytes) (hzs : z.cells.size = size) (hsz : 0 < size)
    (g : Nat) (A : Option Addr) (m c B : Nat) (f : Nat → Value) (hin : In w B size A m f) (h63 : m ≤ maxLen) (hbytes : m * bytes ≤ 140737488355328) :
    ∃ A' cap w', (Builtin.append_ #[t, t] ty #[.slice (some ⟨g, 0, none⟩) 0 0, .slice A m c]).run P w = .ok (.slice A' m cap) w' ∧ Sl w' w.heap.size e size A' m cap f ∧ Below w.heap.size w w' ∧ Bd w.heap.size w'.heap.size A' m ∧ (m = 0 → cap = 0) := by
  by_cases hm : 0 < m
  · obtain ⟨b, off, rfl, hlt, hc⟩ := hin hm
    obtain ⟨v', w', hr, h2, h3⟩ := run_append_arg_grows (P := P) w t ty e i z size bytes ht hi hz hsize hby hzs hsz ⟨g, 0, none⟩ 0 0 [] (by simp) (by simp) ⟨b, off, none⟩ m c ((List.range (m * size)).map f) (by simp)
      (fun j u hu => by
        have hj : j < m * size := by
          have := (List.getElem?_eq_some_iff.1 hu).1
          simpa using this
        rw [range_get hj] at hu
        cases hu
        rw [Addr.add_lit]
        exact hc j hj) (by omega) (by omega) (by simpa using hbytes)
    rw [Nat.zero_add] at h2
    obtain ⟨A', cap, rfl, hs, hk⟩ := Sl.of_own h2 (f := f) (fun j hj => by rw [List.nil_append]; exact range_get hj)
    refine ⟨A', cap, w', hr, hs, (Below.refl _ _).grown h3 (Nat.le_refl _) (by simp), fun k hA _ => ?_, fun h => absurd h (by omega)⟩
    obtain ⟨g', hA', hB, _, _, hrw⟩ := hs hm
    rw [hA] at hA'
    cases hA'
    exact ⟨hB, hrw.lt⟩
  · obtain rfl : m = 0 := by omega
    refine ⟨some ⟨g, 0, none⟩, 0, w, ?_, Sl.empty _ _ _ _ _ _ _, Below.refl _ _, fun k _ h => absurd h (Nat.lt_irrefl 0), fun _ => rfl⟩
    cases A with
    | none => simp [Builtin.append_, run_underlying ht, sizeOf, typeInfo, hi, Builtin.lenOf, Builtin.firstCells, storeCells]
    | some ad =>
      have hf := run_firstCells_some (P := P) w i.size 0 ad 0 c [] (by simp) (by simp)
      simp [Builtin.append_, run_underlying ht, sizeOf, typeInfo, hi, Builtin.lenOf, hf, storeCells]
theorem wp_copy {o : Oper} {a : Act} {w : World} {K : Act → World → Prop} {Q : Exit → Act → World → Prop} (s x : Operand) (t : TypeId)
    (ho : o.op = .call { callee := .builtin .append, args := #[s, x], argTypes := #[t, t] })
    (e : TypeId) (i : TypeInfo) (z : Value) (size bytes : Nat) (ht : P.underlying t = some (.slice e)) (hi : P.info? e = some i) (hz : i.zero = some z)
    (hsize : i.size = size) (hby : i.bytes = bytes) (hzs : z.cells.size = size) (hsz : 0 < size)
    (g : Nat) (hs : a.eval s = .slice (some ⟨g, 0, none⟩) 0 0)
    (A : Option Addr) (m c B : Nat) (f : Nat → Value) (hx : a.eval x = .slice A m c) (hin : In w B size A m f) (h63 : m ≤ maxLen) (hbytes : m * bytes ≤ 140737488355328)
    (h : ∀ A' cap w', Sl w' w.heap.size e size A' m cap f → Below w.heap.size w w' → Bd w.heap.size w'.heap.size A' m → (m = 0 → cap = 0) → K (a.put o.dst (.slice A' m cap)) w') : o.wp P a w K Q := by
  obtain ⟨A', cap, w', hr, h2, h3, h4, h5⟩ := run_copy (P := P) w t o.type e i z size bytes ht hi hz hsize hby hzs hsz g A m c B f hin h63 hbytes
  unfold Oper.wp execOp
  simp only [ho, resolve, invoke, builtin, Sem.run_bind, Sem.run_pure, Result.andThen_ok, List.map_toArray, List.map_cons, List.map_nil, hs, hx, hr]
  exact h A' cap w' h2 h3 h4 h5
theorem wpList_copy {ops : Array Oper} {rest : List Oper} {o : Oper} {a : Act} {w : World} {Q : Exit → Act → World → Prop} (hgd : o.guard = none) (s x : Operand) (t : TypeId)
    (ho : o.op = .call { callee := .builtin .append, args := #[s, x], argTypes := #[t, t] })
    (e : TypeId) (i : TypeInfo) (z : Value) (size bytes : Nat) (ht : P.underlying t = some (.slice e)) (hi : P.info? e = some i) (hz : i.zero = some z)
    (hsize : i.size = size) (hby : i.bytes = bytes) (hzs : z.cells.size = size) (hsz : 0 < size)
    (g : Nat) (hs : a.eval s = .slice (some ⟨g, 0, none⟩) 0 0)
    (A : Option Addr) (m c B : Nat) (f : Nat → Value) (hx : a.eval x = .slice A m c) (hin : In w B size A m f) (h63 : m ≤ maxLen) (hbytes : m * bytes ≤ 140737488355328)
    (h : ∀ A' cap w', Sl w' w.heap.size e size A' m cap f → Below w.heap.size w w' → Bd w.heap.size w'.heap.size A' m → (m = 0 → cap = 0) → wpList P ops Q rest (a.put o.dst (.slice A' m cap)) w') : wpList P ops Q (o :: rest) a w :=
  wpList_plain hgd fun _ hK => wp_copy s x t ho e i z size bytes ht hi hz hsize hby hzs hsz g hs A m c B f hx hin h63 hbytes fun A' cap w' h2 h3 h4 h5 => hK _ _ (h A' cap w' h2 h3 h4 h5)
end
theorem vc_one (p : Nat → V3) (j : Nat) : (vc p j).oneCell' = true := rfl
theorem fc_one (q : Nat → Nat) (j : Nat) : (fc q j).oneCell' = true := rfl
theorem rc_one (r : Nat → Rd) (j : Nat) : (rc r j).oneCell' = true := by unfold rc; split; rfl; split <;> rfl
theorem infoF : (Try.prog.info? 36).map (fun i => (i.zero, i.size, i.bytes)) = some (some (.float .f32 0), 1, 4) := by kernel_rfl
/-- returns an own slice of the same contents. -/
def RetCp (t : TypeId) (sz n : Nat) (f : Nat → Value) (w : World) (e : Ending) (w' : World) : Prop :=
  ∃ A cap, e = .returned (.slice A n cap) ∧ Sl w' w.heap.size t sz A n cap f ∧ Bd w.heap.size w'.heap.size A n ∧ (n = 0 → cap = 0) ∧ Below w.heap.size w w'
theorem clone_vec (A : Option Addr) (n cap : Nat) (p : Nat → V3) (hn : n ≤ 1048576) (w : World) (h : In w w.heap.size 3 A n (vc p)) :
    Calls Try.prog 174 #[.slice A n cap] w (RetCp 38 3 n (vc p) w) := by
  obtain ⟨i0, hi, hz0, hz1, hz2⟩ := info_parts infoV
  have hbs := fun w => run_empty w 29 38 i0 Try.underlying29 hi
  have heq := fun w => Lib.run_eql_slice_nil w 29 38 A n cap 0 0 Try.underlying29
  cases A with
  | none =>
    have hn0 : n = 0 := by
      rcases Nat.eq_zero_or_pos n with h0 | h0
      · exact h0
      · obtain ⟨b, off, hA, _⟩ := h h0
        cases hA
    subst hn0
    simp only [Option.isNone_none] at heq
    clear h
    go_enter Try.func174, Try.ntmps174
    go_wp2
    go_ret
    exact ⟨none, 0, rfl, Sl.empty _ _ _ _ _ _ _, (fun g _ h => absurd h (Nat.lt_irrefl 0)), fun _ => rfl, Below.refl _ _⟩
  | some ad =>
    simp only [Option.isNone_some] at heq
    have hB : Below w.heap.size w (w.alloc (.cells #[] 38)) := Below.alloc (Below.refl _ _) (Nat.le_refl _) _
    have H := Lib.hid (h.below (Nat.le_refl _) hB)
    have HB := Lib.hid hB
    clear h hB
    go_enter Try.func174, Try.ntmps174
    go_wp2_with (at_builtin; refine wpList_copy rfl (.tmp 5) (.tmp 6) 29 rfl 38 i0 _ 3 12 Try.underlying29 hi hz0 hz1 hz2 rfl (by decide) w.heap.size rfl (some ad) n cap w.heap.size (vc p) rfl H.out (by simp only [maxLen]; omega) (by omega) ?_; intro A1 cap1 w1 hs1 hg1 hk1 hz1; have HS := Lib.hid hs1; have HG := Lib.hid hg1; have HK := Lib.hid hk1; clear hs1 hg1 hk1)
    go_ret
    exact ⟨A1, cap1, rfl, HS.out.mono (by first | exact Nat.le_refl _ | (simp; done) | (simp; omega) | omega), fun g e hn => ⟨by have := (HK.out g e hn).1; simp at this; omega, (HK.out g e hn).2⟩, hz1, below_step HB.out HG.out⟩
theorem clone_flt (A : Option Addr) (n cap : Nat) (q : Nat → Nat) (hn : n ≤ 1048576) (w : World) (h : In w w.heap.size 1 A n (fc q)) :
    Calls Try.prog 175 #[.slice A n cap] w (RetCp 36 1 n (fc q) w) := by
  obtain ⟨i0, hi, hz0, hz1, hz2⟩ := info_parts infoF
  have hbs := fun w => run_empty w 23 36 i0 Try.underlying23 hi
  have heq := fun w => Lib.run_eql_slice_nil w 23 36 A n cap 0 0 Try.underlying23
  cases A with
  | none =>
    have hn0 : n = 0 := by
      rcases Nat.eq_zero_or_pos n with h0 | h0
      · exact h0
      · obtain ⟨b, off, hA, _⟩ := h h0
        cases hA
    subst hn0
    simp only [Option.isNone_none] at heq
    clear h
    go_enter Try.func175, Try.ntmps175
    go_wp2
    go_ret
    exact ⟨none, 0, rfl, Sl.empty _ _ _ _ _ _ _, (fun g _ h => absurd h (Nat.lt_irrefl 0)), fun _ => rfl, Below.refl _ _⟩
  | some ad =>
    simp only [Option.isNone_some] at heq
    have hB : Below w.heap.size w (w.alloc (.cells #[] 36)) := Below.alloc (Below.refl _ _) (Nat.le_refl _) _
    have H := Lib.hid (h.below (Nat.le_refl _) hB)
    have HB := Lib.hid hB
    clear h hB
    go_enter Try.func175, Try.ntmps175
    go_wp2_with (at_builtin; refine wpList_copy rfl (.tmp 5) (.tmp 6) 23 rfl 36 i0 _ 1 4 Try.underlying23 hi hz0 hz1 hz2 rfl (by decide) w.heap.size rfl (some ad) n cap w.heap.size (fc q) rfl H.out (by simp only [maxLen]; omega) (by omega) ?_; intro A1 cap1 w1 hs1 hg1 hk1 hz1; have HS := Lib.hid hs1; have HG := Lib.hid hg1; have HK := Lib.hid hk1; clear hs1 hg1 hk1)
    go_ret
    exact ⟨A1, cap1, rfl, HS.out.mono (by first | exact Nat.le_refl _ | (simp; done) | (simp; omega) | omega), fun g e hn => ⟨by have := (HK.out g e hn).1; simp at this; omega, (HK.out g e hn).2⟩, hz1, below_step HB.out HG.out⟩
theorem clone_rod (A : Option Addr) (n cap : Nat) (r : Nat → Rd) (hn : n ≤ 1048576) (w : World) (h : In w w.heap.size 3 A n (rc r)) :
    Calls Try.prog 176 #[.slice A n cap] w (RetCp 91 3 n (rc r) w) := by
  obtain ⟨i0, hi, hz0, hz1, hz2⟩ := info_parts infoR
  have hbs := fun w => run_empty w 30 91 i0 Try.underlying30 hi
  have heq := fun w => Lib.run_eql_slice_nil w 30 91 A n cap 0 0 Try.underlying30
  cases A with
  | none =>
    have hn0 : n = 0 := by
      rcases Nat.eq_zero_or_pos n with h0 | h0
      · exact h0
      · obtain ⟨b, off, hA, _⟩ := h h0
        cases hA
    subst hn0
    simp only [Option.isNone_none] at heq
    clear h
    go_enter Try.func176, Try.ntmps176
    go_wp2
    go_ret
    exact ⟨none, 0, rfl, Sl.empty _ _ _ _ _ _ _, (fun g _ h => absurd h (Nat.lt_irrefl 0)), fun _ => rfl, Below.refl _ _⟩
  | some ad =>
    simp only [Option.isNone_some] at heq
    have hB : Below w.heap.size w (w.alloc (.cells #[] 91)) := Below.alloc (Below.refl _ _) (Nat.le_refl _) _
    have H := Lib.hid (h.below (Nat.le_refl _) hB)
    have HB := Lib.hid hB
    clear h hB
    go_enter Try.func176, Try.ntmps176
    go_wp2_with (at_builtin; refine wpList_copy rfl (.tmp 5) (.tmp 6) 30 rfl 91 i0 _ 3 24 Try.underlying30 hi hz0 hz1 hz2 rfl (by decide) w.heap.size rfl (some ad) n cap w.heap.size (rc r) rfl H.out (by simp only [maxLen]; omega) (by omega) ?_; intro A1 cap1 w1 hs1 hg1 hk1 hz1; have HS := Lib.hid hs1; have HG := Lib.hid hg1; have HK := Lib.hid hk1; clear hs1 hg1 hk1)
    go_ret
    exact ⟨A1, cap1, rfl, HS.out.mono (by first | exact Nat.le_refl _ | (simp; done) | (simp; omega) | omega), fun g e hn => ⟨by have := (HK.out g e hn).1; simp at this; omega, (HK.out g e hn).2⟩, hz1, below_step HB.out HG.out⟩
end Go.Proofs.Ytlhgaihfghobmaa
