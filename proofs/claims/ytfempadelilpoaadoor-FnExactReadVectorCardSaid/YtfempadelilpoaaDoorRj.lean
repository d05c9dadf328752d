/- Contracts of the laws' helpers on slices of int64 (equal, mark, held) and of markFloat32S. -/
import Derived.Test.YtfempadelilpoaaDoorRi
import Derived.Deep.QuietTactic
import Derived.BigQuiet
namespace Go.Proofs.YtfempadelilpoaaDoor
open Go.ChangeShapes Go.WideShapes Go.ChangeAt Go.RowKit Go.Deep

def nthI (xs : List Int) (i : Nat) : Int := xs.getD i 0
theorem ow_form {W : World} {B : Nat} {v : Value} {xs : List Int} (h : Ow W B v xs) : (xs = [] ∧ ∃ A cap, v = .slice A 0 cap) ∨
    ∃ g cap, 0 < xs.length ∧ v = .slice (some ⟨g, 0, none⟩) xs.length cap ∧ B ≤ g ∧ g < W.heap.size ∧ (∀ i, i < xs.length → W.cell? ⟨g, i, none⟩ = some (.int .i64 (nthI xs i))) ∧ (∀ i, W.frozen? ⟨g, i, none⟩ = false) := by
  by_cases hx : 0 < xs.length
  · obtain ⟨_, ⟨_, h0⟩ | ⟨g, cap, cur, rfl, hB, hg, _⟩⟩ := id h
    · omega
    · refine .inr ⟨g, cap, hx, rfl, hB, (Array.getElem?_eq_some_iff.1 hg).1, fun i hi => ?_, fun i => World.ownsRow.frozenAt h i⟩
      rw [World.ownsRow.cellAt h i (by omega)]
      simp [nthI, List.getD, hi]
  · have h0 : xs = [] := List.eq_nil_of_length_eq_zero (by omega)
    subst h0
    refine .inl ⟨rfl, ?_⟩
    rcases h.2 with ⟨rfl, _⟩ | ⟨g, cap, cur, rfl, _⟩
    · exact ⟨_, _, rfl⟩
    · exact ⟨_, _, rfl⟩

set_option maxHeartbeats 1000000 in
theorem laws_eqInt64S (v v' : Value) (xs : List Int) (hn : xs.length ≤ 1048576) (w : World) (B B' : Nat) (h : Ow w B v xs) (h' : Ow w B' v' xs) :
    Calls Tryd.prog 14 #[v, v'] w (RetQ (.bool true) w) := by
  rcases ow_form h with ⟨rfl, A, cap, rfl⟩ | ⟨g, cap, hx, rfl, hB, hg, hc, hf⟩
  · rcases ow_form h' with ⟨_, A', cap', rfl⟩ | ⟨g', cap', hx', _⟩
    · clear h h'
      go_enter Tryd.func14, Tryd.ntmps14
      go_wp2
      refine wp_loop_rounds 1 ?_
      rw [rounds_succ]
      go_wp2
      go_ret
      exact ⟨rfl, 0, rfl⟩
    · exact absurd hx' (by simp)
  · rcases ow_form h' with ⟨rfl, A', cap', rfl⟩ | ⟨g', cap', hx', rfl, hB', hg', hc', hf'⟩
    · exact absurd hx (by simp)
    · have HC := Lib.hid hc
      have HC' := Lib.hid hc'
      have hneq : ((xs.length : Int) != (xs.length : Int)) = false := by simp
      clear h h' hc hc' hf hf'
      go_enter Tryd.func14, Tryd.ntmps14
      go_wp2
      go_loopw [5] (fun i wr => ∃ k n : Nat, k ≤ xs.length ∧ i = .int .i64 k ∧ wr = w.drewN n) (fun i _ => xs.length - (intOf i).toNat)
      case atStart => exact ⟨0, 0, Nat.zero_le _, rfl, rfl⟩
      case round =>
        obtain ⟨k, n, hk, rfl, rfl⟩ := hrel
        by_cases hlt : k < xs.length
        · have hcx : w.cell? ⟨g, k, none⟩ = some (.int .i64 (nthI xs k)) := HC.out k hlt
          have hcy : w.cell? ⟨g', k, none⟩ = some (.int .i64 (nthI xs k)) := HC'.out k hlt
          have hk0 : (0 : Int) ≤ (k : Int) := by omega
          have hk1 : (k : Int) < (xs.length : Int) := by omega
          go_wp2
          go_quiet (fail)
          go_wp2
          go_roundw
          case rel => exact ⟨k + 1, _, by omega, by go_num, rfl⟩
          case measure => simp [intOf]; omega
        · go_wp2
          go_ret
          exact ⟨rfl, n, rfl⟩

def marks (n : Nat) : List Int := (List.range n).map (fun i : Nat => (1 : Int) + (i : Int))
theorem marks_length (n : Nat) : (marks n).length = n := by simp [marks]
theorem marks_nth {n i : Nat} (h : i < n) : nthI (marks n) i = 1 + i := by simp [nthI, marks, List.getD, h]
theorem grownBy_set {w wr : World} {g : Nat} (h : w.grownBy wr (some g)) (o : Nat) (u : Value) : w.grownBy (wr.setCell ⟨g, o, none⟩ u) (some g) :=
  ⟨h.os, h.tape, h.output, by simpa [World.setCell] using h.size, fun k hk hne => (Below.heap_setCell _ _ _ _ (fun e => hne (congrArg some e))).trans (h.block k hk hne)⟩

set_option maxHeartbeats 1000000 in
theorem laws_heldInt64S (v : Value) (n : Nat) (hn : n ≤ 1048576) (w : World) (B : Nat) (h : Ow w B v (marks n)) :
    Calls Tryd.prog 26 #[v, .int .i64 1] w (RetQ (.int .i64 (1 + n)) w) := by
  rcases ow_form h with ⟨h0, A, cap, rfl⟩ | ⟨g, cap, hx, rfl, hB, hg, hc, hf⟩
  · have h1 : n = 0 := by have := marks_length n; rw [h0] at this; simpa using this.symm
    subst h1
    clear h
    go_enter Tryd.func26, Tryd.ntmps26
    go_wp2
    refine wp_loop_rounds 1 ?_
    rw [rounds_succ]
    go_wp2
    go_ret
    exact ⟨rfl, 0, rfl⟩
  · rw [marks_length] at *
    have HC := Lib.hid hc
    clear h hc hf
    go_enter Tryd.func26, Tryd.ntmps26
    go_wp2
    go_loopw [1, 5] (fun q i wr => ∃ k m : Nat, k ≤ n ∧ i = .int .i64 k ∧ q = .int .i64 (1 + k) ∧ wr = w.drewN m) (fun _ i _ => n - (intOf i).toNat)
    case atStart => exact ⟨0, 0, Nat.zero_le _, rfl, rfl, rfl⟩
    case round =>
      obtain ⟨k, m, hk, rfl, rfl, rfl⟩ := hrel
      by_cases hlt : k < n
      · have hcx : w.cell? ⟨g, k, none⟩ = some (.int .i64 (1 + k)) := by rw [HC.out k hlt, marks_nth hlt]
        have hk0 : (0 : Int) ≤ (k : Int) := by omega
        have hk1 : (k : Int) < (n : Int) := by omega
        go_wp2
        go_roundw
        case rel => exact ⟨k + 1, _, by omega, by go_num, by go_num, rfl⟩
        case measure => simp [intOf]; omega
      · have hke : k = n := by omega
        subst hke
        go_wp2
        go_ret
        exact ⟨rfl, m, rfl⟩

/-- marked up to k. -/
def mixed (xs : List Int) (k : Nat) : List Int := marks k ++ xs.drop k
theorem mixed_length {xs : List Int} {k : Nat} (h : k ≤ xs.length) : (mixed xs k).length = xs.length := by simp [mixed, marks_length]; omega
theorem mixed_step {xs : List Int} {k : Nat} (h : k < xs.length) : (mixed xs k).set k (1 + k) = mixed xs (k + 1) := by
  have e : xs.drop k = xs[k] :: xs.drop (k + 1) := List.drop_eq_getElem_cons h
  have e2 : marks (k + 1) = marks k ++ [1 + (k : Int)] := by simp [marks, List.range_succ]
  unfold mixed
  rw [e2, List.set_append_right _ _ (by rw [marks_length]; omega), marks_length, Nat.sub_self, e, List.append_assoc]
  rfl
set_option maxHeartbeats 1000000 in
theorem laws_markInt64S (v : Value) (xs : List Int) (hn : xs.length ≤ 1048576) (w : World) (B : Nat) (h : Ow w B v xs) :
    Calls Tryd.prog 25 #[v, .int .i64 1] w (fun e w' => e = .returned (.int .i64 (1 + xs.length)) ∧ Ow w' B v (marks xs.length) ∧ w.grownBy w' v.ownBlock) := by
  rcases ow_form h with ⟨h0, A, cap, rfl⟩ | ⟨g, cap, hx, rfl, hB, hg, hc, hf⟩
  · subst h0
    have H := Lib.hid h
    clear h
    show Calls Tryd.prog 25 #[.slice A 0 cap, .int .i64 1] w _
    go_enter Tryd.func25, Tryd.ntmps25
    go_wp2
    refine wp_loop_rounds 1 ?_
    rw [rounds_succ]
    go_wp2
    go_ret
    exact ⟨rfl, H.out, World.grownBy.refl _ _⟩
  · have H0 := Lib.hid (show w.ownsRow B 2 1 (.slice (some ⟨g, 0, none⟩) xs.length cap) xs.length ((mixed xs 0).map (Value.int .i64)) from h)
    clear h hc hf
    go_enter Tryd.func25, Tryd.ntmps25
    go_wp2
    go_loopw [1, 5] (fun q i wr => ∃ k : Nat, k ≤ xs.length ∧ i = .int .i64 k ∧ q = .int .i64 (1 + k) ∧ wr.ownsRow B 2 1 (.slice (some ⟨g, 0, none⟩) xs.length cap) xs.length ((mixed xs k).map (Value.int .i64)) ∧ w.grownBy wr (some g)) (fun _ i _ => xs.length - (intOf i).toNat)
    case atStart => exact ⟨0, Nat.zero_le _, rfl, rfl, H0.out, World.grownBy.refl _ _⟩
    case round =>
      obtain ⟨k, hk, rfl, rfl, hown, hgr⟩ := hrel
      have HO := Lib.hid hown
      clear hown
      by_cases hlt : k < xs.length
      · have hcx : wr.cell? ⟨g, k, none⟩ = some (.int .i64 ((mixed xs k)[k]'(by rw [mixed_length hk]; exact hlt))) := by
          rw [World.ownsRow.cellAt HO.out k (by omega), List.getElem?_map, List.getElem?_eq_getElem (by rw [mixed_length hk]; exact hlt)]
          rfl
        have hfr := World.ownsRow.frozenAt HO.out k
        have S1 := World.ownsRow.stored HO.out k (.int .i64 (1 + k))
        have S2 := Lib.hid S1.1
        have hk0 : (0 : Int) ≤ (k : Int) := by omega
        have hk1 : (k : Int) < (xs.length : Int) := by omega
        clear S1
        go_wp2
        go_roundw
        case rel => exact ⟨k + 1, by omega, by go_num, by go_num, by rw [← mixed_step hlt, List.map_set]; exact S2.out, grownBy_set hgr _ _⟩
        case measure => simp [intOf]; omega
      · have hke : k = xs.length := by omega
        subst hke
        go_wp2
        go_ret
        refine ⟨rfl, ?_, hgr⟩
        have e : mixed xs xs.length = marks xs.length := by simp [mixed]
        have := HO.out
        rw [e] at this
        unfold Ow
        rw [marks_length]
        exact this

set_option maxHeartbeats 1000000 in
theorem laws_markFloat32S (g cap n : Nat) (f : Nat → Value) (hn : n ≤ 1048576) (w : World) (h : w.rowIs g 30 n f) :
    Calls Tryd.prog 21 #[.slice (some ⟨g, 0, none⟩) n cap, .int .i64 1] w (fun e w' => e = .returned (.int .i64 (1 + n)) ∧ w.grownBy w' (some g)) := by
  have H := Lib.hid h
  clear h
  by_cases hx : 0 < n
  · go_enter Tryd.func21, Tryd.ntmps21
    go_wp2
    go_loopw [1, 5] (fun q i wr => ∃ k : Nat, k ≤ n ∧ i = .int .i64 k ∧ q = .int .i64 (1 + k) ∧ (∃ f', wr.rowIs g 30 n f') ∧ w.grownBy wr (some g)) (fun _ i _ => n - (intOf i).toNat)
    case atStart => exact ⟨0, Nat.zero_le _, rfl, rfl, ⟨f, H.out⟩, World.grownBy.refl _ _⟩
    case round =>
      obtain ⟨k, hk, rfl, rfl, ⟨f', hrow⟩, hgr⟩ := hrel
      have HR := Lib.hid hrow
      by_cases hlt : k < n
      · have hcell := hrow.cell hlt
        have hfr := hrow.frozen k
        have hk0 : (0 : Int) ≤ (k : Int) := by omega
        have hk1 : (k : Int) < (n : Int) := by omega
        clear hrow
        go_wp2
        go_roundw
        case rel => exact ⟨k + 1, by omega, by go_num, by go_num, ⟨_, HR.out.set k _⟩, grownBy_set hgr _ _⟩
        case measure => simp [intOf]; omega
      · have hke : k = n := by omega
        subst hke
        clear hrow
        go_wp2
        go_ret
        exact ⟨rfl, hgr⟩
  · have h0 : n = 0 := by omega
    subst h0
    clear H
    go_enter Tryd.func21, Tryd.ntmps21
    go_wp2
    refine wp_loop_rounds 1 ?_
    rw [rounds_succ]
    go_wp2
    go_ret
    exact ⟨rfl, World.grownBy.refl _ _⟩
end Go.Proofs.YtfempadelilpoaaDoor
