/- Own lists of float32: how they grow; the laws' eq, mark and held on them. -/
import Derived.Test.YtfempadelilpoaaDoorTn
import Derived.Test.YtfempadelilpoaaDoorSl
namespace Go.Proofs.YtfempadelilpoaaDoor
open Go.ChangeShapes Go.WideShapes Go.ChangeAt Go.RowKit Go.Deep

def OwF (w : World) (B : Nat) (v : Value) (xs : List Nat) : Prop := w.ownsRow B 30 1 v xs.length (xs.map (Value.float .f32))
def RetFL (xs : List Nat) (b : Bool) (w : World) (e : Ending) (w' : World) : Prop := ∃ v, e = .returned (.tuple #[v, .bool b]) ∧ OwF w' w.heap.size v xs ∧ Below w.heap.size w w'
theorem owF_nil (w : World) (B : Nat) : OwF w B (.slice none 0 0) [] := World.ownsRow_nil _ _ _ _
theorem owF_made {w : World} : OwF (w.alloc (.cells #[] 30)) w.heap.size (.slice (some ⟨w.heap.size, 0, none⟩) 0 0) [] := World.ownsRow_made w #[] 0 (Nat.le_refl _) (Nat.zero_le _) rfl
theorem owF_below {w w' : World} {B : Nat} {v : Value} {xs : List Nat} (h : OwF w B v xs) (hb : Below w.heap.size w w') : OwF w' B v xs := by
  refine ⟨h.1, ?_⟩
  rcases h.2 with h0 | ⟨g, cap, cur, rfl, hB, hg, rest⟩
  · exact .inl h0
  · exact .inr ⟨g, cap, cur, rfl, hB, (hb.block g (Array.getElem?_eq_some_iff.1 hg).1).trans hg, rest⟩
theorem owF_kept {w w' : World} {B : Nat} {v : Value} {xs : List Nat} {row : Option Nat} (h : OwF w B v xs) (hg : w.grownBy w' row) (hne : v.ownBlock = none ∨ v.ownBlock ≠ row) : OwF w' B v xs := World.ownsRow.kept h hg hne
theorem OwF.alloc' {w : World} {B : Nat} {v : Value} {xs : List Nat} (h : OwF w B v xs) (o : Obj) : OwF (w.alloc o) B v xs := owF_below h (Below.alloc (Below.refl _ _) (Nat.le_refl _) _)
theorem owF_heap {w : World} {B : Nat} {v : Value} {xs : List Nat} (h : OwF w B v xs) : ∀ k, v.ownBlock = some k → ∃ cs fz, w.heap[k]? = some (.cells cs 30 fz) := fun k hk => by
  rcases h.2 with ⟨rfl, _⟩ | ⟨g, cap, cur, rfl, _, hg, _⟩
  · cases hk
  · cases hk
    exact ⟨cur, _, hg⟩
theorem owF_put {w wq w1 : World} {O : Obj} {v v' : Value} {xs : List Nat} {x : Nat} (hown : OwF wq w.heap.size v xs) (hB : Below w.heap.size w wq)
    (hown1 : w1.ownsRow w.heap.size 30 1 v' (xs.length + 1) (xs.map (Value.float .f32) ++ [.float .f32 x])) (hg : (wq.alloc O).grownBy w1 v.ownBlock) :
    OwF w1 w.heap.size v' (xs ++ [x]) ∧ Below w.heap.size w w1 ∧ ∃ g c, v' = .slice (some ⟨g, 0, none⟩) (xs ++ [x]).length c := by
  have e1 : (xs ++ [x]).length = xs.length + 1 := by simp
  refine ⟨?_, (hB.alloc hB.size O).grown hg (by have := hB.size; simp; omega) (fun j hj => (hown.lt j hj).1), ?_⟩
  · unfold OwF
    rw [e1, List.map_append]
    exact hown1
  · rw [e1]
    rcases id hown1.2 with ⟨_, h0⟩ | ⟨g, c, cur, hv, _⟩
    · omega
    · exact ⟨g, c, hv⟩
/-- an own list read as a slice. -/
theorem owF_fl {W : World} {B : Nat} {v : Value} {xs : List Nat} (h : OwF W B v xs) : ∃ A cap, v = .slice A xs.length cap ∧ FlAt W W.heap.size A xs := by
  by_cases hx : 0 < xs.length
  · obtain ⟨_, ⟨_, h0⟩ | ⟨g, cap, cur, rfl, hB, hg, _⟩⟩ := id h
    · omega
    · refine ⟨_, cap, rfl, fun _ => ⟨g, 0, rfl, (Array.getElem?_eq_some_iff.1 hg).1, fun i hi => ?_⟩⟩
      rw [Nat.zero_add, World.ownsRow.cellAt h i (by omega)]
      simp [nth, List.getD, hi]
  · have h0 : xs = [] := List.eq_nil_of_length_eq_zero (by omega)
    subst h0
    rcases h.2 with ⟨rfl, _⟩ | ⟨g, cap, cur, rfl, _⟩
    · exact ⟨_, _, rfl, fun hx => absurd hx (by simp)⟩
    · exact ⟨_, _, rfl, fun hx => absurd hx (by simp)⟩
theorem laws_eqF (v v' : Value) (xs : List Nat) (hn : xs.length ≤ 1048576) (w : World) (B B' : Nat) (h : OwF w B v xs) (h' : OwF w B' v' xs) : Calls Tryd.prog 20 #[v, v'] w (RetQ (.bool true) w) := by
  obtain ⟨A, cap, rfl, hF⟩ := owF_fl h
  obtain ⟨A', cap', rfl, hF'⟩ := owF_fl h'
  exact laws_eqFloat32S A A' cap cap' xs xs hn (SimL.refl _) w _ _ hF hF'
theorem owF_form {W : World} {B : Nat} {v : Value} {xs : List Nat} (h : OwF W B v xs) : (xs = [] ∧ ∃ A cap, v = .slice A 0 cap) ∨
    ∃ g cap, 0 < xs.length ∧ v = .slice (some ⟨g, 0, none⟩) xs.length cap ∧ B ≤ g ∧ g < W.heap.size ∧ (∀ i, i < xs.length → W.cell? ⟨g, i, none⟩ = some (.float .f32 (nth xs i))) ∧ (∀ i, W.frozen? ⟨g, i, none⟩ = false) := by
  by_cases hx : 0 < xs.length
  · obtain ⟨_, ⟨_, h0⟩ | ⟨g, cap, cur, rfl, hB, hg, _⟩⟩ := id h
    · omega
    · refine .inr ⟨g, cap, hx, rfl, hB, (Array.getElem?_eq_some_iff.1 hg).1, fun i hi => ?_, fun i => World.ownsRow.frozenAt h i⟩
      rw [World.ownsRow.cellAt h i (by omega)]
      simp [nth, List.getD, hi]
  · have h0 : xs = [] := List.eq_nil_of_length_eq_zero (by omega)
    subst h0
    refine .inl ⟨rfl, ?_⟩
    rcases h.2 with ⟨rfl, _⟩ | ⟨g, cap, cur, rfl, _⟩
    · exact ⟨_, _, rfl⟩
    · exact ⟨_, _, rfl⟩
def mkF (i : Nat) : Nat := Go.floatOfInt .f32 ((1 : Int) + (i : Int))
def marksF (n : Nat) : List Nat := (List.range n).map mkF
theorem marksF_length (n : Nat) : (marksF n).length = n := by simp [marksF]
theorem marksF_nth {n i : Nat} (h : i < n) : nth (marksF n) i = mkF i := by simp [nth, marksF, List.getD, h]
theorem mkF_num (i : Int) : (FloatKind.f32.format.order (Go.floatOfInt .f32 i) (Go.floatOfInt .f32 i) != some .eq) = false := by
  rw [self_neq]; exact isN_encode .f32 (.number (i < 0) i.natAbs 0) rfl
/-- marked up to k. -/
def mixedF (xs : List Nat) (k : Nat) : List Nat := marksF k ++ xs.drop k
theorem mixedF_length {xs : List Nat} {k : Nat} (h : k ≤ xs.length) : (mixedF xs k).length = xs.length := by simp [mixedF, marksF_length]; omega
theorem mixedF_step {xs : List Nat} {k : Nat} (h : k < xs.length) : (mixedF xs k).set k (mkF k) = mixedF xs (k + 1) := by
  have e : xs.drop k = xs[k] :: xs.drop (k + 1) := List.drop_eq_getElem_cons h
  have e2 : marksF (k + 1) = marksF k ++ [mkF k] := by simp [marksF, List.range_succ]
  unfold mixedF
  rw [e2, List.set_append_right _ _ (by rw [marksF_length]; omega), marksF_length, Nat.sub_self, e, List.append_assoc]
  rfl
set_option maxHeartbeats 1000000 in
theorem laws_markF (v : Value) (xs : List Nat) (hn : xs.length ≤ 1048576) (w : World) (B : Nat) (h : OwF w B v xs) :
    Calls Tryd.prog 21 #[v, .int .i64 1] w (fun e w' => e = .returned (.int .i64 (1 + xs.length)) ∧ OwF w' B v (marksF xs.length) ∧ w.grownBy w' v.ownBlock) := by
  rcases owF_form h with ⟨h0, A, cap, rfl⟩ | ⟨g, cap, hx, rfl, hB, hg, hc, hf⟩
  · subst h0
    have H := Lib.hid h
    clear h
    show Calls Tryd.prog 21 #[.slice A 0 cap, .int .i64 1] w _
    go_enter Tryd.func21, Tryd.ntmps21
    go_wp2
    refine wp_loop_rounds 1 ?_
    rw [rounds_succ]
    go_wp2
    go_ret
    exact ⟨rfl, H.out, World.grownBy.refl _ _⟩
  · have H0 := Lib.hid (show w.ownsRow B 30 1 (.slice (some ⟨g, 0, none⟩) xs.length cap) xs.length ((mixedF xs 0).map (Value.float .f32)) from h)
    clear h hc hf
    go_enter Tryd.func21, Tryd.ntmps21
    go_wp2
    go_loopw [1, 5] (fun q i wr => ∃ k : Nat, k ≤ xs.length ∧ i = .int .i64 k ∧ q = .int .i64 (1 + k) ∧ wr.ownsRow B 30 1 (.slice (some ⟨g, 0, none⟩) xs.length cap) xs.length ((mixedF xs k).map (Value.float .f32)) ∧ w.grownBy wr (some g)) (fun _ i _ => xs.length - (intOf i).toNat)
    case atStart => exact ⟨0, Nat.zero_le _, rfl, rfl, H0.out, World.grownBy.refl _ _⟩
    case round =>
      obtain ⟨k, hk, rfl, rfl, hown, hgr⟩ := hrel
      have HO := Lib.hid hown
      clear hown
      by_cases hlt : k < xs.length
      · have hcx : wr.cell? ⟨g, k, none⟩ = some (.float .f32 ((mixedF xs k)[k]'(by rw [mixedF_length hk]; exact hlt))) := by
          rw [World.ownsRow.cellAt HO.out k (by omega), List.getElem?_map, List.getElem?_eq_getElem (by rw [mixedF_length hk]; exact hlt)]
          rfl
        have hfr := World.ownsRow.frozenAt HO.out k
        have S1 := World.ownsRow.stored HO.out k (.float .f32 (mkF k))
        have S2 := Lib.hid S1.1
        have hk0 : (0 : Int) ≤ (k : Int) := by omega
        have hk1 : (k : Int) < (xs.length : Int) := by omega
        clear S1
        go_wp2
        go_roundw
        case rel => exact ⟨k + 1, by omega, by go_num, by go_num, by rw [← mixedF_step hlt, List.map_set]; exact S2.out, grownBy_set hgr _ _⟩
        case measure => simp [intOf]; omega
      · have hke : k = xs.length := by omega
        subst hke
        go_wp2
        go_ret
        refine ⟨rfl, ?_, hgr⟩
        have e : mixedF xs xs.length = marksF xs.length := by simp [mixedF]
        have := HO.out
        rw [e] at this
        unfold OwF
        rw [marksF_length]
        exact this
set_option maxHeartbeats 1000000 in
theorem laws_heldF (v : Value) (n : Nat) (hn : n ≤ 1048576) (w : World) (B : Nat) (h : OwF w B v (marksF n)) :
    Calls Tryd.prog 22 #[v, .int .i64 1] w (RetQ (.int .i64 (1 + n)) w) := by
  rcases owF_form h with ⟨h0, A, cap, rfl⟩ | ⟨g, cap, hx, rfl, hB, hg, hc, hf⟩
  · have h1 : n = 0 := by have := marksF_length n; rw [h0] at this; simpa using this.symm
    subst h1
    clear h
    go_enter Tryd.func22, Tryd.ntmps22
    go_wp2
    refine wp_loop_rounds 1 ?_
    rw [rounds_succ]
    go_wp2
    go_ret
    exact ⟨rfl, 0, rfl⟩
  · rw [marksF_length] at *
    have HC := Lib.hid hc
    clear h hc hf
    go_enter Tryd.func22, Tryd.ntmps22
    go_wp2
    go_loopw [1, 5] (fun q i wr => ∃ k m : Nat, k ≤ n ∧ i = .int .i64 k ∧ q = .int .i64 (1 + k) ∧ wr = w.drewN m) (fun _ i _ => n - (intOf i).toNat)
    case atStart => exact ⟨0, 0, Nat.zero_le _, rfl, rfl, rfl⟩
    case round =>
      obtain ⟨k, m, hk, rfl, rfl, rfl⟩ := hrel
      by_cases hlt : k < n
      · have hcx : w.cell? ⟨g, k, none⟩ = some (.float .f32 (Go.floatOfInt .f32 ((1 : Int) + (k : Int)))) := by rw [HC.out k hlt, marksF_nth hlt]; rfl
        have hm := mkF_num ((1 : Int) + (k : Int))
        have hk0 : (0 : Int) ≤ (k : Int) := by omega
        have hk1 : (k : Int) < (n : Int) := by omega
        go_wp2
        go_roundw
        case rel => exact ⟨k + 1, _, by omega, by go_num, by go_num, rfl⟩
        case measure => simp [intOf]; omega
      · have hke : k = n := by omega
        subst hke
        go_wp2
        go_ret
        exact ⟨rfl, m, rfl⟩
end Go.Proofs.YtfempadelilpoaaDoor
