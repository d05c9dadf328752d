/- Slices of int64: how they read; contracts of toInt64S and eqInt64S; how one that came in is opened. -/
import Derived.Test.YtfempadelilpoaaDoorTd
import Derived.Deep.OwnRows
import Derived.Deep.QuietTactic
import Derived.BigQuiet
import Derived.Deep.RegionHeld3
import Derived.SizedLaws
namespace Go.Proofs.YtfempadelilpoaaDoor
open Go.ChangeShapes Go.WideShapes Go.ChangeAt Go.RowKit Go.Deep

/-- the i-th number. -/
def nthI (xs : List Int) (i : Nat) : Int := xs.getD i 0
/-- a slice at A, below block B, that reads as the numbers xs. -/
def IlAt (W : World) (B : Nat) (A : Option Addr) (xs : List Int) : Prop :=
  0 < xs.length → ∃ b off, A = some ⟨b, off, none⟩ ∧ b < B ∧ ∀ i, i < xs.length → W.cell? ⟨b, off + i, none⟩ = some (.int .i64 (nthI xs i))
theorem IlAt.below {W W' : World} {B : Nat} {A : Option Addr} {xs : List Int} (h : IlAt W B A xs) {C : Nat} (hC : B ≤ C) (hb : Below C W W') : IlAt W' B A xs := fun hx => by
  obtain ⟨b, off, rfl, hlt, hc⟩ := h hx
  exact ⟨b, off, rfl, hlt, fun i hi => (hb.cell (p := ⟨b, off + i, none⟩) (Nat.lt_of_lt_of_le hlt hC)).trans (hc i hi)⟩
theorem IlAt.mono {W : World} {B B' : Nat} {A : Option Addr} {xs : List Int} (h : IlAt W B A xs) (hB : B ≤ B') : IlAt W B' A xs := fun hx => by
  obtain ⟨b, off, rfl, hlt, hc⟩ := h hx
  exact ⟨b, off, rfl, Nat.lt_of_lt_of_le hlt hB, hc⟩
theorem IlAt.drewN {W : World} {B : Nat} {A : Option Addr} {xs : List Int} (h : IlAt W B A xs) (n : Nat) : IlAt (W.drewN n) B A xs := h

def iv (xs : List Int) (i : Nat) : Value := .int .i64 (nthI xs i)
/-- returns a new slice that reads as xs. -/
def RetNewI (xs : List Int) (w : World) (e : Ending) (w' : World) : Prop :=
  ∃ g, e = .returned (.slice (some ⟨g, 0, none⟩) xs.length xs.length) ∧ w.heap.size ≤ g ∧ w'.rowIs g 2 xs.length (iv xs) ∧ Below w.heap.size w w'
theorem IlAt.of_row {W : World} {g : Nat} {t : TypeId} {xs : List Int} (h : W.rowIs g t xs.length (iv xs)) : IlAt W W.heap.size (some ⟨g, 0, none⟩) xs := fun _ =>
  ⟨g, 0, rfl, h.lt, fun i hi => by rw [Nat.zero_add]; exact h.cell hi⟩
theorem info64 : (Tryd.prog.info? 2).map (fun i => (i.zero, i.size, i.bytes)) = some (some (.int .i64 0), 1, 8) := by kernel_rfl
set_option maxHeartbeats 400000 in
theorem laws_toInt64S (A : Option Addr) (cap : Nat) (xs : List Int) (hn : xs.length ≤ 1048576) (w : World) (h : IlAt w w.heap.size A xs) :
    Calls Tryd.prog 12 #[.slice A xs.length cap] w (RetNewI xs w) := by
  have hmk := fun (W : World) => run_make_row' (P := Tryd.prog) 24 2 (.int .i64 0) 8 Tryd.underlying24 info64 rfl .i64 .i64 xs.length (by omega) (by omega) W
  by_cases hx : 0 < xs.length
  · obtain ⟨b, off, rfl, hb, hc⟩ := h hx
    have HC := Lib.hid hc
    clear h hc
    go_enter Tryd.func12, Tryd.ntmps12
    go_wp2
    go_loopw [4] (fun i wr => ∃ k : Nat, k ≤ xs.length ∧ i = .int .i64 k ∧ wr.rowIs w.heap.size 2 xs.length (fun j => if j < k then iv xs j else .int .i64 0) ∧ Below w.heap.size w wr) (fun i _ => xs.length - (intOf i).toNat)
    case atStart => exact ⟨0, Nat.zero_le _, rfl, (World.rowIs_made _ _ _ _).congr (fun i _ => by simp), (by repeat' (first | with_reducible exact Below.refl _ _ | with_reducible assumption | with_reducible refine below_dn ?_ _ | with_reducible refine Below.drew ?_ | with_reducible refine below_step ?_ (by assumption) | with_reducible refine Below.setCell ?_ ?_ _ | with_reducible refine Below.alloc ?_ ?_ _ | with_reducible exact Nat.le_refl _ | (simp; done) | (simp; omega) | omega))⟩
    case round =>
      obtain ⟨k, hk, rfl, hrow, hB⟩ := hrel
      have Hrow := Lib.hid hrow
      by_cases hlt : k < xs.length
      · have hcx : wr.cell? ⟨b, off + k, none⟩ = some (.int .i64 (nthI xs k)) := (hB.cell (p := ⟨b, off + k, none⟩) hb).trans (HC.out k hlt)
        have hcell := hrow.cell hlt
        rw [if_neg (Nat.lt_irrefl k)] at hcell
        have hfr := hrow.frozen k
        clear hrow
        go_wp2
        go_roundw
        case rel =>
          refine ⟨k + 1, by omega, by go_num, (Hrow.out.set k _).congr (fun j _ => ?_), hB.setCell (Nat.le_refl _) _⟩
          by_cases hj : j = k
          · subst hj
            rw [if_pos rfl, if_pos (Nat.lt_succ_self _)]
            first | rfl | (simp [iv]; done)
          · rw [if_neg hj]
            by_cases hjk : j < k
            · rw [if_pos hjk, if_pos (by omega)]
            · rw [if_neg hjk, if_neg (by omega)]
        case measure => simp [intOf]; omega
      · clear hrow
        have hke : k = xs.length := by omega
        go_wp2
        go_ret
        exact ⟨w.heap.size, rfl, Nat.le_refl _, Hrow.out.congr (fun j hj => if_pos (by omega)), hB⟩
  · have h0 : xs.length = 0 := by omega
    have hx0 : xs = [] := List.eq_nil_of_length_eq_zero h0
    subst hx0
    clear h hx hn
    have hmk0 : ∀ W : World, (Instr.makeSlice 24 (.int .i64 0) (.int .i64 0)).run Tryd.prog W = .ok (.slice (some ⟨W.heap.size, 0, none⟩) 0 0) (W.alloc (.cells (madeCells #[.int .i64 0] 0) 2)) := hmk
    clear hmk
    show Calls Tryd.prog 12 #[.slice A 0 cap] w (RetNewI [] w)
    go_enter Tryd.func12, Tryd.ntmps12
    go_wp2
    refine wp_loop_rounds 1 ?_
    rw [rounds_succ]
    go_wp2
    go_ret
    exact ⟨w.heap.size, rfl, Nat.le_refl _, (World.rowIs_made _ _ _ _).congr (fun i hi => absurd hi (by simp)), (by repeat' (first | with_reducible exact Below.refl _ _ | with_reducible assumption | with_reducible refine below_dn ?_ _ | with_reducible refine Below.drew ?_ | with_reducible refine below_step ?_ (by assumption) | with_reducible refine Below.setCell ?_ ?_ _ | with_reducible refine Below.alloc ?_ ?_ _ | with_reducible exact Nat.le_refl _ | (simp; done) | (simp; omega) | omega))⟩
theorem IlAt.go {w W : World} {A : Option Addr} {xs : List Int} (h : IlAt w w.heap.size A xs) (hB : Below w.heap.size w W) : IlAt W W.heap.size A xs := (h.below (Nat.le_refl _) hB).mono hB.size
theorem addr_form {W : World} {a : Addr} {v : Value} (h : W.cell? a = some v) : a = ⟨a.block, a.off, none⟩ := by
  cases a with
  | mk b o s =>
    cases s with
    | none => rfl
    | some x =>
      unfold World.cell? at h
      split at h
      · simp at h
      · cases h
section
variable {H : Type} {enc : TypeId × Value → H} {P : Program} {w : World}
theorem open_intsL {r : Reach} {b0 : Nat} {t e : TypeId} {v : Value} {d : DataW H} {ps : List MemPlace} (ht : P.underlying t = some (.slice e)) (he : P.underlying e = some (.int .i64)) (hc : P.cellsOf e = 1)
    (hval : Value.okWide P w r b0 t v) (h : DataW.Trod enc P w 0 (fun _ => true) true t v d ps) :
    ∃ (A : Option Addr) (cap : Nat) (xs : List Int), v = .slice A xs.length cap ∧ xs.length ≤ maxLen ∧ IlAt w w.heap.size A xs := by
  obtain ⟨fuel, hf⟩ := h
  have hv : ∃ A n c, v = .slice A n c := by
    cases v <;> simp_all [Value.okWide, Cell.okWide, Cell.ok]
  obtain ⟨A, n, c, rfl⟩ := hv
  rcases open_slice1 ht hc hf with ⟨h0, _⟩ | ⟨a, len, cap, m, k, V, D, Pl, hcs, hb, hl, hm, hmm, _, hi⟩
  · have h0' : A = none ∧ n = 0 ∧ c = 0 := by simpa [Value.cells] using h0
    obtain ⟨rfl, rfl, rfl⟩ := h0'
    exact ⟨none, 0, [], rfl, Nat.zero_le _, fun hx => absurd hx (by simp)⟩
  · have hcs' : A = some a ∧ n = len ∧ c = cap := by simpa [Value.cells] using hcs
    obtain ⟨rfl, rfl, rfl⟩ := hcs'
    have hlm : n ≤ m := by rw [hmm]; split <;> omega
    have hV : ∀ i, i < n → ∃ x : Int, V i = .int .i64 x ∧ True := fun i hin => by
      obtain ⟨z, hz, _, _⟩ := DataW.trod_int he (hi i (by omega)).2
      exact ⟨z, by simpa using hz, trivial⟩
    obtain ⟨f, hf2⟩ := choose_lt hV
    refine ⟨some a, c, (List.range n).map f, by simp, by simp; omega, fun hx => ?_⟩
    · have hn : 0 < n := by simpa using hx
      have hcell0 := (hi 0 (by omega)).1
      have ha : a.add 0 = a := by simp [Addr.add]
      rw [ha] at hcell0
      have hform := addr_form hcell0
      refine ⟨a.block, a.off, by rw [← hform], World.block_lt_of_cell? w _ hcell0, fun i hil => ?_⟩
      have hil' : i < n := by simpa using hil
      have hci := (hi i (by omega)).1
      rw [(hf2 i hil').1] at hci
      have hadd : a.add i = ⟨a.block, a.off + i, none⟩ := by
        rw [hform]
        unfold Addr.add
        by_cases h0 : i = 0 <;> simp [h0]
      rw [hadd] at hci
      rw [hci]
      simp [nthI, List.getD, hil']
end
set_option maxHeartbeats 1000000 in
theorem laws_eqInt64S (A A' : Option Addr) (cap cap' : Nat) (xs : List Int) (hn : xs.length ≤ 1048576) (w : World) (B B' : Nat) (h : IlAt w B A xs) (h' : IlAt w B' A' xs) :
    Calls Tryd.prog 14 #[.slice A xs.length cap, .slice A' xs.length cap'] w (RetQ (.bool true) w) := by
  by_cases hx : 0 < xs.length
  · obtain ⟨g, o, rfl, hg, hc⟩ := h hx
    obtain ⟨g', o', rfl, hg', hc'⟩ := h' hx
    have HC := Lib.hid hc
    have HC' := Lib.hid hc'
    have hneq : ((xs.length : Int) != (xs.length : Int)) = false := by simp
    clear h h' hc hc'
    go_enter Tryd.func14, Tryd.ntmps14
    go_wp2
    go_loopw [5] (fun i wr => ∃ k n : Nat, k ≤ xs.length ∧ i = .int .i64 k ∧ wr = w.drewN n) (fun i _ => xs.length - (intOf i).toNat)
    case atStart => exact ⟨0, 0, Nat.zero_le _, rfl, rfl⟩
    case round =>
      obtain ⟨k, n, hk, rfl, rfl⟩ := hrel
      by_cases hlt : k < xs.length
      · have hcx : w.cell? ⟨g, o + k, none⟩ = some (.int .i64 (nthI xs k)) := HC.out k hlt
        have hcy : w.cell? ⟨g', o' + k, none⟩ = some (.int .i64 (nthI xs k)) := HC'.out k hlt
        have hk0 : (0 : Int) ≤ (k : Int) := by omega
        have hk1 : (k : Int) < (xs.length : Int) := by omega
        go_wp2
        go_quiet (fail)
        go_wp2
        go_roundw
        case rel => exact ⟨k + 1, _, by omega, by go_num, rfl⟩
        case measure => simp [intOf]; omega
      · go_wp2
        go_ret
        exact ⟨rfl, n, rfl⟩
  · have h0 : xs = [] := List.eq_nil_of_length_eq_zero (by omega)
    subst h0
    clear h h' hx hn
    show Calls Tryd.prog 14 #[.slice A 0 cap, .slice A' 0 cap'] w (RetQ (.bool true) w)
    go_enter Tryd.func14, Tryd.ntmps14
    go_wp2
    refine wp_loop_rounds 1 ?_
    rw [rounds_succ]
    go_wp2
    go_ret
    exact ⟨rfl, 0, rfl⟩
end Go.Proofs.YtfempadelilpoaaDoor
