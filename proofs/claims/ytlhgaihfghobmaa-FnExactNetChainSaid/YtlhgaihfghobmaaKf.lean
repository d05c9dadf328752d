/- How a slice of float32 that came in is opened. -/
import Derived.Test.YtlhgaihfghobmaaSl
import Derived.SizedLaws
namespace Go.Proofs.Ytlhgaihfghobmaa
open Go.ChangeShapes Go.WideShapes Go.ChangeAt Go.RowKit Go.Deep

theorem FlAt.go {w W : World} {A : Option Addr} {xs : List Nat} (h : FlAt w w.heap.size A xs) (hB : Below w.heap.size w W) : FlAt W W.heap.size A xs := (h.below (Nat.le_refl _) hB).mono hB.size
theorem addr_form {W : World} {a : Addr} {v : Value} (h : W.cell? a = some v) : a = ⟨a.block, a.off, none⟩ := by
  cases a with
  | mk b o s =>
    cases s with
    | none => rfl
    | some x =>
      unfold World.cell? at h
      split at h
      · simp at h
      · cases h
section
variable {H : Type} {enc : TypeId × Value → H} {P : Program} {w : World}
theorem open_floats {r : Reach} {b0 : Nat} {t e : TypeId} {v : Value} {d : DataW H} {ps : List MemPlace} (ht : P.underlying t = some (.slice e)) (he : P.underlying e = some (.float .f32)) (hc : P.cellsOf e = 1)
    (hval : Value.okWide P w r b0 t v) (h : DataW.Trod enc P w 0 (fun _ => true) true t v d ps) :
    ∃ (A : Option Addr) (cap : Nat) (xs : List Nat), v = .slice A xs.length cap ∧ xs.length ≤ maxLen ∧ FlAt w w.heap.size A xs ∧ ∀ x ∈ xs, x < 4294967296 := by
  obtain ⟨fuel, hf⟩ := h
  have hv : ∃ A n c, v = .slice A n c := by
    cases v <;> simp_all [Value.okWide, Cell.okWide, Cell.ok]
  obtain ⟨A, n, c, rfl⟩ := hv
  rcases open_slice1 ht hc hf with ⟨h0, _⟩ | ⟨a, len, cap, m, k, V, D, Pl, hcs, hb, hl, hm, hmm, _, hi⟩
  · have h0' : A = none ∧ n = 0 ∧ c = 0 := by simpa [Value.cells] using h0
    obtain ⟨rfl, rfl, rfl⟩ := h0'
    exact ⟨none, 0, [], rfl, Nat.zero_le _, fun hx => absurd hx (by simp), by simp⟩
  · have hcs' : A = some a ∧ n = len ∧ c = cap := by simpa [Value.cells] using hcs
    obtain ⟨rfl, rfl, rfl⟩ := hcs'
    have hlm : n ≤ m := by rw [hmm]; split <;> omega
    have hV : ∀ i, i < n → ∃ x, V i = .float .f32 x ∧ x < 4294967296 := fun i hin => by
      obtain ⟨b, hb1, hb2⟩ := trod_float he (hi i (by omega)).2
      exact ⟨b, hb1, f32_lt hb2⟩
    obtain ⟨f, hf2⟩ := choose_lt hV
    refine ⟨some a, c, (List.range n).map f, by simp, by simp; omega, fun hx => ?_, fun x hx => ?_⟩
    · have hn : 0 < n := by simpa using hx
      have hcell0 := (hi 0 (by omega)).1
      have ha : a.add 0 = a := by simp [Addr.add]
      rw [ha] at hcell0
      have hform := addr_form hcell0
      refine ⟨a.block, a.off, by rw [← hform], World.block_lt_of_cell? w _ hcell0, fun i hil => ?_⟩
      have hil' : i < n := by simpa using hil
      have hci := (hi i (by omega)).1
      rw [(hf2 i hil').1] at hci
      have hadd : a.add i = ⟨a.block, a.off + i, none⟩ := by
        rw [hform]
        unfold Addr.add
        by_cases h0 : i = 0 <;> simp [h0]
      rw [hadd] at hci
      rw [hci]
      simp [nth, List.getD, hil']
    · simp only [List.mem_map, List.mem_range] at hx
      obtain ⟨i, hin, rfl⟩ := hx
      exact (hf2 i hin).2
end
end Go.Proofs.Ytlhgaihfghobmaa
