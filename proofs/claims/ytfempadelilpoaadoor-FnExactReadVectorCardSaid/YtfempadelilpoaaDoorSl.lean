/- Slices of float32: how they read; contracts of toFloat32S and eqFloat32S; sums. -/
import Derived.Test.YtfempadelilpoaaDoorW3
import Derived.Deep.OwnRows
import Derived.Deep.QuietTactic
import Derived.BigQuiet
import Derived.Deep.RegionHeld3
namespace Go.Proofs.YtfempadelilpoaaDoor
open Go.ChangeShapes Go.WideShapes Go.ChangeAt Go.RowKit Go.Deep

/-- the i-th number. -/
def nth (xs : List Nat) (i : Nat) : Nat := xs.getD i 0
/-- a slice at A, below block B, that reads as the numbers xs. -/
def FlAt (W : World) (B : Nat) (A : Option Addr) (xs : List Nat) : Prop :=
  0 < xs.length → ∃ b off, A = some ⟨b, off, none⟩ ∧ b < B ∧ ∀ i, i < xs.length → W.cell? ⟨b, off + i, none⟩ = some (.float .f32 (nth xs i))
theorem FlAt.below {W W' : World} {B : Nat} {A : Option Addr} {xs : List Nat} (h : FlAt W B A xs) {C : Nat} (hC : B ≤ C) (hb : Below C W W') : FlAt W' B A xs := fun hx => by
  obtain ⟨b, off, rfl, hlt, hc⟩ := h hx
  exact ⟨b, off, rfl, hlt, fun i hi => (hb.cell (p := ⟨b, off + i, none⟩) (Nat.lt_of_lt_of_le hlt hC)).trans (hc i hi)⟩
theorem FlAt.mono {W : World} {B B' : Nat} {A : Option Addr} {xs : List Nat} (h : FlAt W B A xs) (hB : B ≤ B') : FlAt W B' A xs := fun hx => by
  obtain ⟨b, off, rfl, hlt, hc⟩ := h hx
  exact ⟨b, off, rfl, Nat.lt_of_lt_of_le hlt hB, hc⟩
theorem FlAt.drewN {W : World} {B : Nat} {A : Option Addr} {xs : List Nat} (h : FlAt W B A xs) (n : Nat) : FlAt (W.drewN n) B A xs := h

def fv (xs : List Nat) (i : Nat) : Value := .float .f32 (nth xs i)
/-- returns a new slice that reads as xs. -/
def RetNewF (xs : List Nat) (w : World) (e : Ending) (w' : World) : Prop :=
  ∃ g, e = .returned (.slice (some ⟨g, 0, none⟩) xs.length xs.length) ∧ w.heap.size ≤ g ∧ w'.rowIs g 30 xs.length (fv xs) ∧ Below w.heap.size w w'
theorem FlAt.of_row {W : World} {g : Nat} {t : TypeId} {xs : List Nat} (h : W.rowIs g t xs.length (fv xs)) : FlAt W W.heap.size (some ⟨g, 0, none⟩) xs := fun _ =>
  ⟨g, 0, rfl, h.lt, fun i hi => by rw [Nat.zero_add]; exact h.cell hi⟩
theorem info32 : (Tryd.prog.info? 30).map (fun i => (i.zero, i.size, i.bytes)) = some (some (.float .f32 0), 1, 4) := by kernel_rfl


/-- two lists of numbers, the same up to the choice of NaNs. -/
def SimL (xs ys : List Nat) : Prop := xs.length = ys.length ∧ ∀ i, i < xs.length → Sim .f32 (nth xs i) (nth ys i)
theorem SimL.refl (xs : List Nat) : SimL xs xs := ⟨rfl, fun _ _ => Sim.refl _ _⟩
theorem quiet_ret {P : Program} {f : FuncId} {args : Array Value} {w : World} {n : Nat} {v : Value} (h : Calls P f args (w.drewN n) (RetQ v (w.drewN n))) :
    Calls P f args (w.drewN n) fun e w'' => e = .returned v ∧ ∃ m, w'' = w.drewN m :=
  h.mono fun _ _ ⟨he, m, hm⟩ => ⟨he, n + m, by rw [hm, World.drewN_drewN]⟩

set_option maxHeartbeats 1000000 in
theorem laws_eqFloat32S (A A' : Option Addr) (cap cap' : Nat) (xs ys : List Nat) (hn : xs.length ≤ 1048576) (hs : SimL xs ys) (w : World) (B B' : Nat) (h : FlAt w B A xs) (h' : FlAt w B' A' ys) :
    Calls Tryd.prog 20 #[.slice A xs.length cap, .slice A' ys.length cap'] w (RetQ (.bool true) w) := by
  obtain ⟨hl, hs⟩ := hs
  by_cases hx : 0 < xs.length
  · obtain ⟨b, off, rfl, hb, hc⟩ := h hx
    obtain ⟨b', off', rfl, hb', hc'⟩ := h' (by omega)
    have HC := Lib.hid hc
    have HC' := Lib.hid hc'
    have HS := Lib.hid hs
    rw [← hl] at *
    have hneq : ((xs.length : Int) != (xs.length : Int)) = false := by simp
    clear h hc h' hc' hs
    go_enter Tryd.func20, Tryd.ntmps20
    go_wp2
    go_loopw [5] (fun i wr => ∃ k n : Nat, k ≤ xs.length ∧ i = .int .i64 k ∧ wr = w.drewN n) (fun i _ => xs.length - (intOf i).toNat)
    case atStart => exact ⟨0, 0, Nat.zero_le _, rfl, rfl⟩
    case round =>
      obtain ⟨k, n, hk, rfl, rfl⟩ := hrel
      by_cases hlt : k < xs.length
      · have hcx : w.cell? ⟨b, off + k, none⟩ = some (.float .f32 (nth xs k)) := HC.out k hlt
        have hcy : w.cell? ⟨b', off' + k, none⟩ = some (.float .f32 (nth ys k)) := HC'.out k (by omega)
        have hsim := Lib.hid (HS.out k hlt)
        have hk0 : (0 : Int) ≤ (k : Int) := by omega
        have hk1 : (k : Int) < (xs.length : Int) := by omega
        go_wp2
        go_region_with (go_at_call 36; refine (laws_sameFloat _ _ (widen_sim hsim.out _ _ _ _) _).mono ?_; rintro e w' ⟨rfl, m, rfl⟩)
        all_goals
          go_wp2
          go_roundw
          case rel => exact ⟨k + 1, _, by omega, by go_num, rfl⟩
          case measure => simp [intOf]; omega
      · go_wp2
        go_ret
        exact ⟨rfl, n, rfl⟩
  · have h0 : xs.length = 0 := by omega
    have h1 : ys.length = 0 := by omega
    rw [h0, h1]
    go_enter Tryd.func20, Tryd.ntmps20
    go_wp2
    refine wp_loop_rounds 1 ?_
    rw [rounds_succ]
    go_wp2
    go_ret
    exact ⟨rfl, 0, rfl⟩
end Go.Proofs.YtfempadelilpoaaDoor
