/- Contracts of the sums over slices of float32, program and reference. -/
import Derived.Test.YtlhgaihfghobmaaSl
namespace Go.Proofs.Ytlhgaihfghobmaa
open Go.ChangeShapes Go.WideShapes Go.ChangeAt Go.RowKit Go.Deep

def F.sum (xs : List Nat) : Nat := xs.foldl F.add 0
theorem take_succ_getD {xs : List Nat} {k : Nat} (h : k < xs.length) : xs.take (k + 1) = xs.take k ++ [nth xs k] := by
  rw [List.take_succ_eq_append_getElem h]
  simp [nth, List.getD, List.getElem?_eq_getElem h]
theorem sum_step {xs : List Nat} {k : Nat} (h : k < xs.length) : F.sum (xs.take (k + 1)) = F.add (F.sum (xs.take k)) (nth xs k) := by
  unfold F.sum
  rw [take_succ_getD h, List.foldl_append]
  rfl

set_option maxHeartbeats 400000 in
theorem impl_sum (A : Option Addr) (cap : Nat) (xs : List Nat) (hn : xs.length ≤ 1048576) (w : World) (B : Nat) (h : FlAt w B A xs) :
    Calls Try.prog 99 #[.slice A xs.length cap] w (RetFQ .f32 (F.sum xs) w) := by
  by_cases hx : 0 < xs.length
  · obtain ⟨b, off, rfl, hb, hc⟩ := h hx
    have HC := Lib.hid hc
    clear h hc
    go_enter Try.func99, Try.ntmps99
    go_wp2
    go_loopw [3, 5, 8] (fun s _ i wr => ∃ k r n : Nat, k ≤ xs.length ∧ i = .int .i64 k ∧ s = .float .f32 r ∧ r < 4294967296 ∧ Sim .f32 r (F.sum (xs.take k)) ∧ wr = w.drewN n) (fun _ _ i _ => xs.length - (intOf i).toNat)
    case atStart => exact ⟨0, 0, 0, Nat.zero_le _, rfl, rfl, by omega, Sim.refl _ _, rfl⟩
    case round =>
      obtain ⟨k, r, n, hk, rfl, rfl, hr, hs, rfl⟩ := hrel
      have HS := Lib.hid hs
      clear hs
      by_cases hlt : k < xs.length
      · have hcx : w.cell? ⟨b, off + k, none⟩ = some (.float .f32 (nth xs k)) := HC.out k hlt
        go_wp2
        go_roundw
        case rel => exact ⟨k + 1, _, _, by omega, by go_num, rfl, opV_lt32 _ _ _ _ _, by rw [sum_step hlt]; first | exact add_sim HS.out (Sim.refl _ _) _ _ | (simpa using add_sim HS.out (Sim.refl _ (nth xs k)) _ _), rfl⟩
        case measure => simp [intOf]; omega
      · have hke : k = xs.length := by omega
        have HS' := Lib.hid (show Sim .f32 r (F.sum xs) by have := HS.out; rw [hke, List.take_length] at this; exact this)
        clear HS hke
        go_wp2
        go_ret
        exact retFQ hr HS'.out w n
  · have h0 : xs = [] := List.eq_nil_of_length_eq_zero (by omega)
    subst h0
    clear h hx hn
    show Calls Try.prog 99 #[.slice A 0 cap] w (RetFQ .f32 (F.sum []) w)
    go_enter Try.func99, Try.ntmps99
    go_wp2
    refine wp_loop_rounds 1 ?_
    rw [rounds_succ]
    go_wp2
    go_ret
    exact retFQ0 (by decide) (Sim.refl _ _) w

/-! ### products -/
def F.dot (xs ys : List Nat) : Nat → Nat
  | 0 => 0
  | k + 1 => F.add (F.dot xs ys k) (F.mul (nth xs k) (nth ys k))

/-! ### the exported functions -/
def few (xs : List Nat) : Bool := decide (xs.length ≤ 256)
def F.sumV (xs : List Nat) : Nat := if xs.length ≤ 256 then F.sum xs else 0
theorem retFB {r v : Nat} {a b : Bool} (hl : r < 2 ^ 32) (h : Sim .f32 r v) (g : a = b) (w : World) (n : Nat) : RetFB .f32 v b w (.returned (.tuple #[.float .f32 r, .bool a])) (w.drewN n) := ⟨r, n, by rw [g], hl, h, rfl⟩
theorem retFB0 {r v : Nat} {a b : Bool} (hl : r < 2 ^ 32) (h : Sim .f32 r v) (g : a = b) (w : World) : RetFB .f32 v b w (.returned (.tuple #[.float .f32 r, .bool a])) w := ⟨r, 0, by rw [g], hl, h, rfl⟩
def few2 (xs ys : List Nat) : Bool := decide (xs.length ≤ 256 ∧ xs.length = ys.length)
def F.dotV (xs ys : List Nat) : Nat := if xs.length ≤ 256 ∧ xs.length = ys.length then F.dot xs ys xs.length else 0
end Go.Proofs.Ytlhgaihfghobmaa
