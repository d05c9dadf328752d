/- Whether all numbers of a list are finite: the program's finite. -/
import Derived.Test.YtlhgaihfghobmaaSl
namespace Go.Proofs.Ytlhgaihfghobmaa
open Go.ChangeShapes Go.WideShapes Go.ChangeAt Go.RowKit Go.Deep

def FinIx (xs : List Nat) (w : World) (e : Ending) (w' : World) : Prop := ∃ (r : Int) (n : Nat), e = .returned (.int .i64 r) ∧ (decide (0 ≤ r) = !(xs.all finB)) ∧ w' = w.drewN n
theorem all_take (xs : List Nat) (k : Nat) (hk : k < xs.length) : (xs.take (k + 1)).all finB = ((xs.take k).all finB && finB (nth xs k)) := by
  rw [List.take_succ_eq_append_getElem hk, List.all_append]
  simp [nth, List.getD, hk]
theorem all_of_take {xs : List Nat} {k : Nat} (h : (xs.take k).all finB = false) : xs.all finB = false := by
  rw [← List.take_append_drop k xs, List.all_append, h, Bool.false_and]
theorem impl_finite1 (x : Nat) (w : World) : Calls Try.prog 171 #[.float .f32 x] w (RetQ (.bool (!finB x)) w) := by
  go_enter Try.func171, Try.ntmps171
  go_wp2_with (go_at_call 159; refine (impl_IsFinite x _).mono ?_; rintro e w' ⟨rfl, n, rfl⟩)
  go_ret
  exact ⟨rfl, n, rfl⟩
set_option maxHeartbeats 1000000 in
theorem indexFunc_fin (A : Option Addr) (cap : Nat) (xs : List Nat) (hn : xs.length ≤ 1048576) (w : World) (B : Nat) (h : FlAt w B A xs) :
    Calls Try.prog 154 #[.slice A xs.length cap, .func (.func 171) #[] #[]] w (FinIx xs w) := by
  by_cases hx : 0 < xs.length
  · obtain ⟨b, off, rfl, hb, hc⟩ := h hx
    have HC := Lib.hid hc
    clear h hc
    go_enter Try.func154, Try.ntmps154
    go_wp2
    go_loopw [8] (fun i wr => ∃ k n : Nat, k ≤ xs.length ∧ i = .int .i64 k ∧ (xs.take k).all finB = true ∧ wr = w.drewN n) (fun i _ => xs.length - (intOf i).toNat)
    case atStart => exact ⟨0, 0, Nat.zero_le _, rfl, rfl, rfl⟩
    case round =>
      obtain ⟨k, n, hk, rfl, hall, rfl⟩ := hrel
      have HA := Lib.hid hall
      clear hall
      by_cases hlt : k < xs.length
      · have hcx : w.cell? ⟨b, off + k, none⟩ = some (.float .f32 (nth xs k)) := HC.out k hlt
        have hk0 : (0 : Int) ≤ (k : Int) := by omega
        have hk1 : (k : Int) < (xs.length : Int) := by omega
        have HT := Lib.hid (all_take xs k hlt)
        cases hf : finB (nth xs k)
        all_goals
          have hc1 := impl_finite1 (nth xs k)
          rw [hf] at hc1
          have HC1 := Lib.hid hc1
          clear hc1
          go_wp2_with (go_at_call 171; refine (HC1.out _).mono ?_; rintro e w' ⟨rfl, m, rfl⟩)
          first
            | (go_roundw
               case rel => exact ⟨k + 1, _, by omega, by go_num, by rw [HT.out, HA.out, hf]; rfl, rfl⟩
               case measure => simp [intOf]; omega)
            | (go_ret
               exact ⟨_, _, rfl, by rw [decide_eq_true (by omega), all_of_take (k := k + 1) (by rw [HT.out, hf, Bool.and_false])]; rfl, rfl⟩)
      · have hke : k = xs.length := by omega
        subst hke
        go_wp2
        go_ret
        refine ⟨_, _, rfl, ?_, rfl⟩
        have := HA.out
        rw [List.take_length] at this
        rw [this]
        rfl
  · have h0 : xs.length = 0 := by omega
    have hx0 : xs = [] := List.eq_nil_of_length_eq_zero h0
    subst hx0
    go_enter Try.func154, Try.ntmps154
    go_wp2
    refine wp_loop_rounds 1 ?_
    rw [rounds_succ]
    go_wp2
    go_ret
    exact ⟨_, 0, rfl, rfl, rfl⟩
theorem impl_finite (A : Option Addr) (cap : Nat) (xs : List Nat) (hn : xs.length ≤ 1048576) (w : World) (B : Nat) (h : FlAt w B A xs) :
    Calls Try.prog 161 #[.slice A xs.length cap] w (RetQ (.bool (xs.all finB)) w) := by
  go_enter Try.func161, Try.ntmps161
  go_wp2_with (first | (go_at_call 83; go_in) | (go_at_call 154; refine (indexFunc_fin A cap xs hn _ B h).mono ?_; rintro e w' ⟨r, n, rfl, hr, rfl⟩; have HR := Lib.hid hr; clear hr))
  go_ret
  exact retQ_bool (by rw [HR.out, Bool.not_not]) w n
end Go.Proofs.Ytlhgaihfghobmaa
