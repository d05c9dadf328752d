/- Which chains are valid: the program. -/
import Derived.Test.YtlhgaihfghobmaaCj
namespace Go.Proofs.Ytlhgaihfghobmaa
open Go.ChangeShapes Go.WideShapes Go.ChangeAt Go.RowKit Go.Deep

/-- an index that is not negative just where one of the first n is not f. -/
def IxB (n : Nat) (f : Nat → Bool) (w : World) (e : Ending) (w' : World) : Prop := ∃ r : Int, e = .returned (.int .i64 r) ∧ (decide (0 ≤ r) = !allB n f) ∧ Below w.heap.size w w'
theorem not_all {n k : Nat} {f : Nat → Bool} (hk : k < n) (h : f k = false) : (!allB n f) = true := by rw [allB_false h hk]; rfl
theorem nn (k : Nat) : decide ((0 : Int) ≤ (k : Int)) = true := decide_eq_true (by omega)
set_option maxHeartbeats 1000000 in
theorem indexFunc_vec (A : Option Addr) (n c : Nat) (p : Nat → V3) (hn : n ≤ 1048576) (w : World) (h : In w w.heap.size 3 A n (vc p)) :
    Calls Try.prog 153 #[.slice A n c, .func (.func 82) #[] #[]] w (IxB n (fun i => finV (p i)) w) := by
  have H := Lib.hid h
  clear h
  go_enter Try.func153, Try.ntmps153
  go_wp2
  go_loopw [8] (fun i wr => ∃ k : Nat, k ≤ n ∧ i = .int .i64 k ∧ allB k (fun i => finV (p i)) = true ∧ Below w.heap.size w wr) (fun i _ => n - (intOf i).toNat)
  case atStart => exact ⟨0, Nat.zero_le _, rfl, rfl, (by repeat' (first | with_reducible exact Below.refl _ _ | with_reducible assumption | with_reducible refine below_dn ?_ _ | with_reducible refine Below.drew ?_ | with_reducible refine below_step ?_ (by assumption) | with_reducible refine Below.setCell ?_ ?_ _ | with_reducible refine Below.alloc ?_ ?_ _ | with_reducible exact Nat.le_refl _ | (simp; done) | (simp; omega) | omega))⟩
  case round =>
    obtain ⟨k, hk, rfl, hall, hB⟩ := hrel
    have HA := Lib.hid hall
    have HB := Lib.hid hB
    by_cases hlt : k < n
    · obtain ⟨b, off, rfl, hb, d0, d1, d2⟩ := (H.out.below (Nat.le_refl _) hB).at3 hlt
      rw [vc0] at d0
      rw [vc1] at d1
      rw [vc2] at d2
      have hk0 : (0 : Int) ≤ (k : Int) := by omega
      have hk1 : (k : Int) < (n : Int) := by omega
      have HT := Lib.hid (allB_succ k (fun i => finV (p i)))
      clear hB hall
      cases hf : finV (p k)
      all_goals
        have hc := impl_badVector (p k).x (p k).y (p k).z
        have hf' : finV ⟨(p k).x, (p k).y, (p k).z⟩ = _ := hf
        rw [hf'] at hc
        have HC := Lib.hid hc
        have HF := Lib.hid hf
        clear hc hf hf'
        go_wp2_with (go_at_call 82; refine (HC.out _).mono ?_; rintro e w1 ⟨rfl, hb1⟩; have HB1 := Lib.hid hb1; clear hb1)
        first
          | (go_roundw
             case rel => exact ⟨k + 1, by omega, by go_num, by rw [HT.out, HA.out, HF.out]; rfl, below_step HB.out HB1.out⟩
             case measure => simp [intOf]; omega)
          | (go_ret
             exact ⟨_, rfl, (nn k).trans (not_all hlt HF.out).symm, below_step HB.out HB1.out⟩)
    · have hke : k = n := by omega
      subst hke
      clear hB hall
      go_wp2
      go_ret
      exact ⟨_, rfl, by rw [HA.out]; rfl, HB.out⟩
set_option maxHeartbeats 1000000 in
theorem indexFunc_lvl (A : Option Addr) (n c : Nat) (q : Nat → Nat) (hn : n ≤ 1048576) (w : World) (h : In w w.heap.size 1 A n (fc q)) :
    Calls Try.prog 154 #[.slice A n c, .func (.func 84) #[] #[]] w (IxB n (fun i => lvl (q i)) w) := by
  have H := Lib.hid h
  clear h
  go_enter Try.func154, Try.ntmps154
  go_wp2
  go_loopw [8] (fun i wr => ∃ k : Nat, k ≤ n ∧ i = .int .i64 k ∧ allB k (fun i => lvl (q i)) = true ∧ Below w.heap.size w wr) (fun i _ => n - (intOf i).toNat)
  case atStart => exact ⟨0, Nat.zero_le _, rfl, rfl, (by repeat' (first | with_reducible exact Below.refl _ _ | with_reducible assumption | with_reducible refine below_dn ?_ _ | with_reducible refine Below.drew ?_ | with_reducible refine below_step ?_ (by assumption) | with_reducible refine Below.setCell ?_ ?_ _ | with_reducible refine Below.alloc ?_ ?_ _ | with_reducible exact Nat.le_refl _ | (simp; done) | (simp; omega) | omega))⟩
  case round =>
    obtain ⟨k, hk, rfl, hall, hB⟩ := hrel
    have HA := Lib.hid hall
    have HB := Lib.hid hB
    by_cases hlt : k < n
    · obtain ⟨b, off, rfl, hb, hc⟩ := (H.out.below (Nat.le_refl _) hB) (by omega)
      have d0 := hc k (by omega)
      unfold fc at d0
      have hk0 : (0 : Int) ≤ (k : Int) := by omega
      have hk1 : (k : Int) < (n : Int) := by omega
      have HT := Lib.hid (allB_succ k (fun i => lvl (q i)))
      clear hB hall hc
      cases hf : lvl (q k)
      all_goals
        have hc := impl_badLevel (q k)
        rw [hf] at hc
        have HC := Lib.hid hc
        have HF := Lib.hid hf
        clear hc hf
        go_wp2_with (go_at_call 84; refine (HC.out _).mono ?_; rintro e w1 ⟨rfl, m1, rfl⟩)
        first
          | (go_roundw
             case rel => exact ⟨k + 1, by omega, by go_num, by rw [HT.out, HA.out, HF.out]; rfl, below_dn HB.out _⟩
             case measure => simp [intOf]; omega)
          | (go_ret
             exact ⟨_, rfl, (nn k).trans (not_all hlt HF.out).symm, below_dn HB.out _⟩)
    · have hke : k = n := by omega
      subst hke
      clear hB hall
      go_wp2
      go_ret
      exact ⟨_, rfl, by rw [HA.out]; rfl, HB.out⟩
theorem impl_rodOk (a : Nat) (A1 : Option Addr) (n c1 : Nat) (ra rb : Int) (l : Nat) (hn : n ≤ 1048576) (w : World) (h : w.cell? ⟨a, 0, none⟩ = some (.slice A1 n c1)) (ha : a < w.heap.size) :
    Calls Try.prog 87 #[.pointer (some ⟨a, 0, none⟩), .agg #[.int .i64 ra, .int .i64 rb, .float .f32 l]] w (RetV (.bool (rdB n ⟨ra, rb, l⟩)) w) := by
  have hv : rdB n ⟨ra, rb, l⟩ = (inI ra 0 ((n : Int) - 1) && inI rb 0 ((n : Int) - 1) && !(ra == rb) && lvl l) := rfl
  rw [hv]
  have hk2 : (n : Int) ≤ 1048576 := by omega
  have hk3 : (0 : Int) ≤ (n : Int) := by omega
  cases q1 : inI ra 0 ((n : Int) - 1) <;> cases q2 : inI rb 0 ((n : Int) - 1) <;> cases q3 : (ra == rb) <;> cases q4 : lvl l
  all_goals
    have q5 : (ra != rb) = !(ra == rb) := rfl
    rw [q3] at q5
    go_enter Try.func87, Try.ntmps87
    go_wp2_with (first | (go_at_call 107; refine (impl_in _ _ _ _).mono ?_; rintro e w1 ⟨rfl, n1, rfl⟩) | (go_at_call 155; refine (impl_levelOk _ _).mono ?_; rintro e w1 ⟨rfl, nq, rfl⟩))
    go_ret
    exact ⟨rfl, (by repeat' (first | with_reducible exact Below.refl _ _ | with_reducible assumption | with_reducible refine below_dn ?_ _ | with_reducible refine Below.drew ?_ | with_reducible refine below_step ?_ (by assumption) | with_reducible refine Below.setCell ?_ ?_ _ | with_reducible refine Below.alloc ?_ ?_ _ | with_reducible exact Nat.le_refl _ | (simp; done) | (simp; omega) | omega))⟩
end Go.Proofs.Ytlhgaihfghobmaa
