/- Contracts of the sums over slices of float32, program and reference. -/
import Derived.Test.YtbjnjllegcdlkaaSl
namespace Go.Proofs.Ytbjnjllegcdlkaa
open Go.ChangeShapes Go.WideShapes Go.ChangeAt Go.RowKit Go.Deep

def F.sum (xs : List Nat) : Nat := xs.foldl F.add 0
theorem take_succ_getD {xs : List Nat} {k : Nat} (h : k < xs.length) : xs.take (k + 1) = xs.take k ++ [nth xs k] := by
  rw [List.take_succ_eq_append_getElem h]
  simp [nth, List.getD, List.getElem?_eq_getElem h]
theorem sum_step {xs : List Nat} {k : Nat} (h : k < xs.length) : F.sum (xs.take (k + 1)) = F.add (F.sum (xs.take k)) (nth xs k) := by
  unfold F.sum
  rw [take_succ_getD h, List.foldl_append]
  rfl

set_option maxHeartbeats 400000 in
theorem spec_l01Sum (A : Option Addr) (cap : Nat) (xs : List Nat) (hn : xs.length ≤ 1048576) (w : World) (B : Nat) (h : FlAt w B A xs) :
    Calls Try.prog 61 #[.slice A xs.length cap] w (RetFQ .f32 (F.sum xs) w) := by
  by_cases hx : 0 < xs.length
  · obtain ⟨b, off, rfl, hb, hc⟩ := h hx
    have HC := Lib.hid hc
    clear h hc
    go_enter Try.func61, Try.ntmps61
    go_wp2
    go_loopw [3, 4] (fun s i wr => ∃ k r n : Nat, k ≤ xs.length ∧ i = .int .i64 k ∧ s = .float .f32 r ∧ r < 4294967296 ∧ Sim .f32 r (F.sum (xs.take k)) ∧ wr = w.drewN n) (fun _ i _ => xs.length - (intOf i).toNat)
    case atStart => exact ⟨0, 0, 0, Nat.zero_le _, rfl, rfl, by omega, Sim.refl _ _, rfl⟩
    case round =>
      obtain ⟨k, r, n, hk, rfl, rfl, hr, hs, rfl⟩ := hrel
      have HS := Lib.hid hs
      clear hs
      by_cases hlt : k < xs.length
      · have hcx : w.cell? ⟨b, off + k, none⟩ = some (.float .f32 (nth xs k)) := HC.out k hlt
        go_wp2
        go_roundw
        case rel => exact ⟨k + 1, _, _, by omega, by go_num, rfl, opV_lt32 _ _ _ _ _, by rw [sum_step hlt]; first | exact add_sim HS.out (Sim.refl _ _) _ _ | (simpa using add_sim HS.out (Sim.refl _ (nth xs k)) _ _), rfl⟩
        case measure => simp [intOf]; omega
      · have hke : k = xs.length := by omega
        have HS' := Lib.hid (show Sim .f32 r (F.sum xs) by have := HS.out; rw [hke, List.take_length] at this; exact this)
        clear HS hke
        go_wp2
        go_ret
        exact retFQ hr HS'.out w n
  · have h0 : xs = [] := List.eq_nil_of_length_eq_zero (by omega)
    subst h0
    clear h hx hn
    show Calls Try.prog 61 #[.slice A 0 cap] w (RetFQ .f32 (F.sum []) w)
    go_enter Try.func61, Try.ntmps61
    go_wp2
    refine wp_loop_rounds 1 ?_
    rw [rounds_succ]
    go_wp2
    go_ret
    exact retFQ0 (by decide) (Sim.refl _ _) w
set_option maxHeartbeats 400000 in
theorem impl_sum (A : Option Addr) (cap : Nat) (xs : List Nat) (hn : xs.length ≤ 1048576) (w : World) (B : Nat) (h : FlAt w B A xs) :
    Calls Try.prog 62 #[.slice A xs.length cap] w (RetFQ .f32 (F.sum xs) w) := by
  by_cases hx : 0 < xs.length
  · obtain ⟨b, off, rfl, hb, hc⟩ := h hx
    have HC := Lib.hid hc
    clear h hc
    go_enter Try.func62, Try.ntmps62
    go_wp2
    go_loopw [3, 5, 8] (fun s _ i wr => ∃ k r n : Nat, k ≤ xs.length ∧ i = .int .i64 k ∧ s = .float .f32 r ∧ r < 4294967296 ∧ Sim .f32 r (F.sum (xs.take k)) ∧ wr = w.drewN n) (fun _ _ i _ => xs.length - (intOf i).toNat)
    case atStart => exact ⟨0, 0, 0, Nat.zero_le _, rfl, rfl, by omega, Sim.refl _ _, rfl⟩
    case round =>
      obtain ⟨k, r, n, hk, rfl, rfl, hr, hs, rfl⟩ := hrel
      have HS := Lib.hid hs
      clear hs
      by_cases hlt : k < xs.length
      · have hcx : w.cell? ⟨b, off + k, none⟩ = some (.float .f32 (nth xs k)) := HC.out k hlt
        go_wp2
        go_roundw
        case rel => exact ⟨k + 1, _, _, by omega, by go_num, rfl, opV_lt32 _ _ _ _ _, by rw [sum_step hlt]; first | exact add_sim HS.out (Sim.refl _ _) _ _ | (simpa using add_sim HS.out (Sim.refl _ (nth xs k)) _ _), rfl⟩
        case measure => simp [intOf]; omega
      · have hke : k = xs.length := by omega
        have HS' := Lib.hid (show Sim .f32 r (F.sum xs) by have := HS.out; rw [hke, List.take_length] at this; exact this)
        clear HS hke
        go_wp2
        go_ret
        exact retFQ hr HS'.out w n
  · have h0 : xs = [] := List.eq_nil_of_length_eq_zero (by omega)
    subst h0
    clear h hx hn
    show Calls Try.prog 62 #[.slice A 0 cap] w (RetFQ .f32 (F.sum []) w)
    go_enter Try.func62, Try.ntmps62
    go_wp2
    refine wp_loop_rounds 1 ?_
    rw [rounds_succ]
    go_wp2
    go_ret
    exact retFQ0 (by decide) (Sim.refl _ _) w

/-! ### products -/
def F.dot (xs ys : List Nat) : Nat → Nat
  | 0 => 0
  | k + 1 => F.add (F.dot xs ys k) (F.mul (nth xs k) (nth ys k))
set_option maxHeartbeats 1000000 in
theorem spec_l01Dot (A A' : Option Addr) (cap cap' : Nat) (xs ys : List Nat) (hn : xs.length ≤ 1048576) (hl : xs.length = ys.length) (w : World) (B B' : Nat) (h : FlAt w B A xs) (h' : FlAt w B' A' ys) :
    Calls Try.prog 59 #[.slice A xs.length cap, .slice A' ys.length cap'] w (RetFQ .f32 (F.dot xs ys xs.length) w) := by
  rw [← hl]
  by_cases hx : 0 < xs.length
  · obtain ⟨b, off, rfl, hb, hc⟩ := h hx
    obtain ⟨b', off', rfl, hb', hc'⟩ := h' (by omega)
    have HC := Lib.hid hc
    have HC' := Lib.hid hc'
    have HL := Lib.hid hl
    clear h hc h' hc' hl
    go_enter Try.func59, Try.ntmps59
    go_wp2
    go_loopw [5, 6] (fun s i wr => ∃ k r n : Nat, k ≤ xs.length ∧ i = .int .i64 k ∧ s = .float .f32 r ∧ r < 4294967296 ∧ Sim .f32 r (F.dot xs ys k) ∧ wr = w.drewN n) (fun _ i _ => xs.length - (intOf i).toNat)
    case atStart => exact ⟨0, 0, 0, Nat.zero_le _, rfl, rfl, by omega, Sim.refl _ _, rfl⟩
    case round =>
      obtain ⟨k, r, n, hk, rfl, rfl, hr, hs, rfl⟩ := hrel
      have HS := Lib.hid hs
      clear hs
      by_cases hlt : k < xs.length
      · have hcx : w.cell? ⟨b, off + k, none⟩ = some (.float .f32 (nth xs k)) := HC.out k hlt
        have hcy : w.cell? ⟨b', off' + k, none⟩ = some (.float .f32 (nth ys k)) := HC'.out k (by rw [← HL.out]; exact hlt)
        have hk0 : (0 : Int) ≤ (k : Int) := by omega
        have hk1 : (k : Int) < (xs.length : Int) := by omega
        go_wp2
        go_region
        all_goals
          go_wp2
          go_roundw
          case rel => exact ⟨k + 1, _, _, by omega, by go_num, rfl, opV_lt32 _ _ _ _ _, add_sim HS.out (mul_sim (Sim.refl _ _) (Sim.refl _ _) _ _) _ _, rfl⟩
          case measure => simp [intOf]; omega
      · have hke : k = xs.length := by omega
        have HS' := Lib.hid (show Sim .f32 r (F.dot xs ys xs.length) by have := HS.out; rw [hke] at this; exact this)
        clear HS hke
        go_wp2
        go_ret
        exact retFQ hr HS'.out w n
  · have h0 : xs = [] := List.eq_nil_of_length_eq_zero (by omega)
    subst h0
    clear h h' hx hn hl
    show Calls Try.prog 59 #[.slice A 0 cap, .slice A' 0 cap'] w (RetFQ .f32 0 w)
    go_enter Try.func59, Try.ntmps59
    go_wp2
    refine wp_loop_rounds 1 ?_
    rw [rounds_succ]
    go_wp2
    go_ret
    exact retFQ0 (by decide) (Sim.refl _ _) w
set_option maxHeartbeats 1000000 in
theorem impl_dot (A A' : Option Addr) (cap cap' : Nat) (xs ys : List Nat) (hn : xs.length ≤ 1048576) (hl : xs.length = ys.length) (w : World) (B B' : Nat) (h : FlAt w B A xs) (h' : FlAt w B' A' ys) :
    Calls Try.prog 60 #[.slice A xs.length cap, .slice A' ys.length cap'] w (RetFQ .f32 (F.dot xs ys xs.length) w) := by
  rw [← hl]
  by_cases hx : 0 < xs.length
  · obtain ⟨b, off, rfl, hb, hc⟩ := h hx
    obtain ⟨b', off', rfl, hb', hc'⟩ := h' (by omega)
    have HC := Lib.hid hc
    have HC' := Lib.hid hc'
    have HL := Lib.hid hl
    clear h hc h' hc' hl
    go_enter Try.func60, Try.ntmps60
    go_wp2
    go_loopw [5, 6, 7, 10] (fun s _ _ i wr => ∃ k r n : Nat, k ≤ xs.length ∧ i = .int .i64 k ∧ s = .float .f32 r ∧ r < 4294967296 ∧ Sim .f32 r (F.dot xs ys k) ∧ wr = w.drewN n) (fun _ _ _ i _ => xs.length - (intOf i).toNat)
    case atStart => exact ⟨0, 0, 0, Nat.zero_le _, rfl, rfl, by omega, Sim.refl _ _, rfl⟩
    case round =>
      obtain ⟨k, r, n, hk, rfl, rfl, hr, hs, rfl⟩ := hrel
      have HS := Lib.hid hs
      clear hs
      by_cases hlt : k < xs.length
      · have hcx : w.cell? ⟨b, off + k, none⟩ = some (.float .f32 (nth xs k)) := HC.out k hlt
        have hcy : w.cell? ⟨b', off' + k, none⟩ = some (.float .f32 (nth ys k)) := HC'.out k (by rw [← HL.out]; exact hlt)
        have hk0 : (0 : Int) ≤ (k : Int) := by omega
        have hk1 : (k : Int) < (xs.length : Int) := by omega
        go_wp2
        all_goals
          go_roundw
          case rel => exact ⟨k + 1, _, _, by omega, by go_num, rfl, opV_lt32 _ _ _ _ _, add_sim HS.out (mul_sim (Sim.refl _ _) (Sim.refl _ _) _ _) _ _, rfl⟩
          case measure => simp [intOf]; omega
      · have hke : k = xs.length := by omega
        have HS' := Lib.hid (show Sim .f32 r (F.dot xs ys xs.length) by have := HS.out; rw [hke] at this; exact this)
        clear HS hke
        go_wp2
        go_ret
        exact retFQ hr HS'.out w n
  · have h0 : xs = [] := List.eq_nil_of_length_eq_zero (by omega)
    subst h0
    clear h h' hx hn hl
    show Calls Try.prog 60 #[.slice A 0 cap, .slice A' 0 cap'] w (RetFQ .f32 0 w)
    go_enter Try.func60, Try.ntmps60
    go_wp2
    refine wp_loop_rounds 1 ?_
    rw [rounds_succ]
    go_wp2
    go_ret
    exact retFQ0 (by decide) (Sim.refl _ _) w

/-! ### the exported functions -/
def few (xs : List Nat) : Bool := decide (xs.length ≤ 256)
def F.sumV (xs : List Nat) : Nat := if xs.length ≤ 256 then F.sum xs else 0
theorem retFB {r v : Nat} {a b : Bool} (hl : r < 2 ^ 32) (h : Sim .f32 r v) (g : a = b) (w : World) (n : Nat) : RetFB .f32 v b w (.returned (.tuple #[.float .f32 r, .bool a])) (w.drewN n) := ⟨r, n, by rw [g], hl, h, rfl⟩
theorem retFB0 {r v : Nat} {a b : Bool} (hl : r < 2 ^ 32) (h : Sim .f32 r v) (g : a = b) (w : World) : RetFB .f32 v b w (.returned (.tuple #[.float .f32 r, .bool a])) w := ⟨r, 0, by rw [g], hl, h, rfl⟩
theorem spec_SumNumbers (A : Option Addr) (cap : Nat) (xs : List Nat) (hn : xs.length ≤ 1048576) (w : World) (B : Nat) (h : FlAt w B A xs) :
    Calls Try.prog 36 #[.slice A xs.length cap] w (RetFB .f32 (F.sumV xs) (few xs) w) := by
  by_cases hf : xs.length ≤ 256
  · have e1 := Lib.hid (show F.sumV xs = F.sum xs by unfold F.sumV; rw [if_pos hf])
    have e2 := Lib.hid (show few xs = true from decide_eq_true hf)
    have hf' : (xs.length : Int) ≤ 256 := by omega
    have H := Lib.hid h
    clear h hf
    go_enter Try.func36, Try.ntmps36
    go_wp2_with (first | (go_at_call 61; refine (spec_l01Sum _ _ _ hn _ _ H.out).mono ?_; rintro e w' ⟨r, n, rfl, hl, hs, rfl⟩) | (go_at_call 56; go_in))
    go_ret2
    exact retFB hl (by rw [e1.out]; exact hs) e2.out.symm w n
  · have e1 := Lib.hid (show F.sumV xs = 0 by unfold F.sumV; rw [if_neg hf])
    have e2 := Lib.hid (show few xs = false from decide_eq_false hf)
    have hf' : decide ((xs.length : Int) ≤ 256) = false := decide_eq_false (by omega)
    clear h hf
    go_enter Try.func36, Try.ntmps36
    go_wp2
    go_ret2
    exact retFB0 (by decide) (by rw [e1.out]; exact Sim.refl _ _) e2.out.symm w
theorem impl_SumNumbers (A : Option Addr) (cap : Nat) (xs : List Nat) (hn : xs.length ≤ 1048576) (w : World) (B : Nat) (h : FlAt w B A xs) :
    Calls Try.prog 37 #[.slice A xs.length cap] w (RetFB .f32 (F.sumV xs) (few xs) w) := by
  by_cases hf : xs.length ≤ 256
  · have e1 := Lib.hid (show F.sumV xs = F.sum xs by unfold F.sumV; rw [if_pos hf])
    have e2 := Lib.hid (show few xs = true from decide_eq_true hf)
    have hf' : (xs.length : Int) ≤ 256 := by omega
    have H := Lib.hid h
    clear h hf
    go_enter Try.func37, Try.ntmps37
    go_wp2_with (first | (go_at_call 62; refine (impl_sum _ _ _ hn _ _ H.out).mono ?_; rintro e w' ⟨r, n, rfl, hl, hs, rfl⟩) | (go_at_call 58; go_in))
    go_ret2
    exact retFB hl (by rw [e1.out]; exact hs) e2.out.symm w n
  · have e1 := Lib.hid (show F.sumV xs = 0 by unfold F.sumV; rw [if_neg hf])
    have e2 := Lib.hid (show few xs = false from decide_eq_false hf)
    have hf' : decide ((xs.length : Int) ≤ 256) = false := decide_eq_false (by omega)
    clear h hf
    go_enter Try.func37, Try.ntmps37
    go_wp2
    go_ret2
    exact retFB0 (by decide) (by rw [e1.out]; exact Sim.refl _ _) e2.out.symm w
def few2 (xs ys : List Nat) : Bool := decide (xs.length ≤ 256 ∧ xs.length = ys.length)
def F.dotV (xs ys : List Nat) : Nat := if xs.length ≤ 256 ∧ xs.length = ys.length then F.dot xs ys xs.length else 0
theorem spec_DotNumbers (A A' : Option Addr) (cap cap' : Nat) (xs ys : List Nat) (hn : xs.length ≤ 1048576) (_hn' : ys.length ≤ 1048576) (w : World) (B B' : Nat) (h : FlAt w B A xs) (h' : FlAt w B' A' ys) :
    Calls Try.prog 34 #[.slice A xs.length cap, .slice A' ys.length cap'] w (RetFB .f32 (F.dotV xs ys) (few2 xs ys) w) := by
  have H := Lib.hid h
  have H' := Lib.hid h'
  clear h h'
  by_cases hf : xs.length ≤ 256
  · by_cases he : xs.length = ys.length
    · have e1 := Lib.hid (show F.dotV xs ys = F.dot xs ys xs.length by unfold F.dotV; rw [if_pos ⟨hf, he⟩])
      have e2 := Lib.hid (show few2 xs ys = true from decide_eq_true ⟨hf, he⟩)
      have hf' : (xs.length : Int) ≤ 256 := by omega
      have hne : ((xs.length : Int) != (ys.length : Int)) = false := by rw [he]; simp
      have HE := Lib.hid he
      clear hf he
      go_enter Try.func34, Try.ntmps34
      go_wp2_with (first | (go_at_call 59; refine (spec_l01Dot _ _ _ _ _ _ hn HE.out _ _ _ H.out H'.out).mono ?_; rintro e w' ⟨r, n, rfl, hl, hs, rfl⟩) | (go_at_call 56; go_in))
      go_ret2
      exact retFB hl (by rw [e1.out]; exact hs) e2.out.symm w n
    · have e1 := Lib.hid (show F.dotV xs ys = 0 by unfold F.dotV; rw [if_neg (fun c => he c.2)])
      have e2 := Lib.hid (show few2 xs ys = false from decide_eq_false (fun c => he c.2))
      have hf' : (xs.length : Int) ≤ 256 := by omega
      have hne : ((xs.length : Int) != (ys.length : Int)) = true := by rw [bne_iff_ne]; omega
      clear hf he
      go_enter Try.func34, Try.ntmps34
      go_wp2
      go_ret2
      exact retFB0 (by decide) (by rw [e1.out]; exact Sim.refl _ _) e2.out.symm w
  · have e1 := Lib.hid (show F.dotV xs ys = 0 by unfold F.dotV; rw [if_neg (fun c => hf c.1)])
    have e2 := Lib.hid (show few2 xs ys = false from decide_eq_false (fun c => hf c.1))
    have hf' : decide ((xs.length : Int) ≤ 256) = false := decide_eq_false (by omega)
    clear hf
    go_enter Try.func34, Try.ntmps34
    go_wp2
    go_ret2
    exact retFB0 (by decide) (by rw [e1.out]; exact Sim.refl _ _) e2.out.symm w
theorem impl_DotNumbers (A A' : Option Addr) (cap cap' : Nat) (xs ys : List Nat) (hn : xs.length ≤ 1048576) (_hn' : ys.length ≤ 1048576) (w : World) (B B' : Nat) (h : FlAt w B A xs) (h' : FlAt w B' A' ys) :
    Calls Try.prog 35 #[.slice A xs.length cap, .slice A' ys.length cap'] w (RetFB .f32 (F.dotV xs ys) (few2 xs ys) w) := by
  have H := Lib.hid h
  have H' := Lib.hid h'
  clear h h'
  by_cases hf : xs.length ≤ 256
  · by_cases he : xs.length = ys.length
    · have e1 := Lib.hid (show F.dotV xs ys = F.dot xs ys xs.length by unfold F.dotV; rw [if_pos ⟨hf, he⟩])
      have e2 := Lib.hid (show few2 xs ys = true from decide_eq_true ⟨hf, he⟩)
      have hf' : (xs.length : Int) ≤ 256 := by omega
      have hne : ((xs.length : Int) != (ys.length : Int)) = false := by rw [he]; simp
      have HE := Lib.hid he
      clear hf he
      go_enter Try.func35, Try.ntmps35
      go_wp2_with (first | (go_at_call 60; refine (impl_dot _ _ _ _ _ _ hn HE.out _ _ _ H.out H'.out).mono ?_; rintro e w' ⟨r, n, rfl, hl, hs, rfl⟩) | (go_at_call 58; go_in))
      go_ret2
      exact retFB hl (by rw [e1.out]; exact hs) e2.out.symm w n
    · have e1 := Lib.hid (show F.dotV xs ys = 0 by unfold F.dotV; rw [if_neg (fun c => he c.2)])
      have e2 := Lib.hid (show few2 xs ys = false from decide_eq_false (fun c => he c.2))
      have hf' : (xs.length : Int) ≤ 256 := by omega
      have hne : ((xs.length : Int) != (ys.length : Int)) = true := by rw [bne_iff_ne]; omega
      clear hf he
      go_enter Try.func35, Try.ntmps35
      go_wp2
      go_ret2
      exact retFB0 (by decide) (by rw [e1.out]; exact Sim.refl _ _) e2.out.symm w
  · have e1 := Lib.hid (show F.dotV xs ys = 0 by unfold F.dotV; rw [if_neg (fun c => hf c.1)])
    have e2 := Lib.hid (show few2 xs ys = false from decide_eq_false (fun c => hf c.1))
    have hf' : decide ((xs.length : Int) ≤ 256) = false := decide_eq_false (by omega)
    clear hf
    go_enter Try.func35, Try.ntmps35
    go_wp2
    go_ret2
    exact retFB0 (by decide) (by rw [e1.out]; exact Sim.refl _ _) e2.out.symm w
end Go.Proofs.Ytbjnjllegcdlkaa
