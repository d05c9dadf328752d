/- Contracts of IsName and CheckOf, program and reference. -/
import Derived.Test.YtkmlfofndahdfaaW1
namespace Go.Proofs.Ytkmlfofndahdfaa
open Go.ChangeShapes Go.WideShapes Go.ChangeAt Go.RowKit Go.Deep

theorem take_snoc' (s : ByteArray) (k : Nat) (h : k < s.size) : s.data.toList.take (k + 1) = s.data.toList.take k ++ [s[k]] := by
  rw [List.take_succ_eq_append_getElem (by simpa using h)]; rfl
def letterB (c : UInt8) : Bool := decide (97 ≤ c.toNat) && decide (c.toNat ≤ 122)
def okN (s : ByteArray) (k : Nat) : Bool := (s.data.toList.take k).all letterB
def nameB (s : ByteArray) : Bool := okN s s.size && (decide (1 ≤ s.size) && decide (s.size ≤ 8))
theorem okN_succ (s : ByteArray) (k : Nat) (h : k < s.size) : okN s (k + 1) = (okN s k && letterB s[k]) := by
  unfold okN
  rw [take_snoc' s k h, List.all_append]
  simp
theorem okN_bad (s : ByteArray) (k : Nat) (h : k < s.size) (hb : letterB s[k] = false) : nameB s = false := by
  have hm : s[k] ∈ s.data.toList.take s.size := by
    rw [List.take_of_length_le (by simp)]
    exact List.mem_of_getElem? (i := k) (by rw [List.getElem?_eq_getElem (by simpa using h)]; rfl)
  have : okN s s.size = false := by
    unfold okN
    rw [List.all_eq_false]
    exact ⟨s[k], hm, by rw [hb]; simp⟩
  unfold nameB
  rw [this]; rfl
theorem letter_of (c : UInt8) (h1 : ¬ (c.toNat : Int) < 97) (h2 : ¬ (122 : Int) < (c.toNat : Int)) : letterB c = true := by
  unfold letterB
  rw [decide_eq_true (by omega), decide_eq_true (by omega)]; rfl
theorem letter_no1 (c : UInt8) (h1 : (c.toNat : Int) < 97) : letterB c = false := by
  unfold letterB
  rw [decide_eq_false (by omega)]; rfl
theorem letter_no2 (c : UInt8) (h1 : (122 : Int) < (c.toNat : Int)) : letterB c = false := by
  unfold letterB
  rw [decide_eq_false (show ¬ c.toNat ≤ 122 by omega), Bool.and_false]

set_option maxHeartbeats 1000000 in
theorem impl_IsName (s : ByteArray) (hs : s.size ≤ 1048576) (w : World) : Calls Try.prog 25 #[.string s] w (RetQ (.bool (nameB s)) w) := by
  go_enter Try.func25, Try.ntmps25
  go_wp2
  go_loop [3, 6] (fun _ i => ∃ k : Nat, k ≤ s.size ∧ i = .int .i64 k ∧ okN s k = true) (fun _ i => s.size - (intOf i).toNat)
  case atStart => exact ⟨0, Nat.zero_le _, rfl, rfl⟩
  case round =>
    obtain ⟨k, hk, rfl, ho⟩ := hrel
    have HO := Lib.hid ho
    clear ho
    by_cases hlt : k < s.size
    · by_cases h1 : (s[k].toNat : Int) < 97
      · have hbad := Lib.hid (okN_bad s k hlt (letter_no1 _ h1))
        go_wp2
        go_ret
        exact retQ_bool0 (by rw [hbad.out]) w
      · by_cases h2 : (122 : Int) < (s[k].toNat : Int)
        · have hbad := Lib.hid (okN_bad s k hlt (letter_no2 _ h2))
          have h1' : (97 : Int) ≤ (s[k].toNat : Int) := by omega
          clear h1
          go_wp2
          go_ret
          exact retQ_bool0 (by rw [hbad.out]) w
        · have hgood := Lib.hid (show okN s (k + 1) = true by rw [okN_succ s k hlt, HO.out, letter_of _ h1 h2]; rfl)
          have h1' : (97 : Int) ≤ (s[k].toNat : Int) := by omega
          have h2' : (s[k].toNat : Int) ≤ 122 := by omega
          clear h1 h2
          go_wp2
          go_round
          case rel => exact ⟨k + 1, by omega, by go_num, hgood.out⟩
          case measure => simp [intOf]; omega
    · have hke : k = s.size := by omega
      have hfin := Lib.hid (show nameB s = (decide (1 ≤ s.size) && decide (s.size ≤ 8)) by unfold nameB; rw [← hke, HO.out]; rfl)
      clear HO hke
      by_cases c1 : 1 ≤ s.size
      · by_cases c2 : s.size ≤ 8
        · go_wp2
          go_ret
          exact retQ_bool0 (by rw [hfin.out, decide_eq_true c1, decide_eq_true c2]; first | rfl | (simp; omega)) w
        · have c2' : decide ((s.size : Int) ≤ 8) = false := decide_eq_false (by omega)
          go_wp2
          go_ret
          exact retQ_bool0 (by rw [hfin.out, decide_eq_true c1, decide_eq_false c2]; rfl) w
      · have c1' : decide ((1 : Int) ≤ (s.size : Int)) = false := decide_eq_false (by omega)
        go_wp2
        go_ret
        exact retQ_bool0 (by rw [hfin.out, decide_eq_false c1]; rfl) w
set_option maxHeartbeats 1000000 in
theorem spec_IsName (s : ByteArray) (hs : s.size ≤ 1048576) (w : World) : Calls Try.prog 24 #[.string s] w (RetQ (.bool (nameB s)) w) := by
  go_enter Try.func24, Try.ntmps24
  go_wp2
  go_loop [3] (fun i => ∃ k : Nat, k ≤ s.size ∧ i = .int .i64 k ∧ okN s k = true) (fun i => s.size - (intOf i).toNat)
  case atStart => exact ⟨0, Nat.zero_le _, rfl, rfl⟩
  case round =>
    obtain ⟨k, hk, rfl, ho⟩ := hrel
    have HO := Lib.hid ho
    clear ho
    by_cases hlt : k < s.size
    · by_cases h1 : (s[k].toNat : Int) < 97
      · have hbad := Lib.hid (okN_bad s k hlt (letter_no1 _ h1))
        go_wp2
        go_ret
        exact retQ_bool0 (by rw [hbad.out]) w
      · by_cases h2 : (122 : Int) < (s[k].toNat : Int)
        · have hbad := Lib.hid (okN_bad s k hlt (letter_no2 _ h2))
          have h1' : (97 : Int) ≤ (s[k].toNat : Int) := by omega
          clear h1
          go_wp2
          go_ret
          exact retQ_bool0 (by rw [hbad.out]) w
        · have hgood := Lib.hid (show okN s (k + 1) = true by rw [okN_succ s k hlt, HO.out, letter_of _ h1 h2]; rfl)
          have h1' : (97 : Int) ≤ (s[k].toNat : Int) := by omega
          have h2' : (s[k].toNat : Int) ≤ 122 := by omega
          clear h1 h2
          go_wp2
          go_round
          case rel => exact ⟨k + 1, by omega, by go_num, hgood.out⟩
          case measure => simp [intOf]; omega
    · have hke : k = s.size := by omega
      have hfin := Lib.hid (show nameB s = (decide (1 ≤ s.size) && decide (s.size ≤ 8)) by unfold nameB; rw [← hke, HO.out]; rfl)
      clear HO hke
      by_cases c1 : 1 ≤ s.size
      · by_cases c2 : s.size ≤ 8
        · go_wp2
          go_ret
          exact retQ_bool0 (by rw [hfin.out, decide_eq_true c1, decide_eq_true c2]; first | rfl | (simp; omega)) w
        · have c2' : decide ((s.size : Int) ≤ 8) = false := decide_eq_false (by omega)
          go_wp2
          go_ret
          exact retQ_bool0 (by rw [hfin.out, decide_eq_true c1, decide_eq_false c2]; rfl) w
      · have c1' : decide ((1 : Int) ≤ (s.size : Int)) = false := decide_eq_false (by omega)
        go_wp2
        go_ret
        exact retQ_bool0 (by rw [hfin.out, decide_eq_false c1]; rfl) w

/-! ### the check number -/
def chk (n : Int) (s : ByteArray) : Nat → Int
  | 0 => n
  | k + 1 => (757 * chk n s k + ((s.data.toList.getD k 0).toNat : Int) + 79) % 65003
theorem chk_bd (n : Int) (s : ByteArray) (h0 : 0 ≤ n) (h1 : n ≤ 65002) : ∀ k, 0 ≤ chk n s k ∧ chk n s k ≤ 65002
  | 0 => ⟨h0, h1⟩
  | k + 1 => by unfold chk; omega
theorem getD_byte (s : ByteArray) (k : Nat) (h : k < s.size) : s.data.toList.getD k 0 = s[k] := by
  have h' : k < s.data.toList.length := by simpa using h
  simp [List.getD, List.getElem?_eq_getElem h']
  rfl
def inC (n : Int) : Bool := decide (0 ≤ n) && decide (n ≤ 65002)
def checkV (n : Int) (s : ByteArray) : Int := if inC n then chk n s s.size else 0
set_option maxHeartbeats 1000000 in
theorem spec_l01Check (n : Int) (h0 : 0 ≤ n) (h1 : n ≤ 65002) (s : ByteArray) (hs : s.size ≤ 1048576) (w : World) : Calls Try.prog 48 #[.int .i64 n, .string s] w (RetQ (.int .i64 (chk n s s.size)) w) := by
  go_enter Try.func48, Try.ntmps48
  go_wp2
  go_loop [0, 5] (fun m i => ∃ k : Nat, k ≤ s.size ∧ i = .int .i64 k ∧ m = .int .i64 (chk n s k)) (fun _ i => s.size - (intOf i).toNat)
  case atStart => exact ⟨0, Nat.zero_le _, rfl, rfl⟩
  case round =>
    obtain ⟨k, hk, rfl, rfl⟩ := hrel
    obtain ⟨b0, b1⟩ := chk_bd n s h0 h1 k
    by_cases hlt : k < s.size
    · have hc : (s[k].toNat : Int) ≤ 255 := by have := s[k].toNat_lt; omega
      have hc0 : 0 ≤ (s[k].toNat : Int) := by omega
      have hstep := Lib.hid (show chk n s (k + 1) = (757 * chk n s k + (s[k].toNat : Int) + 79) % 65003 by show (757 * chk n s k + ((s.data.toList.getD k 0).toNat : Int) + 79) % 65003 = _; rw [getD_byte s k hlt])
      go_wp2
      go_round
      case rel => exact ⟨k + 1, by omega, by go_num, by rw [hstep.out]⟩
      case measure => simp [intOf]; omega
    · have hke := Lib.hid (show k = s.size by omega)
      go_wp2
      go_ret
      exact retQ_int0 (by rw [← hke.out]) w
set_option maxHeartbeats 1000000 in
theorem spec_CheckOf (n : Int) (s : ByteArray) (hs : s.size ≤ 1048576) (w : World) : Calls Try.prog 28 #[.int .i64 n, .string s] w (RetQ (.tuple #[.int .i64 (checkV n s), .bool (inC n)]) w) := by
  by_cases h1 : 0 ≤ n
  · by_cases h2 : n ≤ 65002
    · have e1 := Lib.hid (show inC n = true by simp [inC, h1, h2])
      have e2 := Lib.hid (show checkV n s = chk n s s.size by simp [checkV, e1.out])
      go_enter Try.func28, Try.ntmps28
      go_wp2_with (first | (go_at_call 48; refine (spec_l01Check n h1 h2 s hs _).mono ?_; rintro e w' ⟨rfl, m, rfl⟩) | (go_at_call 47; go_in))
      go_ret2
      exact ⟨by rw [e1.out, e2.out]; rfl, _, rfl⟩
    · have h3 : decide (n ≤ 65002) = false := decide_eq_false h2
      have e1 := Lib.hid (show inC n = false by simp [inC, h2])
      have e2 := Lib.hid (show checkV n s = 0 by simp [checkV, e1.out])
      clear h2
      go_enter Try.func28, Try.ntmps28
      go_wp2_with (first | (go_at_call 47; go_in))
      go_ret2
      exact ⟨by rw [e1.out, e2.out]; rfl, 0, rfl⟩
  · have h3 : decide (0 ≤ n) = false := decide_eq_false h1
    have e1 := Lib.hid (show inC n = false by simp [inC, h1])
    have e2 := Lib.hid (show checkV n s = 0 by simp [checkV, e1.out])
    clear h1
    go_enter Try.func28, Try.ntmps28
    go_wp2_with (first | (go_at_call 47; go_in))
    go_ret2
    exact ⟨by rw [e1.out, e2.out]; rfl, 0, rfl⟩
set_option maxHeartbeats 1000000 in
theorem impl_CheckOf (n : Int) (s : ByteArray) (hs : s.size ≤ 1048576) (w : World) : Calls Try.prog 29 #[.int .i64 n, .string s] w (RetQ (.tuple #[.int .i64 (checkV n s), .bool (inC n)]) w) := by
  by_cases h1 : 0 ≤ n
  · by_cases h2 : n ≤ 65002
    · have e1 := Lib.hid (show inC n = true by simp [inC, h1, h2])
      have e2 := Lib.hid (show checkV n s = chk n s s.size by simp [checkV, e1.out])
      go_enter Try.func29, Try.ntmps29
      go_wp2
      go_loop [0, 6, 12] (fun m _ i => ∃ k : Nat, k ≤ s.size ∧ i = .int .i64 k ∧ m = .int .i64 (chk n s k)) (fun _ _ i => s.size - (intOf i).toNat)
      case atStart => exact ⟨0, Nat.zero_le _, rfl, rfl⟩
      case round =>
        obtain ⟨k, hk, rfl, rfl⟩ := hrel
        obtain ⟨b0, b1⟩ := chk_bd n s h1 h2 k
        by_cases hlt : k < s.size
        · have hc : (s[k].toNat : Int) ≤ 255 := by have := s[k].toNat_lt; omega
          have hc0 : 0 ≤ (s[k].toNat : Int) := by omega
          have hstep := Lib.hid (show chk n s (k + 1) = (757 * chk n s k + (s[k].toNat : Int) + 79) % 65003 by show (757 * chk n s k + ((s.data.toList.getD k 0).toNat : Int) + 79) % 65003 = _; rw [getD_byte s k hlt])
          go_wp2
          go_round
          case rel => exact ⟨k + 1, by omega, by go_num, by rw [hstep.out]⟩
          case measure => simp [intOf]; omega
        · have hke := Lib.hid (show k = s.size by omega)
          go_wp2
          go_ret2
          exact ⟨by rw [e1.out, e2.out, ← hke.out]; rfl, 0, rfl⟩
    · have h3 : decide (n ≤ 65002) = false := decide_eq_false h2
      have e1 := Lib.hid (show inC n = false by simp [inC, h2])
      have e2 := Lib.hid (show checkV n s = 0 by simp [checkV, e1.out])
      clear h2
      go_enter Try.func29, Try.ntmps29
      go_wp2
      go_ret2
      exact ⟨by rw [e1.out, e2.out]; rfl, 0, rfl⟩
  · have h3 : decide (0 ≤ n) = false := decide_eq_false h1
    have e1 := Lib.hid (show inC n = false by simp [inC, h1])
    have e2 := Lib.hid (show checkV n s = 0 by simp [checkV, e1.out])
    clear h1
    go_enter Try.func29, Try.ntmps29
    go_wp2
    go_ret2
    exact ⟨by rw [e1.out, e2.out]; rfl, 0, rfl⟩
end Go.Proofs.Ytkmlfofndahdfaa
