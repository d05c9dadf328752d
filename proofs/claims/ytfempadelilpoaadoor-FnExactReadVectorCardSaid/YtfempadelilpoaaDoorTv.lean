/- ReadNumbers: the eight digits of a number; contracts of program and reference. -/
import Derived.Test.YtfempadelilpoaaDoorTw
import Derived.Test.YtfempadelilpoaaDoorTx
namespace Go.Proofs.YtfempadelilpoaaDoor
open Go.ChangeShapes Go.WideShapes Go.ChangeAt Go.RowKit Go.Deep

/-! ### eight digits, plain -/
def hxD (c : UInt8) : Int := if 48 ≤ c.toNat ∧ c.toNat ≤ 57 then (c.toNat : Int) - 48 else if 97 ≤ c.toNat ∧ c.toNat ≤ 102 then (c.toNat : Int) - 97 + 10 else -1
def hxT : List UInt8 := [48, 49, 50, 51, 52, 53, 54, 55, 56, 57, 97, 98, 99, 100, 101, 102]
theorem index_hx (c : UInt8) : Lib.indexByte hxT c = hxD c := by
  have key : ∀ n : Fin 256, Lib.indexByte hxT (UInt8.ofNat n.1) = hxD (UInt8.ofNat n.1) := by decide +kernel
  have h := key ⟨c.toNat, c.toNat_lt⟩
  rwa [UInt8.ofNat_toNat] at h
theorem hxD_bd (c : UInt8) : -1 ≤ hxD c ∧ hxD c ≤ 15 := by
  unfold hxD
  split
  · omega
  · split <;> omega
def hxV (l : List UInt8) : Int := l.foldl (fun n c => n * 16 + hxD c) 0
def hxB (l : List UInt8) : Bool := l.all fun c => decide (0 ≤ hxD c)
theorem hxV_snoc (l : List UInt8) (c : UInt8) : hxV (l ++ [c]) = hxV l * 16 + hxD c := by unfold hxV; rw [List.foldl_append]; rfl
theorem hxB_snoc (l : List UInt8) (c : UInt8) : hxB (l ++ [c]) = (hxB l && decide (0 ≤ hxD c)) := by unfold hxB; rw [List.all_append]; simp
theorem hxB_bad {l : List UInt8} {k : Nat} {c : UInt8} (h : l[k]? = some c) (hc : hxD c < 0) : hxB l = false := by
  unfold hxB
  rw [List.all_eq_false]
  exact ⟨c, List.mem_of_getElem? h, by simp; omega⟩
theorem hx_go : ∀ (l : List UInt8) (n : Int), 0 ≤ n → hxB l = true → 0 ≤ l.foldl (fun n c => n * 16 + hxD c) n ∧ l.foldl (fun n c => n * 16 + hxD c) n + 1 ≤ (n + 1) * (16 : Int) ^ l.length
  | [], n, hn, _ => by
    show 0 ≤ n ∧ n + 1 ≤ (n + 1) * (16 : Int) ^ 0
    rw [Int.pow_zero, Int.mul_one]
    exact ⟨hn, Int.le_refl _⟩
  | c :: l, n, hn, hb => by
    have hb' : (decide (0 ≤ hxD c) && hxB l) = true := hb
    rw [Bool.and_eq_true, decide_eq_true_eq] at hb'
    have hd := hxD_bd c
    have ih := hx_go l (n * 16 + hxD c) (by omega) hb'.2
    refine ⟨ih.1, Int.le_trans ih.2 ?_⟩
    have hp : (0 : Int) ≤ (16 : Int) ^ l.length := Int.le_of_lt (Int.pow_pos (by decide))
    have h1 : (n * 16 + hxD c + 1) * (16 : Int) ^ l.length ≤ ((n + 1) * 16) * (16 : Int) ^ l.length := Int.mul_le_mul_of_nonneg_right (by omega) hp
    rw [List.length_cons, Int.pow_succ, Int.mul_comm ((16 : Int) ^ l.length) 16, ← Int.mul_assoc]
    exact h1
theorem hxV_bd {l : List UInt8} (hb : hxB l = true) (hl : l.length ≤ 8) : 0 ≤ hxV l ∧ hxV l ≤ 4294967295 := by
  have h := hx_go l 0 (Int.le_refl _) hb
  have e : (16 : Int) ^ l.length = ((16 ^ l.length : Nat) : Int) := by simp
  have h2 : 16 ^ l.length ≤ 16 ^ 8 := Nat.pow_le_pow_right (by decide) hl
  have h3 := h.2
  rw [e] at h3
  refine ⟨h.1, ?_⟩
  show l.foldl (fun n c => n * 16 + hxD c) 0 ≤ _
  omega
def rnB (l : List UInt8) : Bool := decide (l.length = 8) && hxB l && (bitsI (hxV l).toNat == hxV l)
theorem rnB_len {l : List UInt8} (h : ¬ l.length = 8) : rnB l = false := by unfold rnB; rw [decide_eq_false h]; rfl
theorem rnB_dig {l : List UInt8} (h : hxB l = false) : rnB l = false := by unfold rnB; rw [h]; simp
theorem rnB_all {l : List UInt8} (h1 : l.length = 8) (h2 : hxB l = true) : rnB l = (bitsI (hxV l).toNat == hxV l) := by unfold rnB; rw [decide_eq_true h1, h2]; rfl
theorem bytes_at (s : ByteArray) (k : Nat) (h : k < s.size) : s.data.toList[k]? = some s[k] := by
  rw [List.getElem?_eq_getElem (by rw [Array.length_toList]; exact h)]
  rfl
theorem idx_hx (c : UInt8) (w : World) : Calls Tryd.prog 50 #[.string ⟨#[48, 49, 50, 51, 52, 53, 54, 55, 56, 57, 97, 98, 99, 100, 101, 102]⟩, .int .u8 (c.toNat : Int)] w (fun e w' => e = .returned (.int .i64 (hxD c)) ∧ w' = w) := by
  refine (Tryd.strings_IndexByte _ _ _).mono ?_
  rintro e w' ⟨rfl, rfl⟩
  refine ⟨?_, rfl⟩
  rw [show ((c.toNat : Int).toNat.toUInt8) = c from by simp, ← index_hx c]
  rfl
theorem spec_l01From (n : Int) (h0 : 0 ≤ n) (h1 : n ≤ 4294967295) (w : World) : Calls Tryd.prog 47 #[.int .i64 n] w (RetQ (.float .f32 n.toNat) w) := by
  go_enter Tryd.func47, Tryd.ntmps47
  go_wp2
  go_ret
  exact ⟨rfl, 0, rfl⟩
def RetRN (l : List UInt8) (w : World) (e : Ending) (w' : World) : Prop := ∃ x, e = .returned (.tuple #[.float .f32 x, .bool (rnB l)]) ∧ (rnB l = true → x = (hxV l).toNat) ∧ Below w.heap.size w w'
set_option maxHeartbeats 2000000 in
set_option maxRecDepth 100000 in
theorem impl_readNumber (s : ByteArray) (_hs : s.size ≤ 1048576) (w : World) : Calls Tryd.prog 39 #[.string s] w (RetRN s.data.toList w) := by
  have HSL := Lib.hid (show s.data.toList.length = s.size from by rw [Array.length_toList]; rfl)
  go_enter Tryd.func39, Tryd.ntmps39
  go_wp2_with fail
  go_loopw [4, 11] (fun v i wr => ∃ (k : Nat) (n : Int), k ≤ s.size ∧ k ≤ 8 ∧ i = .int .i64 k ∧ v = .int .i64 n ∧ n = hxV (s.data.toList.take k) ∧ hxB (s.data.toList.take k) = true ∧ Below w.heap.size w wr) (fun _ i _ => s.size - (intOf i).toNat)
  case atStart => exact ⟨0, 0, Nat.zero_le _, Nat.zero_le _, rfl, rfl, rfl, rfl, (by repeat' (first | with_reducible exact Below.refl _ _ | with_reducible assumption | with_reducible refine below_dn ?_ _ | with_reducible refine Below.drew ?_ | with_reducible refine below_step ?_ (by assumption) | with_reducible refine Below.setCell ?_ ?_ _ | with_reducible refine Below.alloc ?_ ?_ _ | with_reducible exact Nat.le_refl _ | (simp; done) | (simp; omega) | omega))⟩
  case round =>
    obtain ⟨k, n, hk, hk8, rfl, rfl, hn, hb, hB⟩ := hrel
    have HN := Lib.hid hn
    have HX := Lib.hid hb
    have HB := Lib.hid hB
    have hbd := hxV_bd hb (by rw [List.length_take]; omega)
    rw [← hn] at hbd
    obtain ⟨hn0, hn1⟩ := hbd
    clear hn hb hB
    by_cases hlt : k < s.size
    · have hk0 : (0 : Int) ≤ (k : Int) := by omega
      have hk1 : (k : Int) < (s.size : Int) := by omega
      obtain ⟨d, hd⟩ : ∃ d : Int, d = hxD s[k] := ⟨_, rfl⟩
      have HD := Lib.hid hd
      have hdb := hxD_bd s[k]
      rw [← hd] at hdb
      obtain ⟨hd0, hd1⟩ := hdb
      clear hd
      by_cases hneg : d < 0
      · have HF := Lib.hid (rnB_dig (hxB_bad (bytes_at s k hlt) (by rw [← HD.out]; exact hneg)))
        go_wp2_with (go_at_call 50; refine (idx_hx s[k] _).mono ?_; rintro e w5 ⟨rfl, rfl⟩; rw [← HD.out])
        go_ret2
        rw [RetRN, HF.out]
        exact ⟨0, rfl, (fun h => by cases h), HB.out⟩
      · by_cases h8 : k = 8
        · have HF := Lib.hid (rnB_len (l := s.data.toList) (by rw [HSL.out]; omega))
          have h8' : ((k : Int) == 8) = true := by rw [h8]; rfl
          clear h8
          go_wp2_with (go_at_call 50; refine (idx_hx s[k] _).mono ?_; rintro e w5 ⟨rfl, rfl⟩; rw [← HD.out])
          go_ret2
          rw [RetRN, HF.out]
          exact ⟨0, rfl, (fun h => by cases h), HB.out⟩
        · have h8' : ((k : Int) == 8) = false := by rw [beq_eq_false_iff_ne]; omega
          have HT := Lib.hid (take_snoc' s k hlt)
          have hk7 : k < 8 := by omega
          clear h8
          go_wp2_with (go_at_call 50; refine (idx_hx s[k] _).mono ?_; rintro e w5 ⟨rfl, rfl⟩; rw [← HD.out])
          go_roundw
          case rel =>
            refine ⟨k + 1, n * 16 + d, by omega, by omega, by go_num, rfl, ?_, ?_, HB.out⟩
            · rw [HT.out, hxV_snoc, ← HN.out, ← HD.out]
            · rw [HT.out, hxB_snoc, HX.out, ← HD.out, decide_eq_true (show 0 ≤ d by omega)]
              rfl
          case measure => simp [intOf]; omega
    · have hke : k = s.size := by omega
      have HV := Lib.hid (show n = hxV s.data.toList by rw [HN.out, List.take_of_length_le (by rw [HSL.out]; omega)])
      have HW := Lib.hid (show hxB s.data.toList = true by rw [← HX.out, List.take_of_length_le (by rw [HSL.out]; omega)])
      have hfu : fromU n = n.toNat := by simp [fromU, inU, hn0, hn1]
      have hlt32 : n.toNat < 4294967296 := by omega
      by_cases h8 : s.size = 8
      · have h8' : ((s.size : Int) == 8) = true := by rw [h8]; rfl
        have HE := Lib.hid (rnB_all (by rw [HSL.out]; exact h8) HW.out)
        clear h8 hke
        go_wp2_with (first | (go_at_call 51; refine (impl_FromBits n _).mono ?_; rintro e w5 ⟨rfl, n5, rfl⟩; rw [hfu]) | (go_at_call 52; refine (impl_BitsOf n.toNat hlt32 _).mono ?_; rintro e w6 ⟨rfl, n6, rfl⟩))
        go_ret2
        rw [RetRN, HE.out, ← HV.out]
        exact ⟨_, rfl, fun _ => rfl, below_dn HB.out _⟩
      · have h8' : ((s.size : Int) == 8) = false := by rw [beq_eq_false_iff_ne]; omega
        have HE := Lib.hid (rnB_len (l := s.data.toList) (by rw [HSL.out]; exact h8))
        clear h8 hke
        go_wp2_with (first | (go_at_call 51; refine (impl_FromBits n _).mono ?_; rintro e w5 ⟨rfl, n5, rfl⟩; rw [hfu]) | (go_at_call 52; refine (impl_BitsOf n.toNat hlt32 _).mono ?_; rintro e w6 ⟨rfl, n6, rfl⟩))
        go_ret2
        rw [RetRN, HE.out]
        exact ⟨_, rfl, fun h => by (cases h), below_dn HB.out _⟩
end Go.Proofs.YtfempadelilpoaaDoor
