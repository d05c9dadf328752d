/- ReadDecimal: contracts. -/
import Derived.Test.YtfempadelilpoaaDoorTd
import Derived.Test.YtfempadelilpoaaDoorTp
import Derived.Lib.ParseIntBTie
import Derived.Lib.AtoiTie
import Derived.Lib.SmallJoins
namespace Go.Proofs.YtfempadelilpoaaDoor
open Go.ChangeShapes Go.WideShapes Go.ChangeAt Go.RowKit Go.Deep

def inI (n lo hi : Int) : Bool := decide (lo ≤ n) && decide (n ≤ hi)
theorem spec_l00In (n lo hi : Int) (w : World) : Calls Tryd.prog 44 #[.int .i64 n, .int .i64 lo, .int .i64 hi] w (RetQ (.bool (inI n lo hi)) w) := by
  unfold inI
  by_cases h : lo ≤ n
  · have e : decide (lo ≤ n) = true := decide_eq_true h
    go_enter Tryd.func44, Tryd.ntmps44
    go_wp2
    go_ret
    exact retQ_bool0 (by first | rfl | (rw [e, Bool.true_and])) w
  · have e : decide (lo ≤ n) = false := decide_eq_false h
    go_enter Tryd.func44, Tryd.ntmps44
    go_wp2
    go_ret
    exact retQ_bool0 (by first | rfl | (rw [e, Bool.false_and])) w
theorem impl_in (n lo hi : Int) (w : World) : Calls Tryd.prog 33 #[.int .i64 n, .int .i64 lo, .int .i64 hi] w (RetQ (.bool (inI n lo hi)) w) := by
  unfold inI
  by_cases h : lo ≤ n
  · have e : decide (lo ≤ n) = true := decide_eq_true h
    go_enter Tryd.func33, Tryd.ntmps33
    go_wp2
    go_ret
    exact retQ_bool0 (by first | rfl | (rw [e, Bool.true_and])) w
  · have e : decide (lo ≤ n) = false := decide_eq_false h
    go_enter Tryd.func33, Tryd.ntmps33
    go_wp2
    go_ret
    exact retQ_bool0 (by first | rfl | (rw [e, Bool.false_and])) w
/-! ### decimal numerals, plain -/
theorem decFrom_app (l : List UInt8) (c : UInt8) : ∀ acc, Lib.decFrom acc (l ++ [c]) = (Lib.decFrom acc l).bind fun n => (Lib.digitVal c).map fun d => n * 10 + d := by
  induction l with
  | nil =>
    intro acc
    show (match Lib.digitVal c with | some d => Lib.decFrom (acc * 10 + d) [] | none => none) = (some acc).bind _
    cases Lib.digitVal c <;> rfl
  | cons x t ih =>
    intro acc
    show (match Lib.digitVal x with | some d => Lib.decFrom (acc * 10 + d) (t ++ [c]) | none => none) = (match Lib.digitVal x with | some d => Lib.decFrom (acc * 10 + d) t | none => none).bind _
    cases Lib.digitVal x with
    | none => rfl
    | some d => exact ih _
theorem dig_val {d : Nat} (hd : d < 10) : Lib.digitVal (UInt8.ofNat (48 + d)) = some d := by
  unfold Lib.digitVal
  rw [dig_nat hd, if_pos (by omega)]
  congr 1
  omega
theorem dec_dec (N : Nat) : ∀ a, a < N → Lib.decFrom 0 (Lib.decDigits a) = some a := by
  induction N with
  | zero => exact fun a h => absurd h (Nat.not_lt_zero _)
  | succ N ih =>
    intro a ha
    by_cases h : a < 10
    · rw [dec_small h]
      have := decFrom_app [] (UInt8.ofNat (48 + a % 10)) 0
      rw [List.nil_append] at this
      rw [this, dig_val (Nat.mod_lt _ (by decide))]
      show some (0 * 10 + a % 10) = some a
      congr 1
      omega
    · rw [dec_big h, decFrom_app, ih (a / 10) (by omega), dig_val (Nat.mod_lt _ (by decide))]
      show some (a / 10 * 10 + a % 10) = some a
      congr 1
      omega
theorem dec_ne (a : Nat) : Lib.decDigits a ≠ [] := by
  by_cases h : a < 10
  · rw [dec_small h]; simp
  · rw [dec_big h]; simp
theorem dec_digit (N : Nat) : ∀ a, a < N → ∀ c ∈ Lib.decDigits a, 48 ≤ c.toNat ∧ c.toNat ≤ 57 := by
  induction N with
  | zero => exact fun a h => absurd h (Nat.not_lt_zero _)
  | succ N ih =>
    intro a ha c hc
    have hd : a % 10 < 10 := Nat.mod_lt _ (by decide)
    by_cases h : a < 10
    · rw [dec_small h, List.mem_singleton] at hc
      rw [hc, dig_nat hd]
      omega
    · rw [dec_big h, List.mem_append, List.mem_singleton] at hc
      rcases hc with hc | hc
      · exact ih (a / 10) (by omega) c hc
      · rw [hc, dig_nat hd]
        omega
theorem dec_cons (a : Nat) : ∃ c r, Lib.decDigits a = c :: r ∧ 48 ≤ c.toNat ∧ c.toNat ≤ 57 := by
  cases h : Lib.decDigits a with
  | nil => exact absurd h (dec_ne a)
  | cons c r => exact ⟨c, r, rfl, dec_digit (a + 1) a (Nat.lt_succ_self _) c (by rw [h]; simp)⟩
theorem decNat_dec (a : Nat) : Lib.decNat (Lib.decDigits a) = some a := by
  unfold Lib.decNat
  rw [if_neg (by simpa using dec_ne a)]
  exact dec_dec (a + 1) a (Nat.lt_succ_self _)
theorem atoi_itoa (m : Int) : Lib.atoi (Lib.itoa m) = some m := by
  unfold Lib.itoa
  split
  · show (Lib.decNat (Lib.decDigits m.natAbs)).map (fun (m : Nat) => -(m : Int)) = _
    rw [decNat_dec]
    show some (-(m.natAbs : Int)) = _
    congr 1
    omega
  · obtain ⟨c, r, e, h1, h2⟩ := dec_cons m.toNat
    have hd := decNat_dec m.toNat
    rw [e] at hd ⊢
    have n1 : (c == 45) = false := by
      rw [beq_eq_false_iff_ne]
      intro h
      rw [h] at h1
      exact absurd h1 (by decide)
    have n2 : (c == 43) = false := by
      rw [beq_eq_false_iff_ne]
      intro h
      rw [h] at h1
      exact absurd h1 (by decide)
    show (if (c == 45) = true then (Lib.decNat r).map (fun (m : Nat) => -(m : Int)) else if (c == 43) = true then (Lib.decNat r).map (fun (m : Nat) => (m : Int)) else (Lib.decNat (c :: r)).map (fun (m : Nat) => (m : Int))) = _
    rw [n1, n2, hd, if_neg (by simp), if_neg (by simp)]
    show some ((m.toNat : Nat) : Int) = _
    congr 1
    omega
/-- a number with a byte more behind. -/
def stepv (n : Nat) (c : UInt8) : Nat := if 48 ≤ c.toNat ∧ c.toNat ≤ 57 then 10 * n + (c.toNat - 48) else n
def valN (l : List UInt8) : Nat := l.foldl stepv 0
theorem valN_snoc (l : List UInt8) (c : UInt8) : valN (l ++ [c]) = stepv (valN l) c := by unfold valN; rw [List.foldl_append]; rfl
theorem valN_dec (N : Nat) : ∀ a, a < N → valN (Lib.decDigits a) = a := by
  induction N with
  | zero => exact fun a h => absurd h (Nat.not_lt_zero _)
  | succ N ih =>
    intro a ha
    have hd : a % 10 < 10 := Nat.mod_lt _ (by decide)
    by_cases h : a < 10
    · rw [dec_small h]
      show stepv 0 (UInt8.ofNat (48 + a % 10)) = a
      unfold stepv
      rw [dig_nat hd, if_pos (by omega)]
      omega
    · rw [dec_big h, valN_snoc, ih (a / 10) (by omega)]
      unfold stepv
      rw [dig_nat hd, if_pos (by omega)]
      omega
def sval (l : List UInt8) : Int := if l.head? = some 45 then -(valN l : Int) else (valN l : Int)
theorem sval_itoa (m : Int) : sval (Lib.itoa m) = m := by
  unfold Lib.itoa sval
  split
  · rw [if_pos (show (45 :: Lib.decDigits m.natAbs).head? = some 45 from rfl)]
    have e : valN (45 :: Lib.decDigits m.natAbs) = valN (Lib.decDigits m.natAbs) := rfl
    rw [e, valN_dec (m.natAbs + 1) _ (Nat.lt_succ_self _)]
    omega
  · obtain ⟨c, r, e, h1, h2⟩ := dec_cons m.toNat
    rw [if_neg, valN_dec (m.toNat + 1) _ (Nat.lt_succ_self _)]
    · omega
    · rw [e]
      intro h
      have h' : c = 45 := by simpa using h
      rw [h'] at h1
      exact absurd h1 (by decide)
theorem dec_short (k : Nat) : ∀ a, a < 10 ^ (k + 1) → (Lib.decDigits a).length ≤ k + 1 := by
  induction k with
  | zero => intro a ha; rw [dec_small (by simpa using ha)]; simp
  | succ k ih =>
    intro a ha
    by_cases h : a < 10
    · rw [dec_small h]; simp
    · rw [dec_big h, List.length_append]
      have h2 : a / 10 < 10 ^ (k + 1) := by rw [Nat.pow_succ] at ha; omega
      have := ih (a / 10) h2
      simp
      omega
def inr15 (m : Int) : Bool := inI m (-1000000000000000) 1000000000000000
theorem inr_bd {m : Int} (h : inr15 m = true) : -1000000000000000 ≤ m ∧ m ≤ 1000000000000000 := by
  unfold inr15 inI at h
  simp only [Bool.and_eq_true, decide_eq_true_eq] at h
  exact h
theorem itoa_17 {m : Int} (h : inr15 m = true) : 1 ≤ (Lib.itoa m).length ∧ (Lib.itoa m).length ≤ 17 := by
  have hb := inr_bd h
  unfold Lib.itoa
  split
  · have := dec_short 15 m.natAbs (by omega)
    rw [List.length_cons]
    omega
  · have := dec_short 15 m.toNat (by omega)
    have := List.length_pos_iff.2 (dec_ne m.toNat)
    omega
/-- the number with a text. -/
def rdV (l : List UInt8) : Int × Bool := match Lib.atoi l with
  | some m => if inr15 m = true ∧ Lib.itoa m = l then (m, true) else (0, false)
  | none => (0, false)
theorem rdV_yes {l : List UInt8} {n : Int} (h : inr15 n = true) (e : Lib.itoa n = l) : rdV l = (n, true) := by
  subst e
  unfold rdV
  rw [atoi_itoa]
  exact if_pos ⟨h, rfl⟩
theorem rdV_no {l : List UInt8} (n : Int) (h : ¬ (inr15 n = true ∧ Lib.itoa n = l)) (hu : ∀ m, inr15 m = true → Lib.itoa m = l → m = n) : rdV l = (0, false) := by
  unfold rdV
  cases Lib.atoi l with
  | none => rfl
  | some m =>
    refine if_neg fun hm => ?_
    have := hu m hm.1 hm.2
    rw [this] at hm
    exact h hm
theorem rdV_none {l : List UInt8} (h : ∀ m, inr15 m = true → Lib.itoa m = l → False) : rdV l = (0, false) := rdV_no 0 (fun x => h 0 x.1 x.2) (fun m h1 h2 => (h m h1 h2).elim)
theorem parse_itoa {l : List UInt8} {m : Int} (h : inr15 m = true) (e : Lib.itoa m = l) : Lib.parseIntB 64 l = .ok m := by
  subst e
  rw [Lib.parseIntB_64, Lib.atoiAll_short _ (by have := (itoa_17 h).2; omega), atoi_itoa]
  rfl
theorem bytes_eq {s : ByteArray} {l : List UInt8} (h : l = s.data.toList) : (⟨l.toArray⟩ : ByteArray) = s := by
  subst h
  simp
theorem bytes_ne {s : ByteArray} {l : List UInt8} (h : l ≠ s.data.toList) : (l == s.toList) = false := by
  rw [Lib.toList_data, beq_eq_false_iff_ne]
  exact h
theorem take_snoc' (s : ByteArray) (k : Nat) (h : k < s.size) : s.data.toList.take (k + 1) = s.data.toList.take k ++ [s[k]] := by
  rw [List.take_succ_eq_append_getElem (by simpa using h)]; rfl
def RetIT (r : Int × Bool) (w : World) (e : Ending) (w' : World) : Prop := e = .returned (.tuple #[.int .i64 r.1, .bool r.2]) ∧ Below w.heap.size w w'
set_option maxHeartbeats 4000000 in
set_option maxRecDepth 100000 in
theorem spec_l01Value (s : ByteArray) (hs : s.size ≤ 1048576) (w : World) : Calls Tryd.prog 41 #[.string s] w (RetIT (rdV s.data.toList) w) := by
  have hsl : s.data.toList.length = s.size := by rw [Array.length_toList]; rfl
  have HSL := Lib.hid hsl
  clear hsl
  by_cases c1 : s.size < 1
  · have HR := Lib.hid (show rdV s.data.toList = (0, false) from rdV_none fun m h1 h2 => by have := (itoa_17 h1).1; rw [h2, HSL.out] at this; omega)
    have c1' : (s.size : Int) < 1 := by omega
    clear c1
    go_enter Tryd.func41, Tryd.ntmps41
    go_wp2_with fail
    go_ret2
    rw [HR.out]
    exact ⟨rfl, (by repeat' (first | with_reducible exact Below.refl _ _ | with_reducible assumption | with_reducible refine below_dn ?_ _ | with_reducible refine Below.drew ?_ | with_reducible refine below_step ?_ (by assumption) | with_reducible refine Below.setCell ?_ ?_ _ | with_reducible refine Below.alloc ?_ ?_ _ | with_reducible exact Nat.le_refl _ | (simp; done) | (simp; omega) | omega))⟩
  by_cases c2 : 17 < s.size
  · have HR := Lib.hid (show rdV s.data.toList = (0, false) from rdV_none fun m h1 h2 => by have := (itoa_17 h1).2; rw [h2, HSL.out] at this; omega)
    have c1' : ¬ (s.size : Int) < 1 := by omega
    have c2' : (17 : Int) < (s.size : Int) := by omega
    clear c1 c2
    go_enter Tryd.func41, Tryd.ntmps41
    go_wp2_with fail
    go_ret2
    rw [HR.out]
    exact ⟨rfl, (by repeat' (first | with_reducible exact Below.refl _ _ | with_reducible assumption | with_reducible refine below_dn ?_ _ | with_reducible refine Below.drew ?_ | with_reducible refine below_step ?_ (by assumption) | with_reducible refine Below.setCell ?_ ?_ _ | with_reducible refine Below.alloc ?_ ?_ _ | with_reducible exact Nat.le_refl _ | (simp; done) | (simp; omega) | omega))⟩
  have c1' : ¬ (s.size : Int) < 1 := by omega
  have c2' : ¬ (17 : Int) < (s.size : Int) := by omega
  have c3 : 0 < s.size := by omega
  have c4 : s.size ≤ 17 := by omega
  clear c1 c2
  go_enter Tryd.func41, Tryd.ntmps41
  go_wp2_with fail
  go_loopw [4, 5] (fun v i wr => ∃ k n : Nat, k ≤ s.size ∧ i = .int .i64 k ∧ v = .int .i64 n ∧ n = valN (s.data.toList.take k) ∧ n < 10 ^ k ∧ Below w.heap.size w wr) (fun _ i _ => s.size - (intOf i).toNat)
  case atStart => exact ⟨0, 0, Nat.zero_le _, rfl, rfl, rfl, by decide, (by repeat' (first | with_reducible exact Below.refl _ _ | with_reducible assumption | with_reducible refine below_dn ?_ _ | with_reducible refine Below.drew ?_ | with_reducible refine below_step ?_ (by assumption) | with_reducible refine Below.setCell ?_ ?_ _ | with_reducible refine Below.alloc ?_ ?_ _ | with_reducible exact Nat.le_refl _ | (simp; done) | (simp; omega) | omega))⟩
  case round =>
    obtain ⟨k, n, hk, rfl, rfl, hn, hn2, hB⟩ := hrel
    have HN := Lib.hid hn
    have HN2 := Lib.hid hn2
    have HB := Lib.hid hB
    have hn3 : n < 10 ^ 17 := Nat.lt_of_lt_of_le hn2 (Nat.pow_le_pow_right (by decide) (by omega))
    have hn4 : (n : Int) < 100000000000000000 := by omega
    have hn0 : (0 : Int) ≤ (n : Int) := by omega
    clear hn hn2 hB hn3
    by_cases hlt : k < s.size
    · have hk0 : (0 : Int) ≤ (k : Int) := by omega
      have hk1 : (k : Int) < (s.size : Int) := by omega
      by_cases hd1 : 48 ≤ s[k].toNat
      · by_cases hd2 : s[k].toNat ≤ 57
        · have e1 : (48 : Int) ≤ (s[k].toNat : Int) := by omega
          have e2 : (s[k].toNat : Int) ≤ 57 := by omega
          have HV := Lib.hid (show valN (s.data.toList.take (k + 1)) = 10 * n + (s[k].toNat - 48) from by
            rw [take_snoc' s k hlt, valN_snoc, ← HN.out]
            exact if_pos ⟨hd1, hd2⟩)
          clear hd1 hd2
          go_wp2_with fail
          go_roundw
          case rel => exact ⟨k + 1, 10 * n + (s[k].toNat - 48), by omega, by go_num, by congr 1; omega, HV.out.symm, by have := HN2.out; rw [Nat.pow_succ]; omega, HB.out⟩
          case measure => simp [intOf]; omega
        · have e1 : (48 : Int) ≤ (s[k].toNat : Int) := by omega
          have e2 : ¬ (s[k].toNat : Int) ≤ 57 := by omega
          have HV := Lib.hid (show valN (s.data.toList.take (k + 1)) = n from by
            rw [take_snoc' s k hlt, valN_snoc, ← HN.out]
            exact if_neg fun h => hd2 h.2)
          clear hd1 hd2
          go_wp2_with fail
          go_roundw
          case rel => exact ⟨k + 1, n, by omega, by go_num, rfl, HV.out.symm, by have := HN2.out; rw [Nat.pow_succ]; omega, HB.out⟩
          case measure => simp [intOf]; omega
      · have e1 : ¬ (48 : Int) ≤ (s[k].toNat : Int) := by omega
        have HV := Lib.hid (show valN (s.data.toList.take (k + 1)) = n from by
          rw [take_snoc' s k hlt, valN_snoc, ← HN.out]
          exact if_neg fun h => hd1 h.1)
        clear hd1
        go_wp2_with fail
        go_roundw
        case rel => exact ⟨k + 1, n, by omega, by go_num, rfl, HV.out.symm, by have := HN2.out; rw [Nat.pow_succ]; omega, HB.out⟩
        case measure => simp [intOf]; omega
    · have HNV := Lib.hid (show n = valN s.data.toList from by
        rw [HN.out, List.take_of_length_le (by rw [HSL.out]; omega)])
      have HH := Lib.hid (show s.data.toList.head? = some s[0] from by
        rw [List.head?_eq_getElem?, List.getElem?_eq_getElem (by rw [HSL.out]; exact c3)]
        rfl)
      by_cases c45 : s[0].toNat = 45
      · have e45 : ((s[0].toNat : Int) == 45) = true := by rw [c45]; rfl
        have HU := Lib.hid (show ∀ m, inr15 m = true → Lib.itoa m = s.data.toList → m = -(n : Int) from fun m _ h2 => by
          have := sval_itoa m
          rw [h2] at this
          unfold sval at this
          rw [HH.out, if_pos (by congr 1; exact UInt8.toNat_inj.1 c45), ← HNV.out] at this
          exact this.symm)
        clear c45
        cases hin : inI (-(n : Int)) (-1000000000000000) 1000000000000000
        · go_wp2_with (go_at_call 44; refine (spec_l00In (-(n : Int)) (-1000000000000000) 1000000000000000 _).mono ?_; rintro e w7 ⟨rfl, nq, rfl⟩; rw [hin])
          go_ret2
          rw [RetIT, rdV_no (-(n : Int)) (fun h => by have := h.1; unfold inr15 at this; rw [hin] at this; cases this) HU.out]
          exact ⟨rfl, below_dn HB.out nq⟩
        · have hbd := inr_bd hin
          obtain ⟨hbd1, hbd2⟩ := hbd
          by_cases he : Lib.itoa (-(n : Int)) = s.data.toList
          · have HE := Lib.hid he
            have hse : (⟨(Lib.itoa (-(n : Int))).toArray⟩ : ByteArray) = s := bytes_eq he
            have HSE := Lib.hid hse
            clear he hse
            go_wp2_with (first | (go_at_call 44; refine (spec_l00In (-(n : Int)) (-1000000000000000) 1000000000000000 _).mono ?_; rintro e w7 ⟨rfl, nq, rfl⟩; rw [hin]) | (go_at_call 29; refine (spec_l01Dec (-(n : Int)) (by omega) (by omega) _).mono ?_; rintro e w8 ⟨rfl, hb8⟩; have HB8 := Lib.hid hb8; clear hb8; rw [HSE.out]))
            go_ret2
            rw [RetIT, rdV_yes (n := (-(n : Int))) hin HE.out]
            exact ⟨rfl, (below_dn HB.out nq).trans (HB8.out.mono (by have := HB.out.size; simp; omega))⟩
          · have hse : (Lib.itoa (-(n : Int)) == s.toList) = false := bytes_ne he
            have HE := Lib.hid he
            clear he
            go_wp2_with (first | (go_at_call 44; refine (spec_l00In (-(n : Int)) (-1000000000000000) 1000000000000000 _).mono ?_; rintro e w7 ⟨rfl, nq, rfl⟩; rw [hin]) | (go_at_call 29; refine (spec_l01Dec (-(n : Int)) (by omega) (by omega) _).mono ?_; rintro e w8 ⟨rfl, hb8⟩; have HB8 := Lib.hid hb8; clear hb8))
            go_ret2
            rw [RetIT, rdV_no (-(n : Int)) (fun h => HE.out h.2) HU.out]
            exact ⟨rfl, (below_dn HB.out nq).trans (HB8.out.mono (by have := HB.out.size; simp; omega))⟩
      · have e45 : ((s[0].toNat : Int) == 45) = false := by
          rw [beq_eq_false_iff_ne]
          omega
        have HU := Lib.hid (show ∀ m, inr15 m = true → Lib.itoa m = s.data.toList → m = (n : Int) from fun m _ h2 => by
          have := sval_itoa m
          rw [h2] at this
          unfold sval at this
          rw [HH.out, if_neg (fun h => c45 (by rw [Option.some.inj h]; rfl)), ← HNV.out] at this
          exact this.symm)
        clear c45
        cases hin : inI (n : Int) (-1000000000000000) 1000000000000000
        · go_wp2_with (go_at_call 44; refine (spec_l00In (n : Int) (-1000000000000000) 1000000000000000 _).mono ?_; rintro e w7 ⟨rfl, nq, rfl⟩; rw [hin])
          go_ret2
          rw [RetIT, rdV_no (n : Int) (fun h => by have := h.1; unfold inr15 at this; rw [hin] at this; cases this) HU.out]
          exact ⟨rfl, below_dn HB.out nq⟩
        · have hbd := inr_bd hin
          obtain ⟨hbd1, hbd2⟩ := hbd
          by_cases he : Lib.itoa (n : Int) = s.data.toList
          · have HE := Lib.hid he
            have hse : (⟨(Lib.itoa (n : Int)).toArray⟩ : ByteArray) = s := bytes_eq he
            have HSE := Lib.hid hse
            clear he hse
            go_wp2_with (first | (go_at_call 44; refine (spec_l00In (n : Int) (-1000000000000000) 1000000000000000 _).mono ?_; rintro e w7 ⟨rfl, nq, rfl⟩; rw [hin]) | (go_at_call 29; refine (spec_l01Dec (n : Int) (by omega) (by omega) _).mono ?_; rintro e w8 ⟨rfl, hb8⟩; have HB8 := Lib.hid hb8; clear hb8; rw [HSE.out]))
            go_ret2
            rw [RetIT, rdV_yes (n := (n : Int)) hin HE.out]
            exact ⟨rfl, (below_dn HB.out nq).trans (HB8.out.mono (by have := HB.out.size; simp; omega))⟩
          · have hse : (Lib.itoa (n : Int) == s.toList) = false := bytes_ne he
            have HE := Lib.hid he
            clear he
            go_wp2_with (first | (go_at_call 44; refine (spec_l00In (n : Int) (-1000000000000000) 1000000000000000 _).mono ?_; rintro e w7 ⟨rfl, nq, rfl⟩; rw [hin]) | (go_at_call 29; refine (spec_l01Dec (n : Int) (by omega) (by omega) _).mono ?_; rintro e w8 ⟨rfl, hb8⟩; have HB8 := Lib.hid hb8; clear hb8))
            go_ret2
            rw [RetIT, rdV_no (n : Int) (fun h => HE.out h.2) HU.out]
            exact ⟨rfl, (below_dn HB.out nq).trans (HB8.out.mono (by have := HB.out.size; simp; omega))⟩
set_option maxHeartbeats 1000000 in
theorem spec_ReadDecimal (s : ByteArray) (hs : s.size ≤ 1048576) (w : World) : Calls Tryd.prog 27 #[.string s] w (RetIT (rdV s.data.toList) w) := by
  go_enter Tryd.func27, Tryd.ntmps27
  go_wp2_with fail
  refine (spec_l01Value s hs _).mono ?_
  rintro e w1 ⟨rfl, hb⟩
  go_wp2_with fail
  go_ret2
  exact ⟨rfl, hb⟩
set_option maxHeartbeats 4000000 in
set_option maxRecDepth 100000 in
theorem impl_ReadDecimal (s : ByteArray) (hs : s.size ≤ 1048576) (w : World) (ht : Lib.TabIs Tryd.prog w "internal/strconv.uint64pow10" .u64 Lib.pow10Tab) (tp1 : TypeId) (p1 : Value) (hv1 : w.var? Tryd.prog "strconv.ErrSyntax" = some #[.iface tp1 p1]) (tp2 : TypeId) (p2 : Value) (hv2 : w.var? Tryd.prog "strconv.ErrRange" = some #[.iface tp2 p2]) :
    Calls Tryd.prog 28 #[.string s] w (RetIT (rdV s.data.toList) w) := by
  have HT := Lib.hid ht
  have HV1 := Lib.hid hv1
  have HV2 := Lib.hid hv2
  clear ht hv1 hv2
  cases hp : Lib.parseIntB 64 s.data.toList
  · next v =>
    have HP := Lib.hid hp
    have HU := Lib.hid (show ∀ m, inr15 m = true → Lib.itoa m = s.data.toList → m = v from fun m h1 h2 => by
      have := parse_itoa h1 h2
      rw [HP.out] at this
      cases this
      rfl)
    clear hp
    go_enter Tryd.func28, Tryd.ntmps28
    go_wp2_with fail
    refine (Tryd.strconv_ParseInt_10_at64_ok s (by omega) v HP.out _).mono ?_
    rintro e w1 ⟨rfl, hw1⟩
    have HB := Lib.hid (show Below w.heap.size w w1 from by
      rcases hw1 with rfl | ⟨t, rfl⟩
      · exact Below.refl _ _
      · exact Lib.bytesWorld_below _ _ _)
    have HT1 := Lib.hid (tab_below HT.out HB.out)
    clear hw1
    cases hin : inI v (-1000000000000000) 1000000000000000
    · go_wp2_with (go_at_call 33; refine (impl_in v (-1000000000000000) 1000000000000000 _).mono ?_; rintro e w7 ⟨rfl, nq, rfl⟩; rw [hin])
      go_ret2
      rw [RetIT, rdV_no v (fun h => by have := h.1; unfold inr15 at this; rw [hin] at this; cases this) HU.out]
      exact ⟨rfl, below_dn HB.out nq⟩
    · have hbd := inr_bd hin
      obtain ⟨hbd1, hbd2⟩ := hbd
      by_cases he : Lib.itoa v = s.data.toList
      · have HE := Lib.hid he
        have hse : (⟨(Lib.itoa v).toArray⟩ : ByteArray) = s := bytes_eq he
        have HSE := Lib.hid hse
        clear he hse
        go_wp2_with (first | (go_at_call 33; refine (impl_in v (-1000000000000000) 1000000000000000 _).mono ?_; rintro e w7 ⟨rfl, nq, rfl⟩; rw [hin]) | (go_at_call 10; refine (impl_Decimal v (by omega) (by omega) _ (tab_below HT1.out (below_n _ _ nq))).mono ?_; rintro e w8 ⟨rfl, hb8⟩; have HB8 := Lib.hid hb8; clear hb8; rw [HSE.out]))
        go_ret2
        rw [RetIT, rdV_yes (n := v) hin HE.out]
        exact ⟨rfl, (below_dn HB.out nq).trans (HB8.out.mono (by have := HB.out.size; simp; omega))⟩
      · have hse : (Lib.itoa v == s.toList) = false := bytes_ne he
        have HE := Lib.hid he
        clear he
        go_wp2_with (first | (go_at_call 33; refine (impl_in v (-1000000000000000) 1000000000000000 _).mono ?_; rintro e w7 ⟨rfl, nq, rfl⟩; rw [hin]) | (go_at_call 10; refine (impl_Decimal v (by omega) (by omega) _ (tab_below HT1.out (below_n _ _ nq))).mono ?_; rintro e w8 ⟨rfl, hb8⟩; have HB8 := Lib.hid hb8; clear hb8))
        go_ret2
        rw [RetIT, rdV_no v (fun h => HE.out h.2) HU.out]
        exact ⟨rfl, (below_dn HB.out nq).trans (HB8.out.mono (by have := HB.out.size; simp; omega))⟩
  · have HP := Lib.hid hp
    have HR := Lib.hid (show rdV s.data.toList = (0, false) from rdV_none fun m h1 h2 => by
      have := parse_itoa h1 h2
      rw [HP.out] at this
      cases this)
    clear hp
    go_enter Tryd.func28, Tryd.ntmps28
    go_wp2_with fail
    refine (Tryd.strconv_ParseInt_10_at64_syntax_var s (by omega) HP.out tp1 p1 _ HV1.out).mono ?_
    rintro e w1 ⟨N, rfl, _, _, hb1⟩
    have HB := Lib.hid hb1
    clear hb1
    go_wp2_with fail
    go_ret2
    rw [HR.out]
    exact ⟨rfl, HB.out⟩
  · have HP := Lib.hid hp
    have HR := Lib.hid (show rdV s.data.toList = (0, false) from rdV_none fun m h1 h2 => by
      have := parse_itoa h1 h2
      rw [HP.out] at this
      cases this)
    clear hp
    go_enter Tryd.func28, Tryd.ntmps28
    go_wp2_with fail
    refine (Tryd.strconv_ParseInt_10_at64_range_var s (by omega) HP.out tp2 p2 _ HV2.out).mono ?_
    rintro e w1 ⟨N, rfl, _, _, hb1⟩
    have HB := Lib.hid hb1
    clear hb1
    go_wp2_with fail
    go_ret2
    rw [HR.out]
    exact ⟨rfl, HB.out⟩
end Go.Proofs.YtfempadelilpoaaDoor
