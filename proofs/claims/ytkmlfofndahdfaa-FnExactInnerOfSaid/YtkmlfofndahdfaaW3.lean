/- Contracts of the functions on bits, program and reference. -/
import Derived.Test.YtkmlfofndahdfaaW2
import Derived.Deep.RegionWith
namespace Go.Proofs.Ytkmlfofndahdfaa
open Go.ChangeShapes Go.WideShapes Go.ChangeAt Go.RowKit Go.Deep

theorem u32_clear (x : Nat) (hx : x < 4294967296) : (bits .andNot .u32 (x : Int) 2147483648).toNat = x % 2147483648 := by
  have e : bits .andNot .u32 (x : Int) 2147483648 = IntKind.u32.wrap ((BitVec.ofInt 32 (x : Int) &&& ~~~ BitVec.ofInt 32 2147483648).toNat : Int) := rfl
  have e1 : (BitVec.ofInt 32 (x : Int)).toNat = x := by
    rw [BitVec.ofInt_natCast, BitVec.toNat_ofNat]; exact Nat.mod_eq_of_lt (by omega)
  have e2 : (~~~ BitVec.ofInt 32 2147483648).toNat = 2 ^ 31 - 1 := by decide
  rw [e, BitVec.toNat_and, e1, e2, Nat.and_two_pow_sub_one_eq_mod]
  have h3 : x % 2 ^ 31 < 2147483648 := Nat.mod_lt _ (by decide)
  have e4 : IntKind.u32.wrap ((x % 2 ^ 31 : Nat) : Int) = ((x % 2 ^ 31 : Nat) : Int) := by
    show ((x % 2 ^ 31 : Nat) : Int) % 4294967296 = _
    omega
  rw [e4]
  rfl
theorem subB_spec (x : Nat) (hx : x < 4294967296) : (FloatKind.f32.format.order x 0 != some Ordering.eq && (bits .and .i64 (bitsI x) 2139095040 == 0)) = subB x := by
  cases hn : isN .f32 x
  · rw [bitsI_num hn]
    have e := i64_and_nat x 2139095040 (by omega) (by omega)
    have e' : bits .and .i64 (x : Int) 2139095040 = ((x &&& 2139095040 : Nat) : Int) := e
    rw [e']
    have h1 := eq_zero_iff x
    have h2 := and_exp x
    unfold subB
    by_cases c1 : x % 2147483648 = 0
    · rw [h1.2 c1, c1]; simp
    · have c1' : FloatKind.f32.format.order x 0 ≠ some Ordering.eq := fun h => c1 (h1.1 h)
      by_cases c2 : x % 2147483648 < 8388608
      · rw [h2.2 c2]
        rw [decide_eq_true ⟨by omega, c2⟩]
        simp [bne_iff_ne, c1']
      · have c3 : ¬ (x &&& 2139095040 = 0) := fun h => c2 (h2.1 h)
        rw [decide_eq_false (by omega)]
        have c4 : (((x &&& 2139095040 : Nat) : Int) == 0) = false := by
          rw [beq_eq_false_iff_ne]; omega
        rw [c4, Bool.and_false]
  · rw [bitsI_nan hn]
    have e := i64_and_nat 2143289344 2139095040 (by omega) (by omega)
    have e' : bits .and .i64 2143289344 2139095040 = ((2143289344 &&& 2139095040 : Nat) : Int) := e
    have e2 : (2143289344 &&& 2139095040 : Nat) = 2139095040 := by decide
    rw [e', e2]
    have := isN_gt hn
    unfold subB
    rw [decide_eq_false (by omega)]
    simp
theorem subB_impl (x : Nat) : (FloatKind.f32.format.order x 0 != some Ordering.eq && (FloatKind.f32.format.order (x % 2147483648) 8388608 == some Ordering.lt)) = subB x := by
  have h0 : isN .f32 8388608 = false := isN_small _ (by omega)
  have h1 := eq_zero_iff x
  have h2 := order_lt_iff .f32 (x % 2147483648) 8388608
  rw [si_num 8388608 (by omega), si_num (x % 2147483648) (Nat.mod_lt _ (by omega))] at h2
  unfold subB
  by_cases c1 : x % 2147483648 = 0
  · rw [h1.2 c1, c1]; simp
  · have c1' : FloatKind.f32.format.order x 0 ≠ some Ordering.eq := fun h => c1 (h1.1 h)
    by_cases c2 : x % 2147483648 < 8388608
    · have c3 : isN .f32 (x % 2147483648) = false := isN_small _ (by omega)
      rw [h2.2 ⟨c3, h0, by omega⟩, decide_eq_true ⟨by omega, c2⟩]
      simp [bne_iff_ne, c1']
    · have c3 : FloatKind.f32.format.order (x % 2147483648) 8388608 ≠ some Ordering.lt := fun h => by
        have := (h2.1 h).2.2
        omega
      rw [decide_eq_false (by omega)]
      have c4 : (FloatKind.f32.format.order (x % 2147483648) 8388608 == some Ordering.lt) = false := by
        rw [beq_eq_false_iff_ne]; exact c3
      rw [c4, Bool.and_false]

theorem impl_abs (x : Nat) (hx : x < 4294967296) (w : World) : Calls Try.prog 43 #[.float .f32 x] w (RetQ (.float .f32 (x % 2147483648)) w) := by
  have h := Lib.hid (u32_clear x hx)
  go_enter Try.func43, Try.ntmps43
  go_wp2
  go_ret
  exact retQ_flt h.out w
theorem spec_IsSubnormal (x : Nat) (hx : x < 4294967296) (w : World) : Calls Try.prog 20 #[.float .f32 x] w (RetQ (.bool (subB x)) w) := by
  have h := Lib.hid (subB_spec x hx)
  cases hz : FloatKind.f32.format.order x 0 != some Ordering.eq
  · have h' := Lib.hid (show subB x = false by rw [← h.out, hz]; rfl)
    go_enter Try.func20, Try.ntmps20
    go_wp2_with (go_at_call 42; refine (spec_l01Bits _ hx _).mono ?_; rintro e w' ⟨rfl, n, rfl⟩)
    go_ret
    exact retQ_bool0 (by rw [h'.out]) w
  · have h' := Lib.hid (show subB x = (bits .and .i64 (bitsI x) 2139095040 == 0) by rw [← h.out, hz]; rfl)
    go_enter Try.func20, Try.ntmps20
    go_wp2_with (go_at_call 42; refine (spec_l01Bits _ hx _).mono ?_; rintro e w' ⟨rfl, n, rfl⟩)
    go_ret
    exact retQ_bool (by rw [h'.out]) w _
theorem impl_IsSubnormal (x : Nat) (hx : x < 4294967296) (w : World) : Calls Try.prog 21 #[.float .f32 x] w (RetQ (.bool (subB x)) w) := by
  have h := Lib.hid (subB_impl x)
  cases hz : FloatKind.f32.format.order x 0 != some Ordering.eq
  · have h' := Lib.hid (show subB x = false by rw [← h.out, hz]; rfl)
    go_enter Try.func21, Try.ntmps21
    go_wp2_with (go_at_call 43; refine (impl_abs _ hx _).mono ?_; rintro e w' ⟨rfl, n, rfl⟩)
    go_ret
    exact retQ_bool0 (by rw [h'.out]) w
  · have h' := Lib.hid (show subB x = (FloatKind.f32.format.order (x % 2147483648) 8388608 == some Ordering.lt) by rw [← h.out, hz]; rfl)
    go_enter Try.func21, Try.ntmps21
    go_wp2_with (go_at_call 43; refine (impl_abs _ hx _).mono ?_; rintro e w' ⟨rfl, n, rfl⟩)
    go_ret
    exact retQ_bool (by rw [h'.out]) w _

def sameB (a b : Nat) : Bool := bitsI a == bitsI b
theorem spec_l01Same (a b : Nat) (ha : a < 4294967296) (hb : b < 4294967296) (w : World) : Calls Try.prog 46 #[.float .f32 a, .float .f32 b] w (RetQ (.bool (sameB a b)) w) := by
  go_enter Try.func46, Try.ntmps46
  go_wp2_with (first | (go_at_call_of 42 (Value.float FloatKind.f32 a); refine (spec_l01Bits a ha _).mono ?_; rintro e w' ⟨rfl, n, rfl⟩) | (go_at_call_of 42 (Value.float FloatKind.f32 b); refine (spec_l01Bits b hb _).mono ?_; rintro e w' ⟨rfl, n, rfl⟩))
  go_ret
  exact retQ_bool rfl w _
theorem spec_SameNumber (a b : Nat) (ha : a < 4294967296) (hb : b < 4294967296) (w : World) : Calls Try.prog 26 #[.float .f32 a, .float .f32 b] w (RetQ (.bool (sameB a b)) w) := by
  go_enter Try.func26, Try.ntmps26
  go_wp2_with (go_at_call 46; refine (spec_l01Same a b ha hb _).mono ?_; rintro e w' ⟨rfl, n, rfl⟩)
  go_ret
  exact retQ_bool rfl w _
theorem sameB_nan {a b : Nat} (h : isN .f32 a = true ∨ isN .f32 b = true) : sameB a b = (isN .f32 a && isN .f32 b) := by
  unfold sameB
  have h1 := bitsI_eq_iff a b
  cases ha : isN .f32 a <;> cases hb : isN .f32 b <;> simp [ha, hb] at h h1 ⊢ <;> exact h1
theorem sameB_num {a b : Nat} (ha : isN .f32 a = false) (hb : isN .f32 b = false) : sameB a b = ((a : Int) == (b : Int)) := by
  unfold sameB
  rw [bitsI_num ha, bitsI_num hb]
theorem impl_SameNumber (a b : Nat) (w : World) : Calls Try.prog 27 #[.float .f32 a, .float .f32 b] w (RetQ (.bool (sameB a b)) w) := by
  cases na : isN .f32 a
  · have fa : (FloatKind.f32.format.order a a != some Ordering.eq) = false := by rw [self_neq]; exact na
    cases nb : isN .f32 b
    · have fb : (FloatKind.f32.format.order b b != some Ordering.eq) = false := by rw [self_neq]; exact nb
      have hs := Lib.hid (sameB_num na nb)
      clear na nb
      go_enter Try.func27, Try.ntmps27
      go_wp2
      go_ret
      exact retQ_bool0 (by rw [hs.out]) w
    · have fb : (FloatKind.f32.format.order b b != some Ordering.eq) = true := by rw [self_neq]; exact nb
      have hs := Lib.hid (show sameB a b = false by rw [sameB_nan (.inr nb), na]; rfl)
      clear na nb
      go_enter Try.func27, Try.ntmps27
      go_wp2
      go_ret
      exact retQ_bool0 (by rw [hs.out]) w
  · have fa : (FloatKind.f32.format.order a a != some Ordering.eq) = true := by rw [self_neq]; exact na
    have hs := Lib.hid (show sameB a b = (FloatKind.f32.format.order b b != some Ordering.eq) by rw [sameB_nan (.inl na), na, self_neq]; rfl)
    clear na
    go_enter Try.func27, Try.ntmps27
    go_wp2
    go_ret
    exact retQ_bool0 (by rw [hs.out]) w

def inU (n : Int) : Bool := decide (0 ≤ n) && decide (n ≤ 4294967295)
def fromU (n : Int) : Nat := if inU n then n.toNat else 0
theorem spec_FromBits (n : Int) (w : World) : Calls Try.prog 33 #[.int .i64 n] w (RetQ (.tuple #[.float .f32 (fromU n), .bool (inU n)]) w) := by
  by_cases h1 : 0 ≤ n
  · by_cases h2 : n ≤ 4294967295
    · have e1 := Lib.hid (show inU n = true by simp [inU, h1, h2])
      have e2 := Lib.hid (show fromU n = n.toNat by simp [fromU, e1.out])
      go_enter Try.func33, Try.ntmps33
      go_wp2
      go_ret2
      exact retQ_fb0 e2.out.symm e1.out.symm w
    · have h3 : decide (n ≤ 4294967295) = false := decide_eq_false h2
      have e1 := Lib.hid (show inU n = false by simp [inU, h2])
      have e2 := Lib.hid (show fromU n = 0 by simp [fromU, e1.out])
      clear h2
      go_enter Try.func33, Try.ntmps33
      go_wp2
      go_ret2
      exact retQ_fb0 e2.out.symm e1.out.symm w
  · have h3 : decide (0 ≤ n) = false := decide_eq_false h1
    have e1 := Lib.hid (show inU n = false by simp [inU, h1])
    have e2 := Lib.hid (show fromU n = 0 by simp [fromU, e1.out])
    clear h1
    go_enter Try.func33, Try.ntmps33
    go_wp2
    go_ret2
    exact retQ_fb0 e2.out.symm e1.out.symm w
theorem impl_FromBits (n : Int) (w : World) : Calls Try.prog 34 #[.int .i64 n] w (RetQ (.tuple #[.float .f32 (fromU n), .bool (inU n)]) w) := by
  by_cases h1 : 0 ≤ n
  · by_cases h2 : n ≤ 4294967295
    · have e1 := Lib.hid (show inU n = true by simp [inU, h1, h2])
      have e2 := Lib.hid (show fromU n = n.toNat by simp [fromU, e1.out])
      go_enter Try.func34, Try.ntmps34
      go_wp2
      go_ret2
      exact retQ_fb0 e2.out.symm e1.out.symm w
    · have h3 : decide (n ≤ 4294967295) = false := decide_eq_false h2
      have e1 := Lib.hid (show inU n = false by simp [inU, h2])
      have e2 := Lib.hid (show fromU n = 0 by simp [fromU, e1.out])
      clear h2
      go_enter Try.func34, Try.ntmps34
      go_wp2
      go_ret2
      exact retQ_fb0 e2.out.symm e1.out.symm w
  · have h3 : decide (0 ≤ n) = false := decide_eq_false h1
    have e1 := Lib.hid (show inU n = false by simp [inU, h1])
    have e2 := Lib.hid (show fromU n = 0 by simp [fromU, e1.out])
    clear h1
    go_enter Try.func34, Try.ntmps34
    go_wp2
    go_ret2
    exact retQ_fb0 e2.out.symm e1.out.symm w
end Go.Proofs.Ytkmlfofndahdfaa
