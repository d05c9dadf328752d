/- Contracts of the functions on bits, program and reference. -/
import Derived.Test.YtfempadelilpoaaDoorW2
import Derived.Deep.RegionWith
namespace Go.Proofs.YtfempadelilpoaaDoor
open Go.ChangeShapes Go.WideShapes Go.ChangeAt Go.RowKit Go.Deep

theorem u32_clear (x : Nat) (hx : x < 4294967296) : (bits .andNot .u32 (x : Int) 2147483648).toNat = x % 2147483648 := by
  have e : bits .andNot .u32 (x : Int) 2147483648 = IntKind.u32.wrap ((BitVec.ofInt 32 (x : Int) &&& ~~~ BitVec.ofInt 32 2147483648).toNat : Int) := rfl
  have e1 : (BitVec.ofInt 32 (x : Int)).toNat = x := by
    rw [BitVec.ofInt_natCast, BitVec.toNat_ofNat]; exact Nat.mod_eq_of_lt (by omega)
  have e2 : (~~~ BitVec.ofInt 32 2147483648).toNat = 2 ^ 31 - 1 := by decide
  rw [e, BitVec.toNat_and, e1, e2, Nat.and_two_pow_sub_one_eq_mod]
  have h3 : x % 2 ^ 31 < 2147483648 := Nat.mod_lt _ (by decide)
  have e4 : IntKind.u32.wrap ((x % 2 ^ 31 : Nat) : Int) = ((x % 2 ^ 31 : Nat) : Int) := by
    show ((x % 2 ^ 31 : Nat) : Int) % 4294967296 = _
    omega
  rw [e4]
  rfl
theorem subB_spec (x : Nat) (hx : x < 4294967296) : (FloatKind.f32.format.order x 0 != some Ordering.eq && (bits .and .i64 (bitsI x) 2139095040 == 0)) = subB x := by
  cases hn : isN .f32 x
  · rw [bitsI_num hn]
    have e := i64_and_nat x 2139095040 (by omega) (by omega)
    have e' : bits .and .i64 (x : Int) 2139095040 = ((x &&& 2139095040 : Nat) : Int) := e
    rw [e']
    have h1 := eq_zero_iff x
    have h2 := and_exp x
    unfold subB
    by_cases c1 : x % 2147483648 = 0
    · rw [h1.2 c1, c1]; simp
    · have c1' : FloatKind.f32.format.order x 0 ≠ some Ordering.eq := fun h => c1 (h1.1 h)
      by_cases c2 : x % 2147483648 < 8388608
      · rw [h2.2 c2]
        rw [decide_eq_true ⟨by omega, c2⟩]
        simp [bne_iff_ne, c1']
      · have c3 : ¬ (x &&& 2139095040 = 0) := fun h => c2 (h2.1 h)
        rw [decide_eq_false (by omega)]
        have c4 : (((x &&& 2139095040 : Nat) : Int) == 0) = false := by
          rw [beq_eq_false_iff_ne]; omega
        rw [c4, Bool.and_false]
  · rw [bitsI_nan hn]
    have e := i64_and_nat 2143289344 2139095040 (by omega) (by omega)
    have e' : bits .and .i64 2143289344 2139095040 = ((2143289344 &&& 2139095040 : Nat) : Int) := e
    have e2 : (2143289344 &&& 2139095040 : Nat) = 2139095040 := by decide
    rw [e', e2]
    have := isN_gt hn
    unfold subB
    rw [decide_eq_false (by omega)]
    simp
theorem subB_impl (x : Nat) : (FloatKind.f32.format.order x 0 != some Ordering.eq && (FloatKind.f32.format.order (x % 2147483648) 8388608 == some Ordering.lt)) = subB x := by
  have h0 : isN .f32 8388608 = false := isN_small _ (by omega)
  have h1 := eq_zero_iff x
  have h2 := order_lt_iff .f32 (x % 2147483648) 8388608
  rw [si_num 8388608 (by omega), si_num (x % 2147483648) (Nat.mod_lt _ (by omega))] at h2
  unfold subB
  by_cases c1 : x % 2147483648 = 0
  · rw [h1.2 c1, c1]; simp
  · have c1' : FloatKind.f32.format.order x 0 ≠ some Ordering.eq := fun h => c1 (h1.1 h)
    by_cases c2 : x % 2147483648 < 8388608
    · have c3 : isN .f32 (x % 2147483648) = false := isN_small _ (by omega)
      rw [h2.2 ⟨c3, h0, by omega⟩, decide_eq_true ⟨by omega, c2⟩]
      simp [bne_iff_ne, c1']
    · have c3 : FloatKind.f32.format.order (x % 2147483648) 8388608 ≠ some Ordering.lt := fun h => by
        have := (h2.1 h).2.2
        omega
      rw [decide_eq_false (by omega)]
      have c4 : (FloatKind.f32.format.order (x % 2147483648) 8388608 == some Ordering.lt) = false := by
        rw [beq_eq_false_iff_ne]; exact c3
      rw [c4, Bool.and_false]


def sameB (a b : Nat) : Bool := bitsI a == bitsI b
theorem sameB_nan {a b : Nat} (h : isN .f32 a = true ∨ isN .f32 b = true) : sameB a b = (isN .f32 a && isN .f32 b) := by
  unfold sameB
  have h1 := bitsI_eq_iff a b
  cases ha : isN .f32 a <;> cases hb : isN .f32 b <;> simp [ha, hb] at h h1 ⊢ <;> exact h1
theorem sameB_num {a b : Nat} (ha : isN .f32 a = false) (hb : isN .f32 b = false) : sameB a b = ((a : Int) == (b : Int)) := by
  unfold sameB
  rw [bitsI_num ha, bitsI_num hb]

def inU (n : Int) : Bool := decide (0 ≤ n) && decide (n ≤ 4294967295)
def fromU (n : Int) : Nat := if inU n then n.toNat else 0
theorem impl_FromBits (n : Int) (w : World) : Calls Tryd.prog 51 #[.int .i64 n] w (RetQ (.tuple #[.float .f32 (fromU n), .bool (inU n)]) w) := by
  by_cases h1 : 0 ≤ n
  · by_cases h2 : n ≤ 4294967295
    · have e1 := Lib.hid (show inU n = true by simp [inU, h1, h2])
      have e2 := Lib.hid (show fromU n = n.toNat by simp [fromU, e1.out])
      go_enter Tryd.func51, Tryd.ntmps51
      go_wp2
      go_ret2
      exact retQ_fb0 e2.out.symm e1.out.symm w
    · have h3 : decide (n ≤ 4294967295) = false := decide_eq_false h2
      have e1 := Lib.hid (show inU n = false by simp [inU, h2])
      have e2 := Lib.hid (show fromU n = 0 by simp [fromU, e1.out])
      clear h2
      go_enter Tryd.func51, Tryd.ntmps51
      go_wp2
      go_ret2
      exact retQ_fb0 e2.out.symm e1.out.symm w
  · have h3 : decide (0 ≤ n) = false := decide_eq_false h1
    have e1 := Lib.hid (show inU n = false by simp [inU, h1])
    have e2 := Lib.hid (show fromU n = 0 by simp [fromU, e1.out])
    clear h1
    go_enter Tryd.func51, Tryd.ntmps51
    go_wp2
    go_ret2
    exact retQ_fb0 e2.out.symm e1.out.symm w
end Go.Proofs.YtfempadelilpoaaDoor
