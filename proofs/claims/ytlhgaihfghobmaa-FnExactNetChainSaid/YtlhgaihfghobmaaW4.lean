/- Contracts of FlushNumber, NextUp, NextDown, RootNumber, LongOf, program and reference. -/
import Derived.Test.YtlhgaihfghobmaaW3
import Derived.Test.YtlhgaihfghobmaaFs
namespace Go.Proofs.Ytlhgaihfghobmaa
open Go.ChangeShapes Go.WideShapes Go.ChangeAt Go.RowKit Go.Deep

/-! ### flush -/
def flushN (x : Nat) : Nat := if x % 2147483648 < 8388608 then x / 2147483648 * 2147483648 else x
theorem flushN_lt {x : Nat} (h : x < 4294967296) : flushN x < 4294967296 := by unfold flushN; split <;> omega
theorem mask_exp (x : Nat) (hx : x < 4294967296) (hn : isN .f32 x = false) : (bits .and .i64 (bitsI x) 2139095040 == 0) = decide (x % 2147483648 < 8388608) := by
  rw [bitsI_num hn]
  have e := i64_and_nat x 2139095040 (by omega) (by omega)
  have e' : bits .and .i64 (x : Int) 2139095040 = ((x &&& 2139095040 : Nat) : Int) := e
  rw [e']
  have h2 := and_exp x
  by_cases c : x % 2147483648 < 8388608
  · rw [h2.2 c, decide_eq_true c]; rfl
  · rw [decide_eq_false c, beq_eq_false_iff_ne]
    intro h
    exact c (h2.1 (by omega))
theorem mask_nan {x : Nat} (hn : isN .f32 x = true) : (bits .and .i64 (bitsI x) 2139095040 == 0) = false := by
  rw [bitsI_nan hn]
  have e := i64_and_nat 2143289344 2139095040 (by omega) (by omega)
  have e' : bits .and .i64 2143289344 2139095040 = ((2143289344 &&& 2139095040 : Nat) : Int) := e
  have e2 : (2143289344 &&& 2139095040 : Nat) = 2139095040 := by decide
  rw [e', e2]
  rfl
theorem mask_sign (x : Nat) (hx : x < 4294967296) (hn : isN .f32 x = false) : bits .and .i64 (bitsI x) 2147483648 = ((x / 2147483648 * 2147483648 : Nat) : Int) := by
  rw [bitsI_num hn, ← and_sign x hx]
  exact i64_and_nat x 2147483648 (by omega) (by omega)
theorem flushN_nan {x : Nat} (hn : isN .f32 x = true) : flushN x = x := by
  have := isN_gt hn
  unfold flushN
  rw [if_neg (by omega)]


/-! ### the next number -/
def nextN (x : Nat) : Nat := if isN .f32 x = true ∨ x = 2139095040 then x else if x % 2147483648 = 0 then 1 else if 2147483648 ≤ x then x - 1 else x + 1
theorem nextN_lt {x : Nat} (h : x < 4294967296) : nextN x < 4294967296 := by
  unfold nextN
  split
  · exact h
  · rename_i hc
    have hn : isN .f32 x = false := by cases hh : isN .f32 x with | true => exact absurd (Or.inl hh) hc | false => rfl
    have := isN_le hn
    split
    · omega
    · split <;> omega
theorem isN_0 : isN .f32 0 = false := isN_small 0 (by omega)
theorem isN_max : isN .f32 2139095039 = false := isN_small _ (by omega)
theorem si_neg32 (x : Nat) (h1 : 2147483648 ≤ x) (h2 : x < 4294967296) : si .f32 x = -((x - 2147483648 : Nat) : Int) := by
  rw [si_f32, if_pos (by omega)]
  omega
theorem gt_max (x : Nat) (hx : x < 4294967296) (hn : isN .f32 x = false) : (FloatKind.f32.format.order x 2139095039 == some Ordering.gt) = decide (x = 2139095040) := by
  have h := order_gt_iff .f32 x 2139095039
  rw [si_num 2139095039 (by omega)] at h
  have hle := isN_le hn
  by_cases c : x = 2139095040
  · rw [decide_eq_true c, h.2 ⟨hn, isN_max, by rw [c, si_num _ (by omega)]; decide⟩]; rfl
  · rw [decide_eq_false c, beq_eq_false_iff_ne]
    intro g
    have := (h.1 g).2.2
    by_cases s : x < 2147483648
    · rw [si_num x s] at this; omega
    · rw [si_neg32 x (by omega) hx] at this; omega
theorem eq_zero_b (x : Nat) : (FloatKind.f32.format.order x 0 == some Ordering.eq) = decide (x % 2147483648 = 0) := by
  have h := eq_zero_iff x
  by_cases c : x % 2147483648 = 0
  · rw [h.2 c, decide_eq_true c]; rfl
  · rw [decide_eq_false c, beq_eq_false_iff_ne]; exact fun g => c (h.1 g)
theorem lt_zero_b (x : Nat) (hx : x < 4294967296) (hn : isN .f32 x = false) (hz : x % 2147483648 ≠ 0) : (FloatKind.f32.format.order x 0 == some Ordering.lt) = decide (2147483648 ≤ x) := by
  have h := order_lt_iff .f32 x 0
  rw [si_num 0 (by omega)] at h
  by_cases c : 2147483648 ≤ x
  · rw [decide_eq_true c, h.2 ⟨hn, isN_0, by rw [si_neg32 x c hx]; omega⟩]; rfl
  · rw [decide_eq_false c, beq_eq_false_iff_ne]
    intro g
    have := (h.1 g).2.2
    rw [si_num x (by omega)] at this; omega
theorem gt_zero_b (x : Nat) (hx : x < 4294967296) (hn : isN .f32 x = false) (hz : x % 2147483648 ≠ 0) : (FloatKind.f32.format.order x 0 == some Ordering.gt) = !decide (2147483648 ≤ x) := by
  have h := order_gt_iff .f32 x 0
  rw [si_num 0 (by omega)] at h
  by_cases c : 2147483648 ≤ x
  · rw [decide_eq_true c]
    show _ = false
    rw [beq_eq_false_iff_ne]
    intro g
    have := (h.1 g).2.2
    rw [si_neg32 x c hx] at this; omega
  · rw [decide_eq_false c, h.2 ⟨hn, isN_0, by rw [si_num x (by omega)]; omega⟩]; rfl

/-- the five cases, with what every test of both texts says in each. -/
theorem next_cases (x : Nat) (hx : x < 4294967296) {p : Prop}
    (h1 : (FloatKind.f32.format.order x x != some Ordering.eq) = true → nextN x = x → p)
    (h2 : (FloatKind.f32.format.order x x != some Ordering.eq) = false → (bitsI x == 2139095040) = true → (FloatKind.f32.format.order x 2139095039 == some Ordering.gt) = true → nextN x = x → p)
    (h3 : (FloatKind.f32.format.order x x != some Ordering.eq) = false → (bitsI x == 2139095040) = false → (FloatKind.f32.format.order x 2139095039 == some Ordering.gt) = false → (FloatKind.f32.format.order x 0 == some Ordering.eq) = true → nextN x = 1 → p)
    (h4 : (FloatKind.f32.format.order x x != some Ordering.eq) = false → (bitsI x == 2139095040) = false → (FloatKind.f32.format.order x 2139095039 == some Ordering.gt) = false → (FloatKind.f32.format.order x 0 == some Ordering.eq) = false → (FloatKind.f32.format.order x 0 == some Ordering.lt) = true → (FloatKind.f32.format.order x 0 == some Ordering.gt) = false → nextN x = x - 1 → 1 ≤ x → bitsI x = x → p)
    (h5 : (FloatKind.f32.format.order x x != some Ordering.eq) = false → (bitsI x == 2139095040) = false → (FloatKind.f32.format.order x 2139095039 == some Ordering.gt) = false → (FloatKind.f32.format.order x 0 == some Ordering.eq) = false → (FloatKind.f32.format.order x 0 == some Ordering.lt) = false → (FloatKind.f32.format.order x 0 == some Ordering.gt) = true → nextN x = x + 1 → x + 1 < 4294967296 → bitsI x = x → p) : p := by
  cases hn : isN .f32 x
  · have a0 : (FloatKind.f32.format.order x x != some Ordering.eq) = false := by rw [self_neq]; exact hn
    have hb := bitsI_num hn
    have hle := isN_le hn
    by_cases c1 : x = 2139095040
    · exact h2 a0 (by rw [hb, c1]; rfl) (by rw [gt_max x hx hn, decide_eq_true c1]) (by unfold nextN; rw [if_pos (.inr c1)])
    · have a1 : (bitsI x == 2139095040) = false := by rw [hb, beq_eq_false_iff_ne]; omega
      have a2 : (FloatKind.f32.format.order x 2139095039 == some Ordering.gt) = false := by rw [gt_max x hx hn, decide_eq_false c1]
      have nn : ¬ (isN .f32 x = true ∨ x = 2139095040) := by rw [hn]; simp [c1]
      by_cases c2 : x % 2147483648 = 0
      · exact h3 a0 a1 a2 (by rw [eq_zero_b, decide_eq_true c2]) (by unfold nextN; rw [if_neg nn, if_pos c2])
      · have a3 : (FloatKind.f32.format.order x 0 == some Ordering.eq) = false := by rw [eq_zero_b, decide_eq_false c2]
        by_cases c3 : 2147483648 ≤ x
        · exact h4 a0 a1 a2 a3 (by rw [lt_zero_b x hx hn c2, decide_eq_true c3]) (by rw [gt_zero_b x hx hn c2, decide_eq_true c3]; rfl) (by unfold nextN; rw [if_neg nn, if_neg c2, if_pos c3]) (by omega) hb
        · exact h5 a0 a1 a2 a3 (by rw [lt_zero_b x hx hn c2, decide_eq_false c3]) (by rw [gt_zero_b x hx hn c2, decide_eq_false c3]; rfl) (by unfold nextN; rw [if_neg nn, if_neg c2, if_neg c3]) (by omega) hb
  · exact h1 (by rw [self_neq]; exact hn) (by unfold nextN; rw [if_pos (.inl hn)])

theorem neg_lt32 (x : Nat) (hx : x < 4294967296) : Op.negFloat .f32 x < 4294967296 := by
  show x ^^^ 2 ^ 31 < 2 ^ 32
  exact Nat.xor_lt_two_pow hx (by decide)

end Go.Proofs.Ytlhgaihfghobmaa
