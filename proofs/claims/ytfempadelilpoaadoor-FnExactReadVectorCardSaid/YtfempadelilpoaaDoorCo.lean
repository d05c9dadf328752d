/- The endings of contracts, and the plain functions on bits that the number functions compute. -/
import Derived.Test.YtfempadelilpoaaDoorFb
import Derived.Laws.BitsAllLaws
import Derived.Laws.BitsLemmas
namespace Go.Proofs.YtfempadelilpoaaDoor
open Go.RowKit

/-- returns v; the world has only drawn answers. -/
def RetQ (v : Value) (w : World) (e : Ending) (w' : World) : Prop := e = .returned v ∧ ∃ n, w' = w.drewN n
/-- returns a float that is v up to the choice of a NaN. -/
def RetFQ (k : FloatKind) (v : Nat) (w : World) (e : Ending) (w' : World) : Prop := ∃ r n, e = .returned (.float k r) ∧ r < 2 ^ k.format.width ∧ Sim k r v ∧ w' = w.drewN n
def RetFB (k : FloatKind) (v : Nat) (b : Bool) (w : World) (e : Ending) (w' : World) : Prop := ∃ r n, e = .returned (.tuple #[.float k r, .bool b]) ∧ r < 2 ^ k.format.width ∧ Sim k r v ∧ w' = w.drewN n
theorem retQ_bool {a b : Bool} (h : a = b) (w : World) (n : Nat) : RetQ (.bool b) w (.returned (.bool a)) (w.drewN n) := by rw [h]; exact ⟨rfl, n, rfl⟩
theorem retQ_bool0 {a b : Bool} (h : a = b) (w : World) : RetQ (.bool b) w (.returned (.bool a)) w := by rw [h]; exact ⟨rfl, 0, rfl⟩
theorem retQ_int {k : IntKind} {a b : Int} (h : a = b) (w : World) (n : Nat) : RetQ (.int k b) w (.returned (.int k a)) (w.drewN n) := by rw [h]; exact ⟨rfl, n, rfl⟩
theorem retQ_int0 {k : IntKind} {a b : Int} (h : a = b) (w : World) : RetQ (.int k b) w (.returned (.int k a)) w := by rw [h]; exact ⟨rfl, 0, rfl⟩
theorem retFQ {k : FloatKind} {r v : Nat} (hl : r < 2 ^ k.format.width) (h : Sim k r v) (w : World) (n : Nat) : RetFQ k v w (.returned (.float k r)) (w.drewN n) := ⟨r, n, rfl, hl, h, rfl⟩
theorem retFQ0 {k : FloatKind} {r v : Nat} (hl : r < 2 ^ k.format.width) (h : Sim k r v) (w : World) : RetFQ k v w (.returned (.float k r)) w := ⟨r, 0, rfl, hl, h, rfl⟩

theorem retQ_flt {k : FloatKind} {a b : Nat} (h : a = b) (w : World) : RetQ (.float k b) w (.returned (.float k a)) w := by rw [h]; exact ⟨rfl, 0, rfl⟩
theorem retQ_fb0 {k : FloatKind} {a b : Nat} {x y : Bool} (h : a = b) (g : x = y) (w : World) : RetQ (.tuple #[.float k b, .bool y]) w (.returned (.tuple #[.float k a, .bool x])) w := by rw [h, g]; exact ⟨rfl, 0, rfl⟩

/-! ### finite -/
def finB (x : Nat) : Bool := FloatKind.f32.format.order (F.sub x x) 0 == some .eq
theorem finB_of (x : Nat) (T : Nat → Question → Nat) (n : Nat) : (FloatKind.f32.format.order (opV .sub .f32 x x T n) 0 == some .eq) = finB x := by
  unfold finB
  rw [order_sim (sub_sim (Sim.refl .f32 x) (Sim.refl .f32 x) T n) (Sim.refl .f32 0)]
theorem finB_sim {x y : Nat} (h : Sim .f32 x y) : finB x = finB y := by
  unfold finB
  exact congrArg (fun o => o == some Ordering.eq) (order_sim (sub_sim h h (fun _ _ => 0) 0) (Sim.refl .f32 0))

/-! ### NaN -/
theorem self_neq (k : FloatKind) (x : Nat) : (k.format.order x x != some .eq) = isN k x := by
  rw [order_self]; cases isN k x <;> rfl
theorem self_eq (k : FloatKind) (x : Nat) : (k.format.order x x == some .eq) = !isN k x := by
  rw [order_self]; cases isN k x <;> rfl
theorem nan_of {k : FloatKind} {x : Nat} (h : (k.format.order x x != some .eq) = true) : isN k x = true := by rw [← self_neq]; exact h
theorem num_of {k : FloatKind} {x : Nat} (h : (k.format.order x x != some .eq) = false) : isN k x = false := by rw [← self_neq]; exact h

/-! ### bits -/
def bitsI (x : Nat) : Int := if isN .f32 x then 2143289344 else x
theorem bitsI_nan {x : Nat} (h : isN .f32 x = true) : bitsI x = 2143289344 := by unfold bitsI; rw [if_pos h]
theorem bitsI_num {x : Nat} (h : isN .f32 x = false) : bitsI x = x := by unfold bitsI; rw [h]; rfl
theorem bitsI_range {x : Nat} (h : x < 4294967296) : 0 ≤ bitsI x ∧ bitsI x ≤ 4294967295 := by unfold bitsI; split <;> omega
theorem bitsI_sim {x y : Nat} (h : Sim .f32 x y) : bitsI x = bitsI y := by
  rcases h with ⟨h1, h2⟩ | ⟨_, rfl⟩
  · rw [bitsI_nan h1, bitsI_nan h2]
  · rfl
theorem isN_q : isN .f32 2143289344 = true := by rw [isN_f32]; decide
theorem bitsI_eq_iff (a b : Nat) : bitsI a = bitsI b ↔ (isN .f32 a = true ∧ isN .f32 b = true) ∨ (isN .f32 a = false ∧ isN .f32 b = false ∧ a = b) := by
  cases ha : isN .f32 a <;> cases hb : isN .f32 b
  · simp [bitsI_num ha, bitsI_num hb]
    constructor <;> intro h <;> omega
  · simp only [bitsI_num ha, bitsI_nan hb]
    simp
    intro h
    have : a = 2143289344 := by omega
    rw [this, isN_q] at ha; cases ha
  · simp only [bitsI_nan ha, bitsI_num hb]
    simp
    intro h
    have : b = 2143289344 := by omega
    rw [this, isN_q] at hb; cases hb
  · simp [bitsI_nan ha, bitsI_nan hb]
theorem bitsI_sim_iff (a b : Nat) : bitsI a = bitsI b ↔ Sim .f32 a b := by
  rw [bitsI_eq_iff]; unfold Sim
  constructor
  · rintro (h | ⟨h1, _, h3⟩)
    · exact .inl h
    · exact .inr ⟨h1, h3⟩
  · rintro (h | ⟨h1, rfl⟩)
    · exact .inl h
    · exact .inr ⟨h1, h1, rfl⟩

/-! ### masks -/
theorem and_exp (x : Nat) : (x &&& 2139095040 = 0) ↔ x % 2147483648 < 8388608 := by
  have e : x &&& 2139095040 = (x / 8388608 % 256) * 8388608 := by
    apply Nat.eq_of_testBit_eq
    intro i
    have h1 : (2139095040 : Nat) = 255 <<< 23 := by decide
    have h2 : (x / 8388608 % 256) * 8388608 = ((x >>> 23) % 2 ^ 8) <<< 23 := by rw [Nat.shiftLeft_eq, Nat.shiftRight_eq_div_pow]
    rw [h1, h2, Nat.testBit_and, Nat.testBit_shiftLeft, Nat.testBit_shiftLeft, Nat.testBit_mod_two_pow, Nat.testBit_shiftRight]
    have h3 : (255 : Nat) = 2 ^ 8 - 1 := by decide
    rw [h3, Nat.testBit_two_pow_sub_one]
    by_cases hi : 23 ≤ i
    · have : 23 + (i - 23) = i := by omega
      simp [hi, this, Bool.and_comm]
    · simp [hi]
  rw [e]; omega
theorem and_sign (x : Nat) (h : x < 4294967296) : x &&& 2147483648 = x / 2147483648 * 2147483648 := by
  apply Nat.eq_of_testBit_eq
  intro i
  have h1 : (2147483648 : Nat) = 2 ^ 31 := by decide
  have h2 : x / 2147483648 * 2147483648 = (x >>> 31) <<< 31 := by rw [Nat.shiftLeft_eq, Nat.shiftRight_eq_div_pow]
  rw [h2, h1, Nat.testBit_and, Nat.testBit_shiftLeft, Nat.testBit_shiftRight, Nat.testBit_two_pow]
  by_cases hi : 31 ≤ i
  · have : 31 + (i - 31) = i := by omega
    by_cases h5 : 31 = i
    · subst h5; simp
    · have hx : x.testBit i = false := Nat.testBit_lt_two_pow (Nat.lt_of_lt_of_le h (by
        have : 2 ^ 32 ≤ 2 ^ i := Nat.pow_le_pow_right (by decide) (by omega)
        simpa using this))
      simp [hi, this, hx]
  · have h5 : ¬ 31 = i := by omega
    simp [hi, h5]
theorem ofInt_i64 (a : Nat) (ha : a < 9223372036854775808) : (BitVec.ofInt 64 (a : Int)).toNat = a := by
  rw [BitVec.ofInt_natCast, BitVec.toNat_ofNat]; exact Nat.mod_eq_of_lt (by omega)
theorem i64_and_nat (a b : Nat) (ha : a < 9223372036854775808) (hb : b < 9223372036854775808) : bits .and .i64 (a : Int) (b : Int) = ((a &&& b : Nat) : Int) := by
  have hx : a &&& b < 2 ^ 63 := Nat.and_lt_two_pow _ (by omega)
  show IntKind.i64.wrap ((BitVec.ofInt 64 (a : Int) &&& BitVec.ofInt 64 (b : Int)).toNat : Int) = _
  rw [BitVec.toNat_and, ofInt_i64 a ha, ofInt_i64 b hb, IntKind.wrap_i64]
  omega

/-! ### magnitudes -/
theorem si_num (x : Nat) (h : x < 2147483648) : si .f32 x = x := by
  rw [si_f32, if_neg (by omega)]
  omega
theorem isN_small (x : Nat) (h : x % 2147483648 ≤ 2139095040) : isN .f32 x = false := by rw [isN_f32]; simpa using h
theorem isN_le {x : Nat} (h : isN .f32 x = false) : x % 2147483648 ≤ 2139095040 := by
  rw [isN_f32] at h; exact Nat.le_of_not_lt (of_decide_eq_false h)
theorem isN_gt {x : Nat} (h : isN .f32 x = true) : 2139095040 < x % 2147483648 := by
  rw [isN_f32] at h; exact of_decide_eq_true h
def subB (x : Nat) : Bool := decide (0 < x % 2147483648 ∧ x % 2147483648 < 8388608)
theorem subB_sim {x y : Nat} (h : Sim .f32 x y) : subB x = subB y := by
  rcases h with ⟨h1, h2⟩ | ⟨_, rfl⟩
  · have := isN_gt h1
    have := isN_gt h2
    unfold subB
    rw [decide_eq_false (by omega), decide_eq_false (by omega)]
  · rfl
theorem eq_zero_iff (x : Nat) : FloatKind.f32.format.order x 0 = some .eq ↔ x % 2147483648 = 0 := by
  rw [order_eq_iff, si_num 0 (by omega), si_f32]
  have h0 : isN .f32 0 = false := isN_small 0 (by omega)
  constructor
  · rintro ⟨_, _, h⟩
    split at h <;> omega
  · intro h
    exact ⟨isN_small x (by omega), h0, by split <;> omega⟩
end Go.Proofs.YtfempadelilpoaaDoor
