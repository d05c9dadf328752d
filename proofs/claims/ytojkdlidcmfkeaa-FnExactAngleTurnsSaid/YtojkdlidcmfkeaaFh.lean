/- Bounds of quotients by a number that is no less than 1. -/
import Derived.Test.YtojkdlidcmfkeaaFf
namespace Go.Proofs.Ytojkdlidcmfkeaa
open Ieee

/-- a divisor that is no less than 1 in size. -/
def ge1 (y : Nat) : Prop := 4607182418800017408 ≤ rung .f64 y ∧ rung .f64 y < FloatKind.f64.format.infRung
theorem quo_num {M N more : Nat} (hN : 4503599627370496 ≤ N) (h : 52 ≤ more) : (2 * ((M * 2 ^ more) / N) + ((M * 2 ^ more) % N != 0).toNat) ≤ 2 * (M * 2 ^ (more - 52)) + 1 := by
  have hb : ∀ b : Bool, b.toNat ≤ 1 := by decide
  have h1 := hb ((M * 2 ^ more) % N != 0)
  have h2 : (M * 2 ^ more) / N ≤ (M * 2 ^ more) / 4503599627370496 := Nat.div_le_div_left hN (by decide)
  have h3 : (M * 2 ^ more) / 4503599627370496 = M * 2 ^ (more - 52) := by
    have e : M * 2 ^ more = M * 2 ^ (more - 52) * 4503599627370496 := by
      rw [Nat.mul_assoc, show (4503599627370496 : Nat) = 2 ^ 52 from rfl, ← Nat.pow_add, show more - 52 + 52 = more by omega]
    rw [e]
    exact Nat.mul_div_cancel _ (by decide)
  omega
theorem le2_quo {x y E : Nat} (hE0 : 100 ≤ E) (hE9 : E ≤ 2000) (hx : le2 .f64 x E) (hy : ge1 y) (T : Nat → Question → Nat) (q : Nat) : le2 .f64 (opV .quo .f64 x y T q) (E + 1) := by
  have hE := Eok64 E (by omega) (by omega)
  obtain ⟨m, a, h1, h2, h3, h4⟩ := read64 x (le2_fin hx hE)
  obtain ⟨n, b, g1, g2, g3, g4⟩ := read64 y hy.2
  have hyr := hy.1
  have hb : 1022 ≤ b := by omega
  have hn : 4503599627370496 ≤ n := by omega
  have hval : m * 2 ^ a ≤ 2 ^ E := by
    obtain ⟨m', a', k1, k2, _⟩ := le2_read hx hE
    rw [h1, L64] at k1
    simp only [Datum.number.injEq, true_and] at k1
    obtain ⟨rfl, k3⟩ := k1
    have : a = a' := by omega
    rw [this]; exact k2
  have hlogn : n.log2 = 52 := log2_53 hn g3
  have hlogm : m.log2 ≤ 52 := by
    by_cases h0 : m = 0
    · subst h0; decide
    · have : m < 2 ^ 53 := by simpa using h3
      have := (Nat.log2_lt h0).2 this
      omega
  obtain ⟨more, hmore⟩ : ∃ more, more = 54 + n.log2 - m.log2 := ⟨_, rfl⟩
  have hm54 : 54 ≤ more := by omega
  have hm106 : more ≤ 106 := by omega
  have hf : floatBits .quo .f64 x y = some (FloatKind.f64.format.nearest (sgn .f64 x ^^ sgn .f64 y) (2 * ((m * 2 ^ more) / n) + ((m * 2 ^ more) % n != 0).toNat) (-1074 + (a : Int) - (-1074 + (b : Int)) - more - 1)) := by
    show FloatKind.f64.format.div x y = _
    unfold Format.div
    rw [h1, g1]
    simp only [Datum.quotient]
    rw [if_neg (by omega)]
    have e : FloatKind.f64.format.fractionBits + 2 + n.log2 - m.log2 = more := by rw [hmore]; rfl
    rw [e, Nat.shiftLeft_eq]
    rfl
  rw [opV_some hf]
  have hq := quo_num (M := m) hn (show 52 ≤ more by omega)
  generalize (2 * ((m * 2 ^ more) / n) + ((m * 2 ^ more) % n != 0).toNat) = Q at hq ⊢
  obtain ⟨base, hbase⟩ : ∃ base : Int, base = -5000 := ⟨_, rfl⟩
  refine nearest_le2 .f64 _ _ _ base (E + 1) (Eok64 _ (by omega) (by omega)) (by have : b ≤ 2046 := (by have := hy.2; have e : FloatKind.f64.format.infRung = 2047 * 4503599627370496 := rfl; omega); omega) (by rw [L64]; omega) ?_
  rw [L64]
  have hbb : b ≤ 2046 := by
    have := hy.2
    have e : FloatKind.f64.format.infRung = 2047 * 4503599627370496 := rfl
    omega
  obtain ⟨s, hs⟩ : ∃ s : Nat, (s : Int) = -1074 + (a : Int) - (-1074 + (b : Int)) - more - 1 - base := ⟨(-1074 + (a : Int) - (-1074 + (b : Int)) - more - 1 - base).toNat, by omega⟩
  rw [show (-1074 + (a : Int) - (-1074 + (b : Int)) - more - 1 - base).toNat = s by omega]
  obtain ⟨K, hK⟩ : ∃ K : Nat, K = 3926 := ⟨_, rfl⟩
  rw [show E + 1 + ((-1074 : Int) - base).toNat = E + 1 + K by omega]
  have hs2 : more - 52 + 1 + s ≤ a + K := by omega
  refine Nat.le_trans (Nat.mul_le_mul_right _ hq) ?_
  rw [Nat.add_mul, Nat.one_mul]
  have t1 : 2 * (m * 2 ^ (more - 52)) * 2 ^ s ≤ 2 ^ (E + K) := by
    have e : 2 * (m * 2 ^ (more - 52)) * 2 ^ s = m * 2 ^ (more - 52 + 1 + s) := by
      rw [Nat.pow_add, Nat.pow_succ]; ac_rfl
    rw [e]
    refine Nat.le_trans (Nat.mul_le_mul_left _ (Nat.pow_le_pow_right (by decide) hs2)) ?_
    rw [Nat.pow_add, Nat.pow_add, ← Nat.mul_assoc]
    exact Nat.mul_le_mul_right _ hval
  have t2 : 2 ^ s ≤ 2 ^ (E + K) := by
    apply Nat.pow_le_pow_right (by decide)
    by_cases h0 : m = 0
    · have : a = 0 := by omega
      omega
    · have : 2 ^ a ≤ 2 ^ E := Nat.le_trans (Nat.le_mul_of_pos_left _ (by omega)) hval
      have := (Nat.pow_le_pow_iff_right (by decide : 1 < 2)).1 this
      omega
  have e : 2 ^ (E + 1 + K) = 2 ^ (E + K) + 2 ^ (E + K) := by rw [show E + 1 + K = E + K + 1 by omega, Nat.pow_succ]; omega
  omega
end Go.Proofs.Ytojkdlidcmfkeaa
