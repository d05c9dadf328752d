/- The fold of a number about its nearest whole one is never great. -/
import Derived.Test.YtojkdlidcmfkeaaFf
namespace Go.Proofs.Ytojkdlidcmfkeaa
open Ieee

theorem cut_down_le (s : Bool) (n d w : Nat) : Toward.down.cut s n d * 2 ^ (d + w) ≤ n * 2 ^ w + 2 ^ (d + w) := by
  unfold Toward.cut
  dsimp only
  rw [Nat.shiftLeft_eq, Nat.one_mul]
  have hb : ∀ b : Bool, b.toNat ≤ 1 := by decide
  have hb' := hb (s && n % 2 ^ min d (n.log2 + 2) != 0)
  generalize (s && n % 2 ^ min d (n.log2 + 2) != 0).toNat = t at hb' ⊢
  have h1 : n / 2 ^ min d (n.log2 + 2) * 2 ^ d ≤ n := by
    by_cases hd : d ≤ n.log2 + 2
    · rw [Nat.min_eq_left hd]; exact Nat.div_mul_le_self _ _
    · rw [Nat.min_eq_right (by omega)]
      have : n < 2 ^ (n.log2 + 2) := Nat.lt_trans Nat.lt_log2_self (Nat.pow_lt_pow_right (by decide) (by omega))
      rw [Nat.div_eq_of_lt this, Nat.zero_mul]
      exact Nat.zero_le _
  rw [Nat.pow_add, ← Nat.mul_assoc]
  have h2 : (n / 2 ^ min d (n.log2 + 2) + t) * 2 ^ d ≤ n + 2 ^ d := by
    rw [Nat.add_mul]
    have : t * 2 ^ d ≤ 1 * 2 ^ d := Nat.mul_le_mul_right _ hb'
    omega
  have h3 := Nat.mul_le_mul_right (2 ^ w) h2
  rw [Nat.add_mul n] at h3
  exact h3
def flV (y : Nat) : Nat := FloatKind.f64.encode ((FloatKind.f64.decode y).integral .down)
theorem le2_floor {y E : Nat} (hE0 : 1074 ≤ E) (hE9 : E ≤ 2000) (h : le2 .f64 y E) : le2 .f64 (flV y) (E + 1) := by
  obtain ⟨m, b, h1, h2, _⟩ := le2_read h (Eok64 E (by omega) (by omega))
  unfold flV
  have h1' : FloatKind.f64.decode y = .number (sgn .f64 y) m (FloatKind.f64.format.leastPlace + (b : Int)) := h1
  rw [h1', L64]
  show le2 .f64 (FloatKind.f64.format.nearest _ _ 0) _
  refine nearest_le2 .f64 _ _ 0 (-1074) (E + 1) (Eok64 _ (by omega) (by omega)) (by omega) (by rw [L64]; omega) ?_
  obtain ⟨K, hK⟩ : ∃ K : Nat, K = 1074 := ⟨_, rfl⟩
  rw [L64, show ((0 : Int) - -1074).toNat = K by omega, show E + 1 + ((-1074 : Int) - -1074).toNat = E + 1 by omega]
  have e : 2 ^ (E + 1) = 2 ^ E + 2 ^ E := by rw [Nat.pow_succ]; omega
  have e9 : 2 ^ K ≤ 2 ^ E := Nat.pow_le_pow_right (by decide) (by omega)
  by_cases hb : K ≤ b
  · obtain ⟨p, rfl⟩ : ∃ p, b = K + p := ⟨b - K, by omega⟩
    have e1 : (-1074 + ((K + p : Nat) : Int)).toNat = p := by omega
    have e2 : (-(-1074 + ((K + p : Nat) : Int))).toNat = 0 := by omega
    rw [e1, e2, Nat.shiftLeft_eq]
    have := cut_down_le (sgn .f64 y) (m * 2 ^ p) 0 K
    rw [Nat.zero_add, Nat.mul_assoc, ← Nat.pow_add, Nat.add_comm p K] at this
    omega
  · have e1 : (-1074 + (b : Int)).toNat = 0 := by omega
    have e2 : (-(-1074 + (b : Int))).toNat = K - b := by omega
    rw [e1, e2, Nat.shiftLeft_eq, Nat.pow_zero, Nat.mul_one]
    have := cut_down_le (sgn .f64 y) m (K - b) b
    rw [show K - b + b = K by omega] at this
    omega
theorem le2_half : le2 .f64 4602678819172646912 1128 := by
  unfold le2
  decide
theorem fold_ok {x : Nat} (hx : x < 18446744073709551616) (hf : rung .f64 x < FloatKind.f64.format.infRung) (T : Nat → Question → Nat) (n : Nat) (T' : Nat → Question → Nat) (n' : Nat) :
    le2 .f64 (opV .sub .f64 x (flV (opV .add .f64 x 4602678819172646912 T n)) T' n') 1201 := by
  by_cases h : le2 .f64 x 1128
  · have h1 := le2_add h le2_half (Eok64 1128 (by omega) (by omega)) (Eok64 1129 (by omega) (by omega)) T n
    have h2 := le2_floor (by omega) (by omega) h1
    have h3 := le2_sub (le2_mono h (by omega)) h2 (Eok64 1130 (by omega) (by omega)) (Eok64 1131 (by omega) (by omega)) T' n'
    exact le2_mono h3 (by omega)
  · obtain ⟨m, a, g1, g2, g3, g4⟩ := read64 x hf
    have hr : 1077 * 4503599627370496 < rung .f64 x := by
      have e : rungE FloatKind.f64.format 1128 = 1077 * 4503599627370496 := by decide
      unfold le2 at h
      omega
    have ha : 1076 ≤ a := by omega
    have hm : 4503599627370496 ≤ m := by omega
    rw [add_half_big hx hf g1 g2 hm g3 ha]
    have e : flV x = x := by
      unfold flV
      have g1' : FloatKind.f64.decode x = .number (sgn .f64 x) m (-1074 + (a : Int)) := g1
      rw [g1']
      exact floor_big hx g2 hf g3 hm (by omega)
    rw [e]
    have hz : floatBits .sub .f64 x x = some 0 := by
      show FloatKind.f64.format.sub x x = _
      unfold Format.sub
      rw [g1]
      have : (Datum.number (sgn .f64 x) m (-1074 + (a : Int))).sum (Datum.number (!sgn .f64 x) m (-1074 + (a : Int))) = some (.number false 0 (-1074 + (a : Int))) := by
        have ht : ∀ u, signed (sgn .f64 x) m u + signed (!sgn .f64 x) m u = 0 := fun u => by
          cases sgn .f64 x <;> simp [signed] <;> omega
        simp only [Datum.sum, ht]
        cases sgn .f64 x <;> simp
      show Option.map _ ((Datum.number (sgn .f64 x) m (-1074 + (a : Int))).sum (Datum.number (!sgn .f64 x) m (-1074 + (a : Int)))) = _
      rw [this]
      show some (FloatKind.f64.format.nearest false 0 _) = some 0
      unfold Format.nearest
      rw [if_pos rfl]
      rfl
    rw [opV_some hz]
    unfold le2 rung
    exact Nat.zero_le _
end Go.Proofs.Ytojkdlidcmfkeaa
