/- What is rounded depends on the value alone; exact results. -/
import Derived.Test.YtlhgaihfghobmaaFs
namespace Go.Proofs.Ytlhgaihfghobmaa
open Ieee

theorem log2_mul_pow {m : Nat} (hm : m ≠ 0) (j : Nat) : (m * 2 ^ j).log2 = m.log2 + j := by
  refine (Nat.log2_eq_iff (Nat.mul_ne_zero hm (Nat.ne_of_gt (Nat.two_pow_pos _)))).2 ⟨?_, ?_⟩
  · rw [Nat.pow_add]; exact Nat.mul_le_mul_right _ (Nat.log2_self_le hm)
  · rw [show m.log2 + j + 1 = (m.log2 + 1) + j by omega, Nat.pow_add]
    exact Nat.mul_lt_mul_of_pos_right Nat.lt_log2_self (Nat.two_pow_pos _)
theorem cut_scale {m : Nat} (hm : m ≠ 0) (s : Bool) (d j : Nat) : Toward.even.cut s (m * 2 ^ j) (d + j) = Toward.even.cut s m d := by
  unfold Toward.cut
  dsimp only
  rw [log2_mul_pow hm, show min (d + j) (m.log2 + j + 2) = min d (m.log2 + 2) + j by omega]
  generalize min d (m.log2 + 2) = e
  rw [Nat.shiftLeft_eq, Nat.shiftLeft_eq, Nat.one_mul, Nat.one_mul, Nat.pow_add]
  have hj : 0 < 2 ^ j := Nat.two_pow_pos _
  generalize 2 ^ e = g
  generalize 2 ^ j = h at *
  rw [Nat.mul_div_mul_right _ _ hj, Nat.mul_mod_mul_right]
  have e1 : decide (g * h < 2 * (m % g * h)) = decide (g < 2 * (m % g)) := by
    rw [← Nat.mul_assoc]
    exact decide_eq_decide.2 (Nat.mul_lt_mul_right hj)
  have e2 : (g * h == 2 * (m % g * h)) = (g == 2 * (m % g)) := by
    rw [← Nat.mul_assoc, Bool.eq_iff_iff, beq_iff_eq, beq_iff_eq]
    exact Nat.mul_left_inj (Nat.ne_of_gt hj)
  rw [e1, e2]
theorem cut_zero (s : Bool) (n : Nat) : Toward.even.cut s n 0 = n := by
  unfold Toward.cut
  dsimp only
  rw [Nat.zero_min]
  simp
  omega
theorem cut_exact {c : Nat} (hc : c ≠ 0) (s : Bool) (d : Nat) : Toward.even.cut s (c * 2 ^ d) d = c := by
  have := cut_scale hc s 0 d
  rw [Nat.zero_add] at this
  rw [this, cut_zero]
theorem rank_scale (f : Format) {m : Nat} (hm : m ≠ 0) (place : Int) (j : Nat) : rank f (m * 2 ^ j) (place - j) = rank f m place := by
  unfold rank
  dsimp only
  rw [log2_mul_pow hm]
  have e : (place - (j : Int) + ((m.log2 + j : Nat) : Int) - f.fractionBits) = (place + m.log2 - f.fractionBits) := by omega
  rw [e]
  generalize max (place + (m.log2 : Int) - (f.fractionBits : Int)) f.leastPlace = last
  congr 1
  rw [Nat.shiftLeft_eq, Nat.shiftLeft_eq]
  by_cases h1 : last ≤ place
  · obtain ⟨u, hu⟩ : ∃ u : Nat, place = last + u := ⟨(place - last).toNat, by omega⟩
    subst hu
    have a1 : (last - (last + (u : Int))).toNat = 0 := by omega
    have a2 : (last + (u : Int) - last).toNat = u := by omega
    rw [a1, a2, cut_zero]
    by_cases h2 : j ≤ u
    · have b1 : (last + (u : Int) - (j : Int) - last).toNat = u - j := by omega
      have b2 : (last - (last + (u : Int) - (j : Int))).toNat = 0 := by omega
      rw [b1, b2, cut_zero, Nat.mul_assoc, ← Nat.pow_add, show j + (u - j) = u by omega]
    · have b1 : (last + (u : Int) - (j : Int) - last).toNat = 0 := by omega
      have b2 : (last - (last + (u : Int) - (j : Int))).toNat = j - u := by omega
      rw [b1, b2, Nat.pow_zero, Nat.mul_one]
      have hx : m * 2 ^ j = (m * 2 ^ u) * 2 ^ (j - u) := by rw [Nat.mul_assoc, ← Nat.pow_add, show u + (j - u) = j by omega]
      rw [hx]
      exact cut_exact (Nat.mul_ne_zero hm (Nat.ne_of_gt (Nat.two_pow_pos _))) false _
  · have c1 : (place - last).toNat = 0 := by omega
    have c2 : (place - (j : Int) - last).toNat = 0 := by omega
    have c3 : (last - (place - (j : Int))).toNat = (last - place).toNat + j := by omega
    rw [c1, c2, c3, Nat.pow_zero, Nat.mul_one, Nat.mul_one]
    exact cut_scale hm false _ _
theorem nearest_scale (f : Format) (s : Bool) {m : Nat} (hm : m ≠ 0) (place : Int) (j : Nat) : f.nearest s (m * 2 ^ j) (place - j) = f.nearest s m place := by
  rw [nearest_rank f s _ _ (Nat.mul_ne_zero hm (Nat.ne_of_gt (Nat.two_pow_pos _))), nearest_rank f s _ _ hm, rank_scale f hm]
/-- a number that the format holds is rounded to itself. -/
theorem rank_exact (f : Format) {m : Nat} (a : Nat) (hm : m.log2 ≤ f.fractionBits) (ha : a = 0 ∨ m.log2 = f.fractionBits) : rank f m (f.leastPlace + a) = a * f.binade + m := by
  unfold rank
  dsimp only
  have e : max (f.leastPlace + (a : Int) + (m.log2 : Int) - (f.fractionBits : Int)) f.leastPlace = f.leastPlace + a := by rcases ha with rfl | h <;> omega
  rw [e]
  have a1 : (f.leastPlace + (a : Int) - f.leastPlace).toNat = a := by omega
  have a2 : (f.leastPlace + (a : Int) - (f.leastPlace + (a : Int))).toNat = 0 := by omega
  rw [a1, a2, cut_zero, Nat.shiftLeft_eq, Nat.pow_zero, Nat.mul_one]
end Go.Proofs.Ytlhgaihfghobmaa
