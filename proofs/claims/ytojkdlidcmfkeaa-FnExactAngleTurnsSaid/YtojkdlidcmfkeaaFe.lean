/- Bounds of sums, differences and products. -/
import Derived.Test.YtojkdlidcmfkeaaFd
namespace Go.Proofs.Ytojkdlidcmfkeaa
open Ieee

theorem signed_abs (s : Bool) (m u : Nat) : (signed s m u).natAbs = m * 2 ^ u := by
  unfold signed
  rw [Nat.shiftLeft_eq]
  cases s
  · exact Int.natAbs_natCast _
  · exact (Int.natAbs_neg _).trans (Int.natAbs_natCast _)
theorem sum_le {s t : Bool} {m n u v w : Nat} {E : Nat} (h1 : m * 2 ^ u * 2 ^ w ≤ 2 ^ E) (h2 : n * 2 ^ v * 2 ^ w ≤ 2 ^ E) :
    (signed s m u + signed t n v).natAbs * 2 ^ w ≤ 2 ^ (E + 1) := by
  have h := Int.natAbs_add_le (signed s m u) (signed t n v)
  rw [signed_abs, signed_abs] at h
  have := Nat.mul_le_mul_right (2 ^ w) h
  rw [Nat.add_mul] at this
  have e : 2 ^ (E + 1) = 2 ^ E + 2 ^ E := by rw [Nat.pow_succ]; omega
  omega
theorem le2_sum {k : FloatKind} {s t : Bool} {m n a b E : Nat} (h1 : m * 2 ^ a ≤ 2 ^ E) (h2 : n * 2 ^ b ≤ 2 ^ E) (hE1 : Eok k (E + 1)) {d : Datum}
    (hd : (Datum.number s m (k.format.leastPlace + (a : Int))).sum (Datum.number t n (k.format.leastPlace + (b : Int))) = some d) : le2 k (k.format.write d) (E + 1) := by
  simp only [Datum.sum, Option.some.injEq] at hd
  subst hd
  generalize hL : k.format.leastPlace = L at *
  have e1 : (L + (a : Int) - min (L + (a : Int)) (L + (b : Int))).toNat = a - min a b := by omega
  have e2 : (L + (b : Int) - min (L + (a : Int)) (L + (b : Int))).toNat = b - min a b := by omega
  rw [e1, e2]
  show le2 k (k.format.nearest _ _ _) _
  refine nearest_le2 k _ _ _ L (E + 1) hE1 (by omega) (by omega) ?_
  rw [hL]
  have e3 : (min (L + (a : Int)) (L + (b : Int)) - L).toNat = min a b := by omega
  have e4 : E + 1 + (L - L).toNat = E + 1 := by omega
  rw [e3, e4]
  apply sum_le
  · rw [Nat.mul_assoc, ← Nat.pow_add, show a - min a b + min a b = a by omega]; exact h1
  · rw [Nat.mul_assoc, ← Nat.pow_add, show b - min a b + min a b = b by omega]; exact h2
theorem opV_some {op : BinOp} {k : FloatKind} {x y r : Nat} (h : floatBits op k x y = some r) (T : Nat → Question → Nat) (n : Nat) : opV op k x y T n = r := by
  unfold opV
  rw [h]
theorem le2_add {k : FloatKind} {x y E : Nat} (hx : le2 k x E) (hy : le2 k y E) (hE : Eok k E) (hE1 : Eok k (E + 1)) (T : Nat → Question → Nat) (q : Nat) : le2 k (opV .add k x y T q) (E + 1) := by
  obtain ⟨m, a, h1, h2, _⟩ := le2_read hx hE
  obtain ⟨n, b, g1, g2, _⟩ := le2_read hy hE
  have hs : ∃ d, (Datum.number (sgn k x) m (k.format.leastPlace + (a : Int))).sum (Datum.number (sgn k y) n (k.format.leastPlace + (b : Int))) = some d := ⟨_, rfl⟩
  obtain ⟨d, hd⟩ := hs
  have hf : floatBits .add k x y = some (k.format.write d) := by
    show k.format.add x y = _
    unfold Format.add
    rw [h1, g1, hd]
    rfl
  rw [opV_some hf]
  exact le2_sum h2 g2 hE1 hd
theorem le2_sub {k : FloatKind} {x y E : Nat} (hx : le2 k x E) (hy : le2 k y E) (hE : Eok k E) (hE1 : Eok k (E + 1)) (T : Nat → Question → Nat) (q : Nat) : le2 k (opV .sub k x y T q) (E + 1) := by
  obtain ⟨m, a, h1, h2, _⟩ := le2_read hx hE
  obtain ⟨n, b, g1, g2, _⟩ := le2_read hy hE
  have hs : ∃ d, (Datum.number (sgn k x) m (k.format.leastPlace + (a : Int))).sum (Datum.number (!sgn k y) n (k.format.leastPlace + (b : Int))) = some d := ⟨_, rfl⟩
  obtain ⟨d, hd⟩ := hs
  have hf : floatBits .sub k x y = some (k.format.write d) := by
    show k.format.sub x y = _
    unfold Format.sub
    rw [h1, g1]
    show Option.map _ ((Datum.number (sgn k x) m (k.format.leastPlace + (a : Int))).sum (Datum.number (!sgn k y) n (k.format.leastPlace + (b : Int)))) = _
    rw [hd]
    rfl
  rw [opV_some hf]
  exact le2_sum h2 g2 hE1 hd
/-- floor and its like are bounded too. -/
theorem le2_mul {x y E F G : Nat} (hx : le2 .f64 x E) (hy : le2 .f64 y F) (hE : Eok .f64 E) (hF : Eok .f64 F) (hG : Eok .f64 G) (h : E + F = G + 1074) (T : Nat → Question → Nat) (q : Nat) : le2 .f64 (opV .mul .f64 x y T q) G := by
  obtain ⟨m, a, h1, h2, _⟩ := le2_read hx hE
  obtain ⟨n, b, g1, g2, _⟩ := le2_read hy hF
  have hf : floatBits .mul .f64 x y = some (FloatKind.f64.format.write (.number (sgn .f64 x ^^ sgn .f64 y) (m * n) (FloatKind.f64.format.leastPlace + (a : Int) + (FloatKind.f64.format.leastPlace + (b : Int))))) := by
    show FloatKind.f64.format.mul x y = _
    unfold Format.mul
    rw [h1, g1]
    rfl
  rw [opV_some hf]
  show le2 .f64 (FloatKind.f64.format.nearest _ _ _) _
  obtain ⟨base, hb⟩ : ∃ base : Int, base = -2148 := ⟨_, rfl⟩
  refine nearest_le2 .f64 _ _ _ base G hG (by rw [L64]; omega) (by rw [L64]; omega) ?_
  rw [L64]
  have e1 : (-1074 + (a : Int) + (-1074 + (b : Int)) - base).toNat = a + b := by omega
  have e2 : G + ((-1074 : Int) - base).toNat = E + F := by omega
  rw [e1, e2, Nat.pow_add, Nat.pow_add]
  have e3 : m * n * (2 ^ a * 2 ^ b) = (m * 2 ^ a) * (n * 2 ^ b) := by ac_rfl
  rw [e3]
  exact Nat.mul_le_mul h2 g2
end Go.Proofs.Ytojkdlidcmfkeaa
