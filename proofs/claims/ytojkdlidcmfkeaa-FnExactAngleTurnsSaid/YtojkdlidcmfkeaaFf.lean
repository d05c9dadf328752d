/- Great float64 numbers are whole: one half added is lost, the floor is the number. -/
import Derived.Test.YtojkdlidcmfkeaaFe
namespace Go.Proofs.Ytojkdlidcmfkeaa
open Ieee

theorem cut_div {n g q r drop : Nat} (hd : drop ≤ n.log2 + 2) (hg : 2 ^ drop = g) (h : n = q * g + r) (hr : r < g) (hne : 2 * r ≠ g) (s : Bool) :
    Toward.even.cut s n drop = q + (decide (g < 2 * r)).toNat := by
  unfold Toward.cut
  dsimp only
  rw [Nat.min_eq_left hd, Nat.shiftLeft_eq, Nat.one_mul, hg]
  have hg0 : 0 < g := by omega
  have e1 : n / g = q := by rw [h, Nat.add_comm, Nat.add_mul_div_right _ _ hg0, Nat.div_eq_of_lt hr, Nat.zero_add]
  have e2 : n % g = r := by rw [h, Nat.add_comm, Nat.add_mul_mod_self_right, Nat.mod_eq_of_lt hr]
  rw [e1, e2]
  have e3 : (g == 2 * r) = false := by rw [beq_eq_false_iff_ne]; omega
  rw [e3]
  simp
theorem read64 (x : Nat) (h : rung .f64 x < FloatKind.f64.format.infRung) : ∃ m a : Nat, FloatKind.f64.format.read x = .number (sgn .f64 x) m (-1074 + (a : Int)) ∧ rung .f64 x = a * 4503599627370496 + m ∧ m < 9007199254740992 ∧ (a = 0 ∨ 4503599627370496 ≤ m) := by
  have hb : FloatKind.f64.format.binade = 4503599627370496 := rfl
  unfold Format.read
  dsimp only
  by_cases h1 : x % FloatKind.f64.format.signWeight < FloatKind.f64.format.binade
  · refine ⟨x % FloatKind.f64.format.signWeight, 0, ?_, ?_, ?_, .inl rfl⟩
    · rw [if_pos h1, L64]; simp [sgn]
    · unfold rung; omega
    · omega
  · refine ⟨FloatKind.f64.format.binade + x % FloatKind.f64.format.signWeight % FloatKind.f64.format.binade, x % FloatKind.f64.format.signWeight / FloatKind.f64.format.binade - 1, ?_, ?_, ?_, .inr ?_⟩
    · rw [if_neg h1, if_pos (show x % FloatKind.f64.format.signWeight < FloatKind.f64.format.infRung from h), L64]; rfl
    · unfold rung
      rw [hb] at *
      omega
    · rw [hb]; omega
    · omega
theorem log2_53 {m : Nat} (h1 : 4503599627370496 ≤ m) (h2 : m < 9007199254740992) : m.log2 = 52 := (Nat.log2_eq_iff (by omega)).2 ⟨by simpa using h1, by simpa using h2⟩
theorem f64_fb : FloatKind.f64.format.fractionBits = 52 := rfl
theorem f64_bin : FloatKind.f64.format.binade = 4503599627370496 := rfl
theorem nearest_num (s : Bool) {m a : Nat} (h0 : m ≠ 0) (h1 : m < 9007199254740992) (h2 : a = 0 ∨ 4503599627370496 ≤ m) (h3 : a * 4503599627370496 + m < FloatKind.f64.format.infRung) :
    FloatKind.f64.format.nearest s m (-1074 + (a : Int)) = FloatKind.f64.format.word s (a * 4503599627370496 + m) := by
  rw [nearest_rank _ _ _ _ h0, ← L64, rank_exact, f64_bin, Nat.min_eq_left (Nat.le_of_lt h3)]
  · rw [f64_fb]
    have : m < 2 ^ 53 := by simpa using h1
    have := (Nat.log2_lt h0).2 this
    omega
  · rcases h2 with h | h
    · exact .inl h
    · exact .inr (log2_53 h h1)
theorem word_self {x : Nat} (hx : x < 18446744073709551616) : FloatKind.f64.format.word (sgn .f64 x) (rung .f64 x) = x := by
  unfold Format.word sgn rung
  have e : FloatKind.f64.format.signWeight = 9223372036854775808 := rfl
  rw [e]
  by_cases h : x < 9223372036854775808
  · have e1 : x / 9223372036854775808 = 0 := by omega
    rw [e1]
    simp
    omega
  · have e1 : x / 9223372036854775808 = 1 := by omega
    rw [e1]
    simp
    omega
/-- the floor of a number that is whole is that number. -/
theorem floor_big {x m a : Nat} (hx : x < 18446744073709551616) (hr : rung .f64 x = a * 4503599627370496 + m) (hf : rung .f64 x < FloatKind.f64.format.infRung) (h1 : m < 9007199254740992) (h2 : 4503599627370496 ≤ m) (ha : 1074 ≤ a) :
    FloatKind.f64.encode ((Datum.number (sgn .f64 x) m (-1074 + (a : Int))).integral .down) = x := by
  obtain ⟨p, rfl⟩ : ∃ p, a = 1074 + p := ⟨a - 1074, by omega⟩
  have e1 : (-1074 + ((1074 + p : Nat) : Int)).toNat = p := by omega
  have e2 : (-(-1074 + ((1074 + p : Nat) : Int))).toNat = 0 := by omega
  show FloatKind.f64.format.nearest _ (Toward.down.cut _ (m <<< (-1074 + ((1074 + p : Nat) : Int)).toNat) (-(-1074 + ((1074 + p : Nat) : Int))).toNat) 0 = x
  rw [e1, e2, Nat.shiftLeft_eq]
  have e3 : ∀ n s, Toward.down.cut s n 0 = n := fun n s => by
    unfold Toward.cut
    dsimp only
    rw [Nat.zero_min]
    simp [Nat.mod_one]
  rw [e3]
  have hm : m ≠ 0 := by omega
  have := nearest_scale FloatKind.f64.format (sgn .f64 x) hm (p : Int) p
  rw [show (p : Int) - (p : Int) = 0 by omega] at this
  rw [this, show (p : Int) = -1074 + ((1074 + p : Nat) : Int) by omega, nearest_num _ hm h1 (.inr h2) (by omega), ← hr]
  exact word_self hx
theorem rank_of_last {f : Format} {M : Nat} {place : Int} {r d : Nat} (h1 : place + (M.log2 : Int) - f.fractionBits = f.leastPlace + (r : Int)) (h2 : f.leastPlace + (r : Int) = place + (d : Int)) :
    rank f M place = r * f.binade + Toward.even.cut false M d := by
  unfold rank
  dsimp only
  rw [h1, show max (f.leastPlace + (r : Int)) f.leastPlace = f.leastPlace + r by omega]
  have e1 : (f.leastPlace + (r : Int) - f.leastPlace).toNat = r := by omega
  have e2 : (place - (f.leastPlace + (r : Int))).toNat = 0 := by omega
  have e3 : (f.leastPlace + (r : Int) - place).toNat = d := by omega
  rw [e1, e2, e3, Nat.shiftLeft_eq, Nat.pow_zero, Nat.mul_one]
theorem log2_of {M e : Nat} (h1 : 2 ^ e ≤ M) (h2 : M < 2 ^ (e + 1)) : M.log2 = e := (Nat.log2_eq_iff (by have := Nat.two_pow_pos e; omega)).2 ⟨h1, h2⟩
/-- a half, added to or taken from a great number, is lost. -/
theorem half_plus {m u : Nat} (h1 : 4503599627370496 ≤ m) (h2 : m < 9007199254740992) (hu : 55 ≤ u) : rank FloatKind.f64.format (m * 2 ^ u + 4503599627370496) (-53) = (u + 1021) * 4503599627370496 + m := by
  have hG : 2 ^ 55 ≤ 2 ^ u := Nat.pow_le_pow_right (by decide) hu
  have e1 : 2 ^ (52 + u) = 4503599627370496 * 2 ^ u := by rw [Nat.pow_add]
  have e2 : 2 ^ (52 + u + 1) = 9007199254740992 * 2 ^ u := by rw [show 52 + u + 1 = 53 + u by omega, Nat.pow_add]
  have hlog : (m * 2 ^ u + 4503599627370496).log2 = 52 + u := by
    apply log2_of
    · rw [e1]; exact Nat.le_trans (Nat.mul_le_mul_right _ h1) (Nat.le_add_right _ _)
    · rw [e2]
      have : (m + 1) * 2 ^ u ≤ 9007199254740992 * 2 ^ u := Nat.mul_le_mul_right _ h2
      rw [Nat.add_mul, Nat.one_mul] at this
      omega
  rw [rank_of_last (r := u - 53 + 1074) (d := u) (by rw [hlog, L64, f64_fb]; omega) (by rw [L64]; omega), f64_bin]
  rw [cut_div (q := m) (r := 4503599627370496) (by rw [hlog]; omega) rfl rfl (by omega) (by omega)]
  have e3 : decide (2 ^ u < 2 * 4503599627370496) = false := decide_eq_false (by omega)
  rw [e3]
  simp
  omega
theorem half_minus {m u : Nat} (h1 : 4503599627370496 ≤ m) (h2 : m < 9007199254740992) (hu : 55 ≤ u) : rank FloatKind.f64.format (m * 2 ^ u - 4503599627370496) (-53) = (u + 1021) * 4503599627370496 + m := by
  have hG : 2 ^ 55 ≤ 2 ^ u := Nat.pow_le_pow_right (by decide) hu
  have e1 : 2 ^ (52 + u) = 4503599627370496 * 2 ^ u := by rw [Nat.pow_add]
  have e2 : 2 ^ (52 + u + 1) = 9007199254740992 * 2 ^ u := by rw [show 52 + u + 1 = 53 + u by omega, Nat.pow_add]
  by_cases hm : m = 4503599627370496
  · subst hm
    obtain ⟨t, rfl⟩ : ∃ t, u = t + 1 := ⟨u - 1, by omega⟩
    have hT : 2 ^ 54 ≤ 2 ^ t := Nat.pow_le_pow_right (by decide) (by omega)
    have ep : 2 ^ (t + 1) = 2 * 2 ^ t := by rw [Nat.pow_succ]; omega
    have hlog : (4503599627370496 * 2 ^ (t + 1) - 4503599627370496).log2 = 52 + t := by
      apply log2_of
      · rw [Nat.pow_add 2 52 t, ep]; omega
      · rw [show 52 + t + 1 = 53 + t by omega, Nat.pow_add 2 53 t, ep]; omega
    rw [rank_of_last (r := t - 53 + 1074) (d := t) (by rw [hlog, L64, f64_fb]; omega) (by rw [L64]; omega), f64_bin]
    rw [cut_div (q := 9007199254740991) (r := 2 ^ t - 4503599627370496) (by rw [hlog]; omega) rfl (by rw [ep]; omega) (by omega) (by omega)]
    have e3 : decide (2 ^ t < 2 * (2 ^ t - 4503599627370496)) = true := decide_eq_true (by omega)
    rw [e3]
    simp
    omega
  · have hm1 : (m - 1) * 2 ^ u + 2 ^ u = m * 2 ^ u := by
      have : m - 1 + 1 = m := by omega
      conv => rhs; rw [← this, Nat.add_mul, Nat.one_mul]
    have hlo : 4503599627370496 * 2 ^ u ≤ (m - 1) * 2 ^ u := Nat.mul_le_mul_right _ (by omega)
    have hhi : m * 2 ^ u ≤ 9007199254740991 * 2 ^ u := Nat.mul_le_mul_right _ (by omega)
    have hlog : (m * 2 ^ u - 4503599627370496).log2 = 52 + u := by
      apply log2_of
      · rw [e1]; omega
      · rw [e2]; omega
    rw [rank_of_last (r := u - 53 + 1074) (d := u) (by rw [hlog, L64, f64_fb]; omega) (by rw [L64]; omega), f64_bin]
    rw [cut_div (q := m - 1) (r := 2 ^ u - 4503599627370496) (by rw [hlog]; omega) rfl (by omega) (by omega) (by omega)]
    have e3 : decide (2 ^ u < 2 * (2 ^ u - 4503599627370496)) = true := decide_eq_true (by omega)
    rw [e3]
    simp
    omega
theorem read_half : FloatKind.f64.format.read 4602678819172646912 = .number false 4503599627370496 (-53) := by kernel_rfl
theorem add_half_big {x : Nat} (hx : x < 18446744073709551616) (hf : rung .f64 x < FloatKind.f64.format.infRung) {m a : Nat} (hread : FloatKind.f64.format.read x = .number (sgn .f64 x) m (-1074 + (a : Int)))
    (hr : rung .f64 x = a * 4503599627370496 + m) (h1 : 4503599627370496 ≤ m) (h2 : m < 9007199254740992) (ha : 1076 ≤ a) (T : Nat → Question → Nat) (n : Nat) : opV .add .f64 x 4602678819172646912 T n = x := by
  apply opV_some
  show FloatKind.f64.format.add x 4602678819172646912 = _
  unfold Format.add
  rw [hread, read_half]
  obtain ⟨u, rfl⟩ : ∃ u, a = u + 1021 := ⟨a - 1021, by omega⟩
  have hu : 55 ≤ u := by omega
  have hG : 2 ^ 55 ≤ 2 ^ u := Nat.pow_le_pow_right (by decide) hu
  have hbig : 4503599627370496 * 2 ^ u ≤ m * 2 ^ u := Nat.mul_le_mul_right _ h1
  have e0 : min (-1074 + ((u + 1021 : Nat) : Int)) (-53) = -53 := by omega
  have e1 : (-1074 + ((u + 1021 : Nat) : Int) - -53).toNat = u := by omega
  simp only [Datum.sum, e0, e1, Option.map_some, Option.some.injEq]
  have e2 : ((-53 : Int) - -53).toNat = 0 := rfl
  rw [e2]
  show FloatKind.f64.format.nearest _ _ _ = x
  have hfin : ∀ M : Nat, M ≠ 0 → rank FloatKind.f64.format M (-53) = (u + 1021) * 4503599627370496 + m → FloatKind.f64.format.nearest (sgn .f64 x) M (-53) = x := fun M hM hrk => by
    rw [nearest_rank _ _ _ _ hM, hrk, ← hr, Nat.min_eq_left (Nat.le_of_lt hf)]
    exact word_self hx
  cases hs : sgn .f64 x
  · have t1 : signed false m u + signed false 4503599627370496 0 = ((m * 2 ^ u + 4503599627370496 : Nat) : Int) := by
      simp [signed, Nat.shiftLeft_eq]
    rw [t1]
    have g1 : ¬ (((m * 2 ^ u + 4503599627370496 : Nat) : Int) = 0) := by omega
    have g2 : decide (((m * 2 ^ u + 4503599627370496 : Nat) : Int) < 0) = false := decide_eq_false (by omega)
    rw [if_neg g1, g2, Int.natAbs_natCast, ← hs]
    exact hfin _ (by omega) (half_plus h1 h2 hu)
  · have t1 : signed true m u + signed false 4503599627370496 0 = -((m * 2 ^ u - 4503599627370496 : Nat) : Int) := by
      have : signed true m u = -((m * 2 ^ u : Nat) : Int) := by simp [signed, Nat.shiftLeft_eq]
      rw [this]
      have : signed false 4503599627370496 0 = 4503599627370496 := rfl
      rw [this]
      omega
    rw [t1]
    have g1 : ¬ (-((m * 2 ^ u - 4503599627370496 : Nat) : Int) = 0) := by omega
    have g2 : decide (-((m * 2 ^ u - 4503599627370496 : Nat) : Int) < 0) = true := decide_eq_true (by omega)
    rw [if_neg g1, g2, Int.natAbs_neg, Int.natAbs_natCast, ← hs]
    exact hfin _ (by omega) (half_minus h1 h2 hu)
end Go.Proofs.Ytojkdlidcmfkeaa
