/- Narrowing that cannot overflow; the square root: what it gives, and its bound. -/
import Derived.Test.YtlhgaihfghobmaaFb
import Derived.Laws.Externs
namespace Go.Proofs.Ytlhgaihfghobmaa
open Ieee

theorem L32 : FloatKind.f32.format.leastPlace = -149 := by decide
theorem L64 : FloatKind.f64.format.leastPlace = -1074 := by decide

theorem le2_finite {k : FloatKind} {x E : Nat} (h : le2 k x E) (hE : Eok k E) : isN k x = false := le2_num h hE

/-- a float64 no greater than 2^127 narrows to a fixed value. -/
theorem narrow_ok (b E : Nat) (hE : E = 1201) (h : le2 .f64 b E) : cvOk .f64 .f32 b := by
  obtain ⟨m, a, h1, h2, _⟩ := le2_read h (Eok64 E (by omega) (by omega))
  unfold cvOk
  have h1' : FloatKind.f64.decode b = .number (sgn .f64 b) m (FloatKind.f64.format.leastPlace + (a : Int)) := h1
  rw [h1']
  show (FloatKind.f32.decode (FloatKind.f32.format.nearest _ _ _)).isInfinity = false
  obtain ⟨E', hE'⟩ : ∃ E', E' = 276 := ⟨_, rfl⟩
  refine le2_notinf (E := E') (nearest_le2 .f32 _ m _ (-1074) E' (Eok32 E' (by omega) (by omega)) (by rw [L64]; omega) (by rw [L32]; decide) ?_) (Eok32 E' (by omega) (by omega))
  rw [L64, L32]
  have e1 : (-1074 + (a : Int) - -1074).toNat = a := by omega
  have e2 : E' + ((-149 : Int) - -1074).toNat = E := by omega
  rw [e1, e2]
  exact h2
theorem narrow_sim {a b : Nat} (h : Sim .f64 a b) (hok : isN .f64 a = false → cvOk .f64 .f32 a) (T : Nat → Question → Nat) (n : Nat) (T' : Nat → Question → Nat) (n' : Nat) : Sim .f32 (cvV .f64 .f32 a T n) (cvV .f64 .f32 b T' n') := cvV_sim h hok T n T' n'
theorem cvOk_inf {s k : FloatKind} {x : Nat} (h : rung s x = s.format.infRung) : cvOk s k x := by
  unfold cvOk
  have : s.decode x = .infinity _ := read_inf s.format x (binade_le_inf s) h
  rw [this]
  trivial

/-! ### sqrt -/
def sqV (x : Nat) (T : Nat → Question → Nat) (n : Nat) : Nat :=
  match FloatKind.f64.format.sqrt x with
  | some r => r
  | none => (Question.nanBits .f64 x x).cut (T n (.nanBits .f64 x x))
def sqN (x : Nat) : Nat := match FloatKind.f64.format.sqrt x with | some _ => 0 | none => 1
theorem run_sqrt_ext {P : Program} (x : Nat) (w : World) : (Extern.MathSqrt.sqrt #[.float .f64 x]).run P w = .ok (.float .f64 (sqV x w.tape w.drawn)) (w.drewN (sqN x)) := by
  change Sem.run P (match FloatKind.f64.format.sqrt x with
    | some r => pure (Value.float .f64 r)
    | none => do pure (Value.float .f64 (← choose (.nanBits .f64 x x)))) w = _
  unfold sqV sqN
  cases h : FloatKind.f64.format.sqrt x with
  | some r => rfl
  | none => simp [Question.forced]; rfl
theorem sqrt_nan {x : Nat} (h : isN .f64 x = true) : FloatKind.f64.format.sqrt x = none := by
  obtain ⟨s, f, hx⟩ := decode_nan h
  simp only [Format.sqrt, hx]
  rfl
theorem sqV_sim {a b : Nat} (h : Sim .f64 a b) (T : Nat → Question → Nat) (n : Nat) (T' : Nat → Question → Nat) (n' : Nat) : Sim .f64 (sqV a T n) (sqV b T' n') := by
  have hn : ∀ x T n, FloatKind.f64.format.sqrt x = none → isN .f64 (sqV x T n) = true := fun x T n hx => by
    simp only [sqV, hx]; exact isN_nanBits _ _ _ _
  rcases h with ⟨h1, h2⟩ | ⟨h1, rfl⟩
  · exact .inl ⟨hn _ _ _ (sqrt_nan h1), hn _ _ _ (sqrt_nan h2)⟩
  · cases hf : FloatKind.f64.format.sqrt a with
    | none => exact .inl ⟨hn _ _ _ hf, hn _ _ _ hf⟩
    | some r => simp only [sqV, hf]; exact Sim.refl _ _

theorem rootFrom_sq (n : Nat) : ∀ (todo root : Nat), root * root ≤ n → Datum.rootFrom n todo root * Datum.rootFrom n todo root ≤ n
  | 0, root, h => h
  | todo + 1, root, h => by
    unfold Datum.rootFrom
    dsimp only
    split
    · exact rootFrom_sq n todo _ (by assumption)
    · exact rootFrom_sq n todo _ h

theorem root_lt {r n : Nat} (h : r * r ≤ n) : r < 2 ^ (n.log2 / 2 + 1) := by
  apply Nat.lt_of_not_le
  intro hc
  have h1 : 2 ^ (n.log2 / 2 + 1) * 2 ^ (n.log2 / 2 + 1) ≤ r * r := Nat.mul_le_mul hc hc
  have h2 : n < 2 ^ (n.log2 + 1) := Nat.lt_log2_self
  rw [← Nat.pow_add] at h1
  have h3 : 2 ^ (n.log2 + 1) ≤ 2 ^ (n.log2 / 2 + 1 + (n.log2 / 2 + 1)) := Nat.pow_le_pow_right (by decide) (by omega)
  omega

/-- the square root of a finite float64 that is at most 2^130 is at most 2^100. -/
theorem sqrt_le2 (x r E E' : Nat) (hE : E = 1204) (hE' : E' = 1174) (h : le2 .f64 x E) (hr : FloatKind.f64.format.sqrt x = some r) : le2 .f64 r E' := by
  obtain ⟨m, a, h1, h2, _⟩ := le2_read h (Eok64 E (by omega) (by omega))
  unfold Format.sqrt at hr
  rw [h1] at hr
  simp only [Datum.root] at hr
  by_cases hm : m = 0
  · rw [if_pos hm] at hr
    simp only [Option.map_some, Option.some.injEq] at hr
    subst hr
    show le2 .f64 (FloatKind.f64.format.nearest _ _ _) _
    unfold Format.nearest
    rw [if_pos hm]
    unfold le2 rung
    rw [word_rung _ _ _ (sw_pos _)]
    exact Nat.zero_le _
  · rw [if_neg hm] at hr
    by_cases hs : sgn .f64 x = true
    · rw [if_pos hs] at hr; cases hr
    · rw [if_neg hs] at hr
      simp only [Option.map_some, Option.some.injEq] at hr
      rw [L64] at hr
      generalize hmore : (2 * (FloatKind.f64.format.fractionBits + 2) - m.log2) + ((-1074 + (a : Int) - ((2 * (FloatKind.f64.format.fractionBits + 2) - m.log2 : Nat) : Int)) % 2).toNat = more at hr
      have hlg2 : 2 ^ m.log2 ≤ m := Nat.log2_self_le hm
      have hle : m.log2 + a ≤ E := by
        have : 2 ^ (m.log2 + a) ≤ 2 ^ E := by
          rw [Nat.pow_add]
          exact Nat.le_trans (Nat.mul_le_mul_right _ hlg2) h2
        exact (Nat.pow_le_pow_iff_right (by decide)).1 this
      have hmb : more ≤ 109 := by
        have h54 : FloatKind.f64.format.fractionBits = 52 := rfl
        rw [h54] at hmore
        omega
      have hlogn : (m <<< more).log2 = m.log2 + more := by
        rw [Nat.shiftLeft_eq]
        refine (Nat.log2_eq_iff (Nat.mul_ne_zero hm (Nat.ne_of_gt (Nat.two_pow_pos _)))).2 ⟨?_, ?_⟩
        · rw [Nat.pow_add]; exact Nat.mul_le_mul_right _ hlg2
        · rw [show m.log2 + more + 1 = (m.log2 + 1) + more by omega, Nat.pow_add]
          exact Nat.mul_lt_mul_of_pos_right Nat.lt_log2_self (Nat.two_pow_pos _)
      generalize hw : Datum.rootFrom (m <<< more) ((m <<< more).log2 / 2 + 1) 0 = whole at hr
      have hsq : whole * whole ≤ m <<< more := by rw [← hw]; exact rootFrom_sq _ _ _ (by simp)
      have hwl := root_lt hsq
      rw [hlogn] at hwl
      have hst : ∀ b : Bool, b.toNat ≤ 1 := by decide
      have hst' := hst (whole * whole != m <<< more)
      generalize (whole * whole != m <<< more).toNat = st at hr hst'
      subst hr
      show le2 .f64 (FloatKind.f64.format.nearest _ _ _) _
      obtain ⟨base, hbase⟩ : ∃ base : Int, base = -3000 := ⟨_, rfl⟩
      refine nearest_le2 .f64 _ _ _ base E' (Eok64 E' (by omega) (by omega)) (by omega) (by rw [L64]; omega) ?_
      rw [L64]
      have hv : 2 * whole + st ≤ 2 ^ ((m.log2 + more) / 2 + 2) := by
        have : 2 ^ ((m.log2 + more) / 2 + 2) = 2 * 2 ^ ((m.log2 + more) / 2 + 1) := by rw [Nat.pow_succ 2 ((m.log2 + more) / 2 + 1), Nat.mul_comm]
        omega
      refine Nat.le_trans (Nat.mul_le_mul_right _ hv) ?_
      rw [← Nat.pow_add]
      exact Nat.pow_le_pow_right (by decide) (by omega)
end Go.Proofs.Ytlhgaihfghobmaa
