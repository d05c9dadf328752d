/- LogNumber's plain function: a number brought between 3/4 and 3/2 by doubling or halving, and the bounds. -/
import Derived.Test.YtojkdlidcmfkeaaSo
namespace Go.Proofs.Ytojkdlidcmfkeaa
open Go.ChangeShapes Go.WideShapes Go.ChangeAt Go.RowKit Go.Deep

theorem ltB {x y : Nat} (hx : isN .f64 x = false) (hy : isN .f64 y = false) : (FloatKind.f64.format.order x y == some .lt) = decide (si .f64 x < si .f64 y) := by
  rw [order_si _ _ _ hx hy]
  by_cases h : si .f64 x < si .f64 y
  · rw [decide_eq_true h, cmp_lt h]; rfl
  · rw [decide_eq_false h]
    rcases Int.lt_or_eq_of_le (Int.le_of_not_gt h) with h | h
    · rw [cmp_gt h]; rfl
    · rw [cmp_eq h.symm]; rfl
theorem gtB {x y : Nat} (hx : isN .f64 x = false) (hy : isN .f64 y = false) : (FloatKind.f64.format.order x y == some .gt) = decide (si .f64 y < si .f64 x) := by
  rw [order_si _ _ _ hx hy]
  by_cases h : si .f64 y < si .f64 x
  · rw [decide_eq_true h, cmp_gt h]; rfl
  · rw [decide_eq_false h]
    rcases Int.lt_or_eq_of_le (Int.le_of_not_gt h) with h | h
    · rw [cmp_lt h]; rfl
    · rw [cmp_eq h]; rfl
theorem eqB {x y : Nat} (hx : isN .f64 x = false) (hy : isN .f64 y = false) : (FloatKind.f64.format.order x y == some .eq) = decide (si .f64 x = si .f64 y) := by
  rw [order_si _ _ _ hx hy]
  by_cases h : si .f64 x = si .f64 y
  · rw [decide_eq_true h, cmp_eq h]; rfl
  · rw [decide_eq_false h]
    rcases Int.lt_or_lt_of_ne h with h | h
    · rw [cmp_lt h]; rfl
    · rw [cmp_gt h]; rfl
theorem pos_num {x : Nat} (h : x ≤ 9218868437227405312) : isN .f64 x = false ∧ si .f64 x = x ∧ sgn .f64 x = false ∧ rung .f64 x = x := by
  have hsw : FloatKind.f64.format.signWeight = 9223372036854775808 := rfl
  refine ⟨?_, ?_, ?_, ?_⟩
  · rw [isN_f64]; exact decide_eq_false (by omega)
  · rw [si_f64, if_neg (by omega)]; omega
  · unfold sgn; rw [hsw, Nat.div_eq_of_lt (by omega)]; rfl
  · unfold rung; rw [hsw]; exact Nat.mod_eq_of_lt (by omega)

def logX (y : Nat) : Nat := (4604930618986332160 + ((y : Int) - 4604930618986332160) % 4503599627370496).toNat
def logE (y : Nat) : Int := ((y : Int) - 4604930618986332160) / 4503599627370496
theorem log_state {y Z : Nat} {d : Int} (h1 : 4604930618986332160 ≤ Z) (h2 : Z < 4609434218613702656) (h : (y : Int) = Z + d * 4503599627370496) : Z = logX y ∧ d = logE y := by
  unfold logX logE
  omega
def cvI (i : Int) : Nat := Go.floatOfInt .f64 i
theorem cvI_up : ∀ k, k < 200 → floatBits .add .f64 (cvI ((k : Nat) : Int)) 4607182418800017408 = some (cvI (((k : Nat) : Int) + 1)) := by decide +kernel
theorem cvI_down : ∀ k, k < 200 → floatBits .sub .f64 (cvI (-((k : Nat) : Int))) 4607182418800017408 = some (cvI (-((k : Nat) : Int) - 1)) := by decide +kernel
theorem cvI_le2 {i : Int} (h : i.natAbs ≤ 256) : le2 .f64 (cvI i) 1082 := by
  show le2 .f64 (FloatKind.f64.format.nearest _ i.natAbs 0) 1082
  obtain ⟨K, hK⟩ : ∃ K : Nat, K = 1074 := ⟨_, rfl⟩
  refine nearest_le2 .f64 _ _ _ (-1074) 1082 (Eok64 _ (by omega) (by omega)) (by omega) (by rw [L64]; omega) ?_
  rw [L64, show ((0 : Int) - -1074).toNat = K by omega, show 1082 + ((-1074 : Int) - -1074).toNat = 8 + K by omega, Nat.pow_add]
  exact Nat.mul_le_mul_right _ (by omega)

/-! ### the tail -/
def logC (j : Nat) : Int := 25 - 2 * j
def logQ (u : Nat) : Nat → Nat
  | 0 => 0
  | j + 1 => G.add (G.quo 4607182418800017408 (Go.floatOfInt .f64 (logC j))) (G.mul u (logQ u j))
def logS (Z : Nat) : Nat := G.quo (G.sub Z 4607182418800017408) (G.add Z 4607182418800017408)
def logT (Z e : Nat) : Nat := G.add (G.mul 4611686018427387904 (G.mul (logS Z) (logQ (G.mul (logS Z) (logS Z)) 13))) (G.mul e 4604418534313441775)
theorem logC_ge1 : ∀ j, j < 13 → 4607182418800017408 ≤ rung .f64 (Go.floatOfInt .f64 (logC j)) ∧ rung .f64 (Go.floatOfInt .f64 (logC j)) < FloatKind.f64.format.infRung := by decide +kernel
theorem le2_two : le2 .f64 4611686018427387904 1075 := by unfold le2; decide
theorem le2_ln2 : le2 .f64 4604418534313441775 1074 := by unfold le2; decide
theorem le2_logQ {u : Nat} (h : le2 .f64 u 1080) : ∀ j, j ≤ 13 → le2 .f64 (logQ u j) (1074 + 7 * j)
  | 0, _ => Nat.zero_le _
  | j + 1, hj => by
    have ih := le2_logQ h j (by omega)
    have h1 : le2 .f64 (G.mul u (logQ u j)) (1080 + 7 * j) := le2_mul h ih (Eok64 _ (by omega) (by omega)) (Eok64 _ (by omega) (by omega)) (Eok64 _ (by omega) (by omega)) (by omega) z0 0
    have h2 : le2 .f64 (G.quo 4607182418800017408 (Go.floatOfInt .f64 (logC j))) 1075 := le2_quo (by omega) (by omega) le2_one (logC_ge1 j (by omega)) z0 0
    have h3 := le2_add (le2_mono h2 (show 1075 ≤ 1080 + 7 * j by omega)) h1 (Eok64 _ (by omega) (by omega)) (Eok64 _ (by omega) (by omega)) z0 0
    exact le2_mono h3 (by omega)
theorem log_bounds {Z : Nat} (h1 : 4604930618986332160 ≤ Z) (h2 : Z < 4609434218613702656) : le2 .f64 (G.sub Z 4607182418800017408) 1076 ∧ le2 .f64 (G.add Z 4607182418800017408) 1076 ∧ ge1 (G.add Z 4607182418800017408) ∧ le2 .f64 (logS Z) 1077 ∧ le2 .f64 (G.mul (logS Z) (logS Z)) 1080 := by
  obtain ⟨p1, p2, p3, p4⟩ := pos_num (x := Z) (by omega)
  have hZ : le2 .f64 Z 1075 := by
    unfold le2
    rw [p4]
    have : rungE FloatKind.f64.format 1075 = 4611686018427387904 := by decide
    omega
  have ho := le2_mono le2_one (show 1074 ≤ 1075 by omega)
  have e1 := Eok64 1075 (by omega) (by omega)
  have e2 := Eok64 1076 (by omega) (by omega)
  have q1 : le2 .f64 (G.sub Z 4607182418800017408) 1076 := le2_sub hZ ho e1 e2 z0 0
  have q2 : le2 .f64 (G.add Z 4607182418800017408) 1076 := le2_add hZ ho e1 e2 z0 0
  have q3 : ge1 (G.add Z 4607182418800017408) := (ge1_add (by omega) (by omega) hZ ho p3 (by decide +kernel) (.inr (by decide +kernel)) z0 0).1
  have q4 : le2 .f64 (logS Z) 1077 := le2_quo (by omega) (by omega) q1 q3 z0 0
  exact ⟨q1, q2, q3, q4, le2_mul q4 q4 (Eok64 _ (by omega) (by omega)) (Eok64 _ (by omega) (by omega)) (Eok64 _ (by omega) (by omega)) (by omega) z0 0⟩
theorem le2_logT {Z : Nat} {i : Int} (h1 : 4604930618986332160 ≤ Z) (h2 : Z < 4609434218613702656) (hi : i.natAbs ≤ 256) : le2 .f64 (logT Z (cvI i)) 1170 := by
  obtain ⟨q1, q2, q3, q4, q5⟩ := log_bounds h1 h2
  have a1 := le2_logQ q5 13 (Nat.le_refl _)
  have a2 : le2 .f64 (G.mul (logS Z) (logQ (G.mul (logS Z) (logS Z)) 13)) 1168 := le2_mul q4 a1 (Eok64 _ (by omega) (by omega)) (Eok64 _ (by omega) (by omega)) (Eok64 _ (by omega) (by omega)) (by omega) z0 0
  have a3 : le2 .f64 (G.mul 4611686018427387904 (G.mul (logS Z) (logQ (G.mul (logS Z) (logS Z)) 13))) 1169 := le2_mul le2_two a2 (Eok64 _ (by omega) (by omega)) (Eok64 _ (by omega) (by omega)) (Eok64 _ (by omega) (by omega)) (by omega) z0 0
  have a4 : le2 .f64 (G.mul (cvI i) 4604418534313441775) 1082 := le2_mul (cvI_le2 hi) le2_ln2 (Eok64 _ (by omega) (by omega)) (Eok64 _ (by omega) (by omega)) (Eok64 _ (by omega) (by omega)) (by omega) z0 0
  exact le2_add a3 (le2_mono a4 (by omega)) (Eok64 _ (by omega) (by omega)) (Eok64 _ (by omega) (by omega)) z0 0
theorem log_fix {Z : Nat} (h1 : 4604930618986332160 ≤ Z) (h2 : Z < 4609434218613702656) {p : Prop}
    (go : ∀ A D s u, (∀ T n, opV .sub .f64 Z 4607182418800017408 T n = A) → (∀ T n, opV .add .f64 Z 4607182418800017408 T n = D) → (∀ T n, opV .quo .f64 A D T n = s) → (∀ T n, opV .mul .f64 s s T n = u) →
      (∀ e, logT Z e = G.add (G.mul 4611686018427387904 (G.mul s (logQ u 13))) (G.mul e 4604418534313441775)) → p) : p := by
  obtain ⟨q1, q2, q3, q4, q5⟩ := log_bounds h1 h2
  exact go _ _ _ _ (fun T n => opV_fix (le2_num q1 (Eok64 _ (by omega) (by omega))) T n) (fun T n => opV_fix (le2_num q2 (Eok64 _ (by omega) (by omega))) T n)
    (fun T n => opV_fix (le2_num q4 (Eok64 _ (by omega) (by omega))) T n) (fun T n => opV_fix (le2_num q5 (Eok64 _ (by omega) (by omega))) T n) (fun _ => rfl)
/-- a finite positive float32, widened. -/
theorem widen_pos {x : Nat} (hn : isN .f32 x = false) (hi : rung .f32 x ≠ FloatKind.f32.format.infRung) (hp : 0 < si .f64 (X64 x)) : 3936146074321813504 ≤ X64 x ∧ X64 x ≤ 5183643171103440896 := by
  have hr := fin_rung hn hi
  obtain ⟨E, hE⟩ : ∃ E, E = 1202 := ⟨_, rfl⟩
  have hl : le2 .f64 (X64 x) E := widen_fin x hn hi z0 0 E (by omega) (by omega)
  have hlt : X64 x < 18446744073709551616 := cvV_lt64 _ _ _ _
  obtain ⟨m, a, g1, g2⟩ := widen_le2 x hr
  have hni := le2_notinf g2 (Eok64 _ (by omega) (by omega))
  have hX : X64 x = FloatKind.f64.format.nearest (sgn .f32 x) m (-149 + (a : Int)) := by
    unfold X64 cvV
    rw [g1]
    show (if _ then _ else _) = _
    rw [hni, if_neg (by simp)]
    rfl
  have hL32 : FloatKind.f32.format.leastPlace = -149 := by decide
  have hsg : rung .f64 (X64 x) = X64 x ∧ 0 < rung .f64 (X64 x) := by
    rw [si_f64] at hp
    have : rung .f64 (X64 x) = X64 x % 9223372036854775808 := rfl
    rw [this]
    split at hp
    · omega
    · omega
  have hm : m ≠ 0 := by
    rintro rfl
    have : rung .f64 (X64 x) = 0 := by
      rw [hX]
      unfold Ieee.Format.nearest
      rw [if_pos rfl]
      unfold rung
      rw [word_rung _ _ _ (sw_pos _)]
    omega
  obtain ⟨K, hK⟩ : ∃ K : Nat, K = 925 := ⟨_, rfl⟩
  have hge := nearest_ge .f64 (sgn .f32 x) m (-149 + (a : Int)) (-1074) K (Eok64 _ (by omega) (by omega)) (by omega) (by rw [L64]; omega) (by
    rw [L64, show ((-1074 : Int) - -1074).toNat = 0 by omega, show (-149 + (a : Int) - -1074).toNat = a + K by omega, Nat.add_zero, Nat.pow_add, ← Nat.mul_assoc]
    exact Nat.le_mul_of_pos_left _ (Nat.mul_pos (by omega) (Nat.two_pow_pos _)))
  rw [← hX, hsg.1, hK] at hge
  have e1 : rungE FloatKind.f64.format 925 = 3936146074321813504 := by decide
  have e2 : rungE FloatKind.f64.format 1202 = 5183643171103440896 := by decide
  rw [e1] at hge
  unfold le2 at hl
  rw [hE, e2, hsg.1] at hl
  exact ⟨hge, hl⟩
end Go.Proofs.Ytojkdlidcmfkeaa
