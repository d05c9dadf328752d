/- AngleTurns' plain function and its bounds. -/
import Derived.Test.YtojkdlidcmfkeaaGl
namespace Go.Proofs.Ytojkdlidcmfkeaa
open Go.ChangeShapes Go.WideShapes Go.ChangeAt Go.RowKit Go.Deep

theorem sqrt_fine {x : Nat} (h : le2 .f64 x 1204) (hs : sgn .f64 x = false) : ∃ r, FloatKind.f64.format.sqrt x = some r ∧ le2 .f64 r 1174 ∧ sgn .f64 r = false := by
  obtain ⟨m, a, h1, h2, _⟩ := le2_read h (Eok64 1204 (by omega) (by omega))
  have hr : ∃ r, FloatKind.f64.format.sqrt x = some r ∧ sgn .f64 r = false := by
    unfold Ieee.Format.sqrt
    rw [h1, hs]
    simp only [Ieee.Datum.root]
    by_cases hm : m = 0
    · rw [if_pos hm]
      exact ⟨_, rfl, sgn_nearest _ _ _ _⟩
    · rw [if_neg hm, if_neg (by simp)]
      exact ⟨_, rfl, sgn_nearest _ _ _ _⟩
  obtain ⟨r, hr, hg⟩ := hr
  obtain ⟨E, hE⟩ : ∃ E, E = 1204 := ⟨_, rfl⟩
  obtain ⟨E', hE'⟩ : ∃ E', E' = 1174 := ⟨_, rfl⟩
  have := sqrt_le2 x r E E' hE hE' (by rw [hE]; exact h) hr
  rw [hE'] at this
  exact ⟨r, hr, this, hg⟩
def G.sqrt (x : Nat) : Nat := sqV x z0 0
def tstep (t : Nat) : Nat := G.quo t (G.add 4607182418800017408 (G.sqrt (G.add 4607182418800017408 (G.mul t t))))
def tI (t : Nat) : Nat → Nat
  | 0 => t
  | j + 1 => tstep (tI t j)
theorem one_pos : sgn .f64 4607182418800017408 = false := by decide +kernel
theorem one_ge : 4607182418800017408 ≤ rung .f64 4607182418800017408 := by decide +kernel
theorem tstep_fix {t E : Nat} (hE0 : 1074 ≤ E) (hE9 : E ≤ 1100) (h : le2 .f64 t E) {p : Prop}
    (go : ∀ A D S F t', (∀ T n, opV .mul .f64 t t T n = A) → (∀ T n, opV .add .f64 4607182418800017408 A T n = D) → (∀ T n, sqV D T n = S) → (∀ T n, opV .add .f64 4607182418800017408 S T n = F) → (∀ T n, opV .quo .f64 t F T n = t') → t' = tstep t → le2 .f64 t' (E + 1) → p) : p := by
  have hE := Eok64 E (by omega) (by omega)
  obtain ⟨H, hG⟩ : ∃ H, E + E = H + 1074 := ⟨E + E - 1074, by omega⟩
  have hGo := Eok64 H (by omega) (by omega)
  have hGo1 := Eok64 (H + 1) (by omega) (by omega)
  have lA : le2 .f64 (G.mul t t) H := le2_mul h h hE hE hGo hG z0 0
  have sA : sgn .f64 (G.mul t t) = false := by
    have := sgn_mul (G := H) h h hE hE z0 0 rfl
    unfold G.mul
    rw [this]
    cases sgn .f64 t <;> rfl
  have lo := le2_mono le2_one (show 1074 ≤ H by omega)
  have lD : le2 .f64 (G.add 4607182418800017408 (G.mul t t)) (H + 1) := le2_add lo lA hGo hGo1 z0 0
  have gD := ge1_add (E := H) (by omega) (by omega) lo lA one_pos sA (.inl one_ge) z0 0
  obtain ⟨S, hS, lS, sS⟩ := sqrt_fine (le2_mono lD (show H + 1 ≤ 1204 by omega)) gD.2
  have eS : ∀ T n, sqV (G.add 4607182418800017408 (G.mul t t)) T n = S := fun T n => by simp only [sqV, hS]
  have eS0 : G.sqrt (G.add 4607182418800017408 (G.mul t t)) = S := eS z0 0
  have lo2 := le2_mono le2_one (show 1074 ≤ 1174 by omega)
  have lF : le2 .f64 (G.add 4607182418800017408 S) 1175 := le2_add lo2 lS (Eok64 1174 (by omega) (by omega)) (Eok64 1175 (by omega) (by omega)) z0 0
  have gF := ge1_add (E := 1174) (by omega) (by omega) lo2 lS one_pos sS (.inl one_ge) z0 0
  have lt : le2 .f64 (G.quo t (G.add 4607182418800017408 S)) (E + 1) := le2_quo (by omega) (by omega) h gF.1 z0 0
  refine go (G.mul t t) (G.add 4607182418800017408 (G.mul t t)) S (G.add 4607182418800017408 S) (G.quo t (G.add 4607182418800017408 S))
    (fun T n => opV_fix (le2_num lA hGo) T n) (fun T n => opV_fix (le2_num lD hGo1) T n) eS (fun T n => opV_fix (le2_num lF (Eok64 1175 (by omega) (by omega))) T n)
    (fun T n => opV_fix (le2_num lt (Eok64 (E + 1) (by omega) (by omega))) T n) ?_ lt
  unfold tstep
  rw [eS0]
theorem le2_tI {t : Nat} (h : le2 .f64 t 1075) : ∀ j, j ≤ 3 → le2 .f64 (tI t j) (1075 + j)
  | 0, _ => h
  | j + 1, hj => tstep_fix (E := 1075 + j) (by omega) (by omega) (le2_tI h j (by omega)) fun _ _ _ _ t' _ _ _ _ _ e l => by
      show le2 .f64 (tstep (tI t j)) _
      rw [← e]; exact l
def angC (j : Nat) : Int := 15 - 2 * j
def angQ (u : Nat) : Nat → Nat
  | 0 => 0
  | j + 1 => G.sub (G.quo 4607182418800017408 (Go.floatOfInt .f64 (angC j))) (G.mul u (angQ u j))
theorem angC_ge1 : ∀ j, j < 8 → 4607182418800017408 ≤ rung .f64 (Go.floatOfInt .f64 (angC j)) ∧ rung .f64 (Go.floatOfInt .f64 (angC j)) < FloatKind.f64.format.infRung := by decide +kernel
theorem le2_angQ {u : Nat} (h : le2 .f64 u 1082) : ∀ j, j ≤ 8 → le2 .f64 (angQ u j) (1074 + 9 * j)
  | 0, _ => Nat.zero_le _
  | j + 1, hj => by
    have ih := le2_angQ h j (by omega)
    have h1 : le2 .f64 (G.mul u (angQ u j)) (1082 + 9 * j) := le2_mul h ih (Eok64 _ (by omega) (by omega)) (Eok64 _ (by omega) (by omega)) (Eok64 _ (by omega) (by omega)) (by omega) z0 0
    have h2 : le2 .f64 (G.quo 4607182418800017408 (Go.floatOfInt .f64 (angC j))) 1075 := le2_quo (by omega) (by omega) le2_one (angC_ge1 j (by omega)) z0 0
    have h3 := le2_sub (le2_mono h2 (show 1075 ≤ 1082 + 9 * j by omega)) h1 (Eok64 _ (by omega) (by omega)) (Eok64 _ (by omega) (by omega)) z0 0
    exact le2_mono h3 (by omega)
def angA (t : Nat) : Nat := G.quo (G.mul 4620693217682128896 (G.mul t (angQ (G.mul t t) 8))) 4618760256179416344
def ang1 (over : Bool) (A : Nat) : Nat := if over then G.sub 4598175219545276416 A else A
def ang2 (xn : Bool) (A : Nat) : Nat := if xn then G.sub 4602678819172646912 A else A
def ang3 (yn : Bool) (A : Nat) : Nat := if yn then Op.negFloat .f64 A else A
def angW (over xn yn : Bool) (t : Nat) : Nat := ang3 yn (ang2 xn (ang1 over (angA t)))
theorem le2_eight : le2 .f64 4620693217682128896 1077 := by unfold le2; decide
theorem le2_quarter : le2 .f64 4598175219545276416 1074 := by unfold le2; decide
theorem ge1_turn : ge1 4618760256179416344 := by unfold ge1; decide +kernel
theorem ang_fix {t : Nat} (h : le2 .f64 t 1078) (over xn yn : Bool) {p : Prop}
    (go : ∀ u M N A B C, (∀ T n, opV .mul .f64 t t T n = u) → isN .f64 (angQ u 8) = false → (∀ T n, opV .mul .f64 t (angQ u 8) T n = M) → (∀ T n, opV .mul .f64 4620693217682128896 M T n = N) → (∀ T n, opV .quo .f64 N 4618760256179416344 T n = A) →
      (over = false → B = A) → (over = true → ∀ T n, opV .sub .f64 4598175219545276416 A T n = B) → (xn = false → C = B) → (xn = true → ∀ T n, opV .sub .f64 4602678819172646912 B T n = C) →
      angW over xn yn t = (if yn then Op.negFloat .f64 C else C) → p) : p := by
  have e8 := Eok64 1078 (by omega) (by omega)
  have lu : le2 .f64 (G.mul t t) 1082 := le2_mul h h e8 e8 (Eok64 _ (by omega) (by omega)) (by omega) z0 0
  have lq := le2_angQ lu 8 (Nat.le_refl _)
  have lM : le2 .f64 (G.mul t (angQ (G.mul t t) 8)) 1150 := le2_mul h lq e8 (Eok64 _ (by omega) (by omega)) (Eok64 _ (by omega) (by omega)) (by omega) z0 0
  have lN : le2 .f64 (G.mul 4620693217682128896 (G.mul t (angQ (G.mul t t) 8))) 1153 := le2_mul le2_eight lM (Eok64 _ (by omega) (by omega)) (Eok64 _ (by omega) (by omega)) (Eok64 _ (by omega) (by omega)) (by omega) z0 0
  have lA : le2 .f64 (angA t) 1154 := le2_quo (by omega) (by omega) lN ge1_turn z0 0
  have lB : le2 .f64 (ang1 over (angA t)) 1155 := by
    unfold ang1
    split
    · exact le2_sub (le2_mono le2_quarter (by omega)) lA (Eok64 _ (by omega) (by omega)) (Eok64 _ (by omega) (by omega)) z0 0
    · exact le2_mono lA (by omega)
  have lC : le2 .f64 (ang2 xn (ang1 over (angA t))) 1156 := by
    unfold ang2
    split
    · exact le2_sub (le2_mono le2_half' (by omega)) lB (Eok64 _ (by omega) (by omega)) (Eok64 _ (by omega) (by omega)) z0 0
    · exact le2_mono lB (by omega)
  have nB := le2_num lB (Eok64 _ (by omega) (by omega))
  have nC := le2_num lC (Eok64 _ (by omega) (by omega))
  refine go _ _ _ (angA t) (ang1 over (angA t)) (ang2 xn (ang1 over (angA t))) (fun T n => opV_fix (le2_num lu (Eok64 _ (by omega) (by omega))) T n) (le2_num lq (Eok64 _ (by omega) (by omega)))
    (fun T n => opV_fix (le2_num lM (Eok64 _ (by omega) (by omega))) T n) (fun T n => opV_fix (le2_num lN (Eok64 _ (by omega) (by omega))) T n) (fun T n => opV_fix (le2_num lA (Eok64 _ (by omega) (by omega))) T n)
    (fun hb => by rw [hb]; rfl) (fun hb T n => ?_) (fun hb => by rw [hb]; rfl) (fun hb T n => ?_) rfl
  · subst hb
    exact opV_fix nB T n
  · subst hb
    exact opV_fix nC T n
theorem le2_angW {t : Nat} (h : le2 .f64 t 1078) (over xn yn : Bool) : le2 .f64 (angW over xn yn t) 1156 := by
  have e8 := Eok64 1078 (by omega) (by omega)
  have lu : le2 .f64 (G.mul t t) 1082 := le2_mul h h e8 e8 (Eok64 _ (by omega) (by omega)) (by omega) z0 0
  have lq := le2_angQ lu 8 (Nat.le_refl _)
  have lM : le2 .f64 (G.mul t (angQ (G.mul t t) 8)) 1150 := le2_mul h lq e8 (Eok64 _ (by omega) (by omega)) (Eok64 _ (by omega) (by omega)) (by omega) z0 0
  have lN : le2 .f64 (G.mul 4620693217682128896 (G.mul t (angQ (G.mul t t) 8))) 1153 := le2_mul le2_eight lM (Eok64 _ (by omega) (by omega)) (Eok64 _ (by omega) (by omega)) (Eok64 _ (by omega) (by omega)) (by omega) z0 0
  have lA : le2 .f64 (angA t) 1154 := le2_quo (by omega) (by omega) lN ge1_turn z0 0
  have lB : le2 .f64 (ang1 over (angA t)) 1155 := by
    unfold ang1
    split
    · exact le2_sub (le2_mono le2_quarter (by omega)) lA (Eok64 _ (by omega) (by omega)) (Eok64 _ (by omega) (by omega)) z0 0
    · exact le2_mono lA (by omega)
  have lC : le2 .f64 (ang2 xn (ang1 over (angA t))) 1156 := by
    unfold ang2
    split
    · exact le2_sub (le2_mono le2_half' (by omega)) lB (Eok64 _ (by omega) (by omega)) (Eok64 _ (by omega) (by omega)) z0 0
    · exact le2_mono lB (by omega)
  unfold angW ang3
  split
  · unfold le2
    rw [rung_neg]
    exact lC
  · exact lC
/-- the sign and the zero of a finite float32 stay. -/
theorem widen_sign {x : Nat} (h : finB x = true) : sgn .f64 (X64 x) = sgn .f32 x ∧ (rung .f64 (X64 x) = 0 ↔ rung .f32 x = 0) := by
  obtain ⟨hn, hi⟩ := fin_of_finB h
  have hr := fin_rung hn hi
  obtain ⟨m, a, g1, g2⟩ := widen_le2 x hr
  have hni := le2_notinf g2 (Eok64 _ (by omega) (by omega))
  have hL32 : FloatKind.f32.format.leastPlace = -149 := by decide
  rw [hL32] at g1 hni
  have hX : X64 x = FloatKind.f64.format.nearest (sgn .f32 x) m (-149 + (a : Int)) := by
    unfold X64 cvV
    rw [g1]
    show (if _ then _ else _) = _
    rw [hni, if_neg (by simp)]
    rfl
  refine ⟨by rw [hX]; exact sgn_nearest _ _ _ _, ?_⟩
  obtain ⟨m', a', k1, k2⟩ := read_num FloatKind.f32.format x hr
  have g1' : FloatKind.f32.format.read x = .number (sgn .f32 x) m (-149 + (a : Int)) := g1
  rw [g1', hL32] at k1
  simp only [Ieee.Datum.number.injEq] at k1
  obtain ⟨_, rfl, k3⟩ := k1
  have haa : a = a' := by omega
  subst haa
  have hmz : m = 0 ↔ rung .f32 x = 0 := by
    have e0 := mval_zero FloatKind.f32.format
    constructor
    · rintro rfl
      rw [Nat.zero_mul, ← e0] at k2
      exact ((mval_inj _).1 k2).symm
    · intro h0
      have h0' : x % FloatKind.f32.format.signWeight = 0 := h0
      rw [h0', e0] at k2
      rcases Nat.mul_eq_zero.1 k2 with h | h
      · exact h
      · have := Nat.two_pow_pos a; omega
  rw [← hmz]
  constructor
  · intro h0
    apply Classical.byContradiction
    intro hm
    obtain ⟨K, hK⟩ : ∃ K : Nat, K = 925 := ⟨_, rfl⟩
    have hge := nearest_ge .f64 (sgn .f32 x) m (-149 + (a : Int)) (-1074) K (Eok64 _ (by omega) (by omega)) (by omega) (by rw [L64]; omega) (by
      rw [L64, show ((-1074 : Int) - -1074).toNat = 0 by omega, show (-149 + (a : Int) - -1074).toNat = a + K by omega, Nat.add_zero, Nat.pow_add, ← Nat.mul_assoc]
      exact Nat.le_mul_of_pos_left _ (Nat.mul_pos (by omega) (Nat.two_pow_pos _)))
    rw [← hX, h0, hK] at hge
    have e1 : rungE FloatKind.f64.format 925 = 3936146074321813504 := by decide
    rw [e1] at hge
    omega
  · rintro rfl
    rw [hX]
    unfold Ieee.Format.nearest
    rw [if_pos rfl]
    unfold rung
    rw [word_rung _ _ _ (sw_pos _)]
end Go.Proofs.Ytojkdlidcmfkeaa
