/- LogNumber of the reference and of the program: both return one and the same function of the number. -/
import Derived.Test.YtojkdlidcmfkeaaGn
namespace Go.Proofs.Ytojkdlidcmfkeaa
open Go.ChangeShapes Go.WideShapes Go.ChangeAt Go.RowKit Go.Deep

/-- what the wide logarithm returns for a number, up to the choice of a NaN. -/
def logW (y : Nat) : Nat := if isN .f64 y then 9221120237041090561 else if FloatKind.f64.format.order y 0 == some .lt then 9221120237041090561 else if FloatKind.f64.format.order y 0 == some .eq then 18442240474082181120 else if FloatKind.f64.format.order y 9218868437227405311 == some .gt then y else logT (logX y) (cvI (logE y))
def logV (x : Nat) : Nat := if isN .f32 x then 2143289344 else cvV .f64 .f32 (logW (X64 x)) z0 0
theorem narrow_inf (s : Bool) (T : Nat → Question → Nat) (n : Nat) : cvV .f64 .f32 (FloatKind.f64.encode (.infinity s)) T n = FloatKind.f32.encode (.infinity s) := by
  unfold cvV
  have : FloatKind.f64.decode (FloatKind.f64.encode (.infinity s)) = .infinity s := by cases s <;> decide +kernel
  rw [this]
theorem ninf_eq : (18442240474082181120 : Nat) = FloatKind.f64.encode (.infinity true) := by decide +kernel
theorem pinf_eq : (9218868437227405312 : Nat) = FloatKind.f64.encode (.infinity false) := by decide +kernel
theorem max_num : isN .f64 9218868437227405311 = false ∧ si .f64 9218868437227405311 = 9218868437227405311 := ⟨by decide +kernel, by decide +kernel⟩
theorem zero_num : isN .f64 0 = false ∧ si .f64 0 = 0 := ⟨by decide +kernel, by decide +kernel⟩
/-- the ways that the wide logarithm of a widened number goes. -/
theorem log_ways {x : Nat} (hn : isN .f32 x = false) {p : Prop}
    (k1 : (FloatKind.f64.format.order (X64 x) 0 == some .lt) = true → p)
    (k2 : (FloatKind.f64.format.order (X64 x) 0 == some .lt) = false → (FloatKind.f64.format.order (X64 x) 0 == some .eq) = true → p)
    (k3 : (FloatKind.f64.format.order (X64 x) 0 == some .lt) = false → (FloatKind.f64.format.order (X64 x) 0 == some .eq) = false → (FloatKind.f64.format.order (X64 x) 9218868437227405311 == some .gt) = true → X64 x = 9218868437227405312 → p)
    (k4 : (FloatKind.f64.format.order (X64 x) 0 == some .lt) = false → (FloatKind.f64.format.order (X64 x) 0 == some .eq) = false → (FloatKind.f64.format.order (X64 x) 9218868437227405311 == some .gt) = false → 3936146074321813504 ≤ X64 x → X64 x ≤ 5183643171103440896 → p) : p := by
  have hN : isN .f64 (X64 x) = false := by
    by_cases hi : rung .f32 x = FloatKind.f32.format.infRung
    · unfold X64; rw [widen_inf x hi]; exact inf64_num _
    · obtain ⟨E, hE⟩ : ∃ E, E = 1202 := ⟨_, rfl⟩
      exact le2_num (widen_fin x hn hi z0 0 E (by omega) (by omega)) (Eok64 E (by omega) (by omega))
  have b1 := ltB hN zero_num.1
  have b2 := eqB hN zero_num.1
  have b3 := gtB hN max_num.1
  rw [zero_num.2] at b1 b2
  rw [max_num.2] at b3
  by_cases c1 : si .f64 (X64 x) < 0
  · exact k1 (by rw [b1]; exact decide_eq_true c1)
  · rw [decide_eq_false c1] at b1
    by_cases c2 : si .f64 (X64 x) = 0
    · exact k2 b1 (by rw [b2]; exact decide_eq_true c2)
    · rw [decide_eq_false c2] at b2
      by_cases hi : rung .f32 x = FloatKind.f32.format.infRung
      · have hX : X64 x = FloatKind.f64.encode (.infinity (sgn .f32 x)) := by unfold X64; rw [widen_inf x hi]
        have hs : sgn .f32 x = false := by
          cases hs : sgn .f32 x
          · rfl
          · rw [hX, hs] at c1
            exact absurd (by decide +kernel) c1
        have hX2 : X64 x = 9218868437227405312 := by rw [hX, hs, pinf_eq]
        exact k3 b1 b2 (by rw [b3, hX2]; decide +kernel) hX2
      · obtain ⟨h1, h2⟩ := widen_pos hn hi (by omega)
        refine k4 b1 b2 ?_ h1 h2
        rw [b3, (pos_num (x := X64 x) (by omega)).2.1]
        exact decide_eq_false (by omega)
theorem logV_nan {x : Nat} (h : isN .f32 x = true) (T : Nat → Question → Nat) (n : Nat) : Sim .f32 (cvV .f64 .f32 9221120237041090561 T n) (logV x) := by
  unfold logV
  rw [h, if_pos rfl]
  exact Sim.of_nan (cvV_nan T n nan64) isN_q
theorem logV_num {x v : Nat} (hn : isN .f32 x = false) (h : logW (X64 x) = v) {r : Nat} (hs : Sim .f64 r v) (hok : isN .f64 r = false → cvOk .f64 .f32 r) (T : Nat → Question → Nat) (n : Nat) : Sim .f32 (cvV .f64 .f32 r T n) (logV x) := by
  unfold logV
  rw [hn, if_neg (by simp), h]
  exact narrow_sim hs hok T n z0 0
theorem X64_num {x : Nat} (hn : isN .f32 x = false) : isN .f64 (X64 x) = false ∧ ∀ T n, cvV .f32 .f64 x T n = X64 x := by
  have hN : isN .f64 (X64 x) = false := by
    by_cases hi : rung .f32 x = FloatKind.f32.format.infRung
    · unfold X64; rw [widen_inf x hi]; exact inf64_num _
    · obtain ⟨E, hE⟩ : ∃ E, E = 1202 := ⟨_, rfl⟩
      exact le2_num (widen_fin x hn hi z0 0 E (by omega) (by omega)) (Eok64 E (by omega) (by omega))
  exact ⟨hN, fun T n => ((widen_sim (Sim.refl .f32 x) z0 0 T n).eq hN).symm⟩
theorem logW_nan (v : Nat) (hv : isN .f64 v = true) : isN .f64 v = false → cvOk .f64 .f32 v := fun h => by rw [hv] at h; cases h
theorem inf_ok (s : Bool) : isN .f64 (FloatKind.f64.encode (.infinity s)) = false → cvOk .f64 .f32 (FloatKind.f64.encode (.infinity s)) := fun _ => cvOk_inf (inf64 s)
/-- what a function must answer to be the wide logarithm. -/
def LogGives (f : Nat) : Prop :=
  (∀ y, (FloatKind.f64.format.order y y != some .eq) = true → ∀ w, Calls Try.prog f #[.float .f64 y] w (RetQ (.float .f64 9221120237041090561) w)) ∧
  (∀ y, (FloatKind.f64.format.order y y != some .eq) = false → (FloatKind.f64.format.order y 0 == some .lt) = true → ∀ w, Calls Try.prog f #[.float .f64 y] w (RetQ (.float .f64 9221120237041090561) w)) ∧
  (∀ y, (FloatKind.f64.format.order y y != some .eq) = false → (FloatKind.f64.format.order y 0 == some .lt) = false → (FloatKind.f64.format.order y 0 == some .eq) = true → ∀ w, Calls Try.prog f #[.float .f64 y] w (RetQ (.float .f64 18442240474082181120) w)) ∧
  (∀ y, (FloatKind.f64.format.order y y != some .eq) = false → (FloatKind.f64.format.order y 0 == some .lt) = false → (FloatKind.f64.format.order y 0 == some .eq) = false → (FloatKind.f64.format.order y 9218868437227405311 == some .gt) = true → ∀ w, Calls Try.prog f #[.float .f64 y] w (RetQ (.float .f64 y) w)) ∧
  (∀ y, 3936146074321813504 ≤ y → y ≤ 5183643171103440896 → ∀ w, Calls Try.prog f #[.float .f64 y] w (RetFQ .f64 (logT (logX y) (cvI (logE y))) w))
/-- the wide logarithm, narrowed whenever it returned. -/
def LogAt (f x : Nat) : Prop := ∀ w T n, Calls Try.prog f #[.float .f64 (cvV .f32 .f64 x T n)] w (fun e w' => ∃ r m, e = .returned (.float .f64 r) ∧ w' = w.drewN m ∧ ∀ T n, Sim .f32 (cvV .f64 .f32 r T n) (logV x))
theorem logAt {f : Nat} (h : LogGives f) (x : Nat) : LogAt f x := by
  obtain ⟨g1, g2, g3, g4, g5⟩ := h
  intro w T n
  cases hn : isN .f32 x
  · obtain ⟨hN, hX⟩ := X64_num hn
    have hq : (FloatKind.f64.format.order (X64 x) (X64 x) != some .eq) = false := by rw [self_neq]; exact hN
    rw [hX]
    refine log_ways hn (fun h1 => ?_) (fun h1 h2 => ?_) (fun h1 h2 h3 hX => ?_) (fun h1 h2 h3 ha hb => ?_)
    · refine (g2 _ hq h1 w).mono ?_
      rintro e w' ⟨rfl, m, rfl⟩
      refine ⟨_, m, rfl, rfl, fun T n => logV_num hn (v := 9221120237041090561) ?_ (Sim.refl _ _) (logW_nan _ nan64) T n⟩
      unfold logW
      rw [hN, if_neg (by simp), if_pos h1]
    · refine (g3 _ hq h1 h2 w).mono ?_
      rintro e w' ⟨rfl, m, rfl⟩
      refine ⟨_, m, rfl, rfl, fun T n => logV_num hn (v := 18442240474082181120) ?_ (Sim.refl _ _) ?_ T n⟩
      · unfold logW
        rw [hN, if_neg (by simp), h1, if_neg (by simp), if_pos h2]
      · rw [ninf_eq]; exact inf_ok true
    · refine (g4 _ hq h1 h2 h3 w).mono ?_
      rintro e w' ⟨rfl, m, rfl⟩
      refine ⟨_, m, rfl, rfl, fun T n => logV_num hn (v := X64 x) ?_ (Sim.refl _ _) ?_ T n⟩
      · unfold logW
        rw [hN, if_neg (by simp), h1, if_neg (by simp), h2, if_neg (by simp), if_pos h3]
      · rw [hX, pinf_eq]; exact inf_ok false
    · refine (g5 _ ha hb w).mono ?_
      rintro e w' ⟨r, m, rfl, _, hs, rfl⟩
      have hlz : 4604930618986332160 ≤ logX (X64 x) ∧ logX (X64 x) < 4609434218613702656 := by unfold logX; omega
      have hle : (logE (X64 x)).natAbs ≤ 256 := by unfold logE; omega
      have hl := le2_logT hlz.1 hlz.2 hle
      have hW : logW (X64 x) = logT (logX (X64 x)) (cvI (logE (X64 x))) := by
        unfold logW
        rw [hN, if_neg (by simp), h1, if_neg (by simp), h2, if_neg (by simp), h3, if_neg (by simp)]
      refine ⟨r, m, rfl, rfl, fun T n => logV_num hn hW hs (fun hr => ?_) T n⟩
      obtain ⟨E2, hE2⟩ : ∃ E2, E2 = 1201 := ⟨_, rfl⟩
      rw [hs.eq hr]
      exact narrow_ok _ E2 hE2 (le2_mono hl (by omega))
  · refine (g1 _ (log_nan_t (cvV_nan T n hn)) w).mono ?_
    rintro e w' ⟨rfl, m, rfl⟩
    exact ⟨_, m, rfl, rfl, logV_nan hn⟩
theorem spec_LogGives : LogGives 53 := ⟨spec_log_nan, spec_log_neg, spec_log_zero, spec_log_inf, spec_log_pos⟩
theorem spec_l01Log (x : Nat) (w : World) : Calls Try.prog 36 #[.float .f32 x] w (RetFQ .f32 (logV x) w) := by
  have H := Lib.hid (logAt spec_LogGives x)
  go_enter Try.func36, Try.ntmps36
  go_wp2_with (first | (go_at_call 53; refine (H.out _ _ _).mono ?_; rintro e w' ⟨r, m, rfl, rfl, hs⟩; have HS := Lib.hid hs; clear hs) | (go_at_call 39; go_in))
  go_ret
  exact retFQ (cvV_lt32 _ _ _ _) (HS.out _ _) w _
theorem spec_LogNumber (x : Nat) (w : World) : Calls Try.prog 21 #[.float .f32 x] w (RetFQ .f32 (logV x) w) := by
  go_enter Try.func21, Try.ntmps21
  go_wp2_with (go_at_call 36; refine (spec_l01Log x _).mono ?_; rintro e w' ⟨r, n, rfl, hr, hs, rfl⟩)
  go_ret
  exact retFQ hr hs w _
theorem impl_LogGives : LogGives 37 := ⟨impl_log_nan, impl_log_neg, impl_log_zero, impl_log_inf, impl_logOf_pos⟩
theorem impl_LogNumber (x : Nat) (w : World) : Calls Try.prog 22 #[.float .f32 x] w (RetFQ .f32 (logV x) w) := by
  have H := Lib.hid (logAt impl_LogGives x)
  go_enter Try.func22, Try.ntmps22
  go_wp2_with (go_at_call 37; refine (H.out _ _ _).mono ?_; rintro e w' ⟨r, m, rfl, rfl, hs⟩; have HS := Lib.hid hs; clear hs)
  go_ret
  exact retFQ (cvV_lt32 _ _ _ _) (HS.out _ _) w _
end Go.Proofs.Ytojkdlidcmfkeaa
