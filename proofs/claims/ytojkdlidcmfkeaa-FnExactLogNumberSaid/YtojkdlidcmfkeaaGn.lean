/- LogNumber of the reference and of the program. -/
import Derived.Test.YtojkdlidcmfkeaaGm
import Derived.Test.YtojkdlidcmfkeaaSq
namespace Go.Proofs.Ytojkdlidcmfkeaa
open Go.ChangeShapes Go.WideShapes Go.ChangeAt Go.RowKit Go.Deep

theorem log_step0 {k y Y : Nat} (hY : Y = y - k * 4503599627370496) (h : 4609434218613702656 ≤ Y) : (k + 1) * 4503599627370496 + 4604930618986332160 ≤ y := by
  rw [Nat.add_mul, Nat.one_mul]
  generalize k * 4503599627370496 = q at hY ⊢
  omega
theorem log_facts {y : Nat} (hlo : 3936146074321813504 ≤ y) (hhi : y ≤ 5183643171103440896) : (FloatKind.f64.format.order y y != some .eq) = false ∧ (FloatKind.f64.format.order y 0 == some .lt) = false ∧ (FloatKind.f64.format.order y 0 == some .eq) = false ∧ (FloatKind.f64.format.order y 9218868437227405311 == some .gt) = false := by
  obtain ⟨p1, p2, p3, p4⟩ := pos_num (x := y) (by omega)
  have z1 : isN .f64 0 = false ∧ si .f64 0 = 0 := ⟨by decide +kernel, by decide +kernel⟩
  have m1 : isN .f64 9218868437227405311 = false ∧ si .f64 9218868437227405311 = 9218868437227405311 := ⟨by decide +kernel, by decide +kernel⟩
  refine ⟨by rw [self_neq]; exact p1, ?_, ?_, ?_⟩
  · rw [ltB p1 z1.1, p2, z1.2]; exact decide_eq_false (by omega)
  · rw [eqB p1 z1.1, p2, z1.2]; exact decide_eq_false (by omega)
  · rw [gtB p1 m1.1, p2, m1.2]; exact decide_eq_false (by omega)
set_option maxHeartbeats 2000000 in
theorem spec_log_pos (y : Nat) (hlo : 3936146074321813504 ≤ y) (hhi : y ≤ 5183643171103440896) (w : World) : Calls Try.prog 53 #[.float .f64 y] w (RetFQ .f64 (logT (logX y) (cvI (logE y))) w) := by
  obtain ⟨hn1, hn2, hn3, hn4⟩ := log_facts hlo hhi
  go_enter Try.func53, Try.ntmps53
  go_wp2_with (go_at_call 70; go_in)
  go_loopw [0, 3] (fun x e wr => ∃ (k m : Nat), x = .float .f64 (y - k * 4503599627370496) ∧ e = .int .i64 k ∧ (k = 0 ∨ k * 4503599627370496 + 4604930618986332160 ≤ y) ∧ wr = w.drewN m) (fun x _ _ => fbits x)
  case atStart => exact ⟨0, 0, by rw [Nat.zero_mul, Nat.sub_zero], rfl, .inl rfl, rfl⟩
  case round =>
    obtain ⟨k, m, rfl, rfl, hk, rfl⟩ := hrel
    obtain ⟨Y, hY⟩ : ∃ Y, Y = y - k * 4503599627370496 := ⟨_, rfl⟩
    have HY := Lib.hid hY
    have hY0 : 3936146074321813504 ≤ Y := by omega
    have hY1 : Y ≤ 5183643171103440896 := by omega
    have hk9 : k < 200 := by omega
    rw [← hY]
    obtain ⟨t1, t2⟩ := log_tests (Z := Y) (by omega) (by omega)
    by_cases hge : 4609434218613702656 ≤ Y
    · rw [decide_eq_true hge] at t2
      have hk3 := log_step0 hY hge
      obtain ⟨Z', hZ'⟩ : ∃ Z', Z' = Y - 4503599627370496 := ⟨_, rfl⟩
      have hZs : y - (k + 1) * 4503599627370496 = Z' := by omega
      have HZs := Lib.hid hZs
      have hh : ∀ T n, opV .quo .f64 Y 4611686018427387904 T n = Z' := fun T n => by rw [hZ']; exact quo_two (x := Y) (by omega) (by omega) T n
      have HG := Lib.hid (show Z' < Y by omega)
      clear hZs hk hY hge hZ' t1
      go_wp2
      go_roundw
      case rel => exact ⟨k + 1, _, by rw [HZs.out], by go_num, .inr hk3, rfl⟩
      case measure =>
        simp only [fbits]
        exact HG.out
    · rw [decide_eq_false hge] at t2
      have hYC : Y < 4609434218613702656 := by omega
      have hjY : k = 0 ∨ 4604930618986332160 ≤ Y := by omega
      have HJ := Lib.hid hjY
      clear hjY hge hk hY t1
      go_wp2
      go_loopw [0, 3] (fun x e wr => ∃ (j m : Nat), x = .float .f64 (Y + j * 4503599627370496) ∧ e = .int .i64 ((k : Int) - j) ∧ (k = 0 ∨ j = 0) ∧ Y + j * 4503599627370496 < 4609434218613702656 ∧ wr = w.drewN m) (fun x _ _ => 4604930618986332160 - fbits x)
      case atStart => exact ⟨0, _, by rw [Nat.zero_mul, Nat.add_zero], by rw [show ((k : Int) - ((0 : Nat) : Int)) = (k : Int) by omega], .inr rfl, by omega, rfl⟩
      case round =>
        obtain ⟨j, m2, rfl, rfl, hj, hj2, rfl⟩ := hrel
        obtain ⟨Z, hZ⟩ : ∃ Z, Z = Y + j * 4503599627370496 := ⟨_, rfl⟩
        have HZ := Lib.hid hZ
        have hZ0 : 3936146074321813504 ≤ Z := by omega
        have hZC : Z < 4609434218613702656 := by omega
        have hj9 : j < 200 := by omega
        rw [← hZ]
        obtain ⟨t1, t2⟩ := log_tests (Z := Z) (by omega) (by omega)
        by_cases hlt : Z < 4604930618986332160
        · rw [decide_eq_true hlt] at t1
          have hk0 : k = 0 := by
            have := HJ.out
            rcases hj with h | rfl
            · exact h
            · omega
          obtain ⟨Z', hZ'⟩ : ∃ Z', Z' = Z + 4503599627370496 := ⟨_, rfl⟩
          have hZs : Y + (j + 1) * 4503599627370496 = Z' := by omega
          have HZs := Lib.hid hZs
          have hh : ∀ T n, opV .mul .f64 Z 4611686018427387904 T n = Z' := fun T n => by rw [hZ']; exact mul_two (x := Z) (by omega) (by omega) (by omega) T n
          have hZ2 : Z' < 4609434218613702656 := by omega
          have HG := Lib.hid (show 4604930618986332160 - Z' < 4604930618986332160 - Z by omega)
          have HK0 := Lib.hid hk0
          clear hZs hj hj2 hZ hlt hZ' t2 hk0
          go_wp2
          go_roundw
          case rel => exact ⟨j + 1, _, by rw [HZs.out], by go_num, .inl HK0.out, by rw [HZs.out]; exact hZ2, rfl⟩
          case measure =>
            simp only [fbits]
            exact HG.out
        · rw [decide_eq_false hlt] at t1
          have hZ1 : 4604930618986332160 ≤ Z := by omega
          have hst : (y : Int) = Z + ((k : Int) - j) * 4503599627370496 := by
            have := HY.out
            have := HJ.out
            omega
          have HT := Lib.hid (fun r => @log_tail y Z ((k : Int) - j) hZ1 hZC hst r)
          have hcv : Go.floatOfInt .f64 ((k : Int) - j) = cvI ((k : Int) - j) := rfl
          refine log_fix hZ1 hZC fun A D s u hA hD hs hu hW => ?_
          have HW := Lib.hid hW
          clear hW hst hZ hj hj2 hlt hZ0 hZ1 hZC t2
          generalize hE : cvI ((k : Int) - j) = ev at HT hcv ⊢
          clear hE
          go_wp2
          go_loopw [6, 7] (fun p c wr => ∃ (i m q : Nat), i ≤ 13 ∧ c = .int .i64 (25 - 2 * i) ∧ p = .float .f64 q ∧ Sim .f64 q (logQ u i) ∧ wr = w.drewN m) (fun _ c _ => (intOf c + 1).toNat)
          case atStart => exact ⟨0, _, _, by omega, rfl, rfl, Sim.refl _ _, rfl⟩
          case round =>
            obtain ⟨i, m3, q, hi, rfl, rfl, hq, rfl⟩ := hrel
            have HQ := Lib.hid hq
            clear hq
            by_cases hi13 : i = 13
            · subst hi13
              have hk : ((25 : Int) - 2 * ((13 : Nat) : Int)) = -1 := by omega
              rw [hk]
              go_wp2
              go_ret
              exact retFQ (opV_lt _ _ _ _ _ _) (HT.out _ (log_end HW.out HQ.out _ _ _ _ _ _ _ _)) w _
            · have hi12 : i < 13 := by omega
              clear hi hi13
              go_wp2
              go_roundw
              case rel => exact ⟨i + 1, _, _, by omega, by go_num, rfl, opV_sim .add (opV_sim .quo (Sim.refl _ _) (Sim.refl _ _) _ _ _ _) (opV_sim .mul (Sim.refl _ _) HQ.out _ _ _ _) _ _ _ _, rfl⟩
              case measure => simp [intOf]; omega
theorem log_nan_t {y : Nat} (h : isN .f64 y = true) : (FloatKind.f64.format.order y y != some .eq) = true := by rw [self_neq]; exact h
theorem spec_log_nan (y : Nat) (h : (FloatKind.f64.format.order y y != some .eq) = true) (w : World) : Calls Try.prog 53 #[.float .f64 y] w (RetQ (.float .f64 9221120237041090561) w) := by
  go_enter Try.func53, Try.ntmps53
  go_wp2_with (go_in)
  go_ret
  exact ⟨rfl, 0, rfl⟩
theorem spec_log_neg (y : Nat) (h : (FloatKind.f64.format.order y y != some .eq) = false) (h2 : (FloatKind.f64.format.order y 0 == some .lt) = true) (w : World) : Calls Try.prog 53 #[.float .f64 y] w (RetQ (.float .f64 9221120237041090561) w) := by
  go_enter Try.func53, Try.ntmps53
  go_wp2_with (go_in)
  go_ret
  exact ⟨rfl, 0, rfl⟩
theorem spec_log_zero (y : Nat) (h : (FloatKind.f64.format.order y y != some .eq) = false) (h2 : (FloatKind.f64.format.order y 0 == some .lt) = false) (h3 : (FloatKind.f64.format.order y 0 == some .eq) = true) (w : World) : Calls Try.prog 53 #[.float .f64 y] w (RetQ (.float .f64 18442240474082181120) w) := by
  go_enter Try.func53, Try.ntmps53
  go_wp2_with (go_in)
  go_ret
  exact ⟨rfl, 0, rfl⟩
theorem spec_log_inf (y : Nat) (h : (FloatKind.f64.format.order y y != some .eq) = false) (h2 : (FloatKind.f64.format.order y 0 == some .lt) = false) (h3 : (FloatKind.f64.format.order y 0 == some .eq) = false) (h4 : (FloatKind.f64.format.order y 9218868437227405311 == some .gt) = true) (w : World) : Calls Try.prog 53 #[.float .f64 y] w (RetQ (.float .f64 y) w) := by
  go_enter Try.func53, Try.ntmps53
  go_wp2_with (go_in)
  go_ret
  exact ⟨rfl, 0, rfl⟩
theorem impl_log_nan (y : Nat) (h : (FloatKind.f64.format.order y y != some .eq) = true) (w : World) : Calls Try.prog 37 #[.float .f64 y] w (RetQ (.float .f64 9221120237041090561) w) := by
  go_enter Try.func37, Try.ntmps37
  go_wp2_with (go_in)
  go_ret
  exact ⟨rfl, 0, rfl⟩
theorem impl_log_neg (y : Nat) (h : (FloatKind.f64.format.order y y != some .eq) = false) (h2 : (FloatKind.f64.format.order y 0 == some .lt) = true) (w : World) : Calls Try.prog 37 #[.float .f64 y] w (RetQ (.float .f64 9221120237041090561) w) := by
  go_enter Try.func37, Try.ntmps37
  go_wp2_with (go_in)
  go_ret
  exact ⟨rfl, 0, rfl⟩
theorem impl_log_zero (y : Nat) (h : (FloatKind.f64.format.order y y != some .eq) = false) (h2 : (FloatKind.f64.format.order y 0 == some .lt) = false) (h3 : (FloatKind.f64.format.order y 0 == some .eq) = true) (w : World) : Calls Try.prog 37 #[.float .f64 y] w (RetQ (.float .f64 18442240474082181120) w) := by
  go_enter Try.func37, Try.ntmps37
  go_wp2_with (go_in)
  go_ret
  exact ⟨rfl, 0, rfl⟩
theorem impl_log_inf (y : Nat) (h : (FloatKind.f64.format.order y y != some .eq) = false) (h2 : (FloatKind.f64.format.order y 0 == some .lt) = false) (h3 : (FloatKind.f64.format.order y 0 == some .eq) = false) (h4 : (FloatKind.f64.format.order y 9218868437227405311 == some .gt) = true) (w : World) : Calls Try.prog 37 #[.float .f64 y] w (RetQ (.float .f64 y) w) := by
  go_enter Try.func37, Try.ntmps37
  go_wp2_with (go_in)
  go_ret
  exact ⟨rfl, 0, rfl⟩
end Go.Proofs.Ytojkdlidcmfkeaa
