/- LogNumber's wide function, program and reference. -/
import Derived.Test.YtojkdlidcmfkeaaGl
namespace Go.Proofs.Ytojkdlidcmfkeaa
open Go.ChangeShapes Go.WideShapes Go.ChangeAt Go.RowKit Go.Deep

def fbits (v : Value) : Nat := match v with | .float _ b => b | _ => 0
theorem log_tests {Z : Nat} (h0 : 0 < Z) (h : Z ≤ 9218868437227405311) : (FloatKind.f64.format.order Z 4604930618986332160 == some .lt) = decide (Z < 4604930618986332160) ∧ (FloatKind.f64.format.order Z 4609434218613702656 == some .gt || FloatKind.f64.format.order Z 4609434218613702656 == some .eq) = decide (4609434218613702656 ≤ Z) := by
  obtain ⟨p1, p2, _, _⟩ := pos_num (x := Z) (by omega)
  obtain ⟨c1, c2, _, _⟩ := pos_num (x := 4604930618986332160) (by omega)
  obtain ⟨d1, d2, _, _⟩ := pos_num (x := 4609434218613702656) (by omega)
  rw [ltB p1 c1, geB p1 d1, p2, c2, d2]
  exact ⟨decide_eq_decide.2 (by omega), decide_eq_decide.2 (by omega)⟩
theorem log_end {s u q Z e : Nat} (hW : ∀ e, logT Z e = G.add (G.mul 4611686018427387904 (G.mul s (logQ u 13))) (G.mul e 4604418534313441775)) (hq : Sim .f64 q (logQ u 13)) (T T' T'' T3 : Nat → Question → Nat) (n n' n'' n3 : Nat) :
    Sim .f64 (opV .add .f64 (opV .mul .f64 4611686018427387904 (opV .mul .f64 s q T n) T' n') (opV .mul .f64 e 4604418534313441775 T'' n'') T3 n3) (logT Z e) := by
  rw [hW]
  exact opV_sim .add (opV_sim .mul (Sim.refl _ _) (opV_sim .mul (Sim.refl _ _) hq _ _ _ _) _ _ _ _) (opV_sim .mul (Sim.refl _ _) (Sim.refl _ _) _ _ _ _) _ _ _ _
theorem log_tail {y Z : Nat} {d : Int} (h1 : 4604930618986332160 ≤ Z) (h2 : Z < 4609434218613702656) (h : (y : Int) = Z + d * 4503599627370496) {r : Nat} (hr : Sim .f64 r (logT Z (cvI d))) : Sim .f64 r (logT (logX y) (cvI (logE y))) := by
  obtain ⟨e1, e2⟩ := log_state h1 h2 h
  rw [← e1, ← e2]; exact hr
theorem up_fix {k : Nat} (h : k < 200) (T : Nat → Question → Nat) (n : Nat) : opV .add .f64 (cvI (k : Int)) 4607182418800017408 T n = cvI ((k : Int) + 1) := opV_some (cvI_up k h) T n
theorem down_fix {k : Nat} (h : k < 200) (T : Nat → Question → Nat) (n : Nat) : opV .sub .f64 (cvI (-(k : Int))) 4607182418800017408 T n = cvI (-(k : Int) - 1) := opV_some (cvI_down k h) T n
theorem cvI0 : cvI (-((0 : Nat) : Int)) = 0 := by decide +kernel
theorem cvI_neg (j : Nat) : cvI (-((j + 1 : Nat) : Int)) = cvI (-(j : Int) - 1) := congrArg cvI (by omega)
theorem cvI_zs (j : Nat) : cvI (((0 : Nat) : Int) - j) = cvI (-(j : Int)) := congrArg cvI (by omega)
theorem log_step {k Y Z : Nat} (hZ : Z = Y - k * 4503599627370496) (h : 4609434218613702656 ≤ Z) : (k + 1) * 4503599627370496 + 4604930618986332160 ≤ Y := by
  rw [Nat.add_mul, Nat.one_mul]
  generalize k * 4503599627370496 = q at hZ ⊢
  omega
set_option maxHeartbeats 2000000 in
theorem impl_logOf_pos (y : Nat) (hlo : 3936146074321813504 ≤ y) (hhi : y ≤ 5183643171103440896) (w : World) : Calls Try.prog 37 #[.float .f64 y] w (RetFQ .f64 (logT (logX y) (cvI (logE y))) w) := by
  obtain ⟨p1, p2, p3, p4⟩ := pos_num (x := y) (by omega)
  have hn1 : (FloatKind.f64.format.order y y != some .eq) = false := by rw [self_neq]; exact p1
  have z1 : isN .f64 0 = false ∧ si .f64 0 = 0 := ⟨by decide +kernel, by decide +kernel⟩
  have m1 : isN .f64 9218868437227405311 = false ∧ si .f64 9218868437227405311 = 9218868437227405311 := ⟨by decide +kernel, by decide +kernel⟩
  have hn2 : (FloatKind.f64.format.order y 0 == some .lt) = false := by rw [ltB p1 z1.1, p2, z1.2]; exact decide_eq_false (by omega)
  have hn3 : (FloatKind.f64.format.order y 0 == some .eq) = false := by rw [eqB p1 z1.1, p2, z1.2]; exact decide_eq_false (by omega)
  have hn4 : (FloatKind.f64.format.order y 9218868437227405311 == some .gt) = false := by rw [gtB p1 m1.1, p2, m1.2]; exact decide_eq_false (by omega)
  clear p1 p2 p3 p4 z1 m1
  go_enter Try.func37, Try.ntmps37
  go_wp2
  go_loopw [0, 3] (fun x e wr => ∃ (j m : Nat), x = .float .f64 (y + j * 4503599627370496) ∧ e = .float .f64 (cvI (-(j : Int))) ∧ (j = 0 ∨ y + j * 4503599627370496 < 4609434218613702656) ∧ wr = w.drewN m) (fun x _ _ => 4604930618986332160 - fbits x)
  case atStart => exact ⟨0, 0, by rw [Nat.zero_mul, Nat.add_zero], by rw [cvI0], .inl rfl, rfl⟩
  case round =>
    obtain ⟨j, m, rfl, rfl, hj, rfl⟩ := hrel
    obtain ⟨Y, hY⟩ : ∃ Y, Y = y + j * 4503599627370496 := ⟨_, rfl⟩
    have hYs : y + (j + 1) * 4503599627370496 = Y + 4503599627370496 := by omega
    have HYs := Lib.hid hYs
    have HY := Lib.hid hY
    have hY0 : 3936146074321813504 ≤ Y := by omega
    have hY1 : Y ≤ 9218868437227405311 := by omega
    rw [← hY]
    clear hYs
    obtain ⟨t1, t2⟩ := log_tests (Z := Y) (by omega) hY1
    by_cases hlt : Y < 4604930618986332160
    · rw [decide_eq_true hlt] at t1
      have hm := fun T n => mul_two (x := Y) (by omega) (by omega) (by omega) T n
      have hd := fun T n => down_fix (k := j) (by omega) T n
      have hj2 : Y + 4503599627370496 < 4609434218613702656 := by omega
      have HL := Lib.hid hlt
      clear hj hY t2 hlt
      go_wp2
      go_roundw
      case rel => exact ⟨j + 1, _, by rw [HYs.out], by rw [cvI_neg], .inr (by rw [HYs.out]; exact hj2), rfl⟩
      case measure =>
        have := HL.out
        simp [fbits]
        omega
    · rw [decide_eq_false hlt] at t1
      have hYC : 4604930618986332160 ≤ Y := by omega
      have hjY : j = 0 ∨ Y < 4609434218613702656 := by omega
      have HJ := Lib.hid hjY
      clear hj hY t2 hlt hjY
      go_wp2
      go_loopw [0, 3] (fun x e wr => ∃ (k m : Nat), x = .float .f64 (Y - k * 4503599627370496) ∧ e = .float .f64 (cvI ((k : Int) - j)) ∧ (k = 0 ∨ j = 0) ∧ k * 4503599627370496 + 4604930618986332160 ≤ Y ∧ wr = w.drewN m) (fun x _ _ => fbits x)
      case atStart => exact ⟨0, _, by rw [Nat.zero_mul, Nat.sub_zero], by rw [cvI_zs], .inl rfl, by omega, rfl⟩
      case round =>
        obtain ⟨k, m2, rfl, rfl, hk, hk2, rfl⟩ := hrel
        obtain ⟨Z, hZ⟩ : ∃ Z, Z = Y - k * 4503599627370496 := ⟨_, rfl⟩
        have HZ := Lib.hid hZ
        have hZ0 : 4604930618986332160 ≤ Z := by omega
        have hZ1 : Z ≤ 9218868437227405311 := by omega
        rw [← hZ]
        obtain ⟨t1, t2⟩ := log_tests (Z := Z) (by omega) hZ1
        by_cases hge : 4609434218613702656 ≤ Z
        · rw [decide_eq_true hge] at t2
          have hj0 : j = 0 := by
            have := HJ.out
            rcases hk with rfl | h
            · omega
            · exact h
          have hYb : Y ≤ 5183643171103440896 := by
            have := HY.out
            omega
          have hk9 : k < 200 := by omega
          have hk3 := log_step hZ hge
          obtain ⟨Z', hZ'⟩ : ∃ Z', Z' = Z - 4503599627370496 := ⟨_, rfl⟩
          have hZs : Y - (k + 1) * 4503599627370496 = Z' := by omega
          have HZs := Lib.hid hZs
          have hh : ∀ T n, opV .quo .f64 Z 4611686018427387904 T n = Z' := fun T n => by rw [hZ']; exact quo_two (x := Z) (by omega) (by omega) T n
          have hu : ∀ T n, opV .add .f64 (cvI ((k : Int) - j)) 4607182418800017408 T n = cvI (((k + 1 : Nat) : Int) - j) := fun T n => by
            rw [hj0]
            have e1 : ((k : Int) - ((0 : Nat) : Int)) = k := by omega
            have e2 : (((k + 1 : Nat) : Int) - ((0 : Nat) : Int)) = (k : Int) + 1 := by omega
            rw [e1, e2]
            exact up_fix hk9 T n
          have HG := Lib.hid (show Z' < Z by omega)
          have HJ0 := Lib.hid hj0
          clear hZs hk hk2 hZ hge hj0 hZ'
          go_wp2
          go_roundw
          case rel => exact ⟨k + 1, _, by rw [HZs.out], rfl, .inr HJ0.out, hk3, rfl⟩
          case measure =>
            simp only [fbits]
            exact HG.out
        · rw [decide_eq_false hge] at t2
          have hZC : Z < 4609434218613702656 := by omega
          have hst : (y : Int) = Z + ((k : Int) - j) * 4503599627370496 := by
            have := HY.out
            omega
          have HT := Lib.hid (fun r => @log_tail y Z ((k : Int) - j) hZ0 hZC hst r)
          refine log_fix hZ0 hZC fun A D s u hA hD hs hu hW => ?_
          have HW := Lib.hid hW
          clear hW hst hZ hk hk2 hge hZ0 hZ1 hZC
          generalize hE : cvI ((k : Int) - j) = ev at HT ⊢
          clear hE
          go_wp2
          go_loopw [6, 7] (fun p c wr => ∃ (i m q : Nat), i ≤ 13 ∧ c = .int .i64 (25 - 2 * i) ∧ p = .float .f64 q ∧ Sim .f64 q (logQ u i) ∧ wr = w.drewN m) (fun _ c _ => (intOf c + 1).toNat)
          case atStart => exact ⟨0, _, _, by omega, rfl, rfl, Sim.refl _ _, rfl⟩
          case round =>
            obtain ⟨i, m3, q, hi, rfl, rfl, hq, rfl⟩ := hrel
            have HQ := Lib.hid hq
            clear hq
            by_cases hi13 : i = 13
            · subst hi13
              have hk : ((25 : Int) - 2 * ((13 : Nat) : Int)) = -1 := by omega
              rw [hk]
              go_wp2
              go_ret
              exact retFQ (opV_lt _ _ _ _ _ _) (HT.out _ (log_end HW.out HQ.out _ _ _ _ _ _ _ _)) w _
            · have hi12 : i < 13 := by omega
              clear hi hi13
              go_wp2
              go_roundw
              case rel => exact ⟨i + 1, _, _, by omega, by go_num, rfl, opV_sim .add (opV_sim .quo (Sim.refl _ _) (Sim.refl _ _) _ _ _ _) (opV_sim .mul (Sim.refl _ _) HQ.out _ _ _ _) _ _ _ _, rfl⟩
              case measure => simp [intOf]; omega
end Go.Proofs.Ytojkdlidcmfkeaa
