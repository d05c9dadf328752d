/- AngleTurns of the program. -/
import Derived.Test.YtojkdlidcmfkeaaAi
namespace Go.Proofs.Ytojkdlidcmfkeaa
open Go.ChangeShapes Go.WideShapes Go.ChangeAt Go.RowKit Go.Deep

theorem pair_at (w : World) (y x : Nat) (t : TypeId) : FlAt (w.alloc (.cells #[.float .f32 y, .float .f32 x] t)) (w.heap.size + 1) (some ⟨w.heap.size, 0, none⟩) [y, x] := fun _ =>
  ⟨w.heap.size, 0, rfl, by omega, fun i hi => by
    have hb := heap_alloc_new w (.cells #[.float .f32 y, .float .f32 x] t)
    have hi2 : i = 0 ∨ i = 1 := by simp at hi; omega
    rcases hi2 with rfl | rfl <;> exact (cell_of_row _ _ _ _ _ _ hb).trans rfl⟩
theorem impl_finite2 (y x : Nat) (t : TypeId) (w : World) : Calls Try.prog 50 #[.slice (some ⟨w.heap.size, 0, none⟩) 2 2] (w.alloc (.cells #[.float .f32 y, .float .f32 x] t)) (RetQ (.bool (finB y && finB x)) (w.alloc (.cells #[.float .f32 y, .float .f32 x] t))) := by
  have h := impl_finite (some ⟨w.heap.size, 0, none⟩) 2 [y, x] (by simp) _ _ (pair_at w y x t)
  have e : [y, x].all finB = (finB y && finB x) := by simp
  rw [e] at h
  exact h
theorem impl_Angle_nan (y x : Nat) (h : (finB y && finB x) = false) (w : World) : Calls Try.prog 31 #[.float .f32 y, .float .f32 x] w (RetF .f32 (angV y x) w) := by
  have hv := Lib.hid (@angV_nan y x h)
  have hc := impl_finite2 y x
  rw [h] at hc
  have HC := Lib.hid hc
  clear hc h
  go_enter Try.func31, Try.ntmps31
  go_wp2_with (first | (go_at_call 50; refine (HC.out _ _).mono ?_; rintro e w' ⟨rfl, n, rfl⟩) | (go_at_call 46; go_in))
  go_ret
  exact ⟨_, rfl, cvV_lt32 _ _ _ _, hv.out _ _, (by repeat' (first | with_reducible exact Below.refl _ _ | with_reducible assumption | with_reducible refine below_dn ?_ _ | with_reducible refine Below.drew ?_ | with_reducible refine below_step ?_ (by assumption) | with_reducible refine Below.setCell ?_ ?_ _ | with_reducible refine Below.alloc ?_ ?_ _ | with_reducible exact Nat.le_refl _ | (simp; done) | (simp; omega) | omega))⟩
theorem impl_Angle_zero (y x : Nat) (h : (finB y && finB x) = true) (hz : (zB x && zB y) = true) (w : World) : Calls Try.prog 31 #[.float .f32 y, .float .f32 x] w (RetF .f32 (angV y x) w) := by
  have hv := Lib.hid (angV_zero h hz)
  have hzx : (FloatKind.f32.format.order x 0 == some .eq) = true := (Bool.and_eq_true_iff.1 hz).1
  have hzy : (FloatKind.f32.format.order y 0 == some .eq) = true := (Bool.and_eq_true_iff.1 hz).2
  have hc := impl_finite2 y x
  rw [h] at hc
  have HC := Lib.hid hc
  clear hc h hz
  go_enter Try.func31, Try.ntmps31
  go_wp2_with (first | (go_at_call 50; refine (HC.out _ _).mono ?_; rintro e w' ⟨rfl, n, rfl⟩) | (go_at_call 46; go_in))
  go_ret
  exact ⟨_, rfl, by decide, by rw [hv.out]; exact Sim.refl _ _, (by repeat' (first | with_reducible exact Below.refl _ _ | with_reducible assumption | with_reducible refine below_dn ?_ _ | with_reducible refine Below.drew ?_ | with_reducible refine below_step ?_ (by assumption) | with_reducible refine Below.setCell ?_ ?_ _ | with_reducible refine Below.alloc ?_ ?_ _ | with_reducible exact Nat.le_refl _ | (simp; done) | (simp; omega) | omega))⟩
set_option maxHeartbeats 4000000 in
theorem impl_Angle_at (y x Y X a b t0 : Nat) (over z1 xn yn : Bool) (hfin : (finB y && finB x) = true) (hY : ∀ T n, cvV .f32 .f64 y T n = Y) (hX : ∀ T n, cvV .f32 .f64 x T n = X)
    (hz : (FloatKind.f32.format.order x 0 == some .eq) = z1) (hzy : z1 = true → (FloatKind.f32.format.order y 0 == some .eq) = false) (ha : (bits .andNot .u64 (Y : Int) 9223372036854775808).toNat = a) (hb : (bits .andNot .u64 (X : Int) 9223372036854775808).toNat = b)
    (hov : (FloatKind.f64.format.order a b == some .gt) = over) (ht1 : over = true → ∀ T n, opV .quo .f64 b a T n = t0) (ht0 : over = false → ∀ T n, opV .quo .f64 a b T n = t0) (hl : le2 .f64 t0 1075)
    (hxn : (FloatKind.f32.format.order x 0 == some .lt) = xn) (hyn : (FloatKind.f32.format.order y 0 == some .lt) = yn) (v : Nat) (hv : ∀ r, Sim .f64 r (angW over xn yn (tI t0 3)) → ∀ T n, Sim .f32 (cvV .f64 .f32 r T n) v) (w : World) :
    Calls Try.prog 31 #[.float .f32 y, .float .f32 x] w (RetF .f32 v w) := by
  have HL := Lib.hid hl
  have HV := Lib.hid hv
  have hc := impl_finite2 y x
  rw [hfin] at hc
  have HC := Lib.hid hc
  clear hl hv hc hfin
  cases over <;> cases z1
  all_goals
    first | (have q1 := ht1 rfl) | (have q1 := ht0 rfl)
    first | (have q2 := hzy rfl) | skip
    clear ht1 ht0 hzy
    go_enter Try.func31, Try.ntmps31
    go_wp2_with (first | (go_at_call 50; refine (HC.out _ _).mono ?_; rintro e w' ⟨rfl, n, rfl⟩) | (go_at_call 46; go_in) | (go_at_call 47; go_in))
    go_loopw [7, 42] (fun t k wr => ∃ (j : Nat), j ≤ 3 ∧ k = .int .i64 j ∧ t = .float .f64 (tI t0 j) ∧ Below w.heap.size w wr) (fun _ k _ => 3 - (intOf k).toNat)
    case atStart => exact ⟨0, by omega, rfl, rfl, (by repeat' (first | with_reducible exact Below.refl _ _ | with_reducible assumption | with_reducible refine below_dn ?_ _ | with_reducible refine Below.drew ?_ | with_reducible refine below_step ?_ (by assumption) | with_reducible refine Below.setCell ?_ ?_ _ | with_reducible refine Below.alloc ?_ ?_ _ | with_reducible exact Nat.le_refl _ | (simp; done) | (simp; omega) | omega))⟩
    case round =>
      obtain ⟨j, hj, rfl, rfl, hB⟩ := hrel
      have HB := Lib.hid hB
      clear hB
      by_cases hj3 : j < 3
      · refine tstep_fix (E := 1075 + j) (by omega) (by omega) (le2_tI HL.out j (by omega)) fun A D S F t' e1 e2 e3 e4 e5 e6 _ => ?_
        have HT := Lib.hid (show tI t0 (j + 1) = t' from e6.symm)
        clear e6
        generalize tI t0 j = tj at e1 e5 ⊢
        go_wp2_with (go_at_call 51; go_in)
        go_roundw
        case rel => exact ⟨j + 1, by omega, by go_num, by rw [HT.out], below_dn HB.out _⟩
        case measure => simp [intOf]; omega
      · have hje : j = 3 := by omega
        subst hje
        have hl3 := le2_tI HL.out 3 (Nat.le_refl _)
        obtain ⟨t3, ht3⟩ : ∃ t3, t3 = tI t0 3 := ⟨_, rfl⟩
        rw [← ht3] at hl3
        rw [← ht3]
        refine ang_fix hl3 (FloatKind.f64.format.order a b == some .gt) xn yn fun u M N A B C e1 hnq e2 e3 e4 e5 e5' e6 e6' hW => ?_
        rw [hov, ht3] at hW
        clear ht3
        first | (have e5a := e5 hov; subst e5a) | (have e5b := e5' hov)
        clear e5 e5'
        have HN := Lib.hid hnq
        have HW := Lib.hid hW
        clear hW hnq hl3
        go_wp2
        go_loopw [9, 10] (fun p c wr => ∃ (i q : Nat), i ≤ 8 ∧ c = .int .i64 (15 - 2 * i) ∧ p = .float .f64 q ∧ Sim .f64 q (angQ u i) ∧ Below w.heap.size w wr) (fun _ c _ => (intOf c + 1).toNat)
        case atStart => exact ⟨0, _, by omega, rfl, rfl, Sim.refl _ _, below_dn HB.out _⟩
        case round =>
          obtain ⟨i, q, hi, rfl, rfl, hq, hB2⟩ := hrel
          have HB2 := Lib.hid hB2
          clear hB2
          by_cases hi8 : i = 8
          · subst hi8
            obtain rfl : q = angQ u 8 := (hq.symm.eq HN.out).symm
            clear hq
            generalize angQ u 8 = q at e2 ⊢
            have hk : ((15 : Int) - 2 * ((8 : Nat) : Int)) = -1 := by omega
            rw [hk]
            cases xn <;> cases yn
            all_goals
              first | (have e6a := e6 rfl; subst e6a) | (have e6b := e6' rfl)
              clear e6 e6'
              go_wp2
              go_ret
              first
                | exact ⟨_, rfl, cvV_lt32 _ _ _ _, HV.out _ (ang_simF HW.out) _ _, below_dn HB2.out _⟩
                | exact ⟨_, rfl, cvV_lt32 _ _ _ _, HV.out _ (ang_simT HW.out) _ _, below_dn HB2.out _⟩
          · have hi7 : i < 8 := by omega
            have HQ := Lib.hid hq
            clear hi hi8 hq
            go_wp2
            go_roundw
            case rel => exact ⟨i + 1, _, by omega, by go_num, rfl, opV_sim .sub (opV_sim .quo (Sim.refl _ _) (Sim.refl _ _) _ _ _ _) (opV_sim .mul (Sim.refl _ _) HQ.out _ _ _ _) _ _ _ _, below_dn HB2.out _⟩
            case measure => simp [intOf]; omega
theorem impl_AngleTurns (y x : Nat) (w : World) : Calls Try.prog 31 #[.float .f32 y, .float .f32 x] w (RetF .f32 (angV y x) w) := by
  cases h : (finB y && finB x)
  · exact impl_Angle_nan y x h w
  · have hy : finB y = true := (Bool.and_eq_true_iff.1 h).1
    have hx : finB x = true := (Bool.and_eq_true_iff.1 h).2
    cases hz : (zB x && zB y)
    · exact ang_facts hy hx hz fun e1 e2 e3 e4 e5 e6 e7 e8 e9 e10 e11 =>
        impl_Angle_at y x (X64 y) (X64 x) (ab y) (ab x) (angT y x) (overB y x) (zB x) (nB x) (nB y) h e1 e2 rfl e5 e6 e7 e8 e9 e10 e11 rfl rfl (angV y x) (angV_at h hz e11) w
    · exact impl_Angle_zero y x h hz w
end Go.Proofs.Ytojkdlidcmfkeaa
