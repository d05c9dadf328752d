/- SineTurns of the reference and of the program. -/
import Derived.Test.YtojkdlidcmfkeaaSo
namespace Go.Proofs.Ytojkdlidcmfkeaa
open Go.ChangeShapes Go.WideShapes Go.ChangeAt Go.RowKit Go.Deep

theorem nan64 : isN .f64 9221120237041090561 = true := by decide +kernel
theorem sineV_nan {x : Nat} (h : finB x = false) (T : Nat → Question → Nat) (n : Nat) : Sim .f32 (cvV .f64 .f32 9221120237041090561 T n) (sineV x) := by
  unfold sineV
  rw [h]
  exact Sim.of_nan (cvV_nan T n nan64) isN_q
theorem zero_narrow (T : Nat → Question → Nat) (n : Nat) : cvV .f64 .f32 0 T n = 0 := by
  unfold cvV
  have : FloatKind.f64.decode 0 = .number false 0 (-1074) := by kernel_rfl
  rw [this]
  have : (FloatKind.f32.decode (FloatKind.f32.encode (.number false 0 (-1074)))).isInfinity = false := by decide +kernel
  simp only [this]
  rfl
theorem sineV_big {x : Nat} (h : finB x = true) (hb : 4841369599423283200 ≤ rung .f64 (X64 x)) : sineV x = 0 := by
  unfold sineV
  rw [h, if_pos rfl, if_pos hb]
theorem sineV_small {x : Nat} (h : finB x = true) (hb : rung .f64 (X64 x) < 4841369599423283200) (r : Nat) (hr : Sim .f64 r (sineW (frV (X64 x)))) (T : Nat → Question → Nat) (n : Nat) : Sim .f32 (cvV .f64 .f32 r T n) (sineV x) := by
  unfold sineV
  rw [h, if_pos rfl, if_neg (by omega)]
  exact narrow_fix (by omega) (le2_sineW (frV_le2 hb)) hr (by omega) T n
theorem toInt_run {y : Nat} (hb : rung .f64 y < 4841369599423283200) (w : World) : (convert 28 2 (.float .f64 y)).run Try.prog w = .ok (.int .i64 (trI y)) w :=
  run_convert_float_int w 28 2 .f64 .i64 y (trI y) (by rw [Try.underlying28]; rfl) Try.underlying2 (toInt_eq hb)
theorem spec_SineWide_small {y : Nat} (hy : y < 18446744073709551616) (hn : isN .f64 y = false) (hb : rung .f64 y < 4841369599423283200) (w : World) : Calls Try.prog 59 #[.float .f64 y] w (RetFQ .f64 (sineW (frV y)) w) := by
  obtain ⟨h1, h2⟩ := small_spec hn hb
  have hi : FloatKind.f64.format.infRung = 2047 * 4503599627370496 := rfl
  have hf : rung .f64 y < FloatKind.f64.format.infRung := by rw [hi]; omega
  have hz : ∀ T n, FloatKind.f64.format.order (opV .sub .f64 y y T n) 0 = some .eq := fun T n => by rw [sub_self_zero hf]; decide
  have hl := frV_le2 hb
  refine spec_SineWide y (Go.floatOfInt .f64 (trI y)) (frV y) (trI y) hz h1 h2 (toInt_run hb) rfl (fun T n => ?_) hl w
  by_cases h0 : trN y = 0
  · rw [ofInt_zero h0, sub_zero hy hf]
    unfold frV
    rw [if_pos h0]
  · rw [ofInt_eq h0]
    unfold frV at hl ⊢
    rw [if_neg h0] at hl ⊢
    exact opV_fix (le2_num hl (Eok64 1074 (by omega) (by omega))) T n
theorem spec_Sine (x : Nat) (w : World) : Calls Try.prog 45 #[.float .f32 x] w (RetFQ .f32 (sineV x) w) := by
  cases h : finB x
  · have hy := Lib.hid (widen_notfin h)
    have hv := Lib.hid (@sineV_nan x h)
    clear h
    go_enter Try.func45, Try.ntmps45
    go_wp2_with (first | (go_at_call 59; refine (spec_SineWide_nan _ (fun T n => sub_self_nan (hy.out _ _) T n) _).mono ?_; rintro e w' ⟨rfl, n, rfl⟩) | (go_at_call 39; go_in))
    go_ret
    exact retFQ (cvV_lt32 _ _ _ _) (hv.out _ _) w _
  · obtain ⟨hx, hn, hlt, hf⟩ := widen_facts h
    by_cases hb : 4841369599423283200 ≤ rung .f64 (X64 x)
    · have hv := Lib.hid (sineV_big h hb)
      have hc := Lib.hid (spec_SineWide_big (X64 x) (fun T n => by rw [sub_self_zero hf]; decide) (big_spec hn hb))
      clear h hb hf
      go_enter Try.func45, Try.ntmps45
      go_wp2_with (first | (go_at_call 59; refine (hc.out _).mono ?_; rintro e w' ⟨rfl, n, rfl⟩) | (go_at_call 39; go_in))
      go_ret
      exact retFQ (cvV_lt32 _ _ _ _) (by rw [hv.out, zero_narrow]; exact Sim.refl _ _) w _
    · have hb' : rung .f64 (X64 x) < 4841369599423283200 := by omega
      have hc := Lib.hid (@spec_SineWide_small (X64 x) hlt hn hb')
      have hv := Lib.hid (@sineV_small x h hb')
      clear h hb hf hb' hlt
      go_enter Try.func45, Try.ntmps45
      go_wp2_with (first | (go_at_call 59; refine (hc.out _).mono ?_; rintro e w' ⟨r, n, rfl, _, hs, rfl⟩; have HS := Lib.hid hs; clear hs) | (go_at_call 39; go_in))
      go_ret
      exact retFQ (cvV_lt32 _ _ _ _) (hv.out _ HS.out _ _) w _
theorem spec_SineTurns (x : Nat) (w : World) : Calls Try.prog 28 #[.float .f32 x] w (RetFQ .f32 (sineV x) w) := by
  go_enter Try.func28, Try.ntmps28
  go_wp2_with (go_at_call 45; refine (spec_Sine x _).mono ?_; rintro e w' ⟨r, n, rfl, hr, hs, rfl⟩)
  go_ret
  exact retFQ hr hs w _
theorem tc_s2 : (Try.f62.name == "runtime.NumGoroutine") = false := by kernel_rfl
theorem tc_s3 : Try.f62.body.isNone = true := by kernel_rfl
theorem tc_s4 : Extern.findNext Try.f62 = none := by kernel_rfl
theorem tc_s5 : Extern.find Try.f62 = some (Extern.MathFloor.toIntegral "math.archTrunc" .zero) := by kernel_rfl
theorem run_trunc_ext {P : Program} (x : Nat) (hx : isN .f64 x = false) (w : World) : (Extern.MathFloor.toIntegral "math.archTrunc" .zero #[.float .f64 x]).run P w = .ok (.float .f64 (trV x)) w := by
  unfold isN at hx
  change Sem.run P (match FloatKind.f64.decode x with
    | .nan s t =>
      if FloatKind.f64.format.quiet t = t then pure (Value.float .f64 x) else do
      let kept ← choose (.extern "math.Floor,Ceil,Trunc,RoundToEven.signallingNaN kept" 2)
      pure (Value.float .f64 (if kept == 1 then x else FloatKind.f64.encode (.nan s (FloatKind.f64.format.quiet t))))
    | d => pure (Value.float .f64 (FloatKind.f64.encode (d.integral .zero)))) w = _
  unfold trV
  cases h : FloatKind.f64.decode x with
  | nan s t => rw [h] at hx; cases hx
  | infinity s => rfl
  | number s m e => rfl
theorem run_call_trunc (x : Nat) (hx : isN .f64 x = false) (w : World) : (callFunc 62 #[.float .f64 x]).run Try.prog w = .ok (.value (.float .f64 (trV x))) w :=
  (run_callFunc_extern Try.func62 tc_s2 tc_s3 tc_s4 tc_s5 _ w).trans (andThen_of (run_trunc_ext x hx w) _)
set_option maxHeartbeats 2000000 in
theorem impl_SineTurns_at (x y tv f : Nat) (b0 : Bool) (hfin : finB x = true) (hx : ∀ T n, cvV .f32 .f64 x T n = y) (hlt : (bits .andNot .u64 (y : Int) 9223372036854775808).toNat = y % 9223372036854775808)
    (hab : (FloatKind.f64.format.order (y % 9223372036854775808) 4841369599423283200 == some .gt || FloatKind.f64.format.order (y % 9223372036854775808) 4841369599423283200 == some .eq) = false)
    (htr : ∀ w, (callFunc 62 #[.float .f64 y]).run Try.prog w = .ok (.value (.float .f64 tv)) w) (h0 : (FloatKind.f64.format.order tv 0 != some .eq) = b0)
    (hf0 : b0 = false → f = y) (hf1 : b0 = true → ∀ T n, opV .sub .f64 y tv T n = f) (hl : le2 .f64 f 1074) (hv : ∀ r, Sim .f64 r (sineW f) → ∀ T n, Sim .f32 (cvV .f64 .f32 r T n) (sineV x)) (w : World) :
    Calls Try.prog 29 #[.float .f32 x] w (RetFQ .f32 (sineV x) w) := by
  refine sine_cases hl fun f1 f2 f3 z u b1 b2 b3 hW hN t1 e1 a1 t2 e2 a2 t3 e3 a3 hz hu => ?_
  have HW := Lib.hid hW
  have HN := Lib.hid hN
  have HV := Lib.hid hv
  clear hW hN hl hv
  cases b0 <;> cases b1 <;> cases b2 <;> cases b3
  all_goals
    first | (have e0' := hf0 rfl; subst e0') | (have a0' := hf1 rfl)
    first | (have e1' := e1 rfl; subst e1') | (have a1' := a1 rfl)
    first | (have e2' := e2 rfl; subst e2') | (have a2' := a2 rfl)
    first | (have e3' := e3 rfl; subst e3') | (have a3' := a3 rfl)
    clear hf0 hf1 e1 a1 e2 a2 e3 a3
    go_enter Try.func29, Try.ntmps29
    go_wp2_with (first | (go_at_call 41; refine (impl_IsFinite x _).mono ?_; rintro e w' ⟨rfl, n, rfl⟩) | (go_at_call 46; go_in) | (go_at_call 47; go_in) | (go_at_call 48; go_in))
    go_loopw [8, 9] (fun p k wr => ∃ (j m q : Nat), j ≤ 8 ∧ k = .int .i64 (8 - j) ∧ p = .float .f64 q ∧ Sim .f64 q (sineP u j) ∧ wr = w.drewN m) (fun _ k _ => (intOf k).toNat)
    case atStart => exact ⟨0, _, _, by omega, rfl, rfl, Sim.refl _ _, rfl⟩
    case round =>
      obtain ⟨j, m, q, hj, rfl, rfl, hq, rfl⟩ := hrel
      have HQ := Lib.hid hq
      clear hq
      by_cases hj8 : j = 8
      · subst hj8
        have hk : ((8 : Int) - ((8 : Nat) : Int)) = 0 := by omega
        rw [hk]
        go_wp2
        go_ret
        first
          | exact retFQ (cvV_lt32 _ _ _ _) (HV.out _ ((sine_end HW.out HN.out HQ.out _ _).1 rfl) _ _) w _
          | exact retFQ (cvV_lt32 _ _ _ _) (HV.out _ ((sine_end HW.out HN.out HQ.out _ _).2 rfl) _ _) w _
      · have hjj : j = 0 ∨ j = 1 ∨ j = 2 ∨ j = 3 ∨ j = 4 ∨ j = 5 ∨ j = 6 ∨ j = 7 := by omega
        clear hj hj8
        rcases hjj with rfl | rfl | rfl | rfl | rfl | rfl | rfl | rfl
        all_goals
          go_wp2
          go_roundw
          case rel => exact ⟨_ + 1, _, _, by omega, rfl, rfl, opV_sim .sub (Sim.refl _ _) (opV_sim .quo (opV_sim .mul (Sim.refl _ _) HQ.out _ _ _ _) (Sim.refl _ _) _ _ _ _) _ _ _ _, rfl⟩
          case measure => simp [intOf]
theorem impl_SineTurns_nan (x : Nat) (h : finB x = false) (w : World) : Calls Try.prog 29 #[.float .f32 x] w (RetFQ .f32 (sineV x) w) := by
  have hv := Lib.hid (@sineV_nan x h)
  go_enter Try.func29, Try.ntmps29
  go_wp2_with (first | (go_at_call 41; refine (impl_IsFinite x _).mono ?_; rintro e w' ⟨rfl, n, rfl⟩) | (go_at_call 46; go_in))
  go_ret
  exact retFQ (cvV_lt32 _ _ _ _) (hv.out _ _) w _
theorem impl_SineTurns_big (x : Nat) (h : finB x = true) (hb : 4841369599423283200 ≤ rung .f64 (X64 x)) (w : World) : Calls Try.prog 29 #[.float .f32 x] w (RetFQ .f32 (sineV x) w) := by
  obtain ⟨hx, hn, hlt, hf⟩ := widen_facts h
  have hv := Lib.hid (sineV_big h hb)
  have hc := big_impl hn
  rw [decide_eq_true hb] at hc
  have hcl := u64_clear (X64 x) hlt
  clear hb hlt
  go_enter Try.func29, Try.ntmps29
  go_wp2_with (first | (go_at_call 41; refine (impl_IsFinite x _).mono ?_; rintro e w' ⟨rfl, n, rfl⟩) | (go_at_call 46; go_in) | (go_at_call 47; go_in))
  go_ret
  exact retFQ (by decide) (by rw [hv.out]; exact Sim.refl _ _) w _
theorem impl_SineTurns (x : Nat) (w : World) : Calls Try.prog 29 #[.float .f32 x] w (RetFQ .f32 (sineV x) w) := by
  cases h : finB x
  · exact impl_SineTurns_nan x h w
  · by_cases hb : 4841369599423283200 ≤ rung .f64 (X64 x)
    · exact impl_SineTurns_big x h hb w
    · have hb' : rung .f64 (X64 x) < 4841369599423283200 := by omega
      obtain ⟨hx, hn, hlt, hf⟩ := widen_facts h
      have hc := big_impl hn
      rw [decide_eq_false hb] at hc
      have hl := frV_le2 hb'
      refine impl_SineTurns_at x (X64 x) (trV (X64 x)) (frV (X64 x)) (!decide (trN (X64 x) = 0)) h hx (u64_clear _ hlt) hc (run_call_trunc _ hn) ?_ ?_ ?_ hl (sineV_small h hb') w
      · by_cases h0 : trN (X64 x) = 0
        · rw [trV_zero hb' h0, decide_eq_true h0]; rfl
        · rw [decide_eq_false h0]
          exact bne_iff_ne.2 (trV_nonzero hb' h0)
      · intro h0
        have h0' : trN (X64 x) = 0 := by simpa using h0
        unfold frV
        rw [if_pos h0']
      · intro h0 T n
        have h0' : ¬ trN (X64 x) = 0 := by simpa using h0
        rw [trV_eq hb']
        unfold frV at hl ⊢
        rw [if_neg h0'] at hl ⊢
        exact opV_fix (le2_num hl (Eok64 1074 (by omega) (by omega))) T n
end Go.Proofs.Ytojkdlidcmfkeaa
