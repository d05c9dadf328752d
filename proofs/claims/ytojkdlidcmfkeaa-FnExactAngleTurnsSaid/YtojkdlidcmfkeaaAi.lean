/- AngleTurns of the reference and of the program. -/
import Derived.Test.YtojkdlidcmfkeaaAh
namespace Go.Proofs.Ytojkdlidcmfkeaa
open Go.ChangeShapes Go.WideShapes Go.ChangeAt Go.RowKit Go.Deep

def zB (x : Nat) : Bool := FloatKind.f32.format.order x 0 == some .eq
def nB (x : Nat) : Bool := FloatKind.f32.format.order x 0 == some .lt
def overB (y x : Nat) : Bool := decide (rung .f64 (X64 x) < rung .f64 (X64 y))
def ab (x : Nat) : Nat := X64 x % 9223372036854775808
def angT (y x : Nat) : Nat := if overB y x then G.quo (ab x) (ab y) else G.quo (ab y) (ab x)
def angU (y x : Nat) : Nat := angW (overB y x) (nB x) (nB y) (tI (angT y x) 3)
def angV (y x : Nat) : Nat := if finB y && finB x then (if zB x && zB y then 0 else cvV .f64 .f32 (angU y x) z0 0) else 2143289344
theorem zero_rung {x : Nat} (hn : isN .f64 x = false) : (FloatKind.f64.format.order x 0 == some .eq) = decide (rung .f64 x = 0) := by
  have z1 : isN .f64 0 = false ∧ si .f64 0 = 0 := ⟨by decide +kernel, by decide +kernel⟩
  rw [eqB hn z1.1, z1.2]
  rcases @si_or x with e | e <;> exact decide_eq_decide.2 (by omega)
theorem neg_rung {x : Nat} (hn : isN .f64 x = false) : (FloatKind.f64.format.order x 0 == some .lt) = (sgn .f64 x && decide (rung .f64 x ≠ 0)) := by
  have z1 : isN .f64 0 = false ∧ si .f64 0 = 0 := ⟨by decide +kernel, by decide +kernel⟩
  rw [ltB hn z1.1, z1.2]
  unfold si sg
  cases sgn .f64 x
  · rw [if_neg (by simp), Bool.false_and]
    exact decide_eq_false (by omega)
  · rw [if_pos rfl, Bool.true_and]
    exact decide_eq_decide.2 (by omega)
theorem zB_eq {x : Nat} (h : finB x = true) : (FloatKind.f64.format.order (X64 x) 0 == some .eq) = zB x := by
  obtain ⟨_, hn, _, _⟩ := widen_facts h
  rw [zero_rung hn]
  obtain ⟨_, hz⟩ := widen_sign h
  have := eq_zero_iff x
  have hr : rung .f32 x = x % 2147483648 := rfl
  unfold zB
  rw [Bool.eq_iff_iff, decide_eq_true_iff, hz, beq_iff_eq, this, hr]
theorem nB_eq {x : Nat} (h : finB x = true) : (FloatKind.f64.format.order (X64 x) 0 == some .lt) = nB x := by
  obtain ⟨_, hn, _, _⟩ := widen_facts h
  rw [neg_rung hn]
  obtain ⟨hs, hz⟩ := widen_sign h
  obtain ⟨hn32, _⟩ := fin_of_finB h
  have h0 : isN .f32 0 = false := isN_small 0 (by omega)
  have hlt := order_lt_iff .f32 x 0
  have s0 : si .f32 0 = 0 := by decide +kernel
  unfold nB
  rw [Bool.eq_iff_iff, Bool.and_eq_true, decide_eq_true_iff, beq_iff_eq, hlt, hs, ne_eq, hz, s0]
  unfold si sg
  cases sgn .f32 x
  · rw [if_neg (by simp)]
    constructor
    · rintro ⟨h1, _⟩; cases h1
    · rintro ⟨_, _, h1⟩; omega
  · rw [if_pos rfl]
    constructor
    · rintro ⟨_, h1⟩; exact ⟨hn32, h0, by omega⟩
    · rintro ⟨_, _, h1⟩; exact ⟨rfl, by omega⟩
theorem ab_rung (x : Nat) : rung .f64 (ab x) = rung .f64 (X64 x) := by
  show X64 x % 9223372036854775808 % 9223372036854775808 = X64 x % 9223372036854775808
  exact Nat.mod_mod _ _
theorem ab_over {y x : Nat} (hy : isN .f64 (X64 y) = false) (hx : isN .f64 (X64 x) = false) : (FloatKind.f64.format.order (ab y) (ab x) == some .gt) = overB y x := by
  have hn : ∀ z, isN .f64 (X64 z) = false → isN .f64 (ab z) = false := fun z hz => by
    rw [isN_f64] at hz ⊢
    unfold ab
    rw [Nat.mod_mod]; exact hz
  rw [gtB (hn y hy) (hn x hx)]
  unfold ab overB
  rw [si_abs64, si_abs64]
  exact decide_eq_decide.2 (by omega)
theorem angT_le2 {y x : Nat} (hy : rung .f64 (X64 y) < FloatKind.f64.format.infRung) (hx : rung .f64 (X64 x) < FloatKind.f64.format.infRung) (hz : ¬ (rung .f64 (X64 x) = 0 ∧ rung .f64 (X64 y) = 0)) : le2 .f64 (angT y x) 1075 := by
  unfold angT
  cases ho : overB y x
  · have ho' := of_decide_eq_false ho
    rw [if_neg (by simp)]
    exact le2_quo_le (by rw [ab_rung, ab_rung]; omega) (by rw [ab_rung]; exact hx) (by rw [ab_rung]; omega) z0 0
  · have ho' := of_decide_eq_true ho
    rw [if_pos rfl]
    exact le2_quo_le (by rw [ab_rung, ab_rung]; omega) (by rw [ab_rung]; exact hy) (by rw [ab_rung]; omega) z0 0
/-- all that a walk needs of two finite numbers that are not both zero. -/
theorem ang_facts {y x : Nat} (hy : finB y = true) (hx : finB x = true) (hz : (zB x && zB y) = false) {p : Prop}
    (go : (∀ T n, cvV .f32 .f64 y T n = X64 y) → (∀ T n, cvV .f32 .f64 x T n = X64 x) →
      (∀ T n, (FloatKind.f64.format.order (opV .sub .f64 (X64 y) (X64 y) T n) 0 != some .eq) = false) → (∀ T n, (FloatKind.f64.format.order (opV .sub .f64 (X64 x) (X64 x) T n) 0 != some .eq) = false) →
      (zB x = true → zB y = false) → (bits .andNot .u64 (X64 y : Int) 9223372036854775808).toNat = ab y → (bits .andNot .u64 (X64 x : Int) 9223372036854775808).toNat = ab x →
      (FloatKind.f64.format.order (ab y) (ab x) == some .gt) = overB y x → (overB y x = true → ∀ T n, opV .quo .f64 (ab x) (ab y) T n = angT y x) → (overB y x = false → ∀ T n, opV .quo .f64 (ab y) (ab x) T n = angT y x) → le2 .f64 (angT y x) 1075 → p) : p := by
  obtain ⟨y1, y2, y3, y4⟩ := widen_facts hy
  obtain ⟨x1, x2, x3, x4⟩ := widen_facts hx
  have ez : ∀ z, rung .f64 z < FloatKind.f64.format.infRung → ∀ T n, (FloatKind.f64.format.order (opV .sub .f64 z z T n) 0 != some .eq) = false := fun z hz T n => by
    rw [sub_self_zero hz]; decide
  have hzz : ¬ (rung .f64 (X64 x) = 0 ∧ rung .f64 (X64 y) = 0) := by
    rintro ⟨h1, h2⟩
    have e1 := zB_eq hx
    have e2 := zB_eq hy
    rw [zero_rung x2, decide_eq_true h1] at e1
    rw [zero_rung y2, decide_eq_true h2] at e2
    rw [← e1, ← e2] at hz
    cases hz
  have hl := angT_le2 y4 x4 hzz
  refine go y1 x1 (ez _ y4) (ez _ x4) (fun h => ?_) (u64_clear _ y3) (u64_clear _ x3) (ab_over y2 x2) (fun h T n => ?_) (fun h T n => ?_) hl
  · rw [h, Bool.true_and] at hz; exact hz
  · unfold angT at hl ⊢
    rw [h, if_pos rfl] at hl ⊢
    exact opV_fix (le2_num hl (Eok64 1075 (by omega) (by omega))) T n
  · unfold angT at hl ⊢
    rw [h, if_neg (by simp)] at hl ⊢
    exact opV_fix (le2_num hl (Eok64 1075 (by omega) (by omega))) T n
theorem angV_nan {y x : Nat} (h : (finB y && finB x) = false) (T : Nat → Question → Nat) (n : Nat) : Sim .f32 (cvV .f64 .f32 9221120237041090561 T n) (angV y x) := by
  unfold angV
  rw [h]
  exact Sim.of_nan (cvV_nan T n nan64) isN_q
theorem angV_zero {y x : Nat} (h : (finB y && finB x) = true) (hz : (zB x && zB y) = true) : angV y x = 0 := by
  unfold angV
  rw [h, if_pos rfl, if_pos hz]
theorem angV_at {y x : Nat} (h : (finB y && finB x) = true) (hz : (zB x && zB y) = false) (hl : le2 .f64 (angT y x) 1075) (r : Nat) (hr : Sim .f64 r (angU y x)) (T : Nat → Question → Nat) (n : Nat) : Sim .f32 (cvV .f64 .f32 r T n) (angV y x) := by
  unfold angV
  rw [h, if_pos rfl, hz, if_neg (by simp)]
  exact narrow_fix (E := 1156) (by omega) (le2_angW (le2_tI hl 3 (Nat.le_refl _)) _ _ _) hr (by omega) T n
theorem spec_l01Angle (y x : Nat) (w : World) : Calls Try.prog 49 #[.float .f32 y, .float .f32 x] w (RetFQ .f32 (angV y x) w) := by
  cases h : (finB y && finB x)
  · have hv := Lib.hid (@angV_nan y x h)
    cases hy : finB y
    · have hY := Lib.hid (widen_notfin hy)
      clear h hy
      go_enter Try.func49, Try.ntmps49
      go_wp2_with (first | (go_at_call 64; refine (spec_Angle_nan1 _ _ (fun T n => sub_self_nan (hY.out _ _) T n) _).mono ?_; rintro e w' ⟨rfl, n, rfl⟩) | (go_at_call 39; go_in))
      go_ret
      exact retFQ (cvV_lt32 _ _ _ _) (hv.out _ _) w _
    · have hx : finB x = false := by rw [hy, Bool.true_and] at h; exact h
      have hX := Lib.hid (widen_notfin hx)
      obtain ⟨y1, y2, y3, y4⟩ := widen_facts hy
      have hY := Lib.hid (fun (T : Nat → Question → Nat) (n : Nat) => (show (FloatKind.f64.format.order (opV .sub .f64 (X64 y) (X64 y) T n) 0 != some .eq) = false by rw [sub_self_zero y4]; decide))
      clear h hy hx y2 y3 y4
      go_enter Try.func49, Try.ntmps49
      go_wp2_with (first | (go_at_call 64; refine (spec_Angle_nan2 _ _ hY.out (fun T n => sub_self_nan (hX.out _ _) T n) _).mono ?_; rintro e w' ⟨rfl, n, rfl⟩) | (go_at_call 39; go_in))
      go_ret
      exact retFQ (cvV_lt32 _ _ _ _) (hv.out _ _) w _
  · have hy : finB y = true := (Bool.and_eq_true_iff.1 h).1
    have hx : finB x = true := (Bool.and_eq_true_iff.1 h).2
    cases hz : (zB x && zB y)
    · have key : (∀ T n, cvV .f32 .f64 y T n = X64 y) ∧ (∀ T n, cvV .f32 .f64 x T n = X64 x) ∧ (∀ w, Calls Try.prog 64 #[.float .f64 (X64 y), .float .f64 (X64 x)] w (RetFQ .f64 (angU y x) w)) ∧ le2 .f64 (angT y x) 1075 :=
        ang_facts hy hx hz fun e1 e2 e3 e4 e5 e6 e7 e8 e9 e10 e11 => ⟨e1, e2, spec_Angle_at (X64 y) (X64 x) (ab y) (ab x) (angT y x) (overB y x) (zB x) (nB x) (nB y) e3 e4 (zB_eq hx) (fun h => by rw [zB_eq hy]; exact e5 h) e6 e7 e8 e9 e10 e11 (nB_eq hx) (nB_eq hy), e11⟩
      obtain ⟨e1, e2, hc, hl⟩ := key
      have HC := Lib.hid hc
      have hv := Lib.hid (angV_at h hz hl)
      clear h hy hx hz hc hl
      go_enter Try.func49, Try.ntmps49
      go_wp2_with (first | (go_at_call 64; refine (HC.out _).mono ?_; rintro e w' ⟨r, n, rfl, _, hs, rfl⟩; have HS := Lib.hid hs; clear hs) | (go_at_call 39; go_in))
      go_ret
      exact retFQ (cvV_lt32 _ _ _ _) (hv.out _ HS.out _ _) w _
    · have hv := Lib.hid (angV_zero h hz)
      obtain ⟨y1, y2, y3, y4⟩ := widen_facts hy
      obtain ⟨x1, x2, x3, x4⟩ := widen_facts hx
      have hzx : zB x = true := (Bool.and_eq_true_iff.1 hz).1
      have hzy : zB y = true := (Bool.and_eq_true_iff.1 hz).2
      have HC := Lib.hid (spec_Angle_zero (X64 y) (X64 x) (fun T n => by rw [sub_self_zero y4]; decide) (fun T n => by rw [sub_self_zero x4]; decide) (by rw [zB_eq hx]; exact hzx) (by rw [zB_eq hy]; exact hzy))
      clear h hy hx hz hzx hzy y2 y3 y4 x2 x3 x4
      go_enter Try.func49, Try.ntmps49
      go_wp2_with (first | (go_at_call 64; refine (HC.out _).mono ?_; rintro e w' ⟨rfl, n, rfl⟩) | (go_at_call 39; go_in))
      go_ret
      exact retFQ (cvV_lt32 _ _ _ _) (by rw [hv.out, zero_narrow]; exact Sim.refl _ _) w _
theorem spec_AngleTurns (y x : Nat) (w : World) : Calls Try.prog 30 #[.float .f32 y, .float .f32 x] w (RetFQ .f32 (angV y x) w) := by
  go_enter Try.func30, Try.ntmps30
  go_wp2_with (go_at_call 49; refine (spec_l01Angle y x _).mono ?_; rintro e w' ⟨r, n, rfl, hr, hs, rfl⟩)
  go_ret
  exact retFQ hr hs w _
end Go.Proofs.Ytojkdlidcmfkeaa
