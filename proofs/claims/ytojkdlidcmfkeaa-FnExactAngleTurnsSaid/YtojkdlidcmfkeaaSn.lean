/- SineTurns' contracts. -/
import Derived.Test.YtojkdlidcmfkeaaFt
import Derived.Test.YtojkdlidcmfkeaaFj
namespace Go.Proofs.Ytojkdlidcmfkeaa
open Go.ChangeShapes Go.WideShapes Go.ChangeAt Go.RowKit Go.Deep

@[go_sem] theorem run_f64bits (b : Nat) (w : World) : (callFunc 61 #[.float .f64 b]).run Try.prog w = .ok (.value (.int .u64 b)) w :=
  run_callFunc_extern (e := Extern.MathFloatBits.float64bits) Try.func61 (by kernel_rfl) (by kernel_rfl) (by kernel_rfl) (by kernel_rfl) _ w
@[go_sem] theorem run_f64from (n : Int) (w : World) : (callFunc 60 #[.int .u64 n]).run Try.prog w = .ok (.value (.float .f64 n.toNat)) w :=
  run_callFunc_extern (e := Extern.MathFloatBits.float64frombits) Try.func60 (by kernel_rfl) (by kernel_rfl) (by kernel_rfl) (by kernel_rfl) _ w
/-! ### the plain function -/
def G.add (a b : Nat) : Nat := opV .add .f64 a b z0 0
def G.sub (a b : Nat) : Nat := opV .sub .f64 a b z0 0
def G.mul (a b : Nat) : Nat := opV .mul .f64 a b z0 0
def G.quo (a b : Nat) : Nat := opV .quo .f64 a b z0 0
theorem opV_fix {op : BinOp} {a b : Nat} (h : isN .f64 (opV op .f64 a b z0 0) = false) (T : Nat → Question → Nat) (n : Nat) : opV op .f64 a b T n = opV op .f64 a b z0 0 := ((opV_sim op (Sim.refl _ _) (Sim.refl _ _) z0 0 T n).eq h).symm
def cs (j : Nat) : Int := 2 * (8 - j) * (2 * (8 - j) + 1)
def sineP (u : Nat) : Nat → Nat
  | 0 => 4607182418800017408
  | j + 1 => G.sub 4607182418800017408 (G.quo (G.mul u (sineP u j)) (Go.floatOfInt .f64 (cs j)))
def isGe (a b : Nat) : Bool := FloatKind.f64.format.order a b == some .gt || FloatKind.f64.format.order a b == some .eq
def s1 (f : Nat) : Nat := if FloatKind.f64.format.order f 0 == some .lt then G.add f 4607182418800017408 else f
def s2 (f : Nat) : Nat := if isGe f 4602678819172646912 then G.sub f 4602678819172646912 else f
def s3 (f : Nat) : Nat := if FloatKind.f64.format.order f 4598175219545276416 == some .gt then G.sub 4602678819172646912 f else f
def sineZ (f : Nat) : Nat := G.mul (s3 (s2 (s1 f))) 4618760256179416344
def sineU (f : Nat) : Nat := G.mul (sineZ f) (sineZ f)
def sineO (f : Nat) : Nat := G.mul (sineZ f) (sineP (sineU f) 8)
def sineW (f : Nat) : Nat := if isGe (s1 f) 4602678819172646912 then Op.negFloat .f64 (sineO f) else sineO f
theorem cs_ge1 : ∀ j, j < 8 → 4607182418800017408 ≤ rung .f64 (Go.floatOfInt .f64 (cs j)) ∧ rung .f64 (Go.floatOfInt .f64 (cs j)) < FloatKind.f64.format.infRung := by decide +kernel
theorem le2_one : le2 .f64 4607182418800017408 1074 := by unfold le2; decide
theorem le2_half' : le2 .f64 4602678819172646912 1074 := by unfold le2; decide
theorem le2_turn : le2 .f64 4618760256179416344 1077 := by unfold le2; decide
theorem le2_s1 {f : Nat} (h : le2 .f64 f 1074) : le2 .f64 (s1 f) 1075 := by
  unfold s1
  split
  · exact le2_add h le2_one (Eok64 1074 (by omega) (by omega)) (Eok64 1075 (by omega) (by omega)) z0 0
  · exact le2_mono h (by omega)
theorem le2_s2 {f : Nat} (h : le2 .f64 f 1075) : le2 .f64 (s2 f) 1076 := by
  unfold s2
  split
  · exact le2_sub h (le2_mono le2_half' (by omega)) (Eok64 1075 (by omega) (by omega)) (Eok64 1076 (by omega) (by omega)) z0 0
  · exact le2_mono h (by omega)
theorem le2_s3 {f : Nat} (h : le2 .f64 f 1076) : le2 .f64 (s3 f) 1077 := by
  unfold s3
  split
  · exact le2_sub (le2_mono le2_half' (by omega)) h (Eok64 1076 (by omega) (by omega)) (Eok64 1077 (by omega) (by omega)) z0 0
  · exact le2_mono h (by omega)
theorem le2_sineZ {f : Nat} (h : le2 .f64 f 1074) : le2 .f64 (sineZ f) 1080 := le2_mul (le2_s3 (le2_s2 (le2_s1 h))) le2_turn (Eok64 _ (by omega) (by omega)) (Eok64 _ (by omega) (by omega)) (Eok64 _ (by omega) (by omega)) (by omega) z0 0
theorem le2_sineU {f : Nat} (h : le2 .f64 f 1074) : le2 .f64 (sineU f) 1086 := le2_mul (le2_sineZ h) (le2_sineZ h) (Eok64 _ (by omega) (by omega)) (Eok64 _ (by omega) (by omega)) (Eok64 _ (by omega) (by omega)) (by omega) z0 0
theorem le2_sineP {u : Nat} (h : le2 .f64 u 1086) : ∀ j, j ≤ 8 → le2 .f64 (sineP u j) (1074 + 14 * j)
  | 0, _ => le2_one
  | j + 1, hj => by
    have ih := le2_sineP h j (by omega)
    have h1 : le2 .f64 (G.mul u (sineP u j)) (1086 + 14 * j) := le2_mul h ih (Eok64 _ (by omega) (by omega)) (Eok64 _ (by omega) (by omega)) (Eok64 _ (by omega) (by omega)) (by omega) z0 0
    have h2 : le2 .f64 (G.quo (G.mul u (sineP u j)) (Go.floatOfInt .f64 (cs j))) (1086 + 14 * j + 1) := le2_quo (by omega) (by omega) h1 (cs_ge1 j (by omega)) z0 0
    have h3 := le2_sub (le2_mono le2_one (show 1074 ≤ 1087 + 14 * j by omega)) (le2_mono h2 (show 1086 + 14 * j + 1 ≤ 1087 + 14 * j by omega)) (Eok64 _ (by omega) (by omega)) (Eok64 _ (by omega) (by omega)) z0 0
    exact le2_mono h3 (by omega)
theorem le2_sineO {f : Nat} (h : le2 .f64 f 1074) : le2 .f64 (sineO f) 1192 := le2_mul (le2_sineZ h) (le2_sineP (le2_sineU h) 8 (Nat.le_refl _)) (Eok64 _ (by omega) (by omega)) (Eok64 _ (by omega) (by omega)) (Eok64 _ (by omega) (by omega)) (by omega) z0 0
theorem rung_neg (x : Nat) : rung .f64 (Op.negFloat .f64 x) = rung .f64 x := by
  show (x ^^^ 2 ^ 63) % 2 ^ 63 = x % 2 ^ 63
  rw [Nat.xor_mod_two_pow, Nat.mod_self, Nat.xor_zero]
theorem le2_sineW {f : Nat} (h : le2 .f64 f 1074) : le2 .f64 (sineW f) 1192 := by
  unfold sineW
  split
  · unfold le2
    rw [rung_neg]
    exact le2_sineO h
  · exact le2_sineO h
/-- each step is fixed. -/
theorem sine_fix {f : Nat} (h : le2 .f64 f 1074) : (∀ T n, opV .mul .f64 (s3 (s2 (s1 f))) 4618760256179416344 T n = sineZ f) ∧ (∀ T n, opV .mul .f64 (sineZ f) (sineZ f) T n = sineU f) ∧
    (FloatKind.f64.format.order f 0 == some .lt → ∀ T n, opV .add .f64 f 4607182418800017408 T n = s1 f) ∧ (isGe (s1 f) 4602678819172646912 → ∀ T n, opV .sub .f64 (s1 f) 4602678819172646912 T n = s2 (s1 f)) ∧
    (FloatKind.f64.format.order (s2 (s1 f)) 4598175219545276416 == some .gt → ∀ T n, opV .sub .f64 4602678819172646912 (s2 (s1 f)) T n = s3 (s2 (s1 f))) := by
  have e1 := Eok64 1075 (by omega) (by omega)
  have e2 := Eok64 1076 (by omega) (by omega)
  have e3 := Eok64 1077 (by omega) (by omega)
  have e4 := Eok64 1080 (by omega) (by omega)
  have e5 := Eok64 1086 (by omega) (by omega)
  have l1 := le2_num (le2_s1 h) e1
  have l2 := le2_num (le2_s2 (le2_s1 h)) e2
  have l3 := le2_num (le2_s3 (le2_s2 (le2_s1 h))) e3
  refine ⟨fun T n => opV_fix (le2_num (le2_sineZ h) e4) T n, fun T n => opV_fix (le2_num (le2_sineU h) e5) T n, fun hb T n => ?_, fun hb T n => ?_, fun hb T n => ?_⟩
  · unfold s1 at l1 ⊢
    rw [if_pos hb] at l1 ⊢
    exact opV_fix l1 T n
  · unfold s2 at l2 ⊢
    rw [if_pos hb] at l2 ⊢
    exact opV_fix l2 T n
  · unfold s3 at l3 ⊢
    rw [if_pos hb] at l3 ⊢
    exact opV_fix l3 T n
/-- the four tests on the way, decided. -/
theorem sine_cases {f : Nat} (h : le2 .f64 f 1074) {p : Prop}
    (go : ∀ (f1 f2 f3 z u : Nat) (b1 b2 b3 : Bool), sineW f = (if b2 then Op.negFloat .f64 (G.mul z (sineP u 8)) else G.mul z (sineP u 8)) → isN .f64 (G.mul z (sineP u 8)) = false →
      (FloatKind.f64.format.order f 0 == some .lt) = b1 → (b1 = false → f1 = f) → (b1 = true → ∀ T n, opV .add .f64 f 4607182418800017408 T n = f1) →
      (FloatKind.f64.format.order f1 4602678819172646912 == some .gt || FloatKind.f64.format.order f1 4602678819172646912 == some .eq) = b2 → (b2 = false → f2 = f1) → (b2 = true → ∀ T n, opV .sub .f64 f1 4602678819172646912 T n = f2) →
      (FloatKind.f64.format.order f2 4598175219545276416 == some .gt) = b3 → (b3 = false → f3 = f2) → (b3 = true → ∀ T n, opV .sub .f64 4602678819172646912 f2 T n = f3) →
      (∀ T n, opV .mul .f64 f3 4618760256179416344 T n = z) → (∀ T n, opV .mul .f64 z z T n = u) → p) : p := by
  obtain ⟨h1, h2, h3, h4, h5⟩ := sine_fix h
  refine go (s1 f) (s2 (s1 f)) (s3 (s2 (s1 f))) (sineZ f) (sineU f) _ _ _ rfl (le2_num (le2_sineO h) (Eok64 1192 (by omega) (by omega))) rfl (fun hb => ?_) h3 rfl (fun hb => ?_) h4 rfl (fun hb => ?_) h5 h1 h2
  · unfold s1; rw [hb]; rfl
  · have hb' : isGe (s1 f) 4602678819172646912 = false := hb
    unfold s2; rw [hb']; rfl
  · unfold s3; rw [hb]; rfl
theorem neg_lt64 {x : Nat} (h : x < 2 ^ FloatKind.f64.format.width) : Op.negFloat .f64 x < 2 ^ FloatKind.f64.format.width := by
  show x ^^^ 2 ^ 63 < 2 ^ 64
  exact Nat.xor_lt_two_pow h (by decide)
theorem sine_end {z q u f : Nat} {b : Bool} (hW : sineW f = if b then Op.negFloat .f64 (G.mul z (sineP u 8)) else G.mul z (sineP u 8)) (hN : isN .f64 (G.mul z (sineP u 8)) = false) (hq : Sim .f64 q (sineP u 8)) (T : Nat → Question → Nat) (n : Nat) :
    (b = false → Sim .f64 (opV .mul .f64 z q T n) (sineW f)) ∧ (b = true → Sim .f64 (Op.negFloat .f64 (opV .mul .f64 z q T n)) (sineW f)) := by
  have e : opV .mul .f64 z q T n = G.mul z (sineP u 8) := ((opV_sim .mul (Sim.refl .f64 z) hq.symm z0 0 T n).eq hN).symm
  rw [e, hW]
  constructor <;> rintro rfl <;> exact Sim.refl _ _
theorem spec_SineWide_nan (y : Nat) (h : ∀ T n, (FloatKind.f64.format.order (opV .sub .f64 y y T n) 0 != some .eq) = true) (w : World) : Calls Try.prog 59 #[.float .f64 y] w (RetQ (.float .f64 9221120237041090561) w) := by
  go_enter Try.func59, Try.ntmps59
  go_wp2_with (go_in)
  go_ret
  exact ⟨rfl, _, rfl⟩
theorem spec_SineWide_big (y : Nat) (h : ∀ T n, FloatKind.f64.format.order (opV .sub .f64 y y T n) 0 = some .eq) (hb : (FloatKind.f64.format.order y 4841369599423283200 == some .gt || FloatKind.f64.format.order y 4841369599423283200 == some .eq) = true ∨ ((FloatKind.f64.format.order y 4841369599423283200 == some .gt || FloatKind.f64.format.order y 4841369599423283200 == some .eq) = false ∧ (FloatKind.f64.format.order y 14064741636278059008 == some .lt || FloatKind.f64.format.order y 14064741636278059008 == some .eq) = true)) (w : World) :
    Calls Try.prog 59 #[.float .f64 y] w (RetQ (.float .f64 0) w) := by
  rcases hb with hb | ⟨hb, hc⟩
  all_goals
    go_enter Try.func59, Try.ntmps59
    go_wp2_with (go_in)
    go_ret
    exact ⟨rfl, _, rfl⟩
set_option maxHeartbeats 1000000 in
theorem spec_SineWide (y i f : Nat) (v : Int) (hself : ∀ T n, FloatKind.f64.format.order (opV .sub .f64 y y T n) 0 = some .eq)
    (hb : (FloatKind.f64.format.order y 4841369599423283200 == some .gt || FloatKind.f64.format.order y 4841369599423283200 == some .eq) = false) (hc : (FloatKind.f64.format.order y 14064741636278059008 == some .lt || FloatKind.f64.format.order y 14064741636278059008 == some .eq) = false)
    (hv : ∀ w : World, (convert 28 2 (.float .f64 y)).run Try.prog w = .ok (.int .i64 v) w) (hi : Go.floatOfInt .f64 v = i) (hf : ∀ T n, opV .sub .f64 y i T n = f) (hl : le2 .f64 f 1074) (w : World) :
    Calls Try.prog 59 #[.float .f64 y] w (RetFQ .f64 (sineW f) w) := by
  refine sine_cases hl fun f1 f2 f3 z u b1 b2 b3 hW hN t1 e1 a1 t2 e2 a2 t3 e3 a3 hz hu => ?_
  have HW := Lib.hid hW
  have HN := Lib.hid hN
  clear hW hN hl
  cases b1 <;> cases b2 <;> cases b3
  all_goals
    first | (have e1' := e1 rfl; subst e1') | (have a1' := a1 rfl)
    first | (have e2' := e2 rfl; subst e2') | (have a2' := a2 rfl)
    first | (have e3' := e3 rfl; subst e3') | (have a3' := a3 rfl)
    clear e1 a1 e2 a2 e3 a3
    go_enter Try.func59, Try.ntmps59
    go_wp2_with (go_in)
    go_loopw [7, 8] (fun p k wr => ∃ (j m q : Nat), j ≤ 8 ∧ k = .int .i64 (8 - j) ∧ p = .float .f64 q ∧ Sim .f64 q (sineP u j) ∧ wr = w.drewN m) (fun _ k _ => (intOf k).toNat)
    case atStart => exact ⟨0, _, _, by omega, rfl, rfl, Sim.refl _ _, rfl⟩
    case round =>
      obtain ⟨j, m, q, hj, rfl, rfl, hq, rfl⟩ := hrel
      have HQ := Lib.hid hq
      clear hq
      by_cases hj8 : j = 8
      · subst hj8
        have hk : ((8 : Int) - ((8 : Nat) : Int)) = 0 := by omega
        rw [hk]
        go_wp2
        go_ret
        first
          | exact retFQ (opV_lt _ _ _ _ _ _) ((sine_end HW.out HN.out HQ.out _ _).1 rfl) w _
          | exact retFQ (neg_lt64 (opV_lt _ _ _ _ _ _)) ((sine_end HW.out HN.out HQ.out _ _).2 rfl) w _
      · have hjj : j = 0 ∨ j = 1 ∨ j = 2 ∨ j = 3 ∨ j = 4 ∨ j = 5 ∨ j = 6 ∨ j = 7 := by omega
        clear hj hj8
        rcases hjj with rfl | rfl | rfl | rfl | rfl | rfl | rfl | rfl
        all_goals
          go_wp2
          go_roundw
          case rel => exact ⟨_ + 1, _, _, by omega, rfl, rfl, opV_sim .sub (Sim.refl _ _) (opV_sim .quo (opV_sim .mul (Sim.refl _ _) HQ.out _ _ _ _) (Sim.refl _ _) _ _ _ _) _ _ _ _, rfl⟩
          case measure => simp [intOf]
end Go.Proofs.Ytojkdlidcmfkeaa
