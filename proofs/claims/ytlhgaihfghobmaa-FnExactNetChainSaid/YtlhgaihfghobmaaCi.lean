/- Which numbers, vectors and rods are right: contracts of the small tests, reference and program. -/
import Derived.Test.YtlhgaihfghobmaaCh
import Derived.Test.YtlhgaihfghobmaaFn
namespace Go.Proofs.Ytlhgaihfghobmaa
open Go.ChangeShapes Go.WideShapes Go.ChangeAt Go.RowKit Go.Deep

def geZ (x : Nat) : Bool := FloatKind.f32.format.order x 0 == some .gt || FloatKind.f32.format.order x 0 == some .eq
def gtZ (x : Nat) : Bool := FloatKind.f32.format.order x 0 == some .gt
def lvl (x : Nat) : Bool := finB x && geZ x
def abv (x : Nat) : Bool := finB x && gtZ x
def finV (q : V3) : Bool := finB q.x && finB q.y && finB q.z
def inI (n lo hi : Int) : Bool := decide (lo ≤ n) && decide (n ≤ hi)
theorem geZ_sim {x y : Nat} (h : Sim .f32 x y) : geZ x = geZ y := by unfold geZ; rw [order_sim h (Sim.refl .f32 0)]
theorem gtZ_sim {x y : Nat} (h : Sim .f32 x y) : gtZ x = gtZ y := by unfold gtZ; rw [order_sim h (Sim.refl .f32 0)]
theorem lvl_sim {x y : Nat} (h : Sim .f32 x y) : lvl x = lvl y := by unfold lvl; rw [finB_sim h, geZ_sim h]
theorem abv_sim {x y : Nat} (h : Sim .f32 x y) : abv x = abv y := by unfold abv; rw [finB_sim h, gtZ_sim h]
theorem finV_sim {p q : V3} (h : SimP p q) : finV p = finV q := by unfold finV; rw [finB_sim h.1, finB_sim h.2.1, finB_sim h.2.2]
theorem retV_bool {a b : Bool} (h : a = b) {w w' : World} (hb : Below w.heap.size w w') : RetV (.bool b) w (.returned (.bool a)) w' := by rw [h]; exact ⟨rfl, hb⟩

theorem spec_l03Least (x : Nat) (w : World) : Calls Try.prog 151 #[.float .f32 x] w (RetQ (.bool (lvl x)) w) := by
  unfold lvl geZ
  cases h : finB x
  all_goals
    go_enter Try.func151, Try.ntmps151
    go_wp2_with (go_at_call 158; refine (spec_l01Finite x _).mono ?_; rintro e w' ⟨rfl, n, rfl⟩; rw [h])
    go_ret
    exact retQ_bool rfl w _
theorem spec_l03Above (x : Nat) (w : World) : Calls Try.prog 91 #[.float .f32 x] w (RetQ (.bool (abv x)) w) := by
  unfold abv gtZ
  cases h : finB x
  all_goals
    go_enter Try.func91, Try.ntmps91
    go_wp2_with (go_at_call 158; refine (spec_l01Finite x _).mono ?_; rintro e w' ⟨rfl, n, rfl⟩; rw [h])
    go_ret
    exact retQ_bool rfl w _
theorem impl_levelOk (x : Nat) (w : World) : Calls Try.prog 155 #[.float .f32 x] w (RetQ (.bool (lvl x)) w) := by
  unfold lvl geZ
  cases h : finB x
  all_goals
    go_enter Try.func155, Try.ntmps155
    go_wp2_with (go_at_call 159; refine (impl_IsFinite x _).mono ?_; rintro e w' ⟨rfl, n, rfl⟩; rw [h])
    go_ret
    exact retQ_bool rfl w _
theorem impl_badLevel (x : Nat) (w : World) : Calls Try.prog 84 #[.float .f32 x] w (RetQ (.bool (!lvl x)) w) := by
  go_enter Try.func84, Try.ntmps84
  go_wp2_with (go_at_call 155; refine (impl_levelOk x _).mono ?_; rintro e w' ⟨rfl, n, rfl⟩)
  go_ret
  exact ⟨rfl, n, rfl⟩
theorem impl_lengthOk (x : Nat) (w : World) : Calls Try.prog 95 #[.float .f32 x] w (RetQ (.bool (abv x)) w) := by
  unfold abv gtZ
  cases h : finB x
  all_goals
    go_enter Try.func95, Try.ntmps95
    go_wp2_with (go_at_call 159; refine (impl_IsFinite x _).mono ?_; rintro e w' ⟨rfl, n, rfl⟩; rw [h])
    go_ret
    exact retQ_bool rfl w _
theorem spec_l01VFinite (x y z : Nat) (w : World) : Calls Try.prog 100 #[.agg #[.float .f32 x, .float .f32 y, .float .f32 z]] w (RetV (.bool (finV ⟨x, y, z⟩)) w) := by
  unfold finV
  cases h0 : finB x <;> cases h1 : finB y
  all_goals
    go_enter Try.func100, Try.ntmps100
    go_wp2_with (first | (go_at_call 158; (with_reducible refine (spec_l01Finite x _).mono ?_); rintro e w' ⟨rfl, n, rfl⟩; rw [h0]) | (go_at_call 158; (with_reducible refine (spec_l01Finite y _).mono ?_); rintro e w' ⟨rfl, n, rfl⟩; rw [h1]) | (go_at_call 158; (with_reducible refine (spec_l01Finite z _).mono ?_); rintro e w' ⟨rfl, n, rfl⟩))
    go_ret
    exact ⟨rfl, (by repeat' (first | with_reducible exact Below.refl _ _ | with_reducible assumption | with_reducible refine below_dn ?_ _ | with_reducible refine Below.drew ?_ | with_reducible refine below_step ?_ (by assumption) | with_reducible refine Below.setCell ?_ ?_ _ | with_reducible refine Below.alloc ?_ ?_ _ | with_reducible exact Nat.le_refl _ | (simp; done) | (simp; omega) | omega))⟩
theorem three_at (w : World) (x y z : Nat) (t : TypeId) : FlAt (w.alloc (.cells #[.float .f32 x, .float .f32 y, .float .f32 z] t)) (w.heap.size + 1) (some ⟨w.heap.size, 0, none⟩) [x, y, z] := fun _ =>
  ⟨w.heap.size, 0, rfl, by omega, fun i hi => by
    have hb := heap_alloc_new w (.cells #[.float .f32 x, .float .f32 y, .float .f32 z] t)
    have hi2 : i = 0 ∨ i = 1 ∨ i = 2 := by simp at hi; omega
    rcases hi2 with rfl | rfl | rfl <;> exact (cell_of_row _ _ _ _ _ _ hb).trans rfl⟩
theorem impl_finite3 (x y z : Nat) (t : TypeId) (g : Nat) (w : World) (hg : g = w.heap.size) : Calls Try.prog 161 #[.slice (some ⟨g, 0, none⟩) 3 3] (w.alloc (.cells #[.float .f32 x, .float .f32 y, .float .f32 z] t)) (RetQ (.bool (finV ⟨x, y, z⟩)) (w.alloc (.cells #[.float .f32 x, .float .f32 y, .float .f32 z] t))) := by
  subst hg
  have h := impl_finite (some ⟨w.heap.size, 0, none⟩) 3 [x, y, z] (by simp) _ _ (three_at w x y z t)
  have e : [x, y, z].all finB = finV ⟨x, y, z⟩ := by unfold finV; simp [Bool.and_assoc]
  rw [e] at h
  exact h
theorem impl_finiteVector (x y z : Nat) (w : World) : Calls Try.prog 102 #[.agg #[.float .f32 x, .float .f32 y, .float .f32 z]] w (RetV (.bool (finV ⟨x, y, z⟩)) w) := by
  go_enter Try.func102, Try.ntmps102
  go_wp2_with fail
  refine (impl_finite3 x y z _ _ _ ?hg).mono ?_
  case hg => simp
  rintro e w' ⟨rfl, n, rfl⟩
  go_wp2_with fail
  go_ret
  exact ⟨rfl, (by repeat' (first | with_reducible exact Below.refl _ _ | with_reducible assumption | with_reducible refine below_dn ?_ _ | with_reducible refine Below.drew ?_ | with_reducible refine below_step ?_ (by assumption) | with_reducible refine Below.setCell ?_ ?_ _ | with_reducible refine Below.alloc ?_ ?_ _ | with_reducible exact Nat.le_refl _ | (simp; done) | (simp; omega) | omega))⟩
theorem impl_badVector (x y z : Nat) (w : World) : Calls Try.prog 82 #[.agg #[.float .f32 x, .float .f32 y, .float .f32 z]] w (RetV (.bool (!finV ⟨x, y, z⟩)) w) := by
  go_enter Try.func82, Try.ntmps82
  go_wp2_with (go_at_call 102; refine (impl_finiteVector _ _ _ _).mono ?_; rintro e w' ⟨rfl, hb⟩)
  go_ret
  exact ⟨rfl, (by repeat' (first | with_reducible exact Below.refl _ _ | with_reducible assumption | with_reducible refine below_dn ?_ _ | with_reducible refine Below.drew ?_ | with_reducible refine below_step ?_ (by assumption) | with_reducible refine Below.setCell ?_ ?_ _ | with_reducible refine Below.alloc ?_ ?_ _ | with_reducible exact Nat.le_refl _ | (simp; done) | (simp; omega) | omega))⟩
theorem spec_l00In (n lo hi : Int) (w : World) : Calls Try.prog 104 #[.int .i64 n, .int .i64 lo, .int .i64 hi] w (RetQ (.bool (inI n lo hi)) w) := by
  unfold inI
  by_cases h : lo ≤ n
  · have e : decide (lo ≤ n) = true := decide_eq_true h
    go_enter Try.func104, Try.ntmps104
    go_wp2
    go_ret
    exact retQ_bool0 (by first | rfl | (rw [e, Bool.true_and])) w
  · have e : decide (lo ≤ n) = false := decide_eq_false h
    go_enter Try.func104, Try.ntmps104
    go_wp2
    go_ret
    exact retQ_bool0 (by first | rfl | (rw [e, Bool.false_and])) w
theorem impl_in (n lo hi : Int) (w : World) : Calls Try.prog 107 #[.int .i64 n, .int .i64 lo, .int .i64 hi] w (RetQ (.bool (inI n lo hi)) w) := by
  unfold inI
  by_cases h : lo ≤ n
  · have e : decide (lo ≤ n) = true := decide_eq_true h
    go_enter Try.func107, Try.ntmps107
    go_wp2
    go_ret
    exact retQ_bool0 (by first | rfl | (rw [e, Bool.true_and])) w
  · have e : decide (lo ≤ n) = false := decide_eq_false h
    go_enter Try.func107, Try.ntmps107
    go_wp2
    go_ret
    exact retQ_bool0 (by first | rfl | (rw [e, Bool.false_and])) w
end Go.Proofs.Ytlhgaihfghobmaa
