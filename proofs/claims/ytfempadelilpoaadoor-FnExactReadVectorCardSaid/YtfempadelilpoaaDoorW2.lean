/- Contracts of the comparison of floats and of the functions on vectors, program and reference. -/
import Derived.Test.YtfempadelilpoaaDoorW1
import Derived.Handy
namespace Go.Proofs.YtfempadelilpoaaDoor
open Go.ChangeShapes Go.WideShapes Go.ChangeAt Go.RowKit Go.Deep

theorem sameFloat_nan (x y : Nat) (hx : isN .f64 x = true) (hy : isN .f64 y = true) (w : World) : Calls Tryd.prog 36 #[.float .f64 x, .float .f64 y] w (RetQ (.bool true) w) := by
  have h1 : (FloatKind.f64.format.order x x != some Ordering.eq) = true := by rw [self_neq]; exact hx
  have h2 : (FloatKind.f64.format.order y y != some Ordering.eq) = true := by rw [self_neq]; exact hy
  clear hx hy
  go_enter Tryd.func36, Tryd.ntmps36
  go_wp2
  go_ret
  exact retQ_bool0 rfl w
theorem sameFloat_num (x : Nat) (hx : isN .f64 x = false) (w : World) : Calls Tryd.prog 36 #[.float .f64 x, .float .f64 x] w (RetQ (.bool true) w) := by
  have h1 : (FloatKind.f64.format.order x x != some Ordering.eq) = false := by rw [self_neq]; exact hx
  have h2 := Lib.hid (show FloatKind.f64.format.order x x = some Ordering.eq by rw [order_self, hx]; rfl)
  have h3 : ∀ (T : Nat → Question → Nat) (n : Nat) (T' : Nat → Question → Nat) (n' : Nat), FloatKind.f64.format.order (opV .quo .f64 4607182418800017408 x T n) 0 = FloatKind.f64.format.order (opV .quo .f64 4607182418800017408 x T' n') 0 :=
    fun T n T' n' => order_sim (opV_sim .quo (Sim.refl _ _) (Sim.refl _ _) T n T' n') (Sim.refl _ _)
  have H3 := Lib.hid h3
  clear hx h3
  cases hz : FloatKind.f64.format.order x 0 == some Ordering.eq
  · go_enter Tryd.func36, Tryd.ntmps36
    go_wp2
    go_ret
    exact retQ_bool0 (by rw [h2.out]; rfl) w
  · go_enter Tryd.func36, Tryd.ntmps36
    go_wp2
    go_ret
    exact retQ_bool (by rw [H3.out _ _ (fun _ _ => 0) 0, H3.out w.tape (w.drawn + _) (fun _ _ => 0) 0]; simp) w _
theorem laws_sameFloat (x y : Nat) (h : Sim .f64 x y) (w : World) : Calls Tryd.prog 36 #[.float .f64 x, .float .f64 y] w (RetQ (.bool true) w) := by
  rcases h with ⟨h1, h2⟩ | ⟨h1, rfl⟩
  · exact sameFloat_nan x y h1 h2 w
  · exact sameFloat_num x h1 w

theorem laws_eqVector (a b c d e f : Nat) (h1 : Sim .f32 a d) (h2 : Sim .f32 b e) (h3 : Sim .f32 c f) (w : World) :
    Calls Tryd.prog 17 #[.agg #[.float .f32 a, .float .f32 b, .float .f32 c], .agg #[.float .f32 d, .float .f32 e, .float .f32 f]] w (RetV (.bool true) w) := by
  go_enter Tryd.func17, Tryd.ntmps17
  go_wp2_with (go_at_call 36; refine (laws_sameFloat _ _ (widen_sim (by assumption) _ _ _ _) _).mono ?_; rintro e w' ⟨rfl, n, rfl⟩)
  go_ret
  exact ⟨rfl, (by repeat' (first | with_reducible exact Below.refl _ _ | with_reducible assumption | with_reducible refine below_dn ?_ _ | with_reducible refine Below.drew ?_ | with_reducible refine below_step ?_ (by assumption) | with_reducible refine Below.setCell ?_ ?_ _ | with_reducible refine Below.alloc ?_ ?_ _ | with_reducible exact Nat.le_refl _ | (simp; done) | (simp; omega) | omega))⟩
/-- the sum of the three products. -/
def F.inner (a b c d e f : Nat) : Nat := F.add (F.add (F.mul a d) (F.mul b e)) (F.mul c f)
end Go.Proofs.YtfempadelilpoaaDoor
