/- Contracts of the comparison of floats and of the functions on vectors, program and reference. -/
import Derived.Test.YtlhgaihfghobmaaW1
import Derived.Handy
namespace Go.Proofs.Ytlhgaihfghobmaa
open Go.ChangeShapes Go.WideShapes Go.ChangeAt Go.RowKit Go.Deep

theorem sameFloat_nan (x y : Nat) (hx : isN .f64 x = true) (hy : isN .f64 y = true) (w : World) : Calls Try.prog 36 #[.float .f64 x, .float .f64 y] w (RetQ (.bool true) w) := by
  have h1 : (FloatKind.f64.format.order x x != some Ordering.eq) = true := by rw [self_neq]; exact hx
  have h2 : (FloatKind.f64.format.order y y != some Ordering.eq) = true := by rw [self_neq]; exact hy
  clear hx hy
  go_enter Try.func36, Try.ntmps36
  go_wp2
  go_ret
  exact retQ_bool0 rfl w
theorem sameFloat_num (x : Nat) (hx : isN .f64 x = false) (w : World) : Calls Try.prog 36 #[.float .f64 x, .float .f64 x] w (RetQ (.bool true) w) := by
  have h1 : (FloatKind.f64.format.order x x != some Ordering.eq) = false := by rw [self_neq]; exact hx
  have h2 := Lib.hid (show FloatKind.f64.format.order x x = some Ordering.eq by rw [order_self, hx]; rfl)
  have h3 : ∀ (T : Nat → Question → Nat) (n : Nat) (T' : Nat → Question → Nat) (n' : Nat), FloatKind.f64.format.order (opV .quo .f64 4607182418800017408 x T n) 0 = FloatKind.f64.format.order (opV .quo .f64 4607182418800017408 x T' n') 0 :=
    fun T n T' n' => order_sim (opV_sim .quo (Sim.refl _ _) (Sim.refl _ _) T n T' n') (Sim.refl _ _)
  have H3 := Lib.hid h3
  clear hx h3
  cases hz : FloatKind.f64.format.order x 0 == some Ordering.eq
  · go_enter Try.func36, Try.ntmps36
    go_wp2
    go_ret
    exact retQ_bool0 (by rw [h2.out]; rfl) w
  · go_enter Try.func36, Try.ntmps36
    go_wp2
    go_ret
    exact retQ_bool (by rw [H3.out _ _ (fun _ _ => 0) 0, H3.out w.tape (w.drawn + _) (fun _ _ => 0) 0]; simp) w _
theorem laws_sameFloat (x y : Nat) (h : Sim .f64 x y) (w : World) : Calls Try.prog 36 #[.float .f64 x, .float .f64 y] w (RetQ (.bool true) w) := by
  rcases h with ⟨h1, h2⟩ | ⟨h1, rfl⟩
  · exact sameFloat_nan x y h1 h2 w
  · exact sameFloat_num x h1 w

theorem laws_toVector (a b c : Nat) (w : World) : Calls Try.prog 34 #[.agg #[.float .f32 a, .float .f32 b, .float .f32 c]] w (RetV (.agg #[.float .f32 a, .float .f32 b, .float .f32 c]) w) := by
  go_enter Try.func34, Try.ntmps34
  go_wp2
  go_returns
  exact ⟨rfl, (by repeat' (first | with_reducible exact Below.refl _ _ | with_reducible assumption | with_reducible refine below_dn ?_ _ | with_reducible refine Below.drew ?_ | with_reducible refine below_step ?_ (by assumption) | with_reducible refine Below.setCell ?_ ?_ _ | with_reducible refine Below.alloc ?_ ?_ _ | with_reducible exact Nat.le_refl _ | (simp; done) | (simp; omega) | omega))⟩
theorem laws_eqVector (a b c d e f : Nat) (h1 : Sim .f32 a d) (h2 : Sim .f32 b e) (h3 : Sim .f32 c f) (w : World) :
    Calls Try.prog 30 #[.agg #[.float .f32 a, .float .f32 b, .float .f32 c], .agg #[.float .f32 d, .float .f32 e, .float .f32 f]] w (RetV (.bool true) w) := by
  go_enter Try.func30, Try.ntmps30
  go_wp2_with (go_at_call 36; refine (laws_sameFloat _ _ (widen_sim (by assumption) _ _ _ _) _).mono ?_; rintro e w' ⟨rfl, n, rfl⟩)
  go_ret
  exact ⟨rfl, (by repeat' (first | with_reducible exact Below.refl _ _ | with_reducible assumption | with_reducible refine below_dn ?_ _ | with_reducible refine Below.drew ?_ | with_reducible refine below_step ?_ (by assumption) | with_reducible refine Below.setCell ?_ ?_ _ | with_reducible refine Below.alloc ?_ ?_ _ | with_reducible exact Nat.le_refl _ | (simp; done) | (simp; omega) | omega))⟩
theorem spec_l01Add (a b c d e f : Nat) (w : World) : Calls Try.prog 92 #[.agg #[.float .f32 a, .float .f32 b, .float .f32 c], .agg #[.float .f32 d, .float .f32 e, .float .f32 f]] w (RetVec (F.add a d) (F.add b e) (F.add c f) w) := by
  go_enter Try.func92, Try.ntmps92
  go_wp2
  go_returns
  exact ⟨_, _, _, rfl, ⟨opV_lt32 _ _ _ _ _, opV_lt32 _ _ _ _ _, opV_lt32 _ _ _ _ _⟩, add_sim (Sim.refl _ _) (Sim.refl _ _) _ _, add_sim (Sim.refl _ _) (Sim.refl _ _) _ _, add_sim (Sim.refl _ _) (Sim.refl _ _) _ _, (by repeat' (first | with_reducible exact Below.refl _ _ | with_reducible assumption | with_reducible refine below_dn ?_ _ | with_reducible refine Below.drew ?_ | with_reducible refine below_step ?_ (by assumption) | with_reducible refine Below.setCell ?_ ?_ _ | with_reducible refine Below.alloc ?_ ?_ _ | with_reducible exact Nat.le_refl _ | (simp; done) | (simp; omega) | omega))⟩
theorem impl_AddVectors (a b c d e f : Nat) (w : World) : Calls Try.prog 96 #[.agg #[.float .f32 a, .float .f32 b, .float .f32 c], .agg #[.float .f32 d, .float .f32 e, .float .f32 f]] w (RetVec (F.add a d) (F.add b e) (F.add c f) w) := by
  go_enter Try.func96, Try.ntmps96
  go_wp2
  go_returns
  exact ⟨_, _, _, rfl, ⟨opV_lt32 _ _ _ _ _, opV_lt32 _ _ _ _ _, opV_lt32 _ _ _ _ _⟩, add_sim (Sim.refl _ _) (Sim.refl _ _) _ _, add_sim (Sim.refl _ _) (Sim.refl _ _) _ _, add_sim (Sim.refl _ _) (Sim.refl _ _) _ _, (by repeat' (first | with_reducible exact Below.refl _ _ | with_reducible assumption | with_reducible refine below_dn ?_ _ | with_reducible refine Below.drew ?_ | with_reducible refine below_step ?_ (by assumption) | with_reducible refine Below.setCell ?_ ?_ _ | with_reducible refine Below.alloc ?_ ?_ _ | with_reducible exact Nat.le_refl _ | (simp; done) | (simp; omega) | omega))⟩
theorem spec_l01Less (a b c d e f : Nat) (w : World) : Calls Try.prog 94 #[.agg #[.float .f32 a, .float .f32 b, .float .f32 c], .agg #[.float .f32 d, .float .f32 e, .float .f32 f]] w (RetVec (F.sub a d) (F.sub b e) (F.sub c f) w) := by
  go_enter Try.func94, Try.ntmps94
  go_wp2
  go_returns
  exact ⟨_, _, _, rfl, ⟨opV_lt32 _ _ _ _ _, opV_lt32 _ _ _ _ _, opV_lt32 _ _ _ _ _⟩, sub_sim (Sim.refl _ _) (Sim.refl _ _) _ _, sub_sim (Sim.refl _ _) (Sim.refl _ _) _ _, sub_sim (Sim.refl _ _) (Sim.refl _ _) _ _, (by repeat' (first | with_reducible exact Below.refl _ _ | with_reducible assumption | with_reducible refine below_dn ?_ _ | with_reducible refine Below.drew ?_ | with_reducible refine below_step ?_ (by assumption) | with_reducible refine Below.setCell ?_ ?_ _ | with_reducible refine Below.alloc ?_ ?_ _ | with_reducible exact Nat.le_refl _ | (simp; done) | (simp; omega) | omega))⟩
theorem impl_LessVectors (a b c d e f : Nat) (w : World) : Calls Try.prog 98 #[.agg #[.float .f32 a, .float .f32 b, .float .f32 c], .agg #[.float .f32 d, .float .f32 e, .float .f32 f]] w (RetVec (F.sub a d) (F.sub b e) (F.sub c f) w) := by
  go_enter Try.func98, Try.ntmps98
  go_wp2
  go_returns
  exact ⟨_, _, _, rfl, ⟨opV_lt32 _ _ _ _ _, opV_lt32 _ _ _ _ _, opV_lt32 _ _ _ _ _⟩, sub_sim (Sim.refl _ _) (Sim.refl _ _) _ _, sub_sim (Sim.refl _ _) (Sim.refl _ _) _ _, sub_sim (Sim.refl _ _) (Sim.refl _ _) _ _, (by repeat' (first | with_reducible exact Below.refl _ _ | with_reducible assumption | with_reducible refine below_dn ?_ _ | with_reducible refine Below.drew ?_ | with_reducible refine below_step ?_ (by assumption) | with_reducible refine Below.setCell ?_ ?_ _ | with_reducible refine Below.alloc ?_ ?_ _ | with_reducible exact Nat.le_refl _ | (simp; done) | (simp; omega) | omega))⟩
theorem spec_l01Scale (a b c s : Nat) (w : World) : Calls Try.prog 93 #[.agg #[.float .f32 a, .float .f32 b, .float .f32 c], .float .f32 s] w (RetVec (F.mul a s) (F.mul b s) (F.mul c s) w) := by
  go_enter Try.func93, Try.ntmps93
  go_wp2
  go_returns
  exact ⟨_, _, _, rfl, ⟨opV_lt32 _ _ _ _ _, opV_lt32 _ _ _ _ _, opV_lt32 _ _ _ _ _⟩, mul_sim (Sim.refl _ _) (Sim.refl _ _) _ _, mul_sim (Sim.refl _ _) (Sim.refl _ _) _ _, mul_sim (Sim.refl _ _) (Sim.refl _ _) _ _, (by repeat' (first | with_reducible exact Below.refl _ _ | with_reducible assumption | with_reducible refine below_dn ?_ _ | with_reducible refine Below.drew ?_ | with_reducible refine below_step ?_ (by assumption) | with_reducible refine Below.setCell ?_ ?_ _ | with_reducible refine Below.alloc ?_ ?_ _ | with_reducible exact Nat.le_refl _ | (simp; done) | (simp; omega) | omega))⟩
theorem impl_ScaleVector (a b c s : Nat) (w : World) : Calls Try.prog 97 #[.agg #[.float .f32 a, .float .f32 b, .float .f32 c], .float .f32 s] w (RetVec (F.mul a s) (F.mul b s) (F.mul c s) w) := by
  go_enter Try.func97, Try.ntmps97
  go_wp2
  go_returns
  exact ⟨_, _, _, rfl, ⟨opV_lt32 _ _ _ _ _, opV_lt32 _ _ _ _ _, opV_lt32 _ _ _ _ _⟩, mul_sim (Sim.refl _ _) (Sim.refl _ _) _ _, mul_sim (Sim.refl _ _) (Sim.refl _ _) _ _, mul_sim (Sim.refl _ _) (Sim.refl _ _) _ _, (by repeat' (first | with_reducible exact Below.refl _ _ | with_reducible assumption | with_reducible refine below_dn ?_ _ | with_reducible refine Below.drew ?_ | with_reducible refine below_step ?_ (by assumption) | with_reducible refine Below.setCell ?_ ?_ _ | with_reducible refine Below.alloc ?_ ?_ _ | with_reducible exact Nat.le_refl _ | (simp; done) | (simp; omega) | omega))⟩
/-- the sum of the three products. -/
def F.inner (a b c d e f : Nat) : Nat := F.add (F.add (F.mul a d) (F.mul b e)) (F.mul c f)
theorem spec_l01Inner (a b c d e f : Nat) (w : World) : Calls Try.prog 160 #[.agg #[.float .f32 a, .float .f32 b, .float .f32 c], .agg #[.float .f32 d, .float .f32 e, .float .f32 f]] w (RetF .f32 (F.inner a b c d e f) w) := by
  go_enter Try.func160, Try.ntmps160
  go_wp2
  go_ret
  exact ⟨_, rfl, opV_lt _ _ _ _ _ _, add_sim (add_sim (mul_sim (Sim.refl _ _) (Sim.refl _ _) _ _) (mul_sim (Sim.refl _ _) (Sim.refl _ _) _ _) _ _) (mul_sim (Sim.refl _ _) (Sim.refl _ _) _ _) _ _, (by repeat' (first | with_reducible exact Below.refl _ _ | with_reducible assumption | with_reducible refine below_dn ?_ _ | with_reducible refine Below.drew ?_ | with_reducible refine below_step ?_ (by assumption) | with_reducible refine Below.setCell ?_ ?_ _ | with_reducible refine Below.alloc ?_ ?_ _ | with_reducible exact Nat.le_refl _ | (simp; done) | (simp; omega) | omega))⟩
theorem impl_InnerOf (a b c d e f : Nat) (w : World) : Calls Try.prog 162 #[.agg #[.float .f32 a, .float .f32 b, .float .f32 c], .agg #[.float .f32 d, .float .f32 e, .float .f32 f]] w (RetF .f32 (F.inner a b c d e f) w) := by
  go_enter Try.func162, Try.ntmps162
  go_wp2
  go_ret
  exact ⟨_, rfl, opV_lt _ _ _ _ _ _, add_sim (add_sim (mul_sim (Sim.refl _ _) (Sim.refl _ _) _ _) (mul_sim (Sim.refl _ _) (Sim.refl _ _) _ _) _ _) (mul_sim (Sim.refl _ _) (Sim.refl _ _) _ _) _ _, (by repeat' (first | with_reducible exact Below.refl _ _ | with_reducible assumption | with_reducible refine below_dn ?_ _ | with_reducible refine Below.drew ?_ | with_reducible refine below_step ?_ (by assumption) | with_reducible refine Below.setCell ?_ ?_ _ | with_reducible refine Below.alloc ?_ ?_ _ | with_reducible exact Nat.le_refl _ | (simp; done) | (simp; omega) | omega))⟩
end Go.Proofs.Ytlhgaihfghobmaa
