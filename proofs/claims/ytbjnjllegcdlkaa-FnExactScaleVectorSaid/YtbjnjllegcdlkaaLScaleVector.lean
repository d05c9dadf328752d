/- ScaleVector of the program returns what ScaleVector of the reference returns, number by number (any not-a-number for any other): the law returns true. For all arguments. -/
import Derived.Test.YtbjnjllegcdlkaaW3
import Derived.Deep.RegionHeld3
namespace Go.Proofs.Ytbjnjllegcdlkaa
open Go.ChangeShapes Go.WideShapes Go.ChangeAt Go.RowKit Go.Deep

set_option maxHeartbeats 1000000 in
theorem FnExactScaleVector_walk (a b c : Nat) (_ha : a < 4294967296) (_hb : b < 4294967296) (_hc : c < 4294967296) (s : Nat) (_hs : s < 4294967296) (w : World) : Calls Try.prog 3 #[.agg #[.float .f32 a, .float .f32 b, .float .f32 c], .float .f32 s] w (RetV (.bool true) w) := by
  go_enter Try.func3, Try.ntmps3
  go_wp2_with fail
  refine (laws_toVector _ _ _ _).mono ?_
  rintro e1 w1 ⟨rfl, hb1⟩
  have q0 : w1.cell? ⟨w.heap.size, 0, none⟩ = some (.float .f32 a) := by rw [hb1.cell (by simp)]; go_simp
  have q1 : w1.cell? ⟨w.heap.size, 1, none⟩ = some (.float .f32 b) := by rw [hb1.cell (by simp)]; go_simp
  have q2 : w1.cell? ⟨w.heap.size, 2, none⟩ = some (.float .f32 c) := by rw [hb1.cell (by simp)]; go_simp
  have z1 : w.heap.size < w1.heap.size := by have := hb1.size; simp at this; omega
  have B1 : Below w.heap.size w w1 := (by repeat' (first | with_reducible exact Below.refl _ _ | with_reducible assumption | with_reducible refine below_dn ?_ _ | with_reducible refine Below.drew ?_ | with_reducible refine below_step ?_ (by assumption) | with_reducible refine Below.setCell ?_ ?_ _ | with_reducible refine Below.alloc ?_ ?_ _ | with_reducible exact Nat.le_refl _ | (simp; done) | (simp; omega) | omega))
  clear hb1
  go_wp2_with fail
  refine (spec_ScaleVector _ _ _ _ _).mono ?_
  rintro e1 w2 ⟨x0, y0, z0, rfl, _, s0, t0, u0, hb2⟩
  have p0 : w2.cell? ⟨w.heap.size, 0, none⟩ = some (.float .f32 a) := by rw [hb2.cell z1]; exact q0
  have p1 : w2.cell? ⟨w.heap.size, 1, none⟩ = some (.float .f32 b) := by rw [hb2.cell z1]; exact q1
  have p2 : w2.cell? ⟨w.heap.size, 2, none⟩ = some (.float .f32 c) := by rw [hb2.cell z1]; exact q2
  have z2 : w.heap.size < w2.heap.size := Nat.lt_of_lt_of_le z1 hb2.size
  have B2 : Below w.heap.size w w2 := below_step B1 hb2
  have S0 := Lib.hid s0
  have T0 := Lib.hid t0
  have U0 := Lib.hid u0
  clear hb2 q0 q1 q2 B1 s0 t0 u0 z1
  go_wp2_with fail
  refine (laws_toVector _ _ _ _).mono ?_
  rintro e1 w3 ⟨rfl, hb3⟩
  have v0 : w3.cell? ⟨w2.heap.size, 0, none⟩ = some (.float .f32 x0) := by rw [hb3.cell (by simp)]; go_simp
  have v1 : w3.cell? ⟨w2.heap.size, 1, none⟩ = some (.float .f32 y0) := by rw [hb3.cell (by simp)]; go_simp
  have v2 : w3.cell? ⟨w2.heap.size, 2, none⟩ = some (.float .f32 z0) := by rw [hb3.cell (by simp)]; go_simp
  have z3 : w2.heap.size < w3.heap.size := by have := hb3.size; simp at this; omega
  have B3 : Below w.heap.size w w3 := (by repeat' (first | with_reducible exact Below.refl _ _ | with_reducible assumption | with_reducible refine below_dn ?_ _ | with_reducible refine Below.drew ?_ | with_reducible refine below_step ?_ (by assumption) | with_reducible refine Below.setCell ?_ ?_ _ | with_reducible refine Below.alloc ?_ ?_ _ | with_reducible exact Nat.le_refl _ | (simp; done) | (simp; omega) | omega))
  clear hb3 p0 p1 p2 B2
  go_wp2_with fail
  refine (impl_ScaleVector _ _ _ _ _).mono ?_
  rintro e1 w4 ⟨x1, y1, z1, rfl, _, s1, t1, u1, hb4⟩
  have r0 : w4.cell? ⟨w2.heap.size, 0, none⟩ = some (.float .f32 x0) := by rw [hb4.cell z3]; exact v0
  have r1 : w4.cell? ⟨w2.heap.size, 1, none⟩ = some (.float .f32 y0) := by rw [hb4.cell z3]; exact v1
  have r2 : w4.cell? ⟨w2.heap.size, 2, none⟩ = some (.float .f32 z0) := by rw [hb4.cell z3]; exact v2
  have z4 : w2.heap.size < w4.heap.size := Nat.lt_of_lt_of_le z3 hb4.size
  have B4 : Below w.heap.size w w4 := below_step B3 hb4
  have S1 := Lib.hid (s1.trans S0.out.symm)
  have T1 := Lib.hid (t1.trans T0.out.symm)
  have U1 := Lib.hid (u1.trans U0.out.symm)
  clear hb4 s1 t1 u1 B3 v0 v1 v2 z3
  go_wp2_with fail
  refine (laws_eqVector _ _ _ _ _ _ S1.out T1.out U1.out _).mono ?_
  rintro e1 w5 ⟨rfl, hb5⟩
  have B5 : Below w.heap.size w w5 := (by repeat' (first | with_reducible exact Below.refl _ _ | with_reducible assumption | with_reducible refine below_dn ?_ _ | with_reducible refine Below.drew ?_ | with_reducible refine below_step ?_ (by assumption) | with_reducible refine Below.setCell ?_ ?_ _ | with_reducible refine Below.alloc ?_ ?_ _ | with_reducible exact Nat.le_refl _ | (simp; done) | (simp; omega) | omega))
  clear hb5
  go_wp2_with fail
  go_ret
  exact ⟨rfl, B5⟩
set_option maxRecDepth 100000 in
theorem FnExactScaleVector_lifted (os : Os) (started : os.Started) (H : Type) (enc : TypeId × Value → H) :
    ReturnsInHanded {} Try.checked os 3 .any (Rows.fnExactScaleVectorSpec.pre6 enc Try.prog Try.f3 Rows.fnExactScaleVectorRow.domain false) (Rows.fnExactScaleVectorSpec.post enc Try.prog Try.f3 false true false false) := by
  refine returnsInHanded_of_change (C := Try.checked) own started (by kernel_rfl) Try.func3
    (ChangeSpec.witness6 (enc := enc) (C := Try.checked) false ⟨#[], #[.agg #[.float .f32 0, .float .f32 0, .float .f32 0], .float .f32 0], []⟩ 8 (by kernel_rfl) (by kernel_rfl) (by kernel_rfl) (by kernel_rfl)) ?_
  intro W base args ds gs before hval0 hW _ _
  have hval : ∀ (j : Nat) t v, Try.f3.params[j]? = some t → args[j]? = some v → Value.okWide Try.prog W .any base t v := hval0
  have hW0 := hW
  obtain ⟨p, q, hA0, hV, _, _, _⟩ := hW
  obtain ⟨rfl, rfl⟩ := trodVars_none hV
  have hA : DataW.TrodAll enc Try.prog W 0 (fun _ => true) true Try.f3.params.toList args.toList ds p := hA0
  rw [Try.params3] at hA hval
  obtain ⟨v0, vs0, d0, ds0, p0, q0, hargs, rfl, _, h0, r0⟩ := trodAll_cons hA
  obtain ⟨v1, vs1, d1, ds1, p1, q1, rfl, rfl, _, h1, r1⟩ := trodAll_cons r0
  obtain ⟨rfl, rfl, _⟩ := trodAll_nil r1
  obtain rfl : args = #[v0, v1] := by cases args; simp_all
  obtain ⟨x0, y0, z0, rfl, wx0, wy0, wz0⟩ := open_vec Try.underlying24 (by kernel_rfl) (by kernel_rfl) rfl rfl rfl Try.underlying22 (hval 0 24 v0 rfl rfl) h0
  obtain ⟨a1, rfl, _, _, w1⟩ := open_float Try.underlying22 (hval 1 22 v1 rfl rfl) h1
  clear hA0 hval0
  refine (FnExactScaleVector_walk x0 y0 z0 wx0 wy0 wz0 a1 (f32_lt w1) W).mono fun e W' ⟨he, hb⟩ => ?_
  subst he
  exact ⟨_, rfl, law_post Try.laidOut hW0 rfl rfl (by kernel_rfl) Try.underlying4 (by kernel_rfl) hb⟩

theorem FnExactScaleVector_holds : Rows.FnExactScaleVectorSaid :=
  OpenClaim.holds_of_wide 3 Try.f3 rfl rfl rfl rfl rfl rfl rfl ⟨rfl, rfl, rfl, rfl, rfl⟩ rfl rfl rfl rfl rfl (by kernel_rfl) Try.func3 (by kernel_rfl)
    (of_decide_eq_true (by kernel_rfl)) (by unfold Func.isWrapper; first | (rw [if_pos (by decide +kernel)]; kernel_rfl) | (rw [if_neg (by decide +kernel)]; exact ⟨rfl, rfl⟩))
    (fun os started H enc _ => FnExactScaleVector_lifted os started H enc)
#print axioms FnExactScaleVector_holds
end Go.Proofs.Ytbjnjllegcdlkaa
