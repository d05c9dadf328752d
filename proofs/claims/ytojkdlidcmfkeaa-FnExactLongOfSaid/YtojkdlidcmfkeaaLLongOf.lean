/- LongOf of the program returns what LongOf of the reference returns (any not-a-number for any other): the law returns true. For every vector. -/
import Derived.Test.YtojkdlidcmfkeaaW8
import Derived.Deep.RegionHeld3
namespace Go.Proofs.Ytojkdlidcmfkeaa
open Go.ChangeShapes Go.WideShapes Go.ChangeAt Go.RowKit Go.Deep

set_option maxHeartbeats 1000000 in
theorem FnExactLongOf_walk (a b c : Nat) (_ha : a < 4294967296) (_hb : b < 4294967296) (_hc : c < 4294967296) (w : World) : Calls Try.prog 7 #[.agg #[.float .f32 a, .float .f32 b, .float .f32 c]] w (RetV (.bool true) w) := by
  go_enter Try.func7, Try.ntmps7
  go_wp2_with fail
  refine (laws_toVector _ _ _ _).mono ?_
  rintro e1 w1 ⟨rfl, hb1⟩
  have q0 : w1.cell? ⟨w.heap.size, 0, none⟩ = some (.float .f32 a) := by rw [hb1.cell (by simp)]; go_simp
  have q1 : w1.cell? ⟨w.heap.size, 1, none⟩ = some (.float .f32 b) := by rw [hb1.cell (by simp)]; go_simp
  have q2 : w1.cell? ⟨w.heap.size, 2, none⟩ = some (.float .f32 c) := by rw [hb1.cell (by simp)]; go_simp
  have z1 : w.heap.size < w1.heap.size := by have := hb1.size; simp at this; omega
  have B1 : Below w.heap.size w w1 := (by repeat' (first | with_reducible exact Below.refl _ _ | with_reducible assumption | with_reducible refine below_dn ?_ _ | with_reducible refine Below.drew ?_ | with_reducible refine below_step ?_ (by assumption) | with_reducible refine Below.setCell ?_ ?_ _ | with_reducible refine Below.alloc ?_ ?_ _ | with_reducible exact Nat.le_refl _ | (simp; done) | (simp; omega) | omega))
  clear hb1
  go_wp2_with fail
  refine (spec_LongOf _ _ _ _).mono ?_
  rintro e1 w2 ⟨r0, rfl, _, s0, hb2⟩
  have p0 : w2.cell? ⟨w.heap.size, 0, none⟩ = some (.float .f32 a) := by rw [hb2.cell z1]; exact q0
  have p1 : w2.cell? ⟨w.heap.size, 1, none⟩ = some (.float .f32 b) := by rw [hb2.cell z1]; exact q1
  have p2 : w2.cell? ⟨w.heap.size, 2, none⟩ = some (.float .f32 c) := by rw [hb2.cell z1]; exact q2
  have B2 : Below w.heap.size w w2 := below_step B1 hb2
  have S0 := Lib.hid s0
  clear hb2 q0 q1 q2 B1 s0
  go_wp2_with fail
  refine (laws_toVector _ _ _ _).mono ?_
  rintro e1 w3 ⟨rfl, hb3⟩
  have B3 : Below w.heap.size w w3 := below_step B2 hb3
  clear hb3 p0 p1 p2 B2
  go_wp2_with fail
  refine (impl_LongOf _ _ _ _).mono ?_
  rintro e1 w4 ⟨r1, rfl, _, s1, hb4⟩
  have B4 : Below w.heap.size w w4 := below_step B3 hb4
  have S1 := Lib.hid (s1.trans S0.out.symm)
  clear hb4 s1 B3
  go_wp2_with (go_at_call 13; refine (laws_sameFloat _ _ (widen_sim S1.out _ _ _ _) _).mono ?_; rintro e w' ⟨rfl, n, rfl⟩)
  go_ret
  exact ⟨rfl, below_dn B4 _⟩
set_option maxRecDepth 100000 in
theorem FnExactLongOf_lifted (os : Os) (started : os.Started) (H : Type) (enc : TypeId × Value → H) :
    ReturnsInHanded {} Try.checked os 7 .any (Rows.fnExactLongOfSpec.pre6 enc Try.prog Try.f7 Rows.fnExactLongOfRow.domain false) (Rows.fnExactLongOfSpec.post enc Try.prog Try.f7 false true false false) := by
  refine returnsInHanded_of_change (C := Try.checked) own started (by kernel_rfl) Try.func7
    (ChangeSpec.witness6 (enc := enc) (C := Try.checked) false ⟨#[], #[.agg #[.float .f32 0, .float .f32 0, .float .f32 0]], []⟩ 8 (by kernel_rfl) (by kernel_rfl) (by kernel_rfl) (by kernel_rfl)) ?_
  intro W base args ds gs before hval0 hW _ _
  have hval : ∀ (j : Nat) t v, Try.f7.params[j]? = some t → args[j]? = some v → Value.okWide Try.prog W .any base t v := hval0
  have hW0 := hW
  obtain ⟨p, q, hA0, hV, _, _, _⟩ := hW
  obtain ⟨rfl, rfl⟩ := trodVars_none hV
  have hA : DataW.TrodAll enc Try.prog W 0 (fun _ => true) true Try.f7.params.toList args.toList ds p := hA0
  rw [Try.params7] at hA hval
  obtain ⟨v0, vs0, d0, ds0, p0, q0, hargs, rfl, _, h0, r0⟩ := trodAll_cons hA
  obtain ⟨rfl, rfl, _⟩ := trodAll_nil r0
  obtain rfl : args = #[v0] := by cases args; simp_all
  obtain ⟨x0, y0, z0, rfl, wx0, wy0, wz0⟩ := open_vec Try.underlying41 (by kernel_rfl) (by kernel_rfl) rfl rfl rfl Try.underlying23 (hval 0 41 v0 rfl rfl) h0
  clear hA0 hval0
  refine (FnExactLongOf_walk x0 y0 z0 wx0 wy0 wz0 W).mono fun e W' ⟨he, hb⟩ => ?_
  subst he
  exact ⟨_, rfl, law_post Try.laidOut hW0 rfl rfl (by kernel_rfl) Try.underlying4 (by kernel_rfl) hb⟩

theorem FnExactLongOf_holds : Rows.FnExactLongOfSaid :=
  OpenClaim.holds_of_wide 7 Try.f7 rfl rfl rfl rfl rfl rfl rfl ⟨rfl, rfl, rfl, rfl, rfl⟩ rfl rfl rfl rfl rfl (by kernel_rfl) Try.func7 (by kernel_rfl)
    (of_decide_eq_true (by kernel_rfl)) (by unfold Func.isWrapper; first | (rw [if_pos (by decide +kernel)]; kernel_rfl) | (rw [if_neg (by decide +kernel)]; exact ⟨rfl, rfl⟩))
    (fun os started H enc _ => FnExactLongOf_lifted os started H enc)
#print axioms FnExactLongOf_holds
end Go.Proofs.Ytojkdlidcmfkeaa
