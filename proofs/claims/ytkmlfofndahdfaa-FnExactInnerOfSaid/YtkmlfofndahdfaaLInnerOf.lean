/- InnerOf of the program returns what InnerOf of the reference returns (any not-a-number for any other): the law returns true. For all pairs of vectors. -/
import Derived.Test.YtkmlfofndahdfaaW3
import Derived.Deep.RegionHeld3
namespace Go.Proofs.Ytkmlfofndahdfaa
open Go.ChangeShapes Go.WideShapes Go.ChangeAt Go.RowKit Go.Deep

set_option maxHeartbeats 1000000 in
theorem FnExactInnerOf_walk (a b c : Nat) (_ha : a < 4294967296) (_hb : b < 4294967296) (_hc : c < 4294967296) (d e f : Nat) (_hd : d < 4294967296) (_he : e < 4294967296) (_hf : f < 4294967296) (w : World) :
    Calls Try.prog 11 #[.agg #[.float .f32 a, .float .f32 b, .float .f32 c], .agg #[.float .f32 d, .float .f32 e, .float .f32 f]] w (RetV (.bool true) w) := by
  go_enter Try.func11, Try.ntmps11
  go_wp2_with fail
  go_region_held3 (fun W => W.cell? ⟨w.heap.size, 0, none⟩ = some (.float .f32 a) ∧ W.cell? ⟨w.heap.size, 1, none⟩ = some (.float .f32 b) ∧ W.cell? ⟨w.heap.size, 2, none⟩ = some (.float .f32 c) ∧ W.cell? ⟨w.heap.size + 1, 0, none⟩ = some (.float .f32 d) ∧ W.cell? ⟨w.heap.size + 1, 1, none⟩ = some (.float .f32 e) ∧ W.cell? ⟨w.heap.size + 1, 2, none⟩ = some (.float .f32 f)) ((first | go_keep | (simp (disch := omega) [*]; done))) (first | (go_at_call 31; refine (laws_toVector _ _ _ _).mono ?_; rintro e1 w' ⟨rfl, hb⟩; have hz := hb.size; have hk := cell_keep (B := w.heap.size + 2) hb (by first | omega | (simp; done) | (simp; omega)); (try simp at hz)) | (go_at_call 30; refine (spec_InnerOf _ _ _ _ _ _ _).mono ?_; rintro e1 w' ⟨r0, rfl, _, s0, hb⟩; have hz := hb.size; have hk := cell_keep (B := w.heap.size + 2) hb (by first | omega | (simp; done) | (simp; omega)); (try simp at hz)))
  rename_i hHeld
  obtain ⟨g0, g1, g2, g3, g4, g5⟩ := hHeld
  go_wp2_with fail
  go_region_held3 (fun W => W.cell? ⟨w.heap.size, 0, none⟩ = some (.float .f32 a) ∧ W.cell? ⟨w.heap.size, 1, none⟩ = some (.float .f32 b) ∧ W.cell? ⟨w.heap.size, 2, none⟩ = some (.float .f32 c) ∧ W.cell? ⟨w.heap.size + 1, 0, none⟩ = some (.float .f32 d) ∧ W.cell? ⟨w.heap.size + 1, 1, none⟩ = some (.float .f32 e) ∧ W.cell? ⟨w.heap.size + 1, 2, none⟩ = some (.float .f32 f)) ((first | go_keep | (simp (disch := omega) [*]; done))) (first | (go_at_call 31; refine (laws_toVector _ _ _ _).mono ?_; rintro e1 w' ⟨rfl, hb⟩; have hz := hb.size; have hk := cell_keep (B := w.heap.size + 2) hb (by first | omega | (simp; done) | (simp; omega)); (try simp at hz)) | (go_at_call 32; refine (impl_InnerOf _ _ _ _ _ _ _).mono ?_; rintro e1 w' ⟨r1, rfl, _, s1, hb⟩; have s2 := s1.trans s0.symm; have hz := hb.size; have hk := cell_keep (B := w.heap.size + 2) hb (by first | omega | (simp; done) | (simp; omega)); (try simp at hz)))
  go_wp2_with (go_at_call 19; refine (laws_sameFloat _ _ (widen_sim s2 _ _ _ _) _).mono ?_; rintro e1 w' ⟨rfl, n, rfl⟩)
  go_ret
  exact ⟨rfl, (by repeat' (first | with_reducible exact Below.refl _ _ | with_reducible assumption | with_reducible refine below_dn ?_ _ | with_reducible refine Below.drew ?_ | with_reducible refine below_step ?_ (by assumption) | with_reducible refine Below.setCell ?_ ?_ _ | with_reducible refine Below.alloc ?_ ?_ _ | with_reducible exact Nat.le_refl _ | (simp; done) | (simp; omega) | omega))⟩

set_option maxRecDepth 100000 in
theorem FnExactInnerOf_lifted (os : Os) (started : os.Started) (H : Type) (enc : TypeId × Value → H) :
    ReturnsInHanded {} Try.checked os 11 .any (Rows.fnExactInnerOfSpec.pre6 enc Try.prog Try.f11 Rows.fnExactInnerOfRow.domain false) (Rows.fnExactInnerOfSpec.post enc Try.prog Try.f11 false true false false) := by
  refine returnsInHanded_of_change (C := Try.checked) own started (by kernel_rfl) Try.func11
    (ChangeSpec.witness6 (enc := enc) (C := Try.checked) false ⟨#[], #[.agg #[.float .f32 0, .float .f32 0, .float .f32 0], .agg #[.float .f32 0, .float .f32 0, .float .f32 0]], []⟩ 8 (by kernel_rfl) (by kernel_rfl) (by kernel_rfl) (by kernel_rfl)) ?_
  intro W base args ds gs before hval0 hW _ _
  have hval : ∀ (j : Nat) t v, Try.f11.params[j]? = some t → args[j]? = some v → Value.okWide Try.prog W .any base t v := hval0
  have hW0 := hW
  obtain ⟨p, q, hA0, hV, _, _, _⟩ := hW
  obtain ⟨rfl, rfl⟩ := trodVars_none hV
  have hA : DataW.TrodAll enc Try.prog W 0 (fun _ => true) true Try.f11.params.toList args.toList ds p := hA0
  rw [Try.params11] at hA hval
  obtain ⟨v0, vs0, d0, ds0, p0, q0, hargs, rfl, _, h0, r0⟩ := trodAll_cons hA
  obtain ⟨v1, vs1, d1, ds1, p1, q1, rfl, rfl, _, h1, r1⟩ := trodAll_cons r0
  obtain ⟨rfl, rfl, _⟩ := trodAll_nil r1
  obtain rfl : args = #[v0, v1] := by cases args; simp_all
  obtain ⟨x0, y0, z0, rfl, wx0, wy0, wz0⟩ := open_vec Try.underlying36 (by kernel_rfl) (by kernel_rfl) rfl rfl rfl Try.underlying23 (hval 0 36 v0 rfl rfl) h0
  obtain ⟨x1, y1, z1, rfl, wx1, wy1, wz1⟩ := open_vec Try.underlying36 (by kernel_rfl) (by kernel_rfl) rfl rfl rfl Try.underlying23 (hval 1 36 v1 rfl rfl) h1
  clear hA0 hval0
  refine (FnExactInnerOf_walk x0 y0 z0 wx0 wy0 wz0 x1 y1 z1 wx1 wy1 wz1 W).mono fun e W' ⟨he, hb⟩ => ?_
  subst he
  exact ⟨_, rfl, law_post Try.laidOut hW0 rfl rfl (by kernel_rfl) Try.underlying4 (by kernel_rfl) hb⟩

theorem FnExactInnerOf_holds : Rows.FnExactInnerOfSaid :=
  OpenClaim.holds_of_wide 11 Try.f11 rfl rfl rfl rfl rfl rfl rfl ⟨rfl, rfl, rfl, rfl, rfl⟩ rfl rfl rfl rfl rfl (by kernel_rfl) Try.func11 (by kernel_rfl)
    (of_decide_eq_true (by kernel_rfl)) (by unfold Func.isWrapper; first | (rw [if_pos (by decide +kernel)]; kernel_rfl) | (rw [if_neg (by decide +kernel)]; exact ⟨rfl, rfl⟩))
    (fun os started H enc _ => FnExactInnerOf_lifted os started H enc)
#print axioms FnExactInnerOf_holds
end Go.Proofs.Ytkmlfofndahdfaa
