/- BetweenVectors of the program returns what BetweenVectors of the reference returns, number by number (any not-a-number for any other): the law returns true. For all arguments. -/
import Derived.Test.YtbjnjllegcdlkaaW3
import Derived.Test.YtbjnjllegcdlkaaW5
import Derived.Deep.RegionHeld3
import Derived.Deep.DeepCutAuto
namespace Go.Proofs.Ytbjnjllegcdlkaa
open Go.ChangeShapes Go.WideShapes Go.ChangeAt Go.RowKit Go.Deep

set_option maxHeartbeats 4000000 in
theorem FnExactBetweenVectors_walk (a b c : Nat) (_ha : a < 4294967296) (_hb : b < 4294967296) (_hc : c < 4294967296) (d e f : Nat) (_hd : d < 4294967296) (_he : e < 4294967296) (_hf : f < 4294967296) (s : Nat) (_hs : s < 4294967296) (w : World) :
    Calls Try.prog 8 #[.agg #[.float .f32 a, .float .f32 b, .float .f32 c], .agg #[.float .f32 d, .float .f32 e, .float .f32 f], .float .f32 s] w (RetV (.bool true) w) := by
  go_enter Try.func8, Try.ntmps8
  go_upto_region 1 with fail
  go_cut [7] (fun s7 wx => ∃ g x0 y0 z0, s7 = .pointer (some ⟨g, 0, none⟩) ∧ w.heap.size + 1 < g ∧ g < wx.heap.size ∧ (wx.cell? ⟨g, 0, none⟩ = some (.float .f32 x0) ∧ wx.cell? ⟨g, 1, none⟩ = some (.float .f32 y0) ∧ wx.cell? ⟨g, 2, none⟩ = some (.float .f32 z0)) ∧ (wx.cell? ⟨w.heap.size, 0, none⟩ = some (.float .f32 a) ∧ wx.cell? ⟨w.heap.size, 1, none⟩ = some (.float .f32 b) ∧ wx.cell? ⟨w.heap.size, 2, none⟩ = some (.float .f32 c) ∧ wx.cell? ⟨w.heap.size + 1, 0, none⟩ = some (.float .f32 d) ∧ wx.cell? ⟨w.heap.size + 1, 1, none⟩ = some (.float .f32 e) ∧ wx.cell? ⟨w.heap.size + 1, 2, none⟩ = some (.float .f32 f)) ∧ (Sim .f32 x0 (F.add a (F.mul (F.sub d a) s)) ∧ Sim .f32 y0 (F.add b (F.mul (F.sub e b) s)) ∧ Sim .f32 z0 (F.add c (F.mul (F.sub f c) s))) ∧ Below w.heap.size w wx)
  case first =>
    obtain ⟨wc, hwc⟩ : ∃ wc : World, wc = ((w.alloc (.cells #[.float .f32 a, .float .f32 b, .float .f32 c] 24)).alloc (.cells #[.float .f32 d, .float .f32 e, .float .f32 f] 24)) := ⟨_, rfl⟩
    have hB0 : Below w.heap.size w wc := by rw [hwc]; exact (by repeat' (first | with_reducible exact Below.refl _ _ | with_reducible assumption | with_reducible refine below_dn ?_ _ | with_reducible refine Below.drew ?_ | with_reducible refine below_step ?_ (by assumption) | with_reducible refine Below.setCell ?_ ?_ _ | with_reducible refine Below.alloc ?_ ?_ _ | with_reducible exact Nat.le_refl _ | (simp; done) | (simp; omega) | omega))
    have hw0 : w.heap.size + 2 ≤ wc.heap.size := by rw [hwc]; simp
    have hp : wc.cell? ⟨w.heap.size, 0, none⟩ = some (.float .f32 a) ∧ wc.cell? ⟨w.heap.size, 1, none⟩ = some (.float .f32 b) ∧ wc.cell? ⟨w.heap.size, 2, none⟩ = some (.float .f32 c) ∧ wc.cell? ⟨w.heap.size + 1, 0, none⟩ = some (.float .f32 d) ∧ wc.cell? ⟨w.heap.size + 1, 1, none⟩ = some (.float .f32 e) ∧ wc.cell? ⟨w.heap.size + 1, 2, none⟩ = some (.float .f32 f) := by rw [hwc]; refine ⟨?_, ?_, ?_, ?_, ?_, ?_⟩ <;> go_simp
    obtain ⟨p0, p1, p2, p3, p4, p5⟩ := hp
    rw [← hwc]
    clear hwc
    go_region_held3 (fun W => W.cell? ⟨w.heap.size, 0, none⟩ = some (.float .f32 a) ∧ W.cell? ⟨w.heap.size, 1, none⟩ = some (.float .f32 b) ∧ W.cell? ⟨w.heap.size, 2, none⟩ = some (.float .f32 c) ∧ W.cell? ⟨w.heap.size + 1, 0, none⟩ = some (.float .f32 d) ∧ W.cell? ⟨w.heap.size + 1, 1, none⟩ = some (.float .f32 e) ∧ W.cell? ⟨w.heap.size + 1, 2, none⟩ = some (.float .f32 f)) ((first | (simp (disch := omega) only [cell_set_ne]; assumption) | (go_keep; done) | (simp (disch := omega) [cell_alloc_lt, *]; done))) (first | (go_at_call 16; refine (laws_toVector _ _ _ _).mono ?_; rintro e1 w' ⟨rfl, hb⟩; have hz := hb.size; (first | have hk := cell_keep (B := wc.heap.size + 1) hb (by first | omega | (simp; done) | (simp; omega)) | have hk := cell_keep (B := wc.heap.size) hb (by first | omega | (simp; done) | (simp; omega))); obtain ⟨hc, hf⟩ := bcell hb; (try simp at hz); (try have hzs : wc.heap.size < w'.heap.size := by omega); (try have hzq : wc.heap.size ≤ w'.heap.size := by omega); (try have hzt := Nat.lt_of_succ_le hz); (try have kz : w'.cell? ⟨wc.heap.size, 0, none⟩ = some (.float .f32 0) ∧ w'.cell? ⟨wc.heap.size, 1, none⟩ = some (.float .f32 0) ∧ w'.cell? ⟨wc.heap.size, 2, none⟩ = some (.float .f32 0) := by first | (rw [hk _ _ (by omega), hk _ _ (by omega), hk _ _ (by omega)]; exact kz) | (rw [hk _ _ (by omega), hk _ _ (by omega), hk _ _ (by omega)]; go_simp; done))) | (go_at_call 28; refine (spec_BetweenVectors _ _ _ _ _ _ _ _).mono ?_; rintro e1 w' ⟨x0, y0, z0, rfl, _, s0, t0, u0, hb⟩; have hz := hb.size; (first | have hk := cell_keep (B := wc.heap.size + 1) hb (by first | omega | (simp; done) | (simp; omega)) | have hk := cell_keep (B := wc.heap.size) hb (by first | omega | (simp; done) | (simp; omega))); obtain ⟨hc, hf⟩ := bcell hb; (try simp at hz); (try have hzs : wc.heap.size < w'.heap.size := by omega); (try have hzq : wc.heap.size ≤ w'.heap.size := by omega); (try have hzt := Nat.lt_of_succ_le hz); (try have kz : w'.cell? ⟨wc.heap.size, 0, none⟩ = some (.float .f32 0) ∧ w'.cell? ⟨wc.heap.size, 1, none⟩ = some (.float .f32 0) ∧ w'.cell? ⟨wc.heap.size, 2, none⟩ = some (.float .f32 0) := by first | (rw [hk _ _ (by omega), hk _ _ (by omega), hk _ _ (by omega)]; exact kz) | (rw [hk _ _ (by omega), hk _ _ (by omega), hk _ _ (by omega)]; go_simp; done))))
    all_goals
      go_wp2_with fail
      go_meet
      refine ⟨_, x0, y0, z0, rfl, ?_, ?_, ?_, by assumption, ⟨s0, t0, u0⟩, ?_⟩
      · first | omega | (simp; done) | (simp; omega)
      · first | (simp; omega) | (simp; done) | omega
      · first | exact set3 _ _ _ _ _ _ _ _ kz.1 kz.2.1 kz.2.2 | (with_reducible refine set3 _ _ _ _ _ (.float .f32 0) (.float .f32 0) (.float .f32 0) ?_ ?_ ?_ <;> first | (go_keep; done) | (simp (disch := omega) [*]; done)) | (go_keep; done) | (simp (disch := omega) [*]; done)
      · exact (by repeat' (first | with_reducible exact Below.refl _ _ | with_reducible assumption | with_reducible refine below_dn ?_ _ | with_reducible refine Below.drew ?_ | with_reducible refine below_step ?_ (by assumption) | with_reducible refine Below.setCell ?_ ?_ _ | with_reducible refine Below.alloc ?_ ?_ _ | with_reducible exact Nat.le_refl _ | (simp; done) | (simp; omega) | omega))
  case rest =>
    obtain ⟨g, x0, y0, z0, rfl, hg1, hg2, ⟨q0, q1, q2⟩, ⟨p0, p1, p2, p3, p4, p5⟩, ⟨s0, t0, u0⟩, hB0⟩ := hcut
    have hw0 : w.heap.size + 2 ≤ wc.heap.size := by omega
    go_upto_region 2 with fail
    go_cut [8] (fun s8 wx => ∃ k x1 y1 z1, s8 = .pointer (some ⟨k, 0, none⟩) ∧ w.heap.size + 1 < k ∧ k < wx.heap.size ∧ (wx.cell? ⟨k, 0, none⟩ = some (.float .f32 x1) ∧ wx.cell? ⟨k, 1, none⟩ = some (.float .f32 y1) ∧ wx.cell? ⟨k, 2, none⟩ = some (.float .f32 z1)) ∧ (wx.cell? ⟨w.heap.size, 0, none⟩ = some (.float .f32 a) ∧ wx.cell? ⟨w.heap.size, 1, none⟩ = some (.float .f32 b) ∧ wx.cell? ⟨w.heap.size, 2, none⟩ = some (.float .f32 c) ∧ wx.cell? ⟨w.heap.size + 1, 0, none⟩ = some (.float .f32 d) ∧ wx.cell? ⟨w.heap.size + 1, 1, none⟩ = some (.float .f32 e) ∧ wx.cell? ⟨w.heap.size + 1, 2, none⟩ = some (.float .f32 f) ∧ wx.cell? ⟨g, 0, none⟩ = some (.float .f32 x0) ∧ wx.cell? ⟨g, 1, none⟩ = some (.float .f32 y0) ∧ wx.cell? ⟨g, 2, none⟩ = some (.float .f32 z0)) ∧ (Sim .f32 x1 (F.add a (F.mul (F.sub d a) s)) ∧ Sim .f32 y1 (F.add b (F.mul (F.sub e b) s)) ∧ Sim .f32 z1 (F.add c (F.mul (F.sub f c) s))) ∧ Below w.heap.size w wx)
    case first =>
      go_region_held3 (fun W => W.cell? ⟨w.heap.size, 0, none⟩ = some (.float .f32 a) ∧ W.cell? ⟨w.heap.size, 1, none⟩ = some (.float .f32 b) ∧ W.cell? ⟨w.heap.size, 2, none⟩ = some (.float .f32 c) ∧ W.cell? ⟨w.heap.size + 1, 0, none⟩ = some (.float .f32 d) ∧ W.cell? ⟨w.heap.size + 1, 1, none⟩ = some (.float .f32 e) ∧ W.cell? ⟨w.heap.size + 1, 2, none⟩ = some (.float .f32 f) ∧ W.cell? ⟨g, 0, none⟩ = some (.float .f32 x0) ∧ W.cell? ⟨g, 1, none⟩ = some (.float .f32 y0) ∧ W.cell? ⟨g, 2, none⟩ = some (.float .f32 z0)) ((first | (simp (disch := omega) only [cell_set_ne]; assumption) | (go_keep; done) | (simp (disch := omega) [cell_alloc_lt, *]; done))) (first | (go_at_call 16; refine (laws_toVector _ _ _ _).mono ?_; rintro e1 w' ⟨rfl, hb⟩; have hz := hb.size; (first | have hk := cell_keep (B := wc.heap.size + 1) hb (by first | omega | (simp; done) | (simp; omega)) | have hk := cell_keep (B := wc.heap.size) hb (by first | omega | (simp; done) | (simp; omega))); obtain ⟨hc, hf⟩ := bcell hb; (try simp at hz); (try have hzs : wc.heap.size < w'.heap.size := by omega); (try have hzq : wc.heap.size ≤ w'.heap.size := by omega); (try have hzt := Nat.lt_of_succ_le hz); (try have kz : w'.cell? ⟨wc.heap.size, 0, none⟩ = some (.float .f32 0) ∧ w'.cell? ⟨wc.heap.size, 1, none⟩ = some (.float .f32 0) ∧ w'.cell? ⟨wc.heap.size, 2, none⟩ = some (.float .f32 0) := by first | (rw [hk _ _ (by omega), hk _ _ (by omega), hk _ _ (by omega)]; exact kz) | (rw [hk _ _ (by omega), hk _ _ (by omega), hk _ _ (by omega)]; go_simp; done))) | (go_at_call 29; refine (impl_BetweenVectors _ _ _ _ _ _ _ _).mono ?_; rintro e1 w' ⟨x1, y1, z1, rfl, _, s1, t1, u1, hb⟩; have hz := hb.size; (first | have hk := cell_keep (B := wc.heap.size + 1) hb (by first | omega | (simp; done) | (simp; omega)) | have hk := cell_keep (B := wc.heap.size) hb (by first | omega | (simp; done) | (simp; omega))); obtain ⟨hc, hf⟩ := bcell hb; (try simp at hz); (try have hzs : wc.heap.size < w'.heap.size := by omega); (try have hzq : wc.heap.size ≤ w'.heap.size := by omega); (try have hzt := Nat.lt_of_succ_le hz); (try have kz : w'.cell? ⟨wc.heap.size, 0, none⟩ = some (.float .f32 0) ∧ w'.cell? ⟨wc.heap.size, 1, none⟩ = some (.float .f32 0) ∧ w'.cell? ⟨wc.heap.size, 2, none⟩ = some (.float .f32 0) := by first | (rw [hk _ _ (by omega), hk _ _ (by omega), hk _ _ (by omega)]; exact kz) | (rw [hk _ _ (by omega), hk _ _ (by omega), hk _ _ (by omega)]; go_simp; done))))
      all_goals
        go_wp2_with fail
        go_meet
        refine ⟨_, x1, y1, z1, rfl, ?_, ?_, ?_, by assumption, ⟨s1, t1, u1⟩, ?_⟩
        · first | omega | (simp; done) | (simp; omega)
        · first | (simp; omega) | (simp; done) | omega
        · first | exact set3 _ _ _ _ _ _ _ _ kz.1 kz.2.1 kz.2.2 | (with_reducible refine set3 _ _ _ _ _ (.float .f32 0) (.float .f32 0) (.float .f32 0) ?_ ?_ ?_ <;> first | (go_keep; done) | (simp (disch := omega) [*]; done)) | (go_keep; done) | (simp (disch := omega) [*]; done)
        · exact (by repeat' (first | with_reducible exact Below.refl _ _ | with_reducible assumption | with_reducible refine below_dn ?_ _ | with_reducible refine Below.drew ?_ | with_reducible refine below_step ?_ (by assumption) | with_reducible refine Below.setCell ?_ ?_ _ | with_reducible refine Below.alloc ?_ ?_ _ | with_reducible exact Nat.le_refl _ | (simp; done) | (simp; omega) | omega))
    case rest =>
      obtain ⟨k, x1, y1, z1, rfl, hk1, hk2, ⟨r0, r1, r2⟩, ⟨p0, p1, p2, p3, p4, p5, q0, q1, q2⟩, ⟨s1, t1, u1⟩, hB1⟩ := hcut
      have s2 := s1.trans s0.symm
      have t2 := t1.trans t0.symm
      have u2 := u1.trans u0.symm
      go_wp2_with (go_at_call 18; refine (laws_eqVector _ _ _ _ _ _ s2 t2 u2 _).mono ?_; rintro e1 w' ⟨rfl, hb⟩; obtain ⟨hc, hf⟩ := bcell hb)
      go_ret
      exact ⟨rfl, (by repeat' (first | with_reducible exact Below.refl _ _ | with_reducible assumption | with_reducible refine below_dn ?_ _ | with_reducible refine Below.drew ?_ | with_reducible refine below_step ?_ (by assumption) | with_reducible refine Below.setCell ?_ ?_ _ | with_reducible refine Below.alloc ?_ ?_ _ | with_reducible exact Nat.le_refl _ | (simp; done) | (simp; omega) | omega))⟩

set_option maxRecDepth 100000 in
theorem FnExactBetweenVectors_lifted (os : Os) (started : os.Started) (H : Type) (enc : TypeId × Value → H) :
    ReturnsInHanded {} Try.checked os 8 .any (Rows.fnExactBetweenVectorsSpec.pre6 enc Try.prog Try.f8 Rows.fnExactBetweenVectorsRow.domain false) (Rows.fnExactBetweenVectorsSpec.post enc Try.prog Try.f8 false true false false) := by
  refine returnsInHanded_of_change (C := Try.checked) own started (by kernel_rfl) Try.func8
    (ChangeSpec.witness6 (enc := enc) (C := Try.checked) false ⟨#[], #[.agg #[.float .f32 0, .float .f32 0, .float .f32 0], .agg #[.float .f32 0, .float .f32 0, .float .f32 0], .float .f32 0], []⟩ 8 (by kernel_rfl) (by kernel_rfl) (by kernel_rfl) (by kernel_rfl)) ?_
  intro W base args ds gs before hval0 hW _ _
  have hval : ∀ (j : Nat) t v, Try.f8.params[j]? = some t → args[j]? = some v → Value.okWide Try.prog W .any base t v := hval0
  have hW0 := hW
  obtain ⟨p, q, hA0, hV, _, _, _⟩ := hW
  obtain ⟨rfl, rfl⟩ := trodVars_none hV
  have hA : DataW.TrodAll enc Try.prog W 0 (fun _ => true) true Try.f8.params.toList args.toList ds p := hA0
  rw [Try.params8] at hA hval
  obtain ⟨v0, vs0, d0, ds0, p0, q0, hargs, rfl, _, h0, r0⟩ := trodAll_cons hA
  obtain ⟨v1, vs1, d1, ds1, p1, q1, rfl, rfl, _, h1, r1⟩ := trodAll_cons r0
  obtain ⟨v2, vs2, d2, ds2, p2, q2, rfl, rfl, _, h2, r2⟩ := trodAll_cons r1
  obtain ⟨rfl, rfl, _⟩ := trodAll_nil r2
  obtain rfl : args = #[v0, v1, v2] := by cases args; simp_all
  obtain ⟨x0, y0, z0, rfl, wx0, wy0, wz0⟩ := open_vec Try.underlying24 (by kernel_rfl) (by kernel_rfl) rfl rfl rfl Try.underlying22 (hval 0 24 v0 rfl rfl) h0
  obtain ⟨x1, y1, z1, rfl, wx1, wy1, wz1⟩ := open_vec Try.underlying24 (by kernel_rfl) (by kernel_rfl) rfl rfl rfl Try.underlying22 (hval 1 24 v1 rfl rfl) h1
  obtain ⟨a2, rfl, _, _, w2⟩ := open_float Try.underlying22 (hval 2 22 v2 rfl rfl) h2
  clear hA0 hval0
  refine (FnExactBetweenVectors_walk x0 y0 z0 wx0 wy0 wz0 x1 y1 z1 wx1 wy1 wz1 a2 (f32_lt w2) W).mono fun e W' ⟨he, hb⟩ => ?_
  subst he
  exact ⟨_, rfl, law_post Try.laidOut hW0 rfl rfl (by kernel_rfl) Try.underlying4 (by kernel_rfl) hb⟩

theorem FnExactBetweenVectors_holds : Rows.FnExactBetweenVectorsSaid :=
  OpenClaim.holds_of_wide 8 Try.f8 rfl rfl rfl rfl rfl rfl rfl ⟨rfl, rfl, rfl, rfl, rfl⟩ rfl rfl rfl rfl rfl (by kernel_rfl) Try.func8 (by kernel_rfl)
    (of_decide_eq_true (by kernel_rfl)) (by unfold Func.isWrapper; first | (rw [if_pos (by decide +kernel)]; kernel_rfl) | (rw [if_neg (by decide +kernel)]; exact ⟨rfl, rfl⟩))
    (fun os started H enc _ => FnExactBetweenVectors_lifted os started H enc)
#print axioms FnExactBetweenVectors_holds
end Go.Proofs.Ytbjnjllegcdlkaa
