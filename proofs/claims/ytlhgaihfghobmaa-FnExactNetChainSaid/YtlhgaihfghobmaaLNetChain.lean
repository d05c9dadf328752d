/- NetChain of the program returns what NetChain of the reference returns, a chain of its own. -/
import Derived.Test.YtlhgaihfghobmaaMx
import Derived.Test.YtlhgaihfghobmaaMv
import Derived.Test.YtlhgaihfghobmaaRl
import Derived.Test.YtlhgaihfghobmaaCf
import Derived.Test.YtlhgaihfghobmaaEg
import Derived.Test.YtlhgaihfghobmaaKj
import Derived.Deep.DeepCutAuto
namespace Go.Proofs.Ytlhgaihfghobmaa
open Go.ChangeShapes Go.WideShapes Go.ChangeAt Go.RowKit Go.Deep

set_option maxHeartbeats 8000000 in
set_option maxRecDepth 100000 in
theorem FnExactNetChain_walk (q : Int) (_h1q : -9223372036854775808 ≤ q) (_h2q : q ≤ 9223372036854775807) (s : Int) (_h1s : -9223372036854775808 ≤ s) (_h2s : s ≤ 9223372036854775807) (l : Nat) (_h1l : l < 4294967296) (x : Nat) (_h1x : x < 4294967296) (w : World) :
    Calls Try.prog 8 #[.int .i64 q, .int .i64 s, .float .f32 l, .float .f32 x] w (RetV (.bool true) w) := by
  obtain ⟨z, hz⟩ : ∃ z : Bool, z = (true && ((inI q 2 24 && (inI s 2 24 && (decide (q * s ≤ 24) && (abv l && abv x)))) && okC (q.toNat * s.toNat) (q.toNat * s.toNat) (q.toNat * s.toNat) ((netL l q.toNat s.toNat (q.toNat * s.toNat)).length) (netE l x q.toNat s.toNat))) := ⟨_, rfl⟩
  obtain ⟨l1, hl1⟩ : ∃ lz : Nat, lz = pk z ((q.toNat * s.toNat)) := ⟨_, rfl⟩
  have j1 : l1 ≤ 1048576 := by rw [hl1, hz]; exact pk_okC.1
  have HL1 := Lib.hid hl1
  clear hl1
  obtain ⟨l2, hl2⟩ : ∃ lz : Nat, lz = pk z ((q.toNat * s.toNat)) := ⟨_, rfl⟩
  have j2 : l2 ≤ 1048576 := by rw [hl2, hz]; exact pk_okC.2.1
  have HL2 := Lib.hid hl2
  clear hl2
  obtain ⟨l3, hl3⟩ : ∃ lz : Nat, lz = pk z ((q.toNat * s.toNat)) := ⟨_, rfl⟩
  have j3 : l3 ≤ 1048576 := by rw [hl3, hz]; exact pk_okC.2.2.1
  have HL3 := Lib.hid hl3
  clear hl3
  obtain ⟨l4, hl4⟩ : ∃ lz : Nat, lz = pk z (((netL l q.toNat s.toNat (q.toNat * s.toNat)).length)) := ⟨_, rfl⟩
  have j4 : l4 ≤ 1048576 := by rw [hl4, hz]; exact pk_okC.2.2.2
  have HL4 := Lib.hid hl4
  clear hl4
  have HZ := Lib.hid hz
  clear hz
  have hbb : (z != z) = false := by simp
  have hc1 : ¬ (cnt l1 l2 l3 l4 < 0) := by unfold cnt; omega
  have hc2 : (cnt l1 l2 l3 l4 != cnt l1 l2 l3 l4) = false := by simp
  go_enter Try.func8, Try.ntmps8
  go_wp2_with fail
  refine (spec_NetChain q s l x _).mono ?_
  rintro e w1 hr1
  rw [← HZ.out] at hr1
  obtain ⟨S1, S2, S3, S4, d1, d2, d3, d4, DS, rfl, hs1, ho1, hd1, hb1⟩ := RetM.g hr1 HL1.out HL2.out HL3.out HL4.out
  have SS := Lib.hid hs1
  have O1 := Lib.hid ho1
  have D1 := Lib.hid hd1
  have B1 := Lib.hid hb1
  have B1s := hb1.size
  clear hr1 hs1 ho1 hd1 hb1
  go_wp2_with fail
  refine (impl_NetChain q s l x _).mono ?_
  rintro e w2 hr2
  rw [← HZ.out] at hr2
  obtain ⟨G1, G2, G3, G4, f1, f2, f3, f4, DG, rfl, hs2, ho2, hd2, hb2⟩ := RetM.g hr2 HL1.out HL2.out HL3.out HL4.out
  have XS2 := Lib.hid ((Bx.new_ w1 32 (.slice S1 l1 d1) (.slice S2 l2 d2) (.slice S3 l3 d3) (.slice S4 l4 d4)).go hb2)
  have OS2 := Lib.hid ((O1.out.go (w' := w1.alloc (.cells #[.slice S1 l1 d1, .slice S2 l2 d2, .slice S3 l3 d3, .slice S4 l4 d4] 32)) (by repeat' (first | with_reducible exact Below.refl _ _ | with_reducible assumption | with_reducible refine below_dn ?_ _ | with_reducible refine Below.drew ?_ | with_reducible refine below_step ?_ (by assumption) | with_reducible refine Below.setCell ?_ ?_ _ | with_reducible refine Below.alloc ?_ ?_ _ | with_reducible exact Nat.le_refl _ | (simp; done) | (simp; omega) | omega))).go hb2)
  have B2 := Lib.hid (show Below w.heap.size w w2 from below_step (below_step B1.out (w3 := w1.alloc _) (by repeat' (first | with_reducible exact Below.refl _ _ | with_reducible assumption | with_reducible refine below_dn ?_ _ | with_reducible refine Below.drew ?_ | with_reducible refine below_step ?_ (by assumption) | with_reducible refine Below.setCell ?_ ?_ _ | with_reducible refine Below.alloc ?_ ?_ _ | with_reducible exact Nat.le_refl _ | (simp; done) | (simp; omega) | omega))) hb2)
  have SG := Lib.hid hs2
  have OG2 := Lib.hid ho2
  have y12 : w1.heap.size < w2.heap.size := by have := hb2.size; simp at this; omega
  have DG2 := Lib.hid (show Bds (w1.heap.size + 1) w2.heap.size G1 G2 G3 G4 l1 l2 l3 l4 from by simpa using hd2)
  clear hr2 hs2 ho2 hd2 hb2 O1 B1
  obtain ⟨v0, v1, v2, v3, vf⟩ := XS2.out.facts
  have lv := XS2.out.lt
  go_wp2_with fail
  refine (laws_eqChain _ _ _ _ _ _ _ _ _ _ _ _ _ _ _ _ l1 l2 l3 l4 _ _ DG DS j1 j2 j3 j4 (SG.out.trans SS.out.symm) _ (OG2.out.go ?hg) (OS2.out.go ?hs)).mono ?_
  case hg => exact (by repeat' (first | with_reducible exact Below.refl _ _ | with_reducible assumption | with_reducible refine below_dn ?_ _ | with_reducible refine Below.drew ?_ | with_reducible refine below_step ?_ (by assumption) | with_reducible refine Below.setCell ?_ ?_ _ | with_reducible refine Below.alloc ?_ ?_ _ | with_reducible exact Nat.le_refl _ | (simp; done) | (simp; omega) | omega))
  case hs => exact (by repeat' (first | with_reducible exact Below.refl _ _ | with_reducible assumption | with_reducible refine below_dn ?_ _ | with_reducible refine Below.drew ?_ | with_reducible refine below_step ?_ (by assumption) | with_reducible refine Below.setCell ?_ ?_ _ | with_reducible refine Below.alloc ?_ ?_ _ | with_reducible exact Nat.le_refl _ | (simp; done) | (simp; omega) | omega))
  rintro e w3 ⟨rfl, hb3⟩
  clear v0 v1 v2 v3 vf lv
  have XG3 := Lib.hid ((Bx.new_ w2 32 (.slice G1 l1 f1) (.slice G2 l2 f2) (.slice G3 l3 f3) (.slice G4 l4 f4)).go hb3)
  have XS3 := Lib.hid ((XS2.out.alloc _).go hb3)
  have OS3 := Lib.hid ((OS2.out.go (w' := w2.alloc _) (by repeat' (first | with_reducible exact Below.refl _ _ | with_reducible assumption | with_reducible refine below_dn ?_ _ | with_reducible refine Below.drew ?_ | with_reducible refine below_step ?_ (by assumption) | with_reducible refine Below.setCell ?_ ?_ _ | with_reducible refine Below.alloc ?_ ?_ _ | with_reducible exact Nat.le_refl _ | (simp; done) | (simp; omega) | omega))).go hb3)
  have OG3 := Lib.hid ((OG2.out.go (w' := w2.alloc _) (by repeat' (first | with_reducible exact Below.refl _ _ | with_reducible assumption | with_reducible refine below_dn ?_ _ | with_reducible refine Below.drew ?_ | with_reducible refine below_step ?_ (by assumption) | with_reducible refine Below.setCell ?_ ?_ _ | with_reducible refine Below.alloc ?_ ?_ _ | with_reducible exact Nat.le_refl _ | (simp; done) | (simp; omega) | omega))).go hb3)
  have B3 := Lib.hid (show Below w.heap.size w w3 from below_step (below_step B2.out (w3 := w2.alloc _) (by repeat' (first | with_reducible exact Below.refl _ _ | with_reducible assumption | with_reducible refine below_dn ?_ _ | with_reducible refine Below.drew ?_ | with_reducible refine below_step ?_ (by assumption) | with_reducible refine Below.setCell ?_ ?_ _ | with_reducible refine Below.alloc ?_ ?_ _ | with_reducible exact Nat.le_refl _ | (simp; done) | (simp; omega) | omega))) hb3)
  have y23 : w2.heap.size < w3.heap.size := by have := hb3.size; simp at this; omega
  clear hb3 XS2 OS2 OG2 B2
  obtain ⟨q0, q1, q2, q3, qf⟩ := XG3.out.facts
  have lq := XG3.out.lt
  go_wp2_with fail
  refine (laws_markChain _ _ _ _ _ _ _ _ l1 l2 l3 l4 _ DG j1 j2 j3 j4 _ OG3.out).mono ?_
  rintro e w4 ⟨rfl, hm4, hw4⟩
  have V4 := Lib.hid (hw4.mono (S' := fun k => w1.heap.size + 1 ≤ k ∧ k < w2.heap.size) (fun k _ h => blkC_bd DG2.out h))
  have M4 := Lib.hid hm4
  have XS4 := Lib.hid (XS3.out.wr V4.out (fun h => by have := h.1; omega))
  have XG4 := Lib.hid (XG3.out.wr V4.out (fun h => by have := h.2; omega))
  have OS4 := Lib.hid (OS3.out.wr V4.out D1.out (fun k h1 h2 h => by have := h.1; omega))
  have B4 := Lib.hid (B3.out.trans (V4.out.below B3.out.size (fun k hk h => by have := h.1; have := B1s; omega)))
  have y34 := V4.out.size
  clear hw4 hm4 q0 q1 q2 q3 qf lq XS3 XG3 OS3 OG3 B3
  obtain ⟨q0, q1, q2, q3, qf⟩ := XG4.out.facts
  have lq := XG4.out.lt
  go_wp2_with fail
  refine (laws_heldChain _ _ _ _ _ _ _ _ l1 l2 l3 l4 _ j1 j2 j3 j4 _ M4.out).mono ?_
  rintro e w5 ⟨rfl, hb5⟩
  clear q0 q1 q2 q3 qf lq
  have XS5 := Lib.hid (XS4.out.go hb5)
  have XG5 := Lib.hid (XG4.out.go hb5)
  have OS5 := Lib.hid (OS4.out.go hb5)
  have M5 := Lib.hid (M4.out.go hb5)
  have B5 := Lib.hid (below_step B4.out hb5)
  clear hb5 XS4 XG4 OS4 M4 B4
  go_wp2_with fail
  refine (impl_NetChain q s l x _).mono ?_
  rintro e w6 hr6
  rw [← HZ.out] at hr6
  obtain ⟨K1, K2, K3, K4, r1, r2, r3, r4, DK, rfl, hs6, ho6, hd6, hb6⟩ := RetM.g hr6 HL1.out HL2.out HL3.out HL4.out
  have XS6 := Lib.hid (XS5.out.go hb6)
  have XG6 := Lib.hid (XG5.out.go hb6)
  have OS6 := Lib.hid (OS5.out.go hb6)
  have M6 := Lib.hid (M5.out.go hb6)
  have SK := Lib.hid hs6
  have OK6 := Lib.hid ho6
  have B6 := Lib.hid (below_step B5.out hb6)
  clear hb6 hr6 hs6 ho6 hd6 XS5 XG5 OS5 M5 B5
  obtain ⟨v0, v1, v2, v3, vf⟩ := XS6.out.facts
  have lv := XS6.out.lt
  go_wp2_with fail
  refine (laws_eqChain _ _ _ _ _ _ _ _ _ _ _ _ _ _ _ _ l1 l2 l3 l4 _ _ DK DS j1 j2 j3 j4 (SK.out.trans SS.out.symm) _ (OK6.out.go ?hg) (OS6.out.go ?hs)).mono ?_
  case hg => exact (by repeat' (first | with_reducible exact Below.refl _ _ | with_reducible assumption | with_reducible refine below_dn ?_ _ | with_reducible refine Below.drew ?_ | with_reducible refine below_step ?_ (by assumption) | with_reducible refine Below.setCell ?_ ?_ _ | with_reducible refine Below.alloc ?_ ?_ _ | with_reducible exact Nat.le_refl _ | (simp; done) | (simp; omega) | omega))
  case hs => exact (by repeat' (first | with_reducible exact Below.refl _ _ | with_reducible assumption | with_reducible refine below_dn ?_ _ | with_reducible refine Below.drew ?_ | with_reducible refine below_step ?_ (by assumption) | with_reducible refine Below.setCell ?_ ?_ _ | with_reducible refine Below.alloc ?_ ?_ _ | with_reducible exact Nat.le_refl _ | (simp; done) | (simp; omega) | omega))
  rintro e w7 ⟨rfl, hb7⟩
  clear v0 v1 v2 v3 vf lv
  have XG7 := Lib.hid ((XG6.out.alloc _).go hb7)
  have M7 := Lib.hid ((M6.out.go (w' := w6.alloc _) (by repeat' (first | with_reducible exact Below.refl _ _ | with_reducible assumption | with_reducible refine below_dn ?_ _ | with_reducible refine Below.drew ?_ | with_reducible refine below_step ?_ (by assumption) | with_reducible refine Below.setCell ?_ ?_ _ | with_reducible refine Below.alloc ?_ ?_ _ | with_reducible exact Nat.le_refl _ | (simp; done) | (simp; omega) | omega))).go hb7)
  have B7 := Lib.hid (show Below w.heap.size w w7 from below_step (below_step B6.out (w3 := w6.alloc _) (by repeat' (first | with_reducible exact Below.refl _ _ | with_reducible assumption | with_reducible refine below_dn ?_ _ | with_reducible refine Below.drew ?_ | with_reducible refine below_step ?_ (by assumption) | with_reducible refine Below.setCell ?_ ?_ _ | with_reducible refine Below.alloc ?_ ?_ _ | with_reducible exact Nat.le_refl _ | (simp; done) | (simp; omega) | omega))) hb7)
  clear hb7 XS6 XG6 OS6 M6 B6 OK6
  obtain ⟨q0, q1, q2, q3, qf⟩ := XG7.out.facts
  have lq := XG7.out.lt
  go_wp2_with fail
  refine (laws_heldChain _ _ _ _ _ _ _ _ l1 l2 l3 l4 _ j1 j2 j3 j4 _ M7.out).mono ?_
  rintro e w8 ⟨rfl, hb8⟩
  have B8 := Lib.hid (below_step B7.out hb8)
  clear hb8 q0 q1 q2 q3 qf lq
  go_wp2_with fail
  go_ret
  exact ⟨rfl, B8.out⟩
set_option maxRecDepth 100000 in
theorem FnExactNetChain_lifted (os : Os) (started : os.Started) (H : Type) (enc : TypeId × Value → H) :
    ReturnsInHanded {} Try.checked os 8 .any (Rows.fnExactNetChainSpec.pre6 enc Try.prog Try.f8 Rows.fnExactNetChainRow.domain false) (Rows.fnExactNetChainSpec.post enc Try.prog Try.f8 false true false false) := by
  refine returnsInHanded_of_change (C := Try.checked) own started (by kernel_rfl) Try.func8
    (ChangeSpec.witness6 (enc := enc) (C := Try.checked) false ⟨#[], #[.int .i64 0, .int .i64 0, .float .f32 0, .float .f32 0], []⟩ 8 (by kernel_rfl) (by kernel_rfl) (by kernel_rfl) (by kernel_rfl)) ?_
  intro W base args ds gs before hval0 hW _ _
  have hval : ∀ (j : Nat) t v, Try.f8.params[j]? = some t → args[j]? = some v → Value.okWide Try.prog W .any base t v := hval0
  have hW0 := hW
  obtain ⟨p, q, hA0, hV, _, _, _⟩ := hW
  obtain ⟨rfl, rfl⟩ := trodVars_none hV
  have hA : DataW.TrodAll enc Try.prog W 0 (fun _ => true) true Try.f8.params.toList args.toList ds p := hA0
  rw [Try.params8] at hA hval
  obtain ⟨v0, vs0, d0, ds0, p0, q0, hargs, rfl, _, h0, r0⟩ := trodAll_cons hA
  obtain ⟨v1, vs1, d1, ds1, p1, q1, rfl, rfl, _, h1, r1⟩ := trodAll_cons r0
  obtain ⟨v2, vs2, d2, ds2, p2, q2, rfl, rfl, _, h2, r2⟩ := trodAll_cons r1
  obtain ⟨v3, vs3, d3, ds3, p3, q3, rfl, rfl, _, h3, r3⟩ := trodAll_cons r2
  obtain ⟨rfl, rfl, _⟩ := trodAll_nil r3
  obtain rfl : args = #[v0, v1, v2, v3] := by cases args; simp_all
  obtain ⟨a0, rfl, _, _, w0⟩ := open_int Try.underlying2 (hval 0 2 v0 rfl rfl) h0
  obtain ⟨a1, rfl, _, _, w1⟩ := open_int Try.underlying2 (hval 1 2 v1 rfl rfl) h1
  obtain ⟨a2, rfl, _, _, w2⟩ := open_float Try.underlying36 (hval 2 36 v2 rfl rfl) h2
  obtain ⟨a3, rfl, _, _, w3⟩ := open_float Try.underlying36 (hval 3 36 v3 rfl rfl) h3
  clear hA0 hval0
  refine (FnExactNetChain_walk a0 (i64_range w0).1 (i64_range w0).2 a1 (i64_range w1).1 (i64_range w1).2 a2 (f32_lt w2) a3 (f32_lt w3) W).mono fun e W' ⟨he, hb⟩ => ?_
  subst he
  exact ⟨_, rfl, law_post Try.laidOut hW0 rfl rfl (by kernel_rfl) Try.underlying4 (by kernel_rfl) hb⟩

theorem FnExactNetChain_joined : joinedFacts Try.checked.prog 8 Try.f8 Rows.fnExactNetChainSpec Rows.fnExactNetChainRow = true := joined_here (by kernel_rfl) (by kernel_rfl) (by kernel_rfl) (by kernel_rfl) (by kernel_rfl) (by kernel_rfl) (by kernel_rfl) (by kernel_rfl) (by kernel_rfl) (by kernel_rfl) (by kernel_rfl) (by kernel_rfl) (by kernel_rfl) (by kernel_rfl) (by kernel_rfl) (by kernel_rfl) (by kernel_rfl) (by kernel_rfl) (by kernel_rfl) (by kernel_rfl) (by kernel_rfl) (by kernel_rfl) (by kernel_rfl) (by kernel_rfl) (by kernel_rfl) (by kernel_rfl)
theorem FnExactNetChain_holds : Rows.FnExactNetChainSaid :=
  OpenClaim.holds_of_wide 8 Try.f8 rfl rfl rfl rfl rfl rfl rfl ⟨rfl, rfl, rfl, rfl, rfl⟩ rfl rfl rfl rfl rfl (by kernel_rfl) Try.func8 FnExactNetChain_joined
    (of_decide_eq_true (by kernel_rfl)) (by unfold Func.isWrapper; first | (rw [if_pos (by decide +kernel)]; kernel_rfl) | (rw [if_neg (by decide +kernel)]; exact ⟨rfl, rfl⟩))
    (fun os started H enc _ => FnExactNetChain_lifted os started H enc)
#print axioms FnExactNetChain_holds
end Go.Proofs.Ytlhgaihfghobmaa
