/- WorstRod of the program returns what WorstRod of the reference returns, and leaves its argument alone. -/
import Derived.Test.YtlhgaihfghobmaaMq
import Derived.Test.YtlhgaihfghobmaaKj
import Derived.Deep.DeepCutAuto
namespace Go.Proofs.Ytlhgaihfghobmaa
open Go.ChangeShapes Go.WideShapes Go.ChangeAt Go.RowKit Go.Deep

set_option maxHeartbeats 4000000 in
theorem FnExactWorstRod_walk (A1 A2 A3 A4 : Option Addr) (c1 c2 c3 c4 n1 n2 n3 n4 : Nat) (D : D4) (w : World) (hC : Came w A1 A2 A3 A4 n1 n2 n3 n4 D) :
    Calls Try.prog 11 #[.agg #[.slice A1 n1 c1, .slice A2 n2 c2, .slice A3 n3 c3, .slice A4 n4 c4]] w (RetV (.bool true) w) := by
  by_cases hn : n1 + n2 + n3 + n4 ≤ 1048576
  · have k1 : n1 ≤ 1048576 := by omega
    have k2 : n2 ≤ 1048576 := by omega
    have k3 : n3 ≤ 1048576 := by omega
    have k4 : n4 ≤ 1048576 := by omega
    have HC := Lib.hid hC
    have g0 : ¬ ((1048576 : Int) - n1 - n2 - n3 - n4 < 0) := by omega
    clear hC
    go_enter Try.func11, Try.ntmps11
    go_wp2_with fail
    refine (laws_szChain_fit A1 A2 A3 A4 c1 c2 c3 c4 n1 n2 n3 n4 hn _).mono ?_
    rintro e w1 ⟨rfl, hb1⟩
    have P1 := Lib.hid ((Bx.new_ w 26 (.slice A1 n1 c1) (.slice A2 n2 c2) (.slice A3 n3 c3) (.slice A4 n4 c4)).go hb1)
    have B1 := Lib.hid (show Below w.heap.size w w1 from below_step (w := w) ((by repeat' (first | with_reducible exact Below.refl _ _ | with_reducible assumption | with_reducible refine below_dn ?_ _ | with_reducible refine Below.drew ?_ | with_reducible refine below_step ?_ (by assumption) | with_reducible refine Below.setCell ?_ ?_ _ | with_reducible refine Below.alloc ?_ ?_ _ | with_reducible exact Nat.le_refl _ | (simp; done) | (simp; omega) | omega))) hb1)
    clear hb1
    obtain ⟨p0, p1, p2, p3, pf⟩ := P1.out.facts
    go_wp2_with fail
    refine (laws_toChain A1 A2 A3 A4 c1 c2 c3 c4 n1 n2 n3 n4 D k1 k2 k3 k4 _ ((HC.out.go B1.out).i1) ((HC.out.go B1.out).i2) ((HC.out.go B1.out).i3) ((HC.out.go B1.out).i4)).mono ?_
    rintro e w2 ⟨s1, s2, s3, s4, rfl, ho2, hb2⟩
    clear p0 p1 p2 p3 pf
    have P2 := Lib.hid (P1.out.go hb2)
    have O2 := Lib.hid ho2
    have B2 := Lib.hid (below_step B1.out hb2)
    clear hb2 ho2 P1 B1
    go_wp2_with fail
    refine (spec_WorstRod _ _ _ _ _ _ _ _ n1 n2 n3 n4 _ D _ O2.out).mono ?_
    rintro e w3 ⟨x0, rfl, lx0, hs3, hb3⟩
    have P3 := Lib.hid (P2.out.go hb3)
    have B3 := Lib.hid (below_step B2.out hb3)
    have S3 := Lib.hid hs3
    clear hb3 P2 B2 O2 hs3
    obtain ⟨p0, p1, p2, p3, pf⟩ := P3.out.facts
    have lP := P3.out.lt
    go_wp2_with fail
    refine (laws_toChain A1 A2 A3 A4 c1 c2 c3 c4 n1 n2 n3 n4 D k1 k2 k3 k4 _ ((HC.out.go B3.out).i1) ((HC.out.go B3.out).i2) ((HC.out.go B3.out).i3) ((HC.out.go B3.out).i4)).mono ?_
    rintro e w4 ⟨x1, x2, x3, x4, rfl, ho4, hb4⟩
    clear p0 p1 p2 p3 pf lP
    have P4 := Lib.hid (P3.out.go hb4)
    have B4 := Lib.hid (below_step B3.out hb4)
    have O4 := Lib.hid ho4
    clear hb4 P3 B3 ho4
    go_wp2_with fail
    refine (impl_WorstRod _ _ _ _ _ _ _ _ n1 n2 n3 n4 _ D _ (O4.out.go ?hq)).mono ?_
    case hq => exact (by repeat' (first | with_reducible exact Below.refl _ _ | with_reducible assumption | with_reducible refine below_dn ?_ _ | with_reducible refine Below.drew ?_ | with_reducible refine below_step ?_ (by assumption) | with_reducible refine Below.setCell ?_ ?_ _ | with_reducible refine Below.alloc ?_ ?_ _ | with_reducible exact Nat.le_refl _ | (simp; done) | (simp; omega) | omega))
    rintro e w5 ⟨u0, rfl, lu0, hs5, hb5⟩
    have XC5 := Lib.hid ((Bx.new_ w4 32 (.slice (some ⟨x1, 0, none⟩) n1 n1) (.slice (some ⟨x2, 0, none⟩) n2 n2) (.slice (some ⟨x3, 0, none⟩) n3 n3) (.slice (some ⟨x4, 0, none⟩) n4 n4)).go hb5)
    have P5 := Lib.hid ((P4.out.alloc _).go hb5)
    have O5 := Lib.hid ((O4.out.go (w' := w4.alloc _) (by repeat' (first | with_reducible exact Below.refl _ _ | with_reducible assumption | with_reducible refine below_dn ?_ _ | with_reducible refine Below.drew ?_ | with_reducible refine below_step ?_ (by assumption) | with_reducible refine Below.setCell ?_ ?_ _ | with_reducible refine Below.alloc ?_ ?_ _ | with_reducible exact Nat.le_refl _ | (simp; done) | (simp; omega) | omega))).go hb5)
    have B5 := Lib.hid (show Below w.heap.size w w5 from below_step (below_step B4.out (w3 := w4.alloc _) (by repeat' (first | with_reducible exact Below.refl _ _ | with_reducible assumption | with_reducible refine below_dn ?_ _ | with_reducible refine Below.drew ?_ | with_reducible refine below_step ?_ (by assumption) | with_reducible refine Below.setCell ?_ ?_ _ | with_reducible refine Below.alloc ?_ ?_ _ | with_reducible exact Nat.le_refl _ | (simp; done) | (simp; omega) | omega))) hb5)
    have S5 := Lib.hid hs5
    have hbb : ((wsB n1 n2 n3 n4 D) != (wsB n1 n2 n3 n4 D)) = false := by simp
    clear hb5 P4 O4 B4 hs5
    go_wp2_with fail
    refine (laws_sameFloat _ _ (widen_sim (S5.out.trans S3.out.symm) _ _ _ _) _).mono ?_
    rintro e w6 hq6
    obtain ⟨rfl, hb6a⟩ := RetQ.v hq6
    have hb6 : Below w5.heap.size w5 w6 := by first | exact hb6a | exact below_of hb6a | exact below_of (below_of hb6a)
    clear hq6 hb6a
    have XC6 := Lib.hid (XC5.out.go hb6)
    have P6 := Lib.hid (P5.out.go hb6)
    have O6 := Lib.hid (O5.out.go hb6)
    have B6 := Lib.hid (below_step B5.out hb6)
    clear hb6 XC5 P5 O5 B5
    obtain ⟨p0, p1, p2, p3, pf⟩ := P6.out.facts
    obtain ⟨q0, q1, q2, q3, qf⟩ := XC6.out.facts
    have lP := P6.out.lt
    have lX := XC6.out.lt
    go_upto_region 10 with fail
    go_cut [51] (fun s wx => s = .bool false ∧ Below w6.heap.size w6 wx)
    case first =>
      go_region_with (first | (go_at_call 25; refine (laws_toChain A1 A2 A3 A4 c1 c2 c3 c4 n1 n2 n3 n4 D k1 k2 k3 k4 _ ((HC.out.go B6.out.drew).i1) ((HC.out.go B6.out.drew).i2) ((HC.out.go B6.out.drew).i3) ((HC.out.go B6.out.drew).i4)).mono ?_; rintro e w7 ⟨y1, y2, y3, y4, rfl, ho7, hb7⟩; have O7 := Lib.hid ho7; have B7 := Lib.hid ((Below.refl w6.heap.size w6).drew.trans hb7); obtain ⟨u0, u1, u2, u3, uf⟩ := (XC6.out.go B7.out).facts; clear ho7 hb7) | (go_at_call 27; refine (laws_eqChain _ _ _ _ _ _ _ _ _ _ _ _ _ _ _ _ n1 n2 n3 n4 _ _ D D k1 k2 k3 k4 (SimD.refl _ _ _ _ _) _ (O6.out.go B7.out) O7.out).mono ?_; rintro e w8 ⟨rfl, hb8⟩; have B8 := Lib.hid hb8; clear hb8))
      all_goals
        go_wp2_with fail
        go_meet
        exact ⟨rfl, B7.out.trans (B8.out.mono B7.out.size)⟩
    case rest =>
      obtain ⟨rfl, hb⟩ := hcut
      go_wp2_with fail
      go_ret
      exact ⟨rfl, below_step B6.out hb⟩
  · have h9 := laws_szChain_over A1 A2 A3 A4 c1 c2 c3 c4 n1 n2 n3 n4 hC.m1 hC.m2 hC.m3 hC.m4 (by omega)
    clear hn hC
    go_enter Try.func11, Try.ntmps11
    go_wp2_with fail
    refine (h9 _).mono ?_
    rintro e w1 ⟨rfl, hb1⟩
    go_wp2_with fail
    go_ret
    exact ⟨rfl, (by repeat' (first | with_reducible exact Below.refl _ _ | with_reducible assumption | with_reducible refine below_dn ?_ _ | with_reducible refine Below.drew ?_ | with_reducible refine below_step ?_ (by assumption) | with_reducible refine Below.setCell ?_ ?_ _ | with_reducible refine Below.alloc ?_ ?_ _ | with_reducible exact Nat.le_refl _ | (simp; done) | (simp; omega) | omega))⟩
set_option maxRecDepth 100000 in
theorem FnExactWorstRod_lifted (os : Os) (started : os.Started) (H : Type) (enc : TypeId × Value → H) :
    ReturnsInHanded {} Try.checked os 11 .any (Rows.fnExactWorstRodSpec.pre6 enc Try.prog Try.f11 Rows.fnExactWorstRodRow.domain false) (Rows.fnExactWorstRodSpec.post enc Try.prog Try.f11 false true false false) := by
  refine returnsInHanded_of_change (C := Try.checked) own started (by kernel_rfl) Try.func11
    (ChangeSpec.witness6 (enc := enc) (C := Try.checked) false ⟨#[], #[.agg #[.slice none 0 0, .slice none 0 0, .slice none 0 0, .slice none 0 0]], []⟩ 8 (by kernel_rfl) (by kernel_rfl) (by kernel_rfl) (by kernel_rfl)) ?_
  intro W base args ds gs before hval0 hW _ _
  have hval : ∀ (j : Nat) t v, Try.f11.params[j]? = some t → args[j]? = some v → Value.okWide Try.prog W .any base t v := hval0
  have hW0 := hW
  obtain ⟨p, q, hA0, hV, _, _, _⟩ := hW
  obtain ⟨rfl, rfl⟩ := trodVars_none hV
  have hA : DataW.TrodAll enc Try.prog W 0 (fun _ => true) true Try.f11.params.toList args.toList ds p := hA0
  rw [Try.params11] at hA hval
  obtain ⟨v0, vs0, d0, ds0, p0, q0, hargs, rfl, _, h0, r0⟩ := trodAll_cons hA
  obtain ⟨rfl, rfl, _⟩ := trodAll_nil r0
  obtain rfl : args = #[v0] := by cases args; simp_all
  obtain ⟨P0, B0, W0, R0, c10, c20, c30, c40, n10, n20, n30, n40, D0, rfl, hC0⟩ := open_chain (hval 0 26 v0 rfl rfl) h0
  clear hA0 hval0
  refine (FnExactWorstRod_walk P0 B0 W0 R0 c10 c20 c30 c40 n10 n20 n30 n40 D0 W hC0).mono fun e W' ⟨he, hb⟩ => ?_
  subst he
  exact ⟨_, rfl, law_post Try.laidOut hW0 rfl rfl (by kernel_rfl) Try.underlying4 (by kernel_rfl) hb⟩

theorem FnExactWorstRod_joined : joinedFacts Try.checked.prog 11 Try.f11 Rows.fnExactWorstRodSpec Rows.fnExactWorstRodRow = true := joined_here (by kernel_rfl) (by kernel_rfl) (by kernel_rfl) (by kernel_rfl) (by kernel_rfl) (by kernel_rfl) (by kernel_rfl) (by kernel_rfl) (by kernel_rfl) (by kernel_rfl) (by kernel_rfl) (by kernel_rfl) (by kernel_rfl) (by kernel_rfl) (by kernel_rfl) (by kernel_rfl) (by kernel_rfl) (by kernel_rfl) (by kernel_rfl) (by kernel_rfl) (by kernel_rfl) (by kernel_rfl) (by kernel_rfl) (by kernel_rfl) (by kernel_rfl) (by kernel_rfl)
theorem FnExactWorstRod_holds : Rows.FnExactWorstRodSaid :=
  OpenClaim.holds_of_wide 11 Try.f11 rfl rfl rfl rfl rfl rfl rfl ⟨rfl, rfl, rfl, rfl, rfl⟩ rfl rfl rfl rfl rfl (by kernel_rfl) Try.func11 FnExactWorstRod_joined
    (of_decide_eq_true (by kernel_rfl)) (by unfold Func.isWrapper; first | (rw [if_pos (by decide +kernel)]; kernel_rfl) | (rw [if_neg (by decide +kernel)]; exact ⟨rfl, rfl⟩))
    (fun os started H enc _ => FnExactWorstRod_lifted os started H enc)
#print axioms FnExactWorstRod_holds
end Go.Proofs.Ytlhgaihfghobmaa
