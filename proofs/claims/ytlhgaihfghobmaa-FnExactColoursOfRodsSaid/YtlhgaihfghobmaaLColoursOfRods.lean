/- ColoursOfRods of the program returns what ColoursOfRods of the reference returns, leaves its argument alone, and shares no memory with it or with another call's result. -/
import Derived.Test.YtlhgaihfghobmaaMo
import Derived.Test.YtlhgaihfghobmaaKj
import Derived.Deep.DeepCutAuto
namespace Go.Proofs.Ytlhgaihfghobmaa
open Go.ChangeShapes Go.WideShapes Go.ChangeAt Go.RowKit Go.Deep

theorem Ow.wr {S : Nat → Prop} {w w' : World} {B : Nat} {v : Value} {xs : List Int} (h : Ow w B v xs) (hw : Wr S w w') (hn : ∀ k, v.ownBlock = some k → ¬ S k) : Ow w' B v xs := by
  refine ⟨h.1, ?_⟩
  rcases h.2 with h0 | ⟨g, cap, cur, rfl, hB, hg, rest⟩
  · exact .inl h0
  · exact .inr ⟨g, cap, cur, rfl, hB, (hw.block g (Array.getElem?_eq_some_iff.1 hg).1 (hn g rfl)).trans hg, rest⟩
theorem Ow.goes {w w' : World} {B : Nat} {v : Value} {xs : List Int} (h : Ow w B v xs) (hb : Below w.heap.size w w') : Ow w' B v xs := h.below' hb (Nat.le_refl _)
theorem Ow.kept' {w w' : World} {B : Nat} {v : Value} {xs : List Int} {row : Option Nat} (h : Ow w B v xs) (hg : w.grownBy w' row) (hne : v.ownBlock = none ∨ v.ownBlock ≠ row) : Ow w' B v xs := World.ownsRow.kept h hg hne
theorem ne_lt {a b : Option Nat} {m : Nat} (h1 : ∀ k, a = some k → k < m) (h2 : ∀ k, b = some k → m ≤ k) : a = none ∨ a ≠ b := by
  cases a with
  | none => exact .inl rfl
  | some x => exact .inr fun e => by have := h1 x rfl; have := h2 x e.symm; omega
set_option maxHeartbeats 4000000 in
set_option maxRecDepth 100000 in
theorem FnExactColoursOfRods_walk (A1 A2 A3 A4 : Option Addr) (c1 c2 c3 c4 n1 n2 n3 n4 : Nat) (D : D4) (w : World) (hC : Came w A1 A2 A3 A4 n1 n2 n3 n4 D) :
    Calls Try.prog 10 #[.agg #[.slice A1 n1 c1, .slice A2 n2 c2, .slice A3 n3 c3, .slice A4 n4 c4]] w (RetV (.bool true) w) := by
  by_cases hn : n1 + n2 + n3 + n4 ≤ 1048576
  · have k1 : n1 ≤ 1048576 := by omega
    have k2 : n2 ≤ 1048576 := by omega
    have k3 : n3 ≤ 1048576 := by omega
    have k4 : n4 ≤ 1048576 := by omega
    have HC := Lib.hid hC
    have g0 : ¬ ((1048576 : Int) - n1 - n2 - n3 - n4 < 0) := by omega
    clear hC
    go_enter Try.func10, Try.ntmps10
    go_wp2_with fail
    refine (laws_szChain_fit A1 A2 A3 A4 c1 c2 c3 c4 n1 n2 n3 n4 hn _).mono ?_
    rintro e w1 ⟨rfl, hb1⟩
    have P1 := Lib.hid ((Bx.new_ w 26 (.slice A1 n1 c1) (.slice A2 n2 c2) (.slice A3 n3 c3) (.slice A4 n4 c4)).go hb1)
    have B1 := Lib.hid (show Below w.heap.size w w1 from below_step (w := w) ((by repeat' (first | with_reducible exact Below.refl _ _ | with_reducible assumption | with_reducible refine below_dn ?_ _ | with_reducible refine Below.drew ?_ | with_reducible refine below_step ?_ (by assumption) | with_reducible refine Below.setCell ?_ ?_ _ | with_reducible refine Below.alloc ?_ ?_ _ | with_reducible exact Nat.le_refl _ | (simp; done) | (simp; omega) | omega))) hb1)
    clear hb1
    obtain ⟨p0, p1, p2, p3, pf⟩ := P1.out.facts
    go_wp2_with fail
    refine (laws_toChain A1 A2 A3 A4 c1 c2 c3 c4 n1 n2 n3 n4 D k1 k2 k3 k4 _ ((HC.out.go B1.out).i1) ((HC.out.go B1.out).i2) ((HC.out.go B1.out).i3) ((HC.out.go B1.out).i4)).mono ?_
    rintro e w2 ⟨s1, s2, s3, s4, rfl, ho2, hb2⟩
    clear p0 p1 p2 p3 pf
    have P2 := Lib.hid (P1.out.go hb2)
    have O2 := Lib.hid ho2
    have B2 := Lib.hid (below_step B1.out hb2)
    clear hb2 ho2 P1 B1
    go_wp2_with fail
    refine (spec_ColoursOfRods _ _ _ _ _ _ _ _ n1 n2 n3 n4 _ D _ O2.out).mono ?_
    rintro e w3 ⟨xs, hcp, v0, rfl, hv0, hb3⟩
    have hxn : xs.length ≤ 1048576 := hcp.le k4
    have HCP := Lib.hid hcp
    have P3 := Lib.hid (P2.out.go hb3)
    have B3 := Lib.hid (below_step B2.out hb3)
    have VS3 := Lib.hid hv0
    have DS := Lib.hid (show ∀ k, v0.ownBlock = some k → k < w3.heap.size from fun k hk => (hv0.lt k hk).2)
    clear hb3 P2 B2 O2 hv0 hcp
    obtain ⟨p0, p1, p2, p3, pf⟩ := P3.out.facts
    have lP := P3.out.lt
    go_wp2_with fail
    refine (laws_toChain A1 A2 A3 A4 c1 c2 c3 c4 n1 n2 n3 n4 D k1 k2 k3 k4 _ ((HC.out.go B3.out).i1) ((HC.out.go B3.out).i2) ((HC.out.go B3.out).i3) ((HC.out.go B3.out).i4)).mono ?_
    rintro e w4 ⟨x1, x2, x3, x4, rfl, ho4, hb4⟩
    clear p0 p1 p2 p3 pf lP
    have y34 := hb4.size
    have P4 := Lib.hid (P3.out.go hb4)
    have B4 := Lib.hid (below_step B3.out hb4)
    have VS4 := Lib.hid (VS3.out.goes hb4)
    have DX4 := Lib.hid (show Bds w3.heap.size w4.heap.size (some ⟨x1, 0, none⟩) (some ⟨x2, 0, none⟩) (some ⟨x3, 0, none⟩) (some ⟨x4, 0, none⟩) n1 n2 n3 n4 from ho4.bd)
    have O4 := Lib.hid ho4
    have y3 : w.heap.size < w3.heap.size := P3.out.lt
    clear hb4 P3 B3 ho4 VS3
    go_wp2_with fail
    refine (impl_ColoursOfRods _ _ _ _ _ _ _ _ n1 n2 n3 n4 _ D _ (O4.out.go ?hq)).mono ?_
    case hq => exact (by repeat' (first | with_reducible exact Below.refl _ _ | with_reducible assumption | with_reducible refine below_dn ?_ _ | with_reducible refine Below.drew ?_ | with_reducible refine below_step ?_ (by assumption) | with_reducible refine Below.setCell ?_ ?_ _ | with_reducible refine Below.alloc ?_ ?_ _ | with_reducible exact Nat.le_refl _ | (simp; done) | (simp; omega) | omega))
    rintro e w5 ⟨ys, hcp, v1, rfl, hv1, hb5⟩
    obtain rfl := (HCP.out.same hcp).symm
    have XC5 := Lib.hid ((Bx.new_ w4 32 (.slice (some ⟨x1, 0, none⟩) n1 n1) (.slice (some ⟨x2, 0, none⟩) n2 n2) (.slice (some ⟨x3, 0, none⟩) n3 n3) (.slice (some ⟨x4, 0, none⟩) n4 n4)).go hb5)
    have P5 := Lib.hid ((P4.out.alloc _).go hb5)
    have O5 := Lib.hid ((O4.out.go (w' := w4.alloc _) (by repeat' (first | with_reducible exact Below.refl _ _ | with_reducible assumption | with_reducible refine below_dn ?_ _ | with_reducible refine Below.drew ?_ | with_reducible refine below_step ?_ (by assumption) | with_reducible refine Below.setCell ?_ ?_ _ | with_reducible refine Below.alloc ?_ ?_ _ | with_reducible exact Nat.le_refl _ | (simp; done) | (simp; omega) | omega))).go hb5)
    have VS5 := Lib.hid ((VS4.out.goes (w' := w4.alloc _) (by repeat' (first | with_reducible exact Below.refl _ _ | with_reducible assumption | with_reducible refine below_dn ?_ _ | with_reducible refine Below.drew ?_ | with_reducible refine below_step ?_ (by assumption) | with_reducible refine Below.setCell ?_ ?_ _ | with_reducible refine Below.alloc ?_ ?_ _ | with_reducible exact Nat.le_refl _ | (simp; done) | (simp; omega) | omega))).goes hb5)
    have VI5 := Lib.hid hv1
    have y45 : w4.heap.size < w5.heap.size := by have := hb5.size; simp at this; omega
    have DI := Lib.hid (show ∀ k, v1.ownBlock = some k → w4.heap.size + 1 ≤ k from fun k hk => by have := (hv1.lt k hk).1; simp at this; exact this)
    have B5 := Lib.hid (show Below w.heap.size w w5 from below_step (below_step B4.out (w3 := w4.alloc _) (by repeat' (first | with_reducible exact Below.refl _ _ | with_reducible assumption | with_reducible refine below_dn ?_ _ | with_reducible refine Below.drew ?_ | with_reducible refine below_step ?_ (by assumption) | with_reducible refine Below.setCell ?_ ?_ _ | with_reducible refine Below.alloc ?_ ?_ _ | with_reducible exact Nat.le_refl _ | (simp; done) | (simp; omega) | omega))) hb5)
    have hbb : (okC n1 n2 n3 n4 D != okC n1 n2 n3 n4 D) = false := by simp
    clear hb5 P4 O4 B4 VS4 hv1 hcp
    go_wp2_with fail
    refine (laws_eqInt64S _ _ xs hxn _ _ _ VI5.out VS5.out).mono ?_
    rintro e w6 ⟨rfl, n6, hw6⟩
    have hb6 : Below w5.heap.size w5 w6 := by rw [hw6]; exact below_dn (Below.refl _ _) _
    have XC6 := Lib.hid (XC5.out.go hb6)
    have P6 := Lib.hid (P5.out.go hb6)
    have O6 := Lib.hid (O5.out.go hb6)
    have VS6 := Lib.hid (VS5.out.goes hb6)
    have VI6 := Lib.hid (VI5.out.goes hb6)
    have B6 := Lib.hid (below_step B5.out hb6)
    have y56 := hb6.size
    clear hb6 hw6 XC5 P5 O5 B5 VS5 VI5
    obtain ⟨p0, p1, p2, p3, pf⟩ := P6.out.facts
    obtain ⟨q0, q1, q2, q3, qf⟩ := XC6.out.facts
    have lP := P6.out.lt
    have lX := XC6.out.lt
    go_upto_region 10 with fail
    go_cut [45] (fun s wx => s = .bool false ∧ Below w6.heap.size w6 wx)
    case first =>
      go_region_with (first | (go_at_call 25; refine (laws_toChain A1 A2 A3 A4 c1 c2 c3 c4 n1 n2 n3 n4 D k1 k2 k3 k4 _ ((HC.out.go B6.out.drew).i1) ((HC.out.go B6.out.drew).i2) ((HC.out.go B6.out.drew).i3) ((HC.out.go B6.out.drew).i4)).mono ?_; rintro e w7 ⟨y1, y2, y3, y4, rfl, ho7, hb7⟩; have O7 := Lib.hid ho7; have B7 := Lib.hid ((Below.refl w6.heap.size w6).drew.trans hb7); obtain ⟨u0, u1, u2, u3, uf⟩ := (XC6.out.go B7.out).facts; clear ho7 hb7) | (go_at_call 27; refine (laws_eqChain _ _ _ _ _ _ _ _ _ _ _ _ _ _ _ _ n1 n2 n3 n4 _ _ D D k1 k2 k3 k4 (SimD.refl _ _ _ _ _) _ (O6.out.go B7.out) O7.out).mono ?_; rintro e w8 ⟨rfl, hb8⟩; have B8 := Lib.hid hb8; clear hb8))
      all_goals
        go_wp2_with fail
        go_meet
        exact ⟨rfl, B7.out.trans (B8.out.mono B7.out.size)⟩
    obtain ⟨rfl, hb7⟩ := hcut
    rename World => w7
    clear p0 p1 p2 p3 pf q0 q1 q2 q3 qf lP lX
    have XC7 := Lib.hid (XC6.out.go hb7)
    have P7 := Lib.hid (P6.out.go hb7)
    have O7 := Lib.hid (O6.out.go hb7)
    have VS7 := Lib.hid (VS6.out.goes hb7)
    have VI7 := Lib.hid (VI6.out.goes hb7)
    have B7 := Lib.hid (below_step B6.out hb7)
    have y67 := hb7.size
    clear hb7 XC6 P6 O6 B6 VS6 VI6
    obtain ⟨q0, q1, q2, q3, qf⟩ := XC7.out.facts
    have lX := XC7.out.lt
    go_wp2_with fail
    refine (laws_markChain _ _ _ _ _ _ _ _ n1 n2 n3 n4 _ D k1 k2 k3 k4 _ O7.out).mono ?_
    rintro e w8 ⟨rfl, _, hw8⟩
    have V8 := Lib.hid (hw8.mono (S' := fun k => w3.heap.size ≤ k ∧ k < w4.heap.size) (fun k _ h => blkC_bd DX4.out h))
    have P8 := Lib.hid (P7.out.wr V8.out (fun h => by have := h.1; omega))
    have VS8 := Lib.hid (VS7.out.wr V8.out (fun k hk h => by have := DS.out k hk; have := h.1; omega))
    have VI8 := Lib.hid (VI7.out.wr V8.out (fun k hk h => by have := DI.out k hk; have := h.2; omega))
    have B8 := Lib.hid (B7.out.trans (V8.out.below B7.out.size (fun k hk h => by have := h.1; omega)))
    have y78 := V8.out.size
    clear hw8 O7 q0 q1 q2 q3 qf lX P7 VS7 VI7 B7 XC7
    have hc0 : ¬ (cnt n1 n2 n3 n4 < 0) := by unfold cnt; omega
    go_wp2_with fail
    refine (laws_eqInt64S _ _ xs hxn _ _ _ VI8.out VS8.out).mono ?_
    rintro e w9 ⟨rfl, n9, hw9⟩
    have hb9 : Below w8.heap.size w8 w9 := by rw [hw9]; exact below_dn (Below.refl _ _) _
    have P9 := Lib.hid (P8.out.go hb9)
    have VS9 := Lib.hid (VS8.out.goes hb9)
    have VI9 := Lib.hid (VI8.out.goes hb9)
    have B9 := Lib.hid (below_step B8.out hb9)
    have y89 := hb9.size
    clear hb9 hw9 P8 VS8 VI8 B8
    go_wp2_with fail
    refine (laws_markInt64S _ xs hxn _ _ (by exact VI9.out)).mono ?_
    rintro e w10 ⟨rfl, ho10, hg10⟩
    have VI10 := Lib.hid ho10
    have VS10 := Lib.hid (VS9.out.kept' hg10 (ne_lt DS.out (fun k hk => by have := DI.out k hk; omega)))
    have hb10 : Below (w4.heap.size + 1) w9 w10 := (Below.refl _ _).grown hg10 (by omega) DI.out
    have P10 := Lib.hid (P9.out.below hb10 (by omega))
    have B10 := Lib.hid (B9.out.trans (hb10.mono (by omega)))
    have y910 := hb10.size
    clear ho10 hg10 hb10 VI9 VS9 P9 B9
    have hc3 : ¬ ((1 : Int) + (xs.length : Int) < 0) := by omega
    go_wp2_with fail
    refine (laws_heldInt64S _ _ hxn _ _ VI10.out).mono ?_
    rintro e w11 ⟨rfl, n11, hw11⟩
    have hb11 : Below w10.heap.size w10 w11 := by rw [hw11]; exact below_dn (Below.refl _ _) _
    have P11 := Lib.hid (P10.out.go hb11)
    have VS11 := Lib.hid (VS10.out.goes hb11)
    have VI11 := Lib.hid (VI10.out.goes hb11)
    have B11 := Lib.hid (below_step B10.out hb11)
    clear hb11 hw11 P10 VS10 VI10 B10
    obtain ⟨p0, p1, p2, p3, pf⟩ := P11.out.facts
    go_wp2_with fail
    refine (laws_toChain A1 A2 A3 A4 c1 c2 c3 c4 n1 n2 n3 n4 D k1 k2 k3 k4 _ ((HC.out.go B11.out).i1) ((HC.out.go B11.out).i2) ((HC.out.go B11.out).i3) ((HC.out.go B11.out).i4)).mono ?_
    rintro e w12 ⟨z1, z2, z3, z4, rfl, ho12, hb12⟩
    clear p0 p1 p2 p3 pf
    have O12 := Lib.hid ho12
    have VS12 := Lib.hid (VS11.out.goes hb12)
    have VI12 := Lib.hid (VI11.out.goes hb12)
    have B12 := Lib.hid (below_step B11.out hb12)
    clear ho12 hb12 P11 VS11 VI11 B11
    go_wp2_with fail
    refine (impl_ColoursOfRods _ _ _ _ _ _ _ _ n1 n2 n3 n4 _ D _ O12.out).mono ?_
    rintro e w13 ⟨zs, hcp, v2, rfl, hv2, hb13⟩
    obtain rfl := (HCP.out.same hcp).symm
    have VS13 := Lib.hid (VS12.out.goes hb13)
    have VI13 := Lib.hid (VI12.out.goes hb13)
    have VJ13 := Lib.hid hv2
    have B13 := Lib.hid (below_step B12.out hb13)
    clear hcp hv2 hb13 VS12 VI12 O12 B12
    go_wp2_with fail
    refine (laws_eqInt64S _ _ xs hxn _ _ _ VJ13.out VS13.out).mono ?_
    rintro e w14 ⟨rfl, n14, hw14⟩
    have hb14 : Below w13.heap.size w13 w14 := by rw [hw14]; exact below_dn (Below.refl _ _) _
    have VI14 := Lib.hid (VI13.out.goes hb14)
    have B14 := Lib.hid (below_step B13.out hb14)
    clear hb14 hw14 VS13 VI13 VJ13 B13
    go_wp2_with fail
    refine (laws_heldInt64S _ _ hxn _ _ VI14.out).mono ?_
    rintro e w15 ⟨rfl, n15, hw15⟩
    have B15 := Lib.hid (below_step B14.out (show Below w14.heap.size w14 w15 by rw [hw15]; exact below_dn (Below.refl _ _) _))
    clear hw15
    go_wp2_with fail
    go_ret
    exact ⟨rfl, B15.out⟩
  · have h9 := laws_szChain_over A1 A2 A3 A4 c1 c2 c3 c4 n1 n2 n3 n4 hC.m1 hC.m2 hC.m3 hC.m4 (by omega)
    clear hn hC
    go_enter Try.func10, Try.ntmps10
    go_wp2_with fail
    refine (h9 _).mono ?_
    rintro e w1 ⟨rfl, hb1⟩
    go_wp2_with fail
    go_ret
    exact ⟨rfl, (by repeat' (first | with_reducible exact Below.refl _ _ | with_reducible assumption | with_reducible refine below_dn ?_ _ | with_reducible refine Below.drew ?_ | with_reducible refine below_step ?_ (by assumption) | with_reducible refine Below.setCell ?_ ?_ _ | with_reducible refine Below.alloc ?_ ?_ _ | with_reducible exact Nat.le_refl _ | (simp; done) | (simp; omega) | omega))⟩
set_option maxRecDepth 100000 in
theorem FnExactColoursOfRods_lifted (os : Os) (started : os.Started) (H : Type) (enc : TypeId × Value → H) :
    ReturnsInHanded {} Try.checked os 10 .any (Rows.fnExactColoursOfRodsSpec.pre6 enc Try.prog Try.f10 Rows.fnExactColoursOfRodsRow.domain false) (Rows.fnExactColoursOfRodsSpec.post enc Try.prog Try.f10 false true false false) := by
  refine returnsInHanded_of_change (C := Try.checked) own started (by kernel_rfl) Try.func10
    (ChangeSpec.witness6 (enc := enc) (C := Try.checked) false ⟨#[], #[.agg #[.slice none 0 0, .slice none 0 0, .slice none 0 0, .slice none 0 0]], []⟩ 8 (by kernel_rfl) (by kernel_rfl) (by kernel_rfl) (by kernel_rfl)) ?_
  intro W base args ds gs before hval0 hW _ _
  have hval : ∀ (j : Nat) t v, Try.f10.params[j]? = some t → args[j]? = some v → Value.okWide Try.prog W .any base t v := hval0
  have hW0 := hW
  obtain ⟨p, q, hA0, hV, _, _, _⟩ := hW
  obtain ⟨rfl, rfl⟩ := trodVars_none hV
  have hA : DataW.TrodAll enc Try.prog W 0 (fun _ => true) true Try.f10.params.toList args.toList ds p := hA0
  rw [Try.params10] at hA hval
  obtain ⟨v0, vs0, d0, ds0, p0, q0, hargs, rfl, _, h0, r0⟩ := trodAll_cons hA
  obtain ⟨rfl, rfl, _⟩ := trodAll_nil r0
  obtain rfl : args = #[v0] := by cases args; simp_all
  obtain ⟨P0, B0, W0, R0, c10, c20, c30, c40, n10, n20, n30, n40, D0, rfl, hC0⟩ := open_chain (hval 0 26 v0 rfl rfl) h0
  clear hA0 hval0
  refine (FnExactColoursOfRods_walk P0 B0 W0 R0 c10 c20 c30 c40 n10 n20 n30 n40 D0 W hC0).mono fun e W' ⟨he, hb⟩ => ?_
  subst he
  exact ⟨_, rfl, law_post Try.laidOut hW0 rfl rfl (by kernel_rfl) Try.underlying4 (by kernel_rfl) hb⟩

theorem FnExactColoursOfRods_joined : joinedFacts Try.checked.prog 10 Try.f10 Rows.fnExactColoursOfRodsSpec Rows.fnExactColoursOfRodsRow = true := joined_here (by kernel_rfl) (by kernel_rfl) (by kernel_rfl) (by kernel_rfl) (by kernel_rfl) (by kernel_rfl) (by kernel_rfl) (by kernel_rfl) (by kernel_rfl) (by kernel_rfl) (by kernel_rfl) (by kernel_rfl) (by kernel_rfl) (by kernel_rfl) (by kernel_rfl) (by kernel_rfl) (by kernel_rfl) (by kernel_rfl) (by kernel_rfl) (by kernel_rfl) (by kernel_rfl) (by kernel_rfl) (by kernel_rfl) (by kernel_rfl) (by kernel_rfl) (by kernel_rfl)
theorem FnExactColoursOfRods_holds : Rows.FnExactColoursOfRodsSaid :=
  OpenClaim.holds_of_wide 10 Try.f10 rfl rfl rfl rfl rfl rfl rfl ⟨rfl, rfl, rfl, rfl, rfl⟩ rfl rfl rfl rfl rfl (by kernel_rfl) Try.func10 FnExactColoursOfRods_joined
    (of_decide_eq_true (by kernel_rfl)) (by unfold Func.isWrapper; first | (rw [if_pos (by decide +kernel)]; kernel_rfl) | (rw [if_neg (by decide +kernel)]; exact ⟨rfl, rfl⟩))
    (fun os started H enc _ => FnExactColoursOfRods_lifted os started H enc)
#print axioms FnExactColoursOfRods_holds
end Go.Proofs.Ytlhgaihfghobmaa
