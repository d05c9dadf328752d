/- RisesOf of the program returns what RisesOf of the reference returns, leaves its argument alone, and shares no memory with its argument or with the result of another call: the law returns true. For every list (the law itself lets lists of more than 2^20 numbers by). -/
import Derived.Test.YtojkdlidcmfkeaaRj
import Derived.Test.YtojkdlidcmfkeaaKf
namespace Go.Proofs.Ytojkdlidcmfkeaa
open Go.ChangeShapes Go.WideShapes Go.ChangeAt Go.RowKit Go.Deep

theorem Ow.below {w w' : World} {B C : Nat} {v : Value} {xs : List Int} (h : Ow w B v xs) (hb : Below C w w') (hlt : ∀ k, v.ownBlock = some k → k < C) : Ow w' B v xs := by
  refine ⟨h.1, ?_⟩
  rcases h.2 with hn | ⟨g, cap, cur, rfl, hB, hg, rest⟩
  · exact .inl hn
  · exact .inr ⟨g, cap, cur, rfl, hB, (hb.block g (hlt g rfl)).trans hg, rest⟩
theorem Ow.go {w w' : World} {B : Nat} {v : Value} {xs : List Int} (h : Ow w B v xs) (hb : Below w.heap.size w w') : Ow w' B v xs := h.below hb fun k hk => (h.lt k hk).2
theorem row_below {w w' : World} {g n C : Nat} {t : TypeId} {f : Nat → Value} (h : w.rowIs g t n f) (hb : Below C w w') (hlt : g < C) : w'.rowIs g t n f := by
  obtain ⟨c, hc, rest⟩ := h
  exact ⟨c, (hb.block g hlt).trans hc, rest⟩
theorem Ow.kept {w w' : World} {B : Nat} {v : Value} {xs : List Int} {row : Option Nat} (h : Ow w B v xs) (hg : w.grownBy w' row) (hne : v.ownBlock = none ∨ v.ownBlock ≠ row) : Ow w' B v xs := World.ownsRow.kept h hg hne
theorem ne_of_lt {a b : Option Nat} {m : Nat} (h1 : ∀ k, a = some k → k < m) (h2 : ∀ k, b = some k → m ≤ k) : a = none ∨ a ≠ b := by
  cases a with
  | none => exact .inl rfl
  | some x => exact .inr fun e => by have := h1 x rfl; have := h2 x e.symm; omega
theorem ne_of_gt {a b : Option Nat} {m : Nat} (h1 : ∀ k, a = some k → m ≤ k) (h2 : ∀ k, b = some k → k < m) : a = none ∨ a ≠ b := by
  cases a with
  | none => exact .inl rfl
  | some x => exact .inr fun e => by have := h1 x rfl; have := h2 x e.symm; omega
theorem risesV_le (xs : List Nat) : (risesV xs).length ≤ xs.length := by
  unfold risesV
  split
  · exact rs_le xs _
  · exact Nat.zero_le _
set_option maxHeartbeats 2000000 in
theorem FnExactRisesOf_walk (A : Option Addr) (cap : Nat) (xs : List Nat) (hm : xs.length ≤ maxLen) (w : World) (h : FlAt w w.heap.size A xs) :
    Calls Try.prog 4 #[.slice A xs.length cap] w (RetV (.bool true) w) := by
  unfold maxLen at hm
  by_cases hn : xs.length ≤ 1048576
  · have H := Lib.hid h
    have hn' : (xs.length : Int) ≤ 1048576 := by omega
    have RL := risesV_le xs
    obtain ⟨R, hR⟩ : ∃ R, R = risesV xs := ⟨_, rfl⟩
    obtain ⟨t, ht⟩ : ∃ t, t = fewR xs := ⟨_, rfl⟩
    have HSr : ∀ (A : Option Addr) (cap : Nat) (w : World) (B : Nat), FlAt w B A xs → B ≤ w.heap.size → Calls Try.prog 15 #[.slice A xs.length cap] w (RetIB R t w) := by
      rw [hR, ht]; exact fun A cap w B h hB => spec_RisesOf A cap xs hn w B h hB
    have HIr : ∀ (A : Option Addr) (cap : Nat) (w : World) (B : Nat), FlAt w B A xs → B ≤ w.heap.size → Calls Try.prog 16 #[.slice A xs.length cap] w (RetIB R t w) := by
      rw [hR, ht]; exact fun A cap w B h hB => impl_RisesOf A cap xs hn w B h hB
    rw [← hR] at RL
    have KS := Lib.hid HSr
    have KI := Lib.hid HIr
    clear HSr HIr
    have hRn : R.length ≤ 1048576 := by omega
    have htt : (t != t) = false := by simp
    have HX := Lib.hid hn
    clear h hR ht
    go_enter Try.func4, Try.ntmps4
    go_wp2_with fail
    refine (laws_toFloat32S A cap xs HX.out _ H.out).mono ?_
    rintro e w1 ⟨g1, rfl, hg1, hr1, hb1⟩
    have R1 := Lib.hid hr1
    have B1 := Lib.hid hb1
    clear hr1 hb1
    go_wp2_with fail
    refine (KS.out _ _ _ _ (FlAt.of_row R1.out) (Nat.le_refl _)).mono ?_
    rintro e w2 ⟨v0, rfl, ho0, hb2⟩
    have V0 := Lib.hid ho0
    have B2 := Lib.hid (below_step B1.out hb2)
    clear ho0 hb2 R1 B1
    go_wp2_with fail
    refine (laws_toFloat32S A cap xs HX.out _ (H.out.go B2.out)).mono ?_
    rintro e w3 ⟨g2, rfl, hg2, hr2, hb3⟩
    have R2 := Lib.hid hr2
    have B3 := Lib.hid (below_step B2.out hb3)
    have V0a := Lib.hid (V0.out.go hb3)
    have hg2lt : g2 < w3.heap.size := hr2.lt
    have N0 := Lib.hid (ne_of_lt (b := some g2) (fun k hk => (V0.out.lt k hk).2) (fun k hk => by cases hk; exact hg2))
    have L0 := Lib.hid (fun k hk => Nat.lt_of_lt_of_le (V0.out.lt k hk).2 (Nat.le_trans hg2 (Nat.le_of_lt hg2lt)))
    have hg2w : w.heap.size ≤ g2 := Nat.le_trans B2.out.size hg2
    clear hr2 hb3 B2 V0
    go_wp2_with fail
    refine (KI.out _ _ _ _ (FlAt.of_row R2.out) (Nat.le_refl _)).mono ?_
    rintro e w4 ⟨v1, rfl, ho1, hb4⟩
    have V1 := Lib.hid ho1
    have V0b := Lib.hid (V0a.out.go hb4)
    have R3 := Lib.hid (row_below R2.out hb4 hg2lt)
    have B4 := Lib.hid (below_step B3.out hb4)
    have N1 := Lib.hid (ne_of_gt (b := some g2) (fun k hk => (ho1.lt k hk).1) (fun k hk => by cases hk; exact hg2lt))
    have N01 := Lib.hid (ne_of_lt L0.out (fun k hk => (ho1.lt k hk).1))
    have M1 := Lib.hid (fun k hk => Nat.le_trans B3.out.size (ho1.lt k hk).1)
    clear ho1 hb4 V0a R2 L0
    go_wp2_with (go_at_call 17; refine (laws_eqInt64S _ _ R hRn _ _ _ V1.out V0b.out).mono ?_; rintro e w' ⟨rfl, n4, rfl⟩)
    refine (laws_toFloat32S A cap xs HX.out _ (H.out.go (below_dn B4.out _))).mono ?_
    rintro e w5 ⟨g3, rfl, hg3, hr3, hb5⟩
    have V1a := Lib.hid (Ow.go (w := w4.drewN n4) V1.out hb5)
    have V0c := Lib.hid (Ow.go (w := w4.drewN n4) V0b.out hb5)
    have R4 := Lib.hid (row_below (w := w4.drewN n4) R3.out hb5 R3.out.lt)
    have R5 := Lib.hid hr3
    have B5 := Lib.hid (below_step (below_dn B4.out n4) hb5)
    clear hr3 hb5 V1 V0b R3 B4
    go_wp2_with fail
    refine (laws_eqFloat32S _ _ _ _ xs xs HX.out (SimL.refl xs) _ _ _ (FlAt.of_row R4.out) (FlAt.of_row R5.out)).mono ?_
    rintro e w6 ⟨rfl, n5, rfl⟩
    go_wp2_with fail
    refine (laws_markFloat32S g2 _ _ _ HX.out _ (by exact R4.out)).mono ?_
    rintro e w7 ⟨rfl, hg7⟩
    have V1b := Lib.hid (Ow.kept (w := w5.drewN n5) V1a.out hg7 N1.out)
    have V0d := Lib.hid (Ow.kept (w := w5.drewN n5) V0c.out hg7 N0.out)
    have B7 := Lib.hid ((below_dn B5.out n5).grown hg7 B5.out.size (fun k hk => by cases hk; exact hg2w))
    clear hg7 V1a V0c R4 R5 B5
    go_wp2_with (go_at_call 17; refine (laws_eqInt64S _ _ R hRn _ _ _ V1b.out V0d.out).mono ?_; rintro e w' ⟨rfl, n7, rfl⟩)
    refine (laws_markInt64S _ R hRn _ _ (by exact V1b.out)).mono ?_
    rintro e w8 ⟨rfl, ho8, hg8⟩
    have V1c := Lib.hid ho8
    have V0e := Lib.hid (Ow.kept (w := w7.drewN n7) V0d.out hg8 N01.out)
    have B8 := Lib.hid ((below_dn B7.out n7).grown hg8 B7.out.size M1.out)
    clear ho8 hg8 V1b V0d B7
    go_wp2_with fail
    refine (laws_heldInt64S _ _ hRn _ _ V1c.out).mono ?_
    rintro e w9 ⟨rfl, n8, rfl⟩
    go_wp2_with fail
    refine (laws_toFloat32S A cap xs HX.out _ (H.out.go (below_dn B8.out _))).mono ?_
    rintro e w10 ⟨g4, rfl, hg4, hr4, hb10⟩
    have V1d := Lib.hid (Ow.go (w := w8.drewN n8) V1c.out hb10)
    have V0f := Lib.hid (Ow.go (w := w8.drewN n8) V0e.out hb10)
    have R6 := Lib.hid hr4
    have B10 := Lib.hid (below_step (below_dn B8.out n8) hb10)
    clear hr4 hb10 V1c V0e B8
    go_wp2_with fail
    refine (KI.out _ _ _ _ (FlAt.of_row R6.out) (Nat.le_refl _)).mono ?_
    rintro e w11 ⟨v2, rfl, ho11, hb11⟩
    have V2 := Lib.hid ho11
    have V1e := Lib.hid (V1d.out.go hb11)
    have V0g := Lib.hid (V0f.out.go hb11)
    have B11 := Lib.hid (below_step B10.out hb11)
    clear ho11 hb11 V1d V0f B10
    go_wp2_with (go_at_call 17; refine (laws_eqInt64S _ _ R hRn _ _ _ V2.out V0g.out).mono ?_; rintro e w' ⟨rfl, n11, rfl⟩)
    refine (laws_heldInt64S _ _ hRn _ _ (by exact V1e.out)).mono ?_
    rintro e w12 ⟨rfl, n12, rfl⟩
    go_wp2_with fail
    go_ret
    exact ⟨rfl, below_dn B11.out _⟩
  · have hn' : (1048576 : Int) < (xs.length : Int) := by omega
    clear hn h
    go_enter Try.func4, Try.ntmps4
    go_wp2
    go_ret
    exact ⟨rfl, (by repeat' (first | with_reducible exact Below.refl _ _ | with_reducible assumption | with_reducible refine below_dn ?_ _ | with_reducible refine Below.drew ?_ | with_reducible refine below_step ?_ (by assumption) | with_reducible refine Below.setCell ?_ ?_ _ | with_reducible refine Below.alloc ?_ ?_ _ | with_reducible exact Nat.le_refl _ | (simp; done) | (simp; omega) | omega))⟩
set_option maxRecDepth 100000 in
theorem FnExactRisesOf_lifted (os : Os) (started : os.Started) (H : Type) (enc : TypeId × Value → H) :
    ReturnsInHanded {} Try.checked os 4 .any (Rows.fnExactRisesOfSpec.pre6 enc Try.prog Try.f4 Rows.fnExactRisesOfRow.domain false) (Rows.fnExactRisesOfSpec.post enc Try.prog Try.f4 false true false false) := by
  refine returnsInHanded_of_change (C := Try.checked) own started (by kernel_rfl) Try.func4
    (ChangeSpec.witness6 (enc := enc) (C := Try.checked) false ⟨#[], #[.slice none 0 0], []⟩ 8 (by kernel_rfl) (by kernel_rfl) (by kernel_rfl) (by kernel_rfl)) ?_
  intro W base args ds gs before hval0 hW _ _
  have hval : ∀ (j : Nat) t v, Try.f4.params[j]? = some t → args[j]? = some v → Value.okWide Try.prog W .any base t v := hval0
  have hW0 := hW
  obtain ⟨p, q, hA0, hV, _, _, _⟩ := hW
  obtain ⟨rfl, rfl⟩ := trodVars_none hV
  have hA : DataW.TrodAll enc Try.prog W 0 (fun _ => true) true Try.f4.params.toList args.toList ds p := hA0
  rw [Try.params4] at hA hval
  obtain ⟨v0, vs0, d0, ds0, p0, q0, hargs, rfl, _, h0, r0⟩ := trodAll_cons hA
  obtain ⟨rfl, rfl, _⟩ := trodAll_nil r0
  obtain rfl : args = #[v0] := by cases args; simp_all
  obtain ⟨A0, c0, xs0, rfl, hm0, hF0, _⟩ := open_floats Try.underlying22 Try.underlying23 (by kernel_rfl) (hval 0 22 v0 rfl rfl) h0
  clear hA0 hval0
  refine (FnExactRisesOf_walk A0 c0 xs0 hm0 W hF0).mono fun e W' ⟨he, hb⟩ => ?_
  subst he
  exact ⟨_, rfl, law_post Try.laidOut hW0 rfl rfl (by kernel_rfl) Try.underlying4 (by kernel_rfl) hb⟩

theorem FnExactRisesOf_holds : Rows.FnExactRisesOfSaid :=
  OpenClaim.holds_of_wide 4 Try.f4 rfl rfl rfl rfl rfl rfl rfl ⟨rfl, rfl, rfl, rfl, rfl⟩ rfl rfl rfl rfl rfl (by kernel_rfl) Try.func4 (by kernel_rfl)
    (of_decide_eq_true (by kernel_rfl)) (by unfold Func.isWrapper; first | (rw [if_pos (by decide +kernel)]; kernel_rfl) | (rw [if_neg (by decide +kernel)]; exact ⟨rfl, rfl⟩))
    (fun os started H enc _ => FnExactRisesOf_lifted os started H enc)
#print axioms FnExactRisesOf_holds
end Go.Proofs.Ytojkdlidcmfkeaa
