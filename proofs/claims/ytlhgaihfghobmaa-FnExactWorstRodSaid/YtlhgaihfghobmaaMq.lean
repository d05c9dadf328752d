/- WorstRod: contracts. -/
import Derived.Test.YtlhgaihfghobmaaMn
import Derived.OwnWalk
namespace Go.Proofs.Ytlhgaihfghobmaa
open Go.ChangeShapes Go.WideShapes Go.ChangeAt Go.RowKit Go.Deep

theorem spec_l03Size (x : Nat) (hn : isN .f32 x = false) (hx : x < 4294967296) (w : World) : Calls Try.prog 122 #[.float .f32 x] w (RetV (.float .f32 (x % 2147483648)) w) := by
  have hle := le_zero x hn
  by_cases h : si .f32 x ≤ 0
  · rw [decide_eq_true h] at hle
    have hs := Lib.hid (size_opV x hn h)
    clear h hn
    go_enter Try.func122, Try.ntmps122
    go_wp2_with fail
    go_ret
    exact ⟨by rw [hs.out]; rfl, (by repeat' (first | with_reducible exact Below.refl _ _ | with_reducible assumption | with_reducible refine below_dn ?_ _ | with_reducible refine Below.drew ?_ | with_reducible refine below_step ?_ (by assumption) | with_reducible refine Below.setCell ?_ ?_ _ | with_reducible refine Below.alloc ?_ ?_ _ | with_reducible exact Nat.le_refl _ | (simp; done) | (simp; omega) | omega))⟩
  · rw [decide_eq_false h] at hle
    have hs := Lib.hid (si_nonneg x hx h)
    clear h hn
    go_enter Try.func122, Try.ntmps122
    go_wp2_with fail
    go_ret
    exact ⟨by rw [hs.out]; rfl, (by repeat' (first | with_reducible exact Below.refl _ _ | with_reducible assumption | with_reducible refine below_dn ?_ _ | with_reducible refine Below.drew ?_ | with_reducible refine below_step ?_ (by assumption) | with_reducible refine Below.setCell ?_ ?_ _ | with_reducible refine Below.alloc ?_ ?_ _ | with_reducible exact Nat.le_refl _ | (simp; done) | (simp; omega) | omega))⟩
def RetIN (b m : Nat) (ok : Bool) (w : World) (e : Ending) (w' : World) : Prop :=
  ∃ x0, e = .returned (.tuple #[.int .i64 (b : Int), .float .f32 x0, .bool ok]) ∧ x0 < 4294967296 ∧ Sim .f32 x0 m ∧ Below w.heap.size w w'
def wsB (n1 n2 n3 n4 : Nat) (D : D4) : Bool := okC n1 n2 n3 n4 D && decide (0 < n4)
def wsV (b : Bool) (D : D4) (n : Nat) : Nat × Nat := match b with
  | true => wst D n
  | false => (0, 0)
theorem szD_lt (D : D4) (k : Nat) : szD D k < 4294967296 := Nat.lt_of_lt_of_le (Nat.mod_lt _ (by decide)) (by decide)
theorem wst_lt (D : D4) : ∀ k, (wst D k).2 < 4294967296
  | 0 => by show 3212836864 < 4294967296; decide
  | k + 1 => by
    unfold wst
    split
    · exact szD_lt D k
    · exact wst_lt D k
theorem wst_one {D : D4} (hn : isN .f32 (wrD D 0) = false) : wst D 1 = (0, szD D 0) := by
  show (if (FloatKind.f32.format.order (szD D 0) 3212836864 == some .gt) = true then (0, szD D 0) else _) = _
  exact if_pos (gt_neg1 _ hn)
theorem wst_le (D : D4) : ∀ k, (wst D k).1 ≤ k
  | 0 => Nat.le_refl _
  | k + 1 => by
    unfold wst
    split
    · exact Nat.le_succ _
    · exact Nat.le_succ_of_le (wst_le D k)
set_option maxHeartbeats 4000000 in
set_option maxRecDepth 100000 in
theorem impl_WorstRod (A1 A2 A3 A4 : Option Addr) (c1 c2 c3 c4 n1 n2 n3 n4 B : Nat) (D : D4) (w : World) (h : Own w B A1 A2 A3 A4 c1 c2 c3 c4 n1 n2 n3 n4 D) :
    Calls Try.prog 51 #[.agg #[.slice A1 n1 c1, .slice A2 n2 c2, .slice A3 n3 c3, .slice A4 n4 c4]] w (RetIN (wsV (wsB n1 n2 n3 n4 D) D n4).1 (wsV (wsB n1 n2 n3 n4 D) D n4).2 (wsB n1 n2 n3 n4 D) w) := by
  have H := Lib.hid h
  clear h
  cases q1 : okC n1 n2 n3 n4 D
  · have q2 : wsB n1 n2 n3 n4 D = false := by unfold wsB; rw [q1]; rfl
    rw [q2]
    go_enter Try.func51, Try.ntmps51
    go_wp2_with fail
    refine (impl_ValidChain A1 A2 A3 A4 c1 c2 c3 c4 n1 n2 n3 n4 B D _ (H.out.go (by repeat' (first | with_reducible exact Below.refl _ _ | with_reducible assumption | with_reducible refine below_dn ?_ _ | with_reducible refine Below.drew ?_ | with_reducible refine below_step ?_ (by assumption) | with_reducible refine Below.setCell ?_ ?_ _ | with_reducible refine Below.alloc ?_ ?_ _ | with_reducible exact Nat.le_refl _ | (simp; done) | (simp; omega) | omega)))).mono ?_
    rintro e w1 ⟨rfl, hb1⟩
    rw [q1]
    have B1 := Lib.hid (show Below w.heap.size w w1 from below_step (w := w) ((by repeat' (first | with_reducible exact Below.refl _ _ | with_reducible assumption | with_reducible refine below_dn ?_ _ | with_reducible refine Below.drew ?_ | with_reducible refine below_step ?_ (by assumption) | with_reducible refine Below.setCell ?_ ?_ _ | with_reducible refine Below.alloc ?_ ?_ _ | with_reducible exact Nat.le_refl _ | (simp; done) | (simp; omega) | omega))) hb1)
    have P1 := Lib.hid ((Bx.new_ w 32 (.slice A1 n1 c1) (.slice A2 n2 c2) (.slice A3 n3 c3) (.slice A4 n4 c4)).go hb1)
    clear hb1
    go_wp2_with fail
    go_ret3
    exact ⟨0, rfl, by decide, Sim.refl _ _, B1.out⟩
  · obtain ⟨z1, rfl, rfl, z4⟩ := okC_sz q1
    by_cases h0 : n4 = 0
    · have q2 : wsB n3 n3 n3 n4 D = false := by unfold wsB; rw [q1, h0]; rfl
      have hq : ((n4 : Int) == 0) = true := by rw [h0]; rfl
      rw [q2]
      clear h0
      go_enter Try.func51, Try.ntmps51
      go_wp2_with fail
      refine (impl_ValidChain A1 A2 A3 A4 c1 c2 c3 c4 n3 n3 n3 n4 B D _ (H.out.go (by repeat' (first | with_reducible exact Below.refl _ _ | with_reducible assumption | with_reducible refine below_dn ?_ _ | with_reducible refine Below.drew ?_ | with_reducible refine below_step ?_ (by assumption) | with_reducible refine Below.setCell ?_ ?_ _ | with_reducible refine Below.alloc ?_ ?_ _ | with_reducible exact Nat.le_refl _ | (simp; done) | (simp; omega) | omega)))).mono ?_
      rintro e w1 ⟨rfl, hb1⟩
      rw [q1]
      have B1 := Lib.hid (show Below w.heap.size w w1 from below_step (w := w) ((by repeat' (first | with_reducible exact Below.refl _ _ | with_reducible assumption | with_reducible refine below_dn ?_ _ | with_reducible refine Below.drew ?_ | with_reducible refine below_step ?_ (by assumption) | with_reducible refine Below.setCell ?_ ?_ _ | with_reducible refine Below.alloc ?_ ?_ _ | with_reducible exact Nat.le_refl _ | (simp; done) | (simp; omega) | omega))) hb1)
      have P1 := Lib.hid ((Bx.new_ w 32 (.slice A1 n3 c1) (.slice A2 n3 c2) (.slice A3 n3 c3) (.slice A4 n4 c4)).go hb1)
      clear hb1
      obtain ⟨p0, p1, p2, p3, pf⟩ := P1.out.facts
      have lp := P1.out.lt
      go_wp2_with fail
      go_ret3
      exact ⟨0, rfl, by decide, Sim.refl _ _, B1.out⟩
    · have q2 : wsB n3 n3 n3 n4 D = true := by unfold wsB; rw [q1, decide_eq_true (show 0 < n4 by omega)]; rfl
      have hq : ((n4 : Int) == 0) = false := by simpa using h0
      have HQ := Lib.hid q1
      rw [q2]
      go_enter Try.func51, Try.ntmps51
      go_wp2_with fail
      refine (impl_ValidChain A1 A2 A3 A4 c1 c2 c3 c4 n3 n3 n3 n4 B D _ (H.out.go (by repeat' (first | with_reducible exact Below.refl _ _ | with_reducible assumption | with_reducible refine below_dn ?_ _ | with_reducible refine Below.drew ?_ | with_reducible refine below_step ?_ (by assumption) | with_reducible refine Below.setCell ?_ ?_ _ | with_reducible refine Below.alloc ?_ ?_ _ | with_reducible exact Nat.le_refl _ | (simp; done) | (simp; omega) | omega)))).mono ?_
      rintro e w1 ⟨rfl, hb1⟩
      rw [q1]
      have B1 := Lib.hid (show Below w.heap.size w w1 from below_step (w := w) ((by repeat' (first | with_reducible exact Below.refl _ _ | with_reducible assumption | with_reducible refine below_dn ?_ _ | with_reducible refine Below.drew ?_ | with_reducible refine below_step ?_ (by assumption) | with_reducible refine Below.setCell ?_ ?_ _ | with_reducible refine Below.alloc ?_ ?_ _ | with_reducible exact Nat.le_refl _ | (simp; done) | (simp; omega) | omega))) hb1)
      have P1 := Lib.hid ((Bx.new_ w 32 (.slice A1 n3 c1) (.slice A2 n3 c2) (.slice A3 n3 c3) (.slice A4 n4 c4)).go hb1)
      clear hb1
      obtain ⟨p0, p1, p2, p3, pf⟩ := P1.out.facts
      have lp := P1.out.lt
      have hn0 : (0 : Int) < (n4 : Int) := by omega
      clear q1
      go_wp2_with fail
      clear p0 p1 p2 p3 pf lp hq
      go_loopw [5, 6, 22] (fun b v i wr => ∃ k : Nat, k ≤ n4 ∧ b = .int .i64 ((wst D k).1 : Int) ∧ v = .float .f32 (wst D k).2 ∧ i = .int .i64 k ∧ Below w1.heap.size w1 wr) (fun _ _ i _ => n4 - (intOf i).toNat)
      case atStart => exact ⟨0, Nat.zero_le _, rfl, rfl, rfl, Below.refl _ _⟩
      case round =>
        obtain ⟨k, hk, rfl, rfl, rfl, hB⟩ := hrel
        have HB := Lib.hid hB
        have ho := H.out.go (below_step B1.out hB)
        have hP := P1.out.go hB
        clear hB
        by_cases hlt : k < n4
        · obtain ⟨b4, off4, rfl, l4, i0, i1, i2⟩ := ho.s4.in_.at3 (k := k) hlt
          rw [rc0] at i0
          rw [rc1] at i1
          rw [rc2] at i2
          have hk0 : (0 : Int) ≤ (k : Int) := by omega
          have hk1 : (k : Int) < (n4 : Int) := by omega
          have hn4 : (n4 : Int) ≤ 40 := by omega
          have hnn := wrD_num HQ.out hlt
          have HRD := Lib.hid (okC_rod HQ.out hlt)
          have HOW := Lib.hid ho
          have HPW := Lib.hid hP
          obtain ⟨p0, p1, p2, p3, pf⟩ := hP.facts
          have lp := hP.lt
          clear ho hP
          go_upto_region 7 with fail
          obtain ⟨wq, hwq⟩ : ∃ wq : World, wq = wr.alloc (.cells #[.int .i64 (D.R k).a, .int .i64 (D.R k).b, .float .f32 (D.R k).l] 91) := ⟨_, rfl⟩
          have hX : Tx wq wr.heap.size 91 (.int .i64 (D.R k).a) (.int .i64 (D.R k).b) (.float .f32 (D.R k).l) := by rw [hwq]; exact Tx.new_ _ _ _ _ _
          have hBq : Below wr.heap.size wr wq := by rw [hwq]; exact Below.alloc (Below.refl _ _) (Nat.le_refl _) _
          rw [← hwq]
          clear hwq
          have HXQ := Lib.hid hX
          have HOQ := Lib.hid (HOW.out.go hBq)
          have HPQ := Lib.hid (HPW.out.go hBq)
          have HBQ := Lib.hid hBq
          clear hX hBq HOW HPW i0 i1 i2 l4
          have hw0 : Below wq.heap.size wq wq.drew := (Below.refl _ _).drew
          clear p0 p1 p2 p3 pf lp
          refine region_inv (stat [isE (.agg #[.int .i64 (D.R k).a, .int .i64 (D.R k).b, .float .f32 (D.R k).l]), isF (rodL D (D.R k)), isE (.pointer (some ⟨wr.heap.size, 2, none⟩)), isE (.float .f32 (D.R k).l), isF (wrD D k), isE (.float .f32 (szD D k)), isE (.float .f32 (szD D k))]) (fun _ W => (fun W => Below wq.heap.size wq W) W) (by kernel_rfl) (by kernel_rfl) (by kernel_rfl) (hw0) ⟨?r0, ?r1, ?r2, ?r3, ?r4, ?r5, ?r6, trivial⟩ ?hend
          case r0 =>
            intro listed a u h hu hd K hK
            have hA := h.world
            have e8 : a.tmps.getD 8 undef = .pointer (some ⟨wr.heap.size, 0, none⟩) := h.base (by kernel_rfl)
            have f8 : a.tmps[8]? = some (.pointer (some ⟨wr.heap.size, 0, none⟩)) := h.old (by kernel_rfl)
            rw [if_pos (by rfl)]
            obtain ⟨x0_, x1_, x2_, xf_⟩ := (HXQ.out.go hA).facts
            go_simp
            exact hK _ _ (fact_stat _ _ _) (isE.mk rfl) hA
          case r1 =>
            intro listed a u h hu hd K hK
            have hA := h.world
            have e1 : a.tmps.getD 1 undef = .pointer (some ⟨w.heap.size, 0, none⟩) := h.base (by kernel_rfl)
            have f1 : a.tmps[1]? = some (.pointer (some ⟨w.heap.size, 0, none⟩)) := h.old (by kernel_rfl)
            obtain ⟨v27, ev27, em27, F27⟩ := h.slot (i := 0) rfl rfl (hd _ (Array.mem_of_getElem? (i := 0) rfl) rfl)
            have e27 := ev27.trans (isE.out F27)
            have f27 := em27.trans (congrArg some (isE.out F27))
            clear ev27 em27 F27
            rw [if_pos (by rfl)]
            go_simp
            refine Calls.mono (impl_long w.heap.size _ _ _ _ _ _ _ _ n3 n3 n3 n4 B D k HRD.out.1 HRD.out.2.1 u (HPQ.out.go hA) (HOQ.out.go hA)) ?_
            rintro e u2 ⟨r, rfl, hlt, hs, hb⟩
            exact hK _ _ (fact_stat _ _ _) (isF.mk hlt hs) (hA.trans (hb.mono hA.size))
          case r2 =>
            intro listed a u h hu hd K hK
            have hA := h.world
            have e8 : a.tmps.getD 8 undef = .pointer (some ⟨wr.heap.size, 0, none⟩) := h.base (by kernel_rfl)
            have f8 : a.tmps[8]? = some (.pointer (some ⟨wr.heap.size, 0, none⟩)) := h.old (by kernel_rfl)
            rw [if_pos (by rfl)]
            go_simp
            exact hK _ _ (fact_stat _ _ _) (isE.mk rfl) hA
          case r3 =>
            intro listed a u h hu hd K hK
            have hA := h.world
            obtain ⟨v29, ev29, em29, F29⟩ := h.slot (i := 2) rfl rfl (hd _ (Array.mem_of_getElem? (i := 0) rfl) rfl)
            have e29 := ev29.trans (isE.out F29)
            have f29 := em29.trans (congrArg some (isE.out F29))
            clear ev29 em29 F29
            rw [if_pos (by rfl)]
            obtain ⟨x0_, x1_, x2_, xf_⟩ := (HXQ.out.go hA).facts
            go_simp
            exact hK _ _ (fact_stat _ _ _) (isE.mk rfl) hA
          case r4 =>
            intro listed a u h hu hd K hK
            have hA := h.world
            obtain ⟨v28, ev28, em28, F28⟩ := h.slot (i := 1) rfl rfl (hd _ (Array.mem_of_getElem? (i := 0) rfl) rfl)
            obtain ⟨x28, q28, l28, s28⟩ := isF.out F28
            have e28 := ev28.trans q28
            have f28 := em28.trans (congrArg some q28)
            clear ev28 em28 F28
            obtain ⟨v30, ev30, em30, F30⟩ := h.slot (i := 3) rfl rfl (hd _ (Array.mem_of_getElem? (i := 1) rfl) rfl)
            have e30 := ev30.trans (isE.out F30)
            have f30 := em30.trans (congrArg some (isE.out F30))
            clear ev30 em30 F30
            rw [if_pos (by rfl)]
            go_simp
            exact hK _ _ (fact_stat _ _ _) (isF.mk (opV_lt32 _ _ _ _ _) (sub_sim s28 (Sim.refl _ _) _ _)) (below_dn hA _)
          case r5 =>
            intro listed a u h hu hd K hK
            have hA := h.world
            obtain ⟨v31, ev31, em31, F31⟩ := h.slot (i := 4) rfl rfl (hd _ (Array.mem_of_getElem? (i := 0) rfl) rfl)
            obtain ⟨x31, q31, l31, s31⟩ := isF.out F31
            have e31 := ev31.trans q31
            have f31 := em31.trans (congrArg some q31)
            clear ev31 em31 F31
            rw [if_pos (by rfl)]
            go_simp
            have hxx : x31 = wrD D k := (s31.symm.eq hnn).symm
            rw [hxx]
            refine Calls.mono (impl_abs _ (by rw [← hxx]; exact l31) u) ?_
            rintro e u2 ⟨rfl, nq, rfl⟩
            exact hK _ _ (fact_stat _ _ _) (isE.mk rfl) (below_dn hA _)
          case r6 =>
            intro listed a u h hu hd K hK
            have hA := h.world
            obtain ⟨v32, ev32, em32, F32⟩ := h.slot (i := 5) rfl rfl (hd _ (Array.mem_of_getElem? (i := 0) rfl) rfl)
            have e32 := ev32.trans (isE.out F32)
            have f32 := em32.trans (congrArg some (isE.out F32))
            clear ev32 em32 F32
            rw [if_pos (by rfl)]
            go_simp
            exact hK _ _ (fact_stat _ _ _) (isE.mk rfl) hA
          case hend =>
            intro listed a u h hall
            have hB := h.world
            obtain ⟨v9, ev9, em9, F9⟩ := h.slot (i := 6) rfl rfl (hall 6 (by decide))
            have f9 := em9.trans (congrArg some (isE.out F9))
            clear ev9 em9 F9
            obtain ⟨v27, ev27, em27, F27⟩ := h.slot (i := 0) rfl rfl (hall 0 (by decide))
            have f27 := em27.trans (congrArg some (isE.out F27))
            clear ev27 em27 F27
            obtain ⟨v28, ev28, em28, F28⟩ := h.slot (i := 1) rfl rfl (hall 1 (by decide))
            obtain ⟨x28, q28, l28, s28⟩ := isF.out F28
            have f28 := em28.trans (congrArg some q28)
            clear ev28 em28 F28
            obtain ⟨v29, ev29, em29, F29⟩ := h.slot (i := 2) rfl rfl (hall 2 (by decide))
            have f29 := em29.trans (congrArg some (isE.out F29))
            clear ev29 em29 F29
            obtain ⟨v30, ev30, em30, F30⟩ := h.slot (i := 3) rfl rfl (hall 3 (by decide))
            have f30 := em30.trans (congrArg some (isE.out F30))
            clear ev30 em30 F30
            obtain ⟨v31, ev31, em31, F31⟩ := h.slot (i := 4) rfl rfl (hall 4 (by decide))
            obtain ⟨x31, q31, l31, s31⟩ := isF.out F31
            have f31 := em31.trans (congrArg some q31)
            clear ev31 em31 F31
            obtain ⟨v32, ev32, em32, F32⟩ := h.slot (i := 5) rfl rfl (hall 5 (by decide))
            have f32 := em32.trans (congrArg some (isE.out F32))
            clear ev32 em32 F32
            have ha := h.act [9, 27, 28, 29, 30, 31, 32] [_, _, _, _, _, _, _] (by kernel_rfl) ⟨f9, f27, f28, f29, f30, f31, f32, trivial⟩
            clear f9 f27 f28 f29 f30 f31 f32
            simp only [setAll, List.setIfInBounds_toArray, List.set_cons_zero, List.set_cons_succ] at ha
            subst ha
            clear h hall
            have HW := Lib.hid (show Below w1.heap.size w1 u from HB.out.trans (Below.mono (below_step HBQ.out hB) HB.out.size))
            clear hB
            by_cases hg : (FloatKind.f32.format.order (szD D k) (wst D k).2 == some .gt) = true
            · have HG := Lib.hid hg
              go_wp2_with fail
              go_roundw
              case rel => exact ⟨k + 1, by omega, by rw [show wst D (k + 1) = (k, szD D k) from if_pos HG.out], by rw [show wst D (k + 1) = (k, szD D k) from if_pos HG.out], by go_num, HW.out⟩
              case measure => simp [intOf]; omega
            · have HG := Lib.hid hg
              have hg' : (FloatKind.f32.format.order (szD D k) (wst D k).2 == some .gt) = false := by simpa using hg
              clear hg
              go_wp2_with fail
              go_roundw
              case rel => exact ⟨k + 1, by omega, by rw [show wst D (k + 1) = wst D k from if_neg HG.out], by rw [show wst D (k + 1) = wst D k from if_neg HG.out], by go_num, HW.out⟩
              case measure => simp [intOf]; omega
        · obtain rfl : n4 = k := by omega
          clear ho hP
          go_wp2_with fail
          go_ret3
          exact ⟨_, rfl, wst_lt D n4, Sim.refl _ _, below_step B1.out HB.out⟩
set_option maxHeartbeats 4000000 in
set_option maxRecDepth 100000 in
theorem spec_WorstRod (A1 A2 A3 A4 : Option Addr) (c1 c2 c3 c4 n1 n2 n3 n4 B : Nat) (D : D4) (w : World) (h : Own w B A1 A2 A3 A4 c1 c2 c3 c4 n1 n2 n3 n4 D) :
    Calls Try.prog 50 #[.agg #[.slice A1 n1 c1, .slice A2 n2 c2, .slice A3 n3 c3, .slice A4 n4 c4]] w (RetIN (wsV (wsB n1 n2 n3 n4 D) D n4).1 (wsV (wsB n1 n2 n3 n4 D) D n4).2 (wsB n1 n2 n3 n4 D) w) := by
  have H := Lib.hid h
  clear h
  cases q1 : okC n1 n2 n3 n4 D
  · have q2 : wsB n1 n2 n3 n4 D = false := by unfold wsB; rw [q1]; rfl
    rw [q2]
    go_enter Try.func50, Try.ntmps50
    go_wp2_with fail
    refine (spec_l03Is w.heap.size A1 A2 A3 A4 c1 c2 c3 c4 n1 n2 n3 n4 B D _ (Bx.new_ _ _ _ _ _ _) (H.out.go (by repeat' (first | with_reducible exact Below.refl _ _ | with_reducible assumption | with_reducible refine below_dn ?_ _ | with_reducible refine Below.drew ?_ | with_reducible refine below_step ?_ (by assumption) | with_reducible refine Below.setCell ?_ ?_ _ | with_reducible refine Below.alloc ?_ ?_ _ | with_reducible exact Nat.le_refl _ | (simp; done) | (simp; omega) | omega)))).mono ?_
    rintro e w1 ⟨rfl, hb1⟩
    rw [q1]
    have B1 := Lib.hid (show Below w.heap.size w w1 from below_step (w := w) ((by repeat' (first | with_reducible exact Below.refl _ _ | with_reducible assumption | with_reducible refine below_dn ?_ _ | with_reducible refine Below.drew ?_ | with_reducible refine below_step ?_ (by assumption) | with_reducible refine Below.setCell ?_ ?_ _ | with_reducible refine Below.alloc ?_ ?_ _ | with_reducible exact Nat.le_refl _ | (simp; done) | (simp; omega) | omega))) hb1)
    have P1 := Lib.hid ((Bx.new_ w 32 (.slice A1 n1 c1) (.slice A2 n2 c2) (.slice A3 n3 c3) (.slice A4 n4 c4)).go hb1)
    clear hb1
    go_wp2_with fail
    go_ret3
    exact ⟨0, rfl, by decide, Sim.refl _ _, B1.out⟩
  · obtain ⟨z1, rfl, rfl, z4⟩ := okC_sz q1
    by_cases h0 : n4 = 0
    · have q2 : wsB n3 n3 n3 n4 D = false := by unfold wsB; rw [q1, h0]; rfl
      have hq : ((n4 : Int) == 0) = true := by rw [h0]; rfl
      rw [q2]
      clear h0
      go_enter Try.func50, Try.ntmps50
      go_wp2_with fail
      refine (spec_l03Is w.heap.size A1 A2 A3 A4 c1 c2 c3 c4 n3 n3 n3 n4 B D _ (Bx.new_ _ _ _ _ _ _) (H.out.go (by repeat' (first | with_reducible exact Below.refl _ _ | with_reducible assumption | with_reducible refine below_dn ?_ _ | with_reducible refine Below.drew ?_ | with_reducible refine below_step ?_ (by assumption) | with_reducible refine Below.setCell ?_ ?_ _ | with_reducible refine Below.alloc ?_ ?_ _ | with_reducible exact Nat.le_refl _ | (simp; done) | (simp; omega) | omega)))).mono ?_
      rintro e w1 ⟨rfl, hb1⟩
      rw [q1]
      have B1 := Lib.hid (show Below w.heap.size w w1 from below_step (w := w) ((by repeat' (first | with_reducible exact Below.refl _ _ | with_reducible assumption | with_reducible refine below_dn ?_ _ | with_reducible refine Below.drew ?_ | with_reducible refine below_step ?_ (by assumption) | with_reducible refine Below.setCell ?_ ?_ _ | with_reducible refine Below.alloc ?_ ?_ _ | with_reducible exact Nat.le_refl _ | (simp; done) | (simp; omega) | omega))) hb1)
      have P1 := Lib.hid ((Bx.new_ w 32 (.slice A1 n3 c1) (.slice A2 n3 c2) (.slice A3 n3 c3) (.slice A4 n4 c4)).go hb1)
      clear hb1
      obtain ⟨p0, p1, p2, p3, pf⟩ := P1.out.facts
      have lp := P1.out.lt
      go_wp2_with fail
      go_ret3
      exact ⟨0, rfl, by decide, Sim.refl _ _, B1.out⟩
    · have q2 : wsB n3 n3 n3 n4 D = true := by unfold wsB; rw [q1, decide_eq_true (show 0 < n4 by omega)]; rfl
      have hq : ((n4 : Int) == 0) = false := by simpa using h0
      have HQ := Lib.hid q1
      rw [q2]
      go_enter Try.func50, Try.ntmps50
      go_wp2_with fail
      refine (spec_l03Is w.heap.size A1 A2 A3 A4 c1 c2 c3 c4 n3 n3 n3 n4 B D _ (Bx.new_ _ _ _ _ _ _) (H.out.go (by repeat' (first | with_reducible exact Below.refl _ _ | with_reducible assumption | with_reducible refine below_dn ?_ _ | with_reducible refine Below.drew ?_ | with_reducible refine below_step ?_ (by assumption) | with_reducible refine Below.setCell ?_ ?_ _ | with_reducible refine Below.alloc ?_ ?_ _ | with_reducible exact Nat.le_refl _ | (simp; done) | (simp; omega) | omega)))).mono ?_
      rintro e w1 ⟨rfl, hb1⟩
      rw [q1]
      have B1 := Lib.hid (show Below w.heap.size w w1 from below_step (w := w) ((by repeat' (first | with_reducible exact Below.refl _ _ | with_reducible assumption | with_reducible refine below_dn ?_ _ | with_reducible refine Below.drew ?_ | with_reducible refine below_step ?_ (by assumption) | with_reducible refine Below.setCell ?_ ?_ _ | with_reducible refine Below.alloc ?_ ?_ _ | with_reducible exact Nat.le_refl _ | (simp; done) | (simp; omega) | omega))) hb1)
      have P1 := Lib.hid ((Bx.new_ w 32 (.slice A1 n3 c1) (.slice A2 n3 c2) (.slice A3 n3 c3) (.slice A4 n4 c4)).go hb1)
      clear hb1
      obtain ⟨p0, p1, p2, p3, pf⟩ := P1.out.facts
      have lp := P1.out.lt
      have hn0 : (0 : Int) < (n4 : Int) := by omega
      clear q1
      go_wp2_with fail
      clear p0 p1 p2 p3 pf lp hq
      go_loopw [5, 6, 20] (fun b v i wr => ∃ k : Nat, k ≤ n4 ∧ b = .int .i64 ((wst D k).1 : Int) ∧ v = .float .f32 (if k = 0 then 0 else (wst D k).2) ∧ i = .int .i64 k ∧ Below w1.heap.size w1 wr) (fun _ _ i _ => n4 - (intOf i).toNat)
      case atStart => exact ⟨0, Nat.zero_le _, rfl, rfl, rfl, Below.refl _ _⟩
      case round =>
        obtain ⟨k, hk, rfl, rfl, rfl, hB⟩ := hrel
        have HB := Lib.hid hB
        have ho := H.out.go (below_step B1.out hB)
        have hP := P1.out.go hB
        clear hB
        by_cases hlt : k < n4
        · obtain ⟨b4, off4, rfl, l4, i0, i1, i2⟩ := ho.s4.in_.at3 (k := k) hlt
          rw [rc0] at i0
          rw [rc1] at i1
          rw [rc2] at i2
          have hk0 : (0 : Int) ≤ (k : Int) := by omega
          have hk1 : (k : Int) < (n4 : Int) := by omega
          have hn4 : (n4 : Int) ≤ 40 := by omega
          have hnn := wrD_num HQ.out hlt
          have HRD := Lib.hid (okC_rod HQ.out hlt)
          have HOW := Lib.hid ho
          have HPW := Lib.hid hP
          obtain ⟨p0, p1, p2, p3, pf⟩ := hP.facts
          have lp := hP.lt
          clear ho hP
          go_upto_region 8 with fail
          have HOQ := HOW
          have HPQ := HPW
          have HI0 := Lib.hid i0
          have HI2 := Lib.hid i2
          clear HOW HPW i0 i1 i2
          have hw0 : Below wr.heap.size wr wr.drew := (Below.refl _ _).drew
          clear p0 p1 p2 p3 pf lp
          refine region_inv (stat [isE (.int .i64 (k : Int)), isF (rodL D (D.R k)), isE (.pointer (some ⟨w.heap.size, 3, none⟩)), isE (.slice (some ⟨b4, off4, none⟩) n4 c4), isE (.int .i64 (k : Int)), isE (.pointer (some ⟨b4, off4 + k * 3, none⟩)), isE (.pointer (some ⟨b4, off4 + k * 3 + 2, none⟩)), isE (.float .f32 (D.R k).l), isF (wrD D k), isE (.float .f32 (szD D k)), isE (.float .f32 (szD D k))]) (fun _ W => (fun W => Below wr.heap.size wr W) W) (by kernel_rfl) (by kernel_rfl) (by kernel_rfl) (hw0) ⟨?r0, ?r1, ?r2, ?r3, ?r4, ?r5, ?r6, ?r7, ?r8, ?r9, ?r10, trivial⟩ ?hend
          case r0 =>
            intro listed a u h hu hd K hK
            have hA := h.world
            have e7 : a.tmps.getD 7 undef = .int .i64 (k : Int) := h.base (by kernel_rfl)
            have f7 : a.tmps[7]? = some (.int .i64 (k : Int)) := h.old (by kernel_rfl)
            rw [if_pos (by rfl)]
            go_simp
            exact hK _ _ (fact_stat _ _ _) (isE.mk rfl) hA
          case r1 =>
            intro listed a u h hu hd K hK
            have hA := h.world
            have e1 : a.tmps.getD 1 undef = .pointer (some ⟨w.heap.size, 0, none⟩) := h.base (by kernel_rfl)
            have f1 : a.tmps[1]? = some (.pointer (some ⟨w.heap.size, 0, none⟩)) := h.old (by kernel_rfl)
            obtain ⟨v23, ev23, em23, F23⟩ := h.slot (i := 0) rfl rfl (hd _ (Array.mem_of_getElem? (i := 0) rfl) rfl)
            have e23 := ev23.trans (isE.out F23)
            have f23 := em23.trans (congrArg some (isE.out F23))
            clear ev23 em23 F23
            rw [if_pos (by rfl)]
            go_simp
            refine Calls.mono (spec_l03Long w.heap.size _ _ _ _ _ _ _ _ n3 n3 n3 n4 B D k hlt HRD.out.1 HRD.out.2.1 u (HPQ.out.go hA) (HOQ.out.go hA)) ?_
            rintro e u2 ⟨r, rfl, hlt, hs, hb⟩
            exact hK _ _ (fact_stat _ _ _) (isF.mk hlt hs) (hA.trans (hb.mono hA.size))
          case r2 =>
            intro listed a u h hu hd K hK
            have hA := h.world
            have e1 : a.tmps.getD 1 undef = .pointer (some ⟨w.heap.size, 0, none⟩) := h.base (by kernel_rfl)
            have f1 : a.tmps[1]? = some (.pointer (some ⟨w.heap.size, 0, none⟩)) := h.old (by kernel_rfl)
            rw [if_pos (by rfl)]
            go_simp
            exact hK _ _ (fact_stat _ _ _) (isE.mk rfl) hA
          case r3 =>
            intro listed a u h hu hd K hK
            have hA := h.world
            obtain ⟨v25, ev25, em25, F25⟩ := h.slot (i := 2) rfl rfl (hd _ (Array.mem_of_getElem? (i := 0) rfl) rfl)
            have e25 := ev25.trans (isE.out F25)
            have f25 := em25.trans (congrArg some (isE.out F25))
            clear ev25 em25 F25
            rw [if_pos (by rfl)]
            obtain ⟨g0, g1, g2, g3, gf⟩ := (HPQ.out.go hA).facts
            have i2 := (bcell hA).1 _ _ l4 |>.trans HI2.out
            go_simp
            exact hK _ _ (fact_stat _ _ _) (isE.mk rfl) hA
          case r4 =>
            intro listed a u h hu hd K hK
            have hA := h.world
            have e7 : a.tmps.getD 7 undef = .int .i64 (k : Int) := h.base (by kernel_rfl)
            have f7 : a.tmps[7]? = some (.int .i64 (k : Int)) := h.old (by kernel_rfl)
            rw [if_pos (by rfl)]
            go_simp
            exact hK _ _ (fact_stat _ _ _) (isE.mk rfl) hA
          case r5 =>
            intro listed a u h hu hd K hK
            have hA := h.world
            obtain ⟨v26, ev26, em26, F26⟩ := h.slot (i := 3) rfl rfl (hd _ (Array.mem_of_getElem? (i := 0) rfl) rfl)
            have e26 := ev26.trans (isE.out F26)
            have f26 := em26.trans (congrArg some (isE.out F26))
            clear ev26 em26 F26
            obtain ⟨v27, ev27, em27, F27⟩ := h.slot (i := 4) rfl rfl (hd _ (Array.mem_of_getElem? (i := 1) rfl) rfl)
            have e27 := ev27.trans (isE.out F27)
            have f27 := em27.trans (congrArg some (isE.out F27))
            clear ev27 em27 F27
            rw [if_pos (by rfl)]
            go_simp
            exact hK _ _ (fact_stat _ _ _) (isE.mk rfl) hA
          case r6 =>
            intro listed a u h hu hd K hK
            have hA := h.world
            obtain ⟨v28, ev28, em28, F28⟩ := h.slot (i := 5) rfl rfl (hd _ (Array.mem_of_getElem? (i := 0) rfl) rfl)
            have e28 := ev28.trans (isE.out F28)
            have f28 := em28.trans (congrArg some (isE.out F28))
            clear ev28 em28 F28
            rw [if_pos (by rfl)]
            go_simp
            exact hK _ _ (fact_stat _ _ _) (isE.mk rfl) hA
          case r7 =>
            intro listed a u h hu hd K hK
            have hA := h.world
            obtain ⟨v29, ev29, em29, F29⟩ := h.slot (i := 6) rfl rfl (hd _ (Array.mem_of_getElem? (i := 0) rfl) rfl)
            have e29 := ev29.trans (isE.out F29)
            have f29 := em29.trans (congrArg some (isE.out F29))
            clear ev29 em29 F29
            rw [if_pos (by rfl)]
            obtain ⟨g0, g1, g2, g3, gf⟩ := (HPQ.out.go hA).facts
            have i2 := (bcell hA).1 _ _ l4 |>.trans HI2.out
            go_simp
            exact hK _ _ (fact_stat _ _ _) (isE.mk rfl) hA
          case r8 =>
            intro listed a u h hu hd K hK
            have hA := h.world
            obtain ⟨v24, ev24, em24, F24⟩ := h.slot (i := 1) rfl rfl (hd _ (Array.mem_of_getElem? (i := 0) rfl) rfl)
            obtain ⟨x24, q24, l24, s24⟩ := isF.out F24
            have e24 := ev24.trans q24
            have f24 := em24.trans (congrArg some q24)
            clear ev24 em24 F24
            obtain ⟨v30, ev30, em30, F30⟩ := h.slot (i := 7) rfl rfl (hd _ (Array.mem_of_getElem? (i := 1) rfl) rfl)
            have e30 := ev30.trans (isE.out F30)
            have f30 := em30.trans (congrArg some (isE.out F30))
            clear ev30 em30 F30
            rw [if_pos (by rfl)]
            go_simp
            exact hK _ _ (fact_stat _ _ _) (isF.mk (opV_lt32 _ _ _ _ _) (sub_sim s24 (Sim.refl _ _) _ _)) (below_dn hA _)
          case r9 =>
            intro listed a u h hu hd K hK
            have hA := h.world
            obtain ⟨v31, ev31, em31, F31⟩ := h.slot (i := 8) rfl rfl (hd _ (Array.mem_of_getElem? (i := 0) rfl) rfl)
            obtain ⟨x31, q31, l31, s31⟩ := isF.out F31
            have e31 := ev31.trans q31
            have f31 := em31.trans (congrArg some q31)
            clear ev31 em31 F31
            rw [if_pos (by rfl)]
            go_simp
            have hxx : x31 = wrD D k := (s31.symm.eq hnn).symm
            rw [hxx]
            refine Calls.mono (spec_l03Size _ hnn (by rw [← hxx]; exact l31) u) ?_
            rintro e u2 ⟨rfl, hb⟩
            exact hK _ _ (fact_stat _ _ _) (isE.mk rfl) (hA.trans (hb.mono hA.size))
          case r10 =>
            intro listed a u h hu hd K hK
            have hA := h.world
            obtain ⟨v32, ev32, em32, F32⟩ := h.slot (i := 9) rfl rfl (hd _ (Array.mem_of_getElem? (i := 0) rfl) rfl)
            have e32 := ev32.trans (isE.out F32)
            have f32 := em32.trans (congrArg some (isE.out F32))
            clear ev32 em32 F32
            rw [if_pos (by rfl)]
            go_simp
            exact hK _ _ (fact_stat _ _ _) (isE.mk rfl) hA
          case hend =>
            intro listed a u h hall
            have hB := h.world
            obtain ⟨v8, ev8, em8, F8⟩ := h.slot (i := 10) rfl rfl (hall 10 (by decide))
            have f8 := em8.trans (congrArg some (isE.out F8))
            clear ev8 em8 F8
            obtain ⟨v23, ev23, em23, F23⟩ := h.slot (i := 0) rfl rfl (hall 0 (by decide))
            have f23 := em23.trans (congrArg some (isE.out F23))
            clear ev23 em23 F23
            obtain ⟨v24, ev24, em24, F24⟩ := h.slot (i := 1) rfl rfl (hall 1 (by decide))
            obtain ⟨x24, q24, l24, s24⟩ := isF.out F24
            have f24 := em24.trans (congrArg some q24)
            clear ev24 em24 F24
            obtain ⟨v25, ev25, em25, F25⟩ := h.slot (i := 2) rfl rfl (hall 2 (by decide))
            have f25 := em25.trans (congrArg some (isE.out F25))
            clear ev25 em25 F25
            obtain ⟨v26, ev26, em26, F26⟩ := h.slot (i := 3) rfl rfl (hall 3 (by decide))
            have f26 := em26.trans (congrArg some (isE.out F26))
            clear ev26 em26 F26
            obtain ⟨v27, ev27, em27, F27⟩ := h.slot (i := 4) rfl rfl (hall 4 (by decide))
            have f27 := em27.trans (congrArg some (isE.out F27))
            clear ev27 em27 F27
            obtain ⟨v28, ev28, em28, F28⟩ := h.slot (i := 5) rfl rfl (hall 5 (by decide))
            have f28 := em28.trans (congrArg some (isE.out F28))
            clear ev28 em28 F28
            obtain ⟨v29, ev29, em29, F29⟩ := h.slot (i := 6) rfl rfl (hall 6 (by decide))
            have f29 := em29.trans (congrArg some (isE.out F29))
            clear ev29 em29 F29
            obtain ⟨v30, ev30, em30, F30⟩ := h.slot (i := 7) rfl rfl (hall 7 (by decide))
            have f30 := em30.trans (congrArg some (isE.out F30))
            clear ev30 em30 F30
            obtain ⟨v31, ev31, em31, F31⟩ := h.slot (i := 8) rfl rfl (hall 8 (by decide))
            obtain ⟨x31, q31, l31, s31⟩ := isF.out F31
            have f31 := em31.trans (congrArg some q31)
            clear ev31 em31 F31
            obtain ⟨v32, ev32, em32, F32⟩ := h.slot (i := 9) rfl rfl (hall 9 (by decide))
            have f32 := em32.trans (congrArg some (isE.out F32))
            clear ev32 em32 F32
            have ha := h.act [8, 23, 24, 25, 26, 27, 28, 29, 30, 31, 32] [_, _, _, _, _, _, _, _, _, _, _] (by kernel_rfl) ⟨f8, f23, f24, f25, f26, f27, f28, f29, f30, f31, f32, trivial⟩
            clear f8 f23 f24 f25 f26 f27 f28 f29 f30 f31 f32
            simp only [setAll, List.setIfInBounds_toArray, List.set_cons_zero, List.set_cons_succ] at ha
            subst ha
            clear h hall
            have HW := Lib.hid (show Below w1.heap.size w1 u from HB.out.trans (Below.mono (hB) HB.out.size))
            clear hB
            by_cases hkz : k = 0
            · subst hkz
              have HN := Lib.hid hnn
              clear hnn
              go_wp2_with fail
              go_roundw
              case rel => exact ⟨1, by omega, by rw [wst_one HN.out], by rw [if_neg (by decide), wst_one HN.out], by go_num, HW.out⟩
              case measure => simp [intOf]; omega
            · have hkq : ((k : Int) == 0) = false := by simpa using hkz
              rw [if_neg hkz]
              by_cases hg : (FloatKind.f32.format.order (szD D k) (wst D k).2 == some .gt) = true
              · have HG := Lib.hid hg
                have HKZ := Lib.hid hkz
                clear hkz
                go_wp2_with fail
                go_roundw
                case rel => exact ⟨k + 1, by omega, by rw [show wst D (k + 1) = (k, szD D k) from if_pos HG.out], by rw [if_neg (Nat.succ_ne_zero _), show wst D (k + 1) = (k, szD D k) from if_pos HG.out], by go_num, HW.out⟩
                case measure => simp [intOf]; omega
              · have HG := Lib.hid hg
                have hg' : (FloatKind.f32.format.order (szD D k) (wst D k).2 == some .gt) = false := by simpa using hg
                clear hg
                have HKZ := Lib.hid hkz
                clear hkz
                go_wp2_with fail
                go_roundw
                case rel => exact ⟨k + 1, by omega, by rw [show wst D (k + 1) = wst D k from if_neg HG.out], by rw [if_neg (Nat.succ_ne_zero _), show wst D (k + 1) = wst D k from if_neg HG.out], by go_num, HW.out⟩
                case measure => simp [intOf]; omega
        · obtain rfl : n4 = k := by omega
          clear ho hP
          rw [if_neg h0]
          go_wp2_with fail
          go_ret3
          exact ⟨_, rfl, wst_lt D n4, Sim.refl _ _, below_step B1.out HB.out⟩
end Go.Proofs.Ytlhgaihfghobmaa
