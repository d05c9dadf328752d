/- Decimal: contracts. -/
import Derived.Test.YtfempadelilpoaaDoorKit
import Derived.Test.YtfempadelilpoaaDoorTf
import Derived.Laws.OwnMore
import Derived.Laws.IdiomStrings
import Derived.OwnWalk
import Derived.Handy
import Derived.Deep.DeepCutAuto
import Derived.Lib.ItoaLen
namespace Go.Proofs.YtfempadelilpoaaDoor
open Go.ChangeShapes Go.WideShapes Go.ChangeAt Go.RowKit Go.Deep

theorem info8 : (Tryd.prog.info? 5).map (fun i => (i.zero, i.size, i.bytes)) = some (some (.int .u8 0), 1, 1) := by kernel_rfl
def cellsB (l : List UInt8) : List Value := l.map (fun u => Value.int .u8 (u.toNat : Int))
def RetS (l : List UInt8) (w : World) (e : Ending) (w' : World) : Prop := e = .returned (.string ⟨l.toArray⟩) ∧ Below w.heap.size w w'
theorem cellsB_len (l : List UInt8) : (cellsB l).length = l.length * 1 := by simp [cellsB]
theorem cellsB_one (l : List UInt8) : ∀ u ∈ cellsB l, u.oneCell' = true := fun u hu => by
  obtain ⟨x, _, rfl⟩ := List.mem_map.1 hu
  rfl
theorem own_one (w : World) {B : Nat} (x : Int) (hB : B ≤ w.heap.size) : (w.alloc (.cells #[.int .u8 x] 5)).ownsRow B 5 1 (.slice (some ⟨w.heap.size, 0, none⟩) 1 1) 1 [.int .u8 x] :=
  ⟨rfl, .inr ⟨w.heap.size, 1, _, rfl, hB, heap_alloc_new w _, Nat.le_refl _, by unfold maxLen; omega, rfl, rfl⟩⟩
theorem src_cells {w : World} {B g cap : Nat} {l : List UInt8} (h : w.ownsRow B 5 1 (.slice (some ⟨g, 0, none⟩) l.length cap) l.length (cellsB l)) : ∀ j u, (cellsB l)[j]? = some u → w.cell? ((⟨g, 0, none⟩ : Addr).add j) = some u := fun j u hj => by
  have hl : j < (cellsB l).length := (List.getElem?_eq_some_iff.1 hj).1
  have := World.ownsRow.cellAt h j (by rw [cellsB_len] at hl; omega)
  rw [show (⟨g, 0, none⟩ : Addr).add j = ⟨g, j, none⟩ by unfold Addr.add; simp; try omega, this]
  exact hj
theorem own_bytes {w : World} {B n : Nat} {v : Value} {l : List UInt8} (hl : l.length = n) (hn : 0 < n) (h : w.ownsRow B 5 1 v n (cellsB l)) :
    ∃ g cap, v = .slice (some ⟨g, 0, none⟩) n cap ∧ (convert 61 9 v).run Tryd.prog w = .ok (.string ⟨l.toArray⟩) w := by
  obtain ⟨_, ⟨_, h0⟩ | ⟨g, cap, cur, rfl, hB, hg, _⟩⟩ := id h
  · omega
  · refine ⟨g, cap, rfl, ?_⟩
    subst hl
    refine run_convert_bytes_back w 61 9 5 ⟨g, 0, none⟩ cap l Tryd.underlying61 Tryd.underlying5 Tryd.underlying9 fun j hj => ?_
    have := World.ownsRow.cellAt h j (by omega)
    rw [show (⟨g, 0, none⟩ : Addr).add j = ⟨g, j, none⟩ by unfold Addr.add; simp; try omega, this]
    simp [cellsB, hj]
/-- a byte ahead of an own row. -/
theorem pre_rel {w wr w2 : World} {O : Obj} {v v2 : Value} {c : UInt8} {x : Int} {l : List UInt8} (hx : x = (c.toNat : Int)) (hB : Below w.heap.size w wr) (hv : ∀ k, v.ownBlock = some k → w.heap.size ≤ k)
    (h : w2.ownsRow w.heap.size 5 1 v2 (1 + l.length) ([.int .u8 x] ++ cellsB l)) (hg : (wr.alloc O).grownBy w2 v.ownBlock) :
    ∃ g cap, v2 = .slice (some ⟨g, 0, none⟩) (c :: l).length cap ∧ w2.ownsRow w.heap.size 5 1 (.slice (some ⟨g, 0, none⟩) (c :: l).length cap) (c :: l).length (cellsB (c :: l)) ∧ Below w.heap.size w w2 := by
  subst hx
  have e : (c :: l).length = 1 + l.length := by rw [List.length_cons]; omega
  have h' : w2.ownsRow w.heap.size 5 1 v2 (c :: l).length (cellsB (c :: l)) := by rw [e]; exact h
  rcases id h'.2 with ⟨_, h0⟩ | ⟨g, cap, cur, rfl, _⟩
  · simp at h0
  · exact ⟨g, cap, rfl, h', (hB.alloc hB.size O).grown hg (by have := hB.size; simp; omega) hv⟩
/-- how far the digits of a have come: r is to come, bs is written. -/
def DecI (a r : Nat) (bs : List UInt8) : Prop := (bs = [] ∧ r = a) ∨ (bs ≠ [] ∧ ((r = 0 ∧ bs = Lib.decDigits a) ∨ (0 < r ∧ Lib.decDigits r ++ bs = Lib.decDigits a)))
theorem dec_small {u : Nat} (h : u < 10) : Lib.decDigits u = [UInt8.ofNat (48 + u % 10)] := by rw [Lib.decDigits_one h, Nat.mod_eq_of_lt h]
theorem dec_big {u : Nat} (h : ¬ u < 10) : Lib.decDigits u = Lib.decDigits (u / 10) ++ [UInt8.ofNat (48 + u % 10)] := by rw [Lib.decDigits, dif_neg h]
theorem DecI.step {a r : Nat} {bs : List UInt8} (h : DecI a r bs) (hc : bs = [] ∨ r ≠ 0) : DecI a (r / 10) (UInt8.ofNat (48 + r % 10) :: bs) := by
  refine .inr ⟨by simp, ?_⟩
  have key : Lib.decDigits r ++ bs = Lib.decDigits a := by
    rcases h with ⟨rfl, rfl⟩ | ⟨hb, ⟨rfl, _⟩ | ⟨_, h⟩⟩
    · simp
    · exact absurd rfl (hc.resolve_left hb)
    · exact h
  by_cases hr : r < 10
  · rw [dec_small hr] at key
    exact .inl ⟨Nat.div_eq_of_lt hr, key⟩
  · rw [dec_big hr, List.append_assoc] at key
    exact .inr ⟨by omega, key⟩
theorem DecI.done {a r : Nat} {bs : List UInt8} (h : DecI a r bs) (hb : bs ≠ []) (hr : r = 0) : bs = Lib.decDigits a := by
  rcases h with ⟨h, _⟩ | ⟨_, ⟨_, h⟩ | ⟨h, _⟩⟩
  · exact absurd h hb
  · exact h
  · omega
theorem DecI.len {a r : Nat} {bs : List UInt8} (h : DecI a r bs) : bs.length ≤ (Lib.decDigits a).length := by
  rcases h with ⟨rfl, _⟩ | ⟨_, ⟨_, h⟩ | ⟨_, h⟩⟩
  · exact Nat.zero_le _
  · rw [h]; exact Nat.le_refl _
  · rw [← h, List.length_append]; omega
theorem dec_len {n : Int} (h0 : -9223372036854775808 ≤ n) (h1 : n ≤ 9223372036854775807) : (Lib.decDigits n.natAbs).length ≤ 21 := by
  have := Lib.itoa_length_le n h0 h1
  unfold Lib.itoa at this
  split at this
  · simp at this; omega
  · rw [show n.natAbs = n.toNat by omega]; exact this
def flagN (v : Value) : Nat := match v with
  | .slice _ 0 _ => 1
  | _ => 0
theorem dq_neg (r : Nat) : (-(r : Int)).tmod 10 = -((r % 10 : Nat) : Int) ∧ (-(r : Int)).tdiv 10 = -((r / 10 : Nat) : Int) := by
  rw [Int.neg_tmod, Int.tmod_eq_emod_of_nonneg (by omega), Int.neg_tdiv, Int.tdiv_eq_ediv_of_nonneg (by omega)]
  constructor <;> omega
theorem dq_pos (r : Nat) : (r : Int).tmod 10 = ((r % 10 : Nat) : Int) ∧ (r : Int).tdiv 10 = ((r / 10 : Nat) : Int) := by
  rw [Int.tmod_eq_emod_of_nonneg (by omega), Int.tdiv_eq_ediv_of_nonneg (by omega)]
  constructor <;> omega
theorem dig_nat {d : Nat} (hd : d < 10) : (UInt8.ofNat (48 + d)).toNat = 48 + d := by simp; omega
set_option maxHeartbeats 4000000 in
set_option maxRecDepth 100000 in
theorem spec_l01Dec (n : Int) (h0 : -9223372036854775808 ≤ n) (h1 : n ≤ 9223372036854775807) (w : World) : Calls Tryd.prog 29 #[.int .i64 n] w (RetS (Lib.itoa n) w) := by
  obtain ⟨a, ha⟩ : ∃ a : Nat, a = n.natAbs := ⟨_, rfl⟩
  have HLEN := Lib.hid (show (Lib.decDigits a).length ≤ 21 from by rw [ha]; exact dec_len h0 h1)
  have HA := Lib.hid ha
  clear ha
  obtain ⟨i0, hi, hz0, hz1, hz2⟩ := info_parts info8
  go_enter Tryd.func29, Tryd.ntmps29
  go_wp2_with fail
  go_loopw [3, 4] (fun v i wr => ∃ (r g cap : Nat) (R : Int) (bs : List UInt8), DecI a r bs ∧ (n < 0 → R = -(r : Int)) ∧ (¬ n < 0 → R = (r : Int)) ∧ -9223372036854775808 ≤ R ∧ R ≤ 9223372036854775807 ∧ i = .int .i64 R ∧ v = .slice (some ⟨g, 0, none⟩) bs.length cap ∧ wr.ownsRow w.heap.size 5 1 (.slice (some ⟨g, 0, none⟩) bs.length cap) bs.length (cellsB bs) ∧ Below w.heap.size w wr) (fun v i _ => (intOf i).natAbs + flagN v)
  case atStart => exact ⟨a, w.heap.size, 0, n, [], .inl ⟨rfl, rfl⟩, fun h => by have := HA.out; omega, fun h => by have := HA.out; omega, h0, h1, rfl, rfl, World.ownsRow_made w #[] 0 (Nat.le_refl _) (Nat.zero_le _) rfl, (by repeat' (first | with_reducible exact Below.refl _ _ | with_reducible assumption | with_reducible refine below_dn ?_ _ | with_reducible refine Below.drew ?_ | with_reducible refine below_step ?_ (by assumption) | with_reducible refine Below.setCell ?_ ?_ _ | with_reducible refine Below.alloc ?_ ?_ _ | with_reducible exact Nat.le_refl _ | (simp; done) | (simp; omega) | omega))⟩
  case round =>
    obtain ⟨r, g, cap, R, bs, hI, hR1, hR2, hRb1, hRb2, rfl, rfl, hown, hB⟩ := hrel
    have HI := Lib.hid hI
    have HR1 := Lib.hid hR1
    have HR2 := Lib.hid hR2
    have HO := Lib.hid hown
    have HB := Lib.hid hB
    have hbs := hB.size
    have hlen := hI.len
    have hl21 : bs.length ≤ 21 := Nat.le_trans hlen HLEN.out
    have HRR := Lib.hid (show R.natAbs = r from by
      by_cases hn : n < 0
      · have := hR1 hn; omega
      · have := hR2 hn; omega)
    clear hI hR1 hR2 hown hB hlen
    by_cases hbe : bs = []
    · have hb0 : ((bs.length : Int) == 0) = true := by rw [hbe]; rfl
      have HC := Lib.hid (show bs = [] ∨ r ≠ 0 from .inl hbe)
      have HF := Lib.hid (show (R.tdiv 10).natAbs < R.natAbs + flagN (.slice (some ⟨g, 0, none⟩) bs.length cap) from by
        rw [hbe]
        show _ < _ + 1
        rw [Int.natAbs_tdiv]
        exact Nat.lt_succ_of_le (Nat.div_le_self _ _))
      clear hbe
      obtain ⟨d0, hd0⟩ : ∃ d0 : Int, R.tmod 10 = d0 := ⟨_, rfl⟩
      obtain ⟨q0, hq0⟩ : ∃ q0 : Int, R.tdiv 10 = q0 := ⟨_, rfl⟩
      have HQ := Lib.hid hq0
      have HD := Lib.hid (show d0.natAbs = r % 10 ∧ (n < 0 → q0 = -((r / 10 : Nat) : Int)) ∧ (¬ n < 0 → q0 = ((r / 10 : Nat) : Int)) from by
        by_cases hn : n < 0
        · have e := HR1.out hn
          rw [e, (dq_neg r).1] at hd0
          rw [e, (dq_neg r).2] at hq0
          exact ⟨by omega, fun _ => hq0.symm, fun h => absurd hn h⟩
        · have e := HR2.out hn
          rw [e, (dq_pos r).1] at hd0
          rw [e, (dq_pos r).2] at hq0
          exact ⟨by omega, fun h => absurd h hn, fun _ => hq0.symm⟩)
      have hd1 : -9 ≤ d0 := by have := HD.out.1; omega
      have hd2 : d0 ≤ 9 := by have := HD.out.1; omega
      have hqq : -9223372036854775808 ≤ q0 ∧ q0 ≤ 9223372036854775807 := by
        have e := HRR.out
        by_cases hn : n < 0
        · have := HD.out.2.1 hn; omega
        · have := HD.out.2.2 hn; omega
      obtain ⟨hq1, hq2⟩ := hqq
      by_cases hneg : d0 < 0
      · go_wp2_with (at_builtin; refine wpList_append_own _ rfl _ _ 61 rfl w.heap.size 5 i0 (.int .u8 0) 1 1 Tryd.underlying61 hi hz0 hz1 hz2 rfl (by decide) _ _ _ rfl (own_one wr _ hbs) ⟨g, 0, none⟩ bs.length cap (cellsB bs) rfl (cellsB_len bs) (src_cells (HO.out.alloc _)) (cellsB_one bs) (by unfold maxLen; omega) (by omega) (by simp; omega) ?_; intro v2 w2 hown2 hgrow _)
        obtain ⟨g2, cap2, rfl, hown3, hb3⟩ := pre_rel (c := UInt8.ofNat (48 + r % 10)) (by rw [dig_nat (Nat.mod_lt _ (by decide))]; have := HD.out.1; first | omega | (rw [IntKind.wrap_u8]; omega)) HB.out (v := .slice (some ⟨wr.heap.size, 0, none⟩) 1 1) (fun k hk => by cases hk; exact hbs) hown2 hgrow
        have HO3 := Lib.hid hown3
        have HB3 := Lib.hid hb3
        clear hown2 hgrow hown3 hb3
        go_wp2_with fail
        go_roundw
        case rel => exact ⟨r / 10, g2, cap2, q0, _, HI.out.step HC.out, HD.out.2.1, HD.out.2.2, hq1, hq2, rfl, rfl, HO3.out, HB3.out⟩
        case measure =>
          have hf := HF.out
          rw [HQ.out] at hf
          exact hf
      · go_wp2_with (at_builtin; refine wpList_append_own _ rfl _ _ 61 rfl w.heap.size 5 i0 (.int .u8 0) 1 1 Tryd.underlying61 hi hz0 hz1 hz2 rfl (by decide) _ _ _ rfl (own_one wr _ hbs) ⟨g, 0, none⟩ bs.length cap (cellsB bs) rfl (cellsB_len bs) (src_cells (HO.out.alloc _)) (cellsB_one bs) (by unfold maxLen; omega) (by omega) (by simp; omega) ?_; intro v2 w2 hown2 hgrow _)
        obtain ⟨g2, cap2, rfl, hown3, hb3⟩ := pre_rel (c := UInt8.ofNat (48 + r % 10)) (by rw [dig_nat (Nat.mod_lt _ (by decide))]; have := HD.out.1; first | omega | (rw [IntKind.wrap_u8]; omega)) HB.out (v := .slice (some ⟨wr.heap.size, 0, none⟩) 1 1) (fun k hk => by cases hk; exact hbs) hown2 hgrow
        have HO3 := Lib.hid hown3
        have HB3 := Lib.hid hb3
        clear hown2 hgrow hown3 hb3
        go_wp2_with fail
        go_roundw
        case rel => exact ⟨r / 10, g2, cap2, q0, _, HI.out.step HC.out, HD.out.2.1, HD.out.2.2, hq1, hq2, rfl, rfl, HO3.out, HB3.out⟩
        case measure =>
          have hf := HF.out
          rw [HQ.out] at hf
          exact hf
    · have hb0 : ((bs.length : Int) == 0) = false := by
        have : bs.length ≠ 0 := fun h => hbe (List.length_eq_zero_iff.1 h)
        simp only [beq_eq_false_iff_ne, ne_eq]
        omega
      have HBE := Lib.hid hbe
      clear hbe
      by_cases hr : r = 0
      · have hR0 : R = 0 := by have := HRR.out; omega
        have HDONE := Lib.hid (HI.out.done HBE.out hr)
        have hk0 : 0 < bs.length := List.length_pos_iff.2 HBE.out
        subst hR0
        clear hr
        by_cases hn : n < 0
        · go_upto_region 11 with (at_builtin; refine wpList_append_own _ rfl _ _ 61 rfl w.heap.size 5 i0 (.int .u8 0) 1 1 Tryd.underlying61 hi hz0 hz1 hz2 rfl (by decide) _ _ _ rfl (own_one wr _ hbs) ⟨g, 0, none⟩ bs.length cap (cellsB bs) rfl (cellsB_len bs) (src_cells (HO.out.alloc _)) (cellsB_one bs) (by unfold maxLen; omega) (by omega) (by simp; omega) ?_; intro v2 w2 hown2 hgrow _)
          obtain ⟨L2, hL2⟩ : ∃ z : List UInt8, z = 45 :: bs := ⟨_, rfl⟩
          obtain ⟨g2, cap2, hv2, hown3, hb3⟩ := pre_rel (c := 45) rfl HB.out (v := .slice (some ⟨wr.heap.size, 0, none⟩) 1 1) (fun k hk => by cases hk; exact hbs) hown2 hgrow
          have HB3 := Lib.hid hb3
          rw [← hL2] at hv2 hown3
          subst hv2
          have HL2 := Lib.hid hL2
          have hl2 : 0 < L2.length := by rw [hL2]; simp
          clear hown2 hgrow hb3 hL2
          obtain ⟨g3, cap3, he, hcv⟩ := own_bytes rfl hl2 hown3
          cases he
          clear hown3
          go_wp2_with fail
          go_ret
          refine ⟨?_, HB3.out⟩
          unfold Lib.itoa
          rw [if_pos (by omega), ← HA.out, ← HDONE.out, ← HL2.out]
          rfl
        · obtain ⟨g3, cap3, he, hcv⟩ := own_bytes rfl hk0 HO.out
          cases he
          go_wp2_with fail
          go_ret
          refine ⟨?_, HB.out⟩
          unfold Lib.itoa
          rw [if_neg (by omega), show n.toNat = n.natAbs by omega, ← HA.out, ← HDONE.out]
          rfl
      · have hR0 : (R != 0) = true := by
          have := HRR.out
          simp only [bne_iff_ne, ne_eq]
          omega
        have HC := Lib.hid (show bs = [] ∨ r ≠ 0 from .inr hr)
        have HF := Lib.hid (show (R.tdiv 10).natAbs < R.natAbs + flagN (.slice (some ⟨g, 0, none⟩) bs.length cap) from by
          rw [Int.natAbs_tdiv, HRR.out]
          have : r / 10 < r := Nat.div_lt_self (by omega) (by decide)
          exact Nat.lt_of_lt_of_le this (Nat.le_add_right _ _))
        clear hr
        obtain ⟨d0, hd0⟩ : ∃ d0 : Int, R.tmod 10 = d0 := ⟨_, rfl⟩
        obtain ⟨q0, hq0⟩ : ∃ q0 : Int, R.tdiv 10 = q0 := ⟨_, rfl⟩
        have HQ := Lib.hid hq0
        have HD := Lib.hid (show d0.natAbs = r % 10 ∧ (n < 0 → q0 = -((r / 10 : Nat) : Int)) ∧ (¬ n < 0 → q0 = ((r / 10 : Nat) : Int)) from by
          by_cases hn : n < 0
          · have e := HR1.out hn
            rw [e, (dq_neg r).1] at hd0
            rw [e, (dq_neg r).2] at hq0
            exact ⟨by omega, fun _ => hq0.symm, fun h => absurd hn h⟩
          · have e := HR2.out hn
            rw [e, (dq_pos r).1] at hd0
            rw [e, (dq_pos r).2] at hq0
            exact ⟨by omega, fun h => absurd h hn, fun _ => hq0.symm⟩)
        have hd1 : -9 ≤ d0 := by have := HD.out.1; omega
        have hd2 : d0 ≤ 9 := by have := HD.out.1; omega
        have hqq : -9223372036854775808 ≤ q0 ∧ q0 ≤ 9223372036854775807 := by
          have e := HRR.out
          by_cases hn : n < 0
          · have := HD.out.2.1 hn; omega
          · have := HD.out.2.2 hn; omega
        obtain ⟨hq1, hq2⟩ := hqq
        by_cases hneg : d0 < 0
        · go_wp2_with (at_builtin; refine wpList_append_own _ rfl _ _ 61 rfl w.heap.size 5 i0 (.int .u8 0) 1 1 Tryd.underlying61 hi hz0 hz1 hz2 rfl (by decide) _ _ _ rfl (own_one wr _ hbs) ⟨g, 0, none⟩ bs.length cap (cellsB bs) rfl (cellsB_len bs) (src_cells (HO.out.alloc _)) (cellsB_one bs) (by unfold maxLen; omega) (by omega) (by simp; omega) ?_; intro v2 w2 hown2 hgrow _)
          obtain ⟨g2, cap2, rfl, hown3, hb3⟩ := pre_rel (c := UInt8.ofNat (48 + r % 10)) (by rw [dig_nat (Nat.mod_lt _ (by decide))]; have := HD.out.1; first | omega | (rw [IntKind.wrap_u8]; omega)) HB.out (v := .slice (some ⟨wr.heap.size, 0, none⟩) 1 1) (fun k hk => by cases hk; exact hbs) hown2 hgrow
          have HO3 := Lib.hid hown3
          have HB3 := Lib.hid hb3
          clear hown2 hgrow hown3 hb3
          go_wp2_with fail
          go_roundw
          case rel => exact ⟨r / 10, g2, cap2, q0, _, HI.out.step HC.out, HD.out.2.1, HD.out.2.2, hq1, hq2, rfl, rfl, HO3.out, HB3.out⟩
          case measure =>
            have hf := HF.out
            rw [HQ.out] at hf
            exact hf
        · go_wp2_with (at_builtin; refine wpList_append_own _ rfl _ _ 61 rfl w.heap.size 5 i0 (.int .u8 0) 1 1 Tryd.underlying61 hi hz0 hz1 hz2 rfl (by decide) _ _ _ rfl (own_one wr _ hbs) ⟨g, 0, none⟩ bs.length cap (cellsB bs) rfl (cellsB_len bs) (src_cells (HO.out.alloc _)) (cellsB_one bs) (by unfold maxLen; omega) (by omega) (by simp; omega) ?_; intro v2 w2 hown2 hgrow _)
          obtain ⟨g2, cap2, rfl, hown3, hb3⟩ := pre_rel (c := UInt8.ofNat (48 + r % 10)) (by rw [dig_nat (Nat.mod_lt _ (by decide))]; have := HD.out.1; first | omega | (rw [IntKind.wrap_u8]; omega)) HB.out (v := .slice (some ⟨wr.heap.size, 0, none⟩) 1 1) (fun k hk => by cases hk; exact hbs) hown2 hgrow
          have HO3 := Lib.hid hown3
          have HB3 := Lib.hid hb3
          clear hown2 hgrow hown3 hb3
          go_wp2_with fail
          go_roundw
          case rel => exact ⟨r / 10, g2, cap2, q0, _, HI.out.step HC.out, HD.out.2.1, HD.out.2.2, hq1, hq2, rfl, rfl, HO3.out, HB3.out⟩
          case measure =>
            have hf := HF.out
            rw [HQ.out] at hf
            exact hf
set_option maxHeartbeats 1000000 in
theorem spec_Decimal (n : Int) (h0 : -9223372036854775808 ≤ n) (h1 : n ≤ 9223372036854775807) (w : World) : Calls Tryd.prog 9 #[.int .i64 n] w (RetS (Lib.itoa n) w) := by
  go_enter Tryd.func9, Tryd.ntmps9
  go_wp2_with fail
  refine (spec_l01Dec n h0 h1 _).mono ?_
  rintro e w1 ⟨rfl, hb⟩
  go_wp2_with fail
  go_ret
  exact ⟨rfl, hb⟩
theorem tab_below {w w' : World} {zs : List Int} (h : Lib.TabIs Tryd.prog w "internal/strconv.uint64pow10" .u64 zs) (hb : Below w.heap.size w w') : Lib.TabIs Tryd.prog w' "internal/strconv.uint64pow10" .u64 zs := by
  have hgn : Tryd.prog.globalNamed "internal/strconv.uint64pow10" = some 0 := by kernel_rfl
  unfold Lib.TabIs World.var? at h ⊢
  rw [hgn] at h ⊢
  simp only [Option.bind_some] at h ⊢
  have hlt : 0 < w.heap.size := by
    rcases Nat.lt_or_ge 0 w.heap.size with h' | h'
    · exact h'
    · rw [Array.getElem?_eq_none h'] at h; cases h
  rw [hb.block 0 hlt]
  exact h
theorem below_grow (w : World) (k : Nat) (os : Array Obj) : Below w.heap.size w (Sort.grow (w.drewN k) os) := by
  refine ⟨rfl, rfl, rfl, ?_, fun b hb => ?_⟩
  · show _ ≤ (w.heap ++ os).size
    simp
  · show (w.heap ++ os)[b]? = w.heap[b]?
    rw [Array.getElem?_append_left hb]
set_option maxHeartbeats 1000000 in
theorem impl_Decimal (n : Int) (h0 : -9223372036854775808 ≤ n) (h1 : n ≤ 9223372036854775807) (w : World) (ht : Lib.TabIs Tryd.prog w "internal/strconv.uint64pow10" .u64 Lib.pow10Tab) : Calls Tryd.prog 10 #[.int .i64 n] w (RetS (Lib.itoa n) w) := by
  have HT := Lib.hid ht
  clear ht
  go_enter Tryd.func10, Tryd.ntmps10
  go_wp2_with fail
  refine (Tryd.strconv_FormatInt_10 n h0 h1 _ HT.out).mono ?_
  rintro e w1 ⟨rfl, k, os, rfl⟩
  go_wp2_with fail
  go_ret
  exact ⟨rfl, below_grow _ _ _⟩
end Go.Proofs.YtfempadelilpoaaDoor
