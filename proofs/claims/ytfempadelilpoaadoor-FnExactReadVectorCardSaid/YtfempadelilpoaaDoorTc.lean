/- The parts of a text between commas: plain, spec.l01Cut, impl.parted. -/
import Derived.Test.YtfempadelilpoaaDoorTr
import Derived.Test.YtfempadelilpoaaDoorTs
import Derived.Lib.SplitLaws
import Derived.Lib.Split
namespace Go.Proofs.YtfempadelilpoaaDoor
open Go.ChangeShapes Go.WideShapes Go.ChangeAt Go.RowKit Go.Deep

/-! ### cut at commas, plain -/
def consH (c : UInt8) : List (List UInt8) → List (List UInt8)
  | [] => [[c]]
  | x :: xs => (c :: x) :: xs
def cutL : List UInt8 → List (List UInt8)
  | [] => [[]]
  | c :: l => if c = 44 then [] :: cutL l else consH c (cutL l)
theorem index_nil : Lib.index [] [44] = -1 := rfl
theorem index_hit (l : List UInt8) : Lib.index (44 :: l) [44] = 0 := rfl
theorem index_other {c : UInt8} (h : c ≠ 44) (l : List UInt8) : Lib.index (c :: l) [44] = if Lib.index l [44] == -1 then -1 else Lib.index l [44] + 1 := by
  show (if [(44 : UInt8)].isPrefixOf (c :: l) then 0 else if Lib.index l [44] == -1 then -1 else Lib.index l [44] + 1) = _
  rw [if_neg]
  show ¬ ((44 : UInt8) == c && true) = true
  rw [Bool.and_true, beq_iff_eq]
  exact fun e => h e.symm
theorem split_cut : ∀ l : List UInt8, Lib.split l [44] = cutL l
  | [] => by
    unfold Lib.split
    rw [Lib.count_miss index_nil]
    rfl
  | c :: l => by
    have ih := split_cut l
    unfold Lib.split at ih ⊢
    by_cases hc : c = 44
    · subst hc
      rw [Lib.count_hit (i := 0) (by simp) (index_hit l), Nat.add_comm 1]
      show (if Lib.index (44 :: l) [44] == -1 then _ else _) = _
      rw [if_neg (by rw [index_hit]; decide), index_hit]
      show [] :: Lib.splitK [44] 0 (Lib.count l [44]) l = (if (44 : UInt8) = 44 then [] :: cutL l else _)
      rw [if_pos rfl, ih]
    · have hi := index_other hc l
      have hge := Lib.index_ge l [44]
      show _ = (if c = 44 then _ else consH c (cutL l))
      rw [if_neg hc]
      by_cases hm : Lib.index l [44] = -1
      · have hi2 : Lib.index (c :: l) [44] = -1 := by rw [hi, hm]; rfl
        rw [Lib.count_miss hm] at ih
        rw [Lib.count_miss hi2, ← ih]
        rfl
      · obtain ⟨i, hix⟩ : ∃ i : Nat, Lib.index l [44] = i := ⟨(Lib.index l [44]).toNat, by omega⟩
        have hi2 : Lib.index (c :: l) [44] = ((i + 1 : Nat) : Int) := by
          rw [hi, hix, if_neg (by rw [beq_iff_eq]; omega)]
          rfl
        rw [Lib.count_hit (by simp) hix, Nat.add_comm 1] at ih
        rw [Lib.count_hit (by simp) hi2, Nat.add_comm 1]
        show (if Lib.index (c :: l) [44] == -1 then _ else _) = _
        rw [if_neg (by rw [hi2, beq_iff_eq]; omega), hi2]
        have ih' : (if Lib.index l [44] == -1 then [l] else l.take ((Lib.index l [44]).toNat + 0) :: Lib.splitK [44] 0 (Lib.count (l.drop (i + 1)) [44]) (l.drop ((Lib.index l [44]).toNat + 1))) = cutL l := ih
        rw [if_neg (by rw [hix, beq_iff_eq]; omega), hix] at ih'
        rw [← ih']
        rfl
theorem cutL_ne (l : List UInt8) : cutL l ≠ [] := by
  cases l with
  | nil => simp [cutL]
  | cons c l =>
    unfold cutL
    split
    · simp
    · cases cutL l <;> simp [consH]
theorem cutL_comma : ∀ l : List UInt8, cutL (l ++ [44]) = cutL l ++ [[]]
  | [] => rfl
  | c :: l => by
    show (if c = 44 then [] :: cutL (l ++ [44]) else consH c (cutL (l ++ [44]))) = (if c = 44 then [] :: cutL l else consH c (cutL l)) ++ [[]]
    rw [cutL_comma l]
    split
    · rfl
    · cases h : cutL l with
      | nil => exact absurd h (cutL_ne l)
      | cons x xs => rfl
theorem cutL_other {d : UInt8} (hd : d ≠ 44) : ∀ (l : List UInt8) (done : List (List UInt8)) (cur : List UInt8), cutL l = done ++ [cur] → cutL (l ++ [d]) = done ++ [cur ++ [d]]
  | [], done, cur, h => by
    have h' : [[]] = done ++ [cur] := h
    have hl : done = [] := by
      cases done with
      | nil => rfl
      | cons x xs =>
        have := congrArg List.length h'
        simp at this
    subst hl
    have hc : cur = [] := by simpa using h'.symm
    subst hc
    show (if d = 44 then _ else consH d (cutL [])) = _
    rw [if_neg hd]
    rfl
  | c :: l, done, cur, h => by
    have h' : (if c = 44 then [] :: cutL l else consH c (cutL l)) = done ++ [cur] := h
    show (if c = 44 then [] :: cutL (l ++ [d]) else consH c (cutL (l ++ [d]))) = _
    by_cases hc : c = 44
    · rw [if_pos hc] at h' ⊢
      cases done with
      | nil =>
        have := congrArg List.length h'
        have h2 := List.length_pos_iff.2 (cutL_ne l)
        simp at this
        exact absurd this (cutL_ne l)
      | cons x xs =>
        have h1 : x = [] ∧ cutL l = xs ++ [cur] := by
          have := List.cons.inj h'
          exact ⟨this.1.symm, this.2⟩
        rw [cutL_other hd l xs cur h1.2, h1.1]
        rfl
    · rw [if_neg hc] at h' ⊢
      cases hx : cutL l with
      | nil => exact absurd hx (cutL_ne l)
      | cons x xs =>
        rw [hx] at h'
        cases done with
        | nil =>
          have h1 := List.cons.inj (show (c :: x) :: xs = cur :: [] from h')
          rw [cutL_other hd l [] x (by rw [hx, h1.2]; rfl), ← h1.1]
          rfl
        | cons y ys =>
          have h1 := List.cons.inj (show (c :: x) :: xs = y :: (ys ++ [cur]) from h')
          rw [cutL_other hd l (x :: ys) cur (by rw [hx, h1.2]; rfl), ← h1.1]
          rfl
/-- the texts ps are these bytes. -/
def asL (ps : List ByteArray) : List (List UInt8) := ps.map (·.data.toList)
def strV (ps : List ByteArray) : List Value := ps.map Value.string
theorem infoS : (Tryd.prog.info? 9).map (fun i => (i.zero, i.size, i.bytes)) = some (some (.string ⟨#[]⟩), 1, 16) := by kernel_rfl
/-- a slice of texts. -/
def StAt (W : World) (A : Option Addr) (ps : List ByteArray) : Prop :=
  0 < ps.length → ∃ g cs fz, A = some ⟨g, 0, none⟩ ∧ W.heap[g]? = some (.cells cs 9 fz) ∧ ∀ (i : Nat) x, ps[i]? = some x → cs[i]? = some (.string x)
theorem StAt.go {W W' : World} {A : Option Addr} {ps : List ByteArray} (h : StAt W A ps) (hb : Below W.heap.size W W') : StAt W' A ps := fun hx => by
  obtain ⟨g, cs, fz, rfl, hg, hc⟩ := h hx
  exact ⟨g, cs, fz, rfl, (hb.block g (Array.getElem?_eq_some_iff.1 hg).1).trans hg, hc⟩
theorem StAt.at {W : World} {A : Option Addr} {ps : List ByteArray} (h : StAt W A ps) {i : Nat} {x : ByteArray} (hi : ps[i]? = some x) : ∃ g, A = some ⟨g, 0, none⟩ ∧ W.cell? ⟨g, i, none⟩ = some (.string x) := by
  obtain ⟨g, cs, fz, rfl, hg, hc⟩ := h (by have := (List.getElem?_eq_some_iff.1 hi).1; omega)
  refine ⟨g, rfl, ?_⟩
  simp [World.cell?, hg, hc i x hi]
theorem StAt.kept {W W' : World} {A : Option Addr} {ps : List ByteArray} {row : Option Nat} {e : TypeId} (h : StAt W A ps) (hg : W.grownBy W' row) (hr : ∀ k, row = some k → ∃ cs fz, W.heap[k]? = some (.cells cs e fz)) (he : e ≠ 9) : StAt W' A ps := fun hx => by
  obtain ⟨g, cs, fz, rfl, hg2, hc⟩ := h hx
  refine ⟨g, cs, fz, rfl, (hg.block g (Array.getElem?_eq_some_iff.1 hg2).1 fun e2 => ?_).trans hg2, hc⟩
  obtain ⟨cs2, fz2, h2⟩ := hr g e2.symm
  rw [hg2] at h2
  cases h2
  exact he rfl
def RetPs (l : List UInt8) (w : World) (e : Ending) (w' : World) : Prop :=
  ∃ A c ps, e = .returned (.slice A ps.length c) ∧ asL ps = cutL l ∧ StAt w' A ps ∧ Below w.heap.size w w'
theorem StAt.of_own {W : World} {B g c : Nat} {ps : List ByteArray} (h : W.ownsRow B 9 1 (.slice (some ⟨g, 0, none⟩) ps.length c) ps.length (strV ps)) : StAt W (some ⟨g, 0, none⟩) ps := fun _ => by
  rcases h.2 with ⟨h0, _⟩ | ⟨g', cap, cur, hv, _, hg, _, _, _, ht⟩
  · cases h0
  · cases hv
    refine ⟨g, cur, _, rfl, hg, fun i x hi => ?_⟩
    have hl := (List.getElem?_eq_some_iff.1 hi).1
    have h1 : (cur.toList.take (ps.length * 1))[i]? = some (.string x) := by rw [ht]; unfold strV; rw [List.getElem?_map, hi]; rfl
    rw [List.getElem?_take_of_lt (by omega)] at h1
    rw [← Array.getElem?_toList]
    exact h1
theorem str_rel {w wq w1 : World} {O : Obj} {p p' : Value} {ps : List ByteArray} {x : ByteArray} (hown : wq.ownsRow w.heap.size 9 1 p ps.length (strV ps)) (hB : Below w.heap.size w wq)
    (hown1 : w1.ownsRow w.heap.size 9 1 p' (ps.length + 1) (strV ps ++ [.string x])) (hg : (wq.alloc O).grownBy w1 p.ownBlock) :
    (∃ g c, p' = .slice (some ⟨g, 0, none⟩) (ps ++ [x]).length c) ∧ w1.ownsRow w.heap.size 9 1 p' (ps ++ [x]).length (strV (ps ++ [x])) ∧ Below w.heap.size w w1 := by
  have e1 : (ps ++ [x]).length = ps.length + 1 := by simp
  have e2 : strV (ps ++ [x]) = strV ps ++ [.string x] := by simp [strV]
  rw [e1, e2]
  refine ⟨?_, hown1, (hB.alloc hB.size O).grown hg (by have := hB.size; simp; omega) (fun j hj => (hown.lt j hj).1)⟩
  rcases id hown1.2 with ⟨_, h0⟩ | ⟨g, c, cur, hv, _⟩
  · omega
  · exact ⟨g, c, hv⟩
theorem ext_bytes (s : ByteArray) (a b : Nat) : (s.extract a b).data.toList = (s.data.toList.take b).drop a := by
  rw [Lib.extract_data, List.drop_take]
theorem asL_snoc (ps : List ByteArray) (x : ByteArray) : asL (ps ++ [x]) = asL ps ++ [x.data.toList] := by simp [asL]
set_option maxHeartbeats 2000000 in
set_option maxRecDepth 100000 in
theorem spec_l01Cut (s : ByteArray) (hs : s.size ≤ 1048576) (w : World) : Calls Tryd.prog 46 #[.string s, .int .u8 44] w (RetPs s.data.toList w) := by
  have HSL := Lib.hid (show s.data.toList.length = s.size from by rw [Array.length_toList]; rfl)
  obtain ⟨j0, gi, gz0, gz1, gz2⟩ := info_parts infoS
  go_enter Tryd.func46, Tryd.ntmps46
  go_wp2_with fail
  go_loopw [5, 6, 7] (fun p f i wr => ∃ (k fr g c : Nat) (ps : List ByteArray), k ≤ s.size + 1 ∧ ps.length ≤ k ∧ i = .int .i64 k ∧ f = .int .i64 fr ∧ p = .slice (some ⟨g, 0, none⟩) ps.length c ∧ (k ≤ s.size → fr ≤ k ∧ cutL (s.data.toList.take k) = asL ps ++ [(s.data.toList.take k).drop fr]) ∧ (k = s.size + 1 → asL ps = cutL s.data.toList) ∧ fr ≤ s.size + 1 ∧ wr.ownsRow w.heap.size 9 1 (.slice (some ⟨g, 0, none⟩) ps.length c) ps.length (strV ps) ∧ Below w.heap.size w wr) (fun _ _ i _ => s.size + 1 - (intOf i).toNat)
  case atStart => exact ⟨0, 0, w.heap.size, 0, [], Nat.zero_le _, Nat.le_refl _, rfl, rfl, rfl, fun _ => ⟨Nat.le_refl _, rfl⟩, fun h => absurd h (by omega), Nat.zero_le _, World.ownsRow_made w #[] 0 (Nat.le_refl _) (Nat.zero_le _) rfl, (by repeat' (first | with_reducible exact Below.refl _ _ | with_reducible assumption | with_reducible refine below_dn ?_ _ | with_reducible refine Below.drew ?_ | with_reducible refine below_step ?_ (by assumption) | with_reducible refine Below.setCell ?_ ?_ _ | with_reducible refine Below.alloc ?_ ?_ _ | with_reducible exact Nat.le_refl _ | (simp; done) | (simp; omega) | omega))⟩
  case round =>
    obtain ⟨k, fr, g, c, ps, hk, hpl, rfl, rfl, rfl, hcut, hend, hfr, hown, hB⟩ := hrel
    have HCUT := Lib.hid hcut
    have HEND := Lib.hid hend
    have HO := Lib.hid hown
    have HB := Lib.hid hB
    have hbs := hB.size
    clear hcut hend hown hB
    by_cases hlt : k ≤ s.size
    · obtain ⟨hfk, hc0⟩ := HCUT.out hlt
      have HC0 := Lib.hid hc0
      have hk0 : (0 : Int) ≤ (k : Int) := by omega
      have hk1 : (k : Int) ≤ (s.size : Int) := by omega
      have hf0 : (0 : Int) ≤ (fr : Int) := by omega
      have hf1 : (fr : Int) ≤ (k : Int) := by omega
      clear hc0
      by_cases hke : k = s.size
      · have hq : ((k : Int) == (s.size : Int)) = true := by rw [hke]; simp
        have HKE := Lib.hid hke
        clear hke
        go_wp2_with (at_builtin; refine wpList_append_own _ rfl _ _ 49 rfl w.heap.size 9 j0 (.string ⟨#[]⟩) 1 16 Tryd.underlying49 gi gz0 gz1 gz2 rfl (by decide) _ _ _ rfl (HO.out.alloc _) ⟨wr.heap.size, 0, none⟩ 1 1 [.string (s.extract fr k)] rfl rfl (fun j u hj => by match j, hj with | 0, hj => (simp at hj; subst hj; simp [Addr.add])) (fun u hu => by simp at hu; subst hu; rfl) (by unfold maxLen; omega) (by omega) (by simp; omega) ?_; intro v2 w1 hown1 hgrow _)
        obtain ⟨⟨g2, c2, rfl⟩, hown3, hb3⟩ := str_rel HO.out HB.out hown1 hgrow
        have HO3 := Lib.hid hown3
        have HB3 := Lib.hid hb3
        clear hown1 hgrow hown3 hb3
        go_wp2_with fail
        go_roundw
        case rel =>
          refine ⟨k + 1, k + 1, g2, c2, ps ++ [s.extract fr k], by omega, by simp; omega, by go_num, by go_num, rfl, fun h => by have := HKE.out; omega, fun _ => ?_, by omega, HO3.out, HB3.out⟩
          have hc := HC0.out
          rw [List.take_of_length_le (show s.data.toList.length ≤ k by rw [HSL.out]; have := HKE.out; omega)] at hc
          rw [asL_snoc, ext_bytes s fr k, List.take_of_length_le (show s.data.toList.length ≤ k by rw [HSL.out]; have := HKE.out; omega)]
          exact hc.symm
        case measure => simp [intOf]; omega
      · have hq : ((k : Int) == (s.size : Int)) = false := by rw [beq_eq_false_iff_ne]; omega
        have hks : k < s.size := by omega
        have hk2 : (k : Int) < (s.size : Int) := by omega
        have HT := Lib.hid (take_snoc' s k hks)
        clear hke
        by_cases h44 : s[k].toNat = 44
        · have hq2 : ((s[k].toNat : Int) == 44) = true := by rw [h44]; rfl
          have HE := Lib.hid (show s[k] = 44 from UInt8.toNat_inj.1 h44)
          clear h44
          go_wp2_with (at_builtin; refine wpList_append_own _ rfl _ _ 49 rfl w.heap.size 9 j0 (.string ⟨#[]⟩) 1 16 Tryd.underlying49 gi gz0 gz1 gz2 rfl (by decide) _ _ _ rfl (HO.out.alloc _) ⟨wr.heap.size, 0, none⟩ 1 1 [.string (s.extract fr k)] rfl rfl (fun j u hj => by match j, hj with | 0, hj => (simp at hj; subst hj; simp [Addr.add])) (fun u hu => by simp at hu; subst hu; rfl) (by unfold maxLen; omega) (by omega) (by simp; omega) ?_; intro v2 w1 hown1 hgrow _)
          obtain ⟨⟨g2, c2, rfl⟩, hown3, hb3⟩ := str_rel HO.out HB.out hown1 hgrow
          have HO3 := Lib.hid hown3
          have HB3 := Lib.hid hb3
          clear hown1 hgrow hown3 hb3
          go_wp2_with fail
          go_roundw
          case rel =>
            refine ⟨k + 1, k + 1, g2, c2, ps ++ [s.extract fr k], by omega, by simp; omega, by go_num, by go_num, rfl, fun _ => ⟨Nat.le_refl _, ?_⟩, fun h => by omega, by omega, HO3.out, HB3.out⟩
            rw [HT.out, HE.out, cutL_comma, HC0.out, asL_snoc, ext_bytes s fr k]
            have hd : (s.data.toList.take k ++ [44]).drop (k + 1) = [] := List.drop_eq_nil_of_le (by rw [List.length_append, List.length_take]; simp; omega)
            rw [hd]
          case measure => simp [intOf]; omega
        · have hq2 : ((s[k].toNat : Int) == 44) = false := by rw [beq_eq_false_iff_ne]; omega
          have HE := Lib.hid (show s[k] ≠ 44 from fun e => h44 (by rw [e]; rfl))
          clear h44
          go_wp2_with fail
          go_roundw
          case rel =>
            refine ⟨k + 1, fr, g, c, ps, by omega, by omega, by go_num, rfl, rfl, fun _ => ⟨by omega, ?_⟩, fun h => by omega, by omega, HO.out, HB.out⟩
            rw [HT.out, cutL_other HE.out _ _ _ HC0.out, List.drop_append_of_le_length (by rw [List.length_take, HSL.out]; omega)]
          case measure => simp [intOf]; omega
    · have HF := Lib.hid (HEND.out (by omega))
      have hk1 : (s.size : Int) < (k : Int) := by omega
      clear hlt
      go_wp2_with fail
      go_ret
      exact ⟨_, _, ps, rfl, HF.out, StAt.of_own HO.out, HB.out⟩
theorem bytes_none {s : ByteArray} (h : s.data.toList = [110, 111, 110, 101]) : s = ⟨#[110, 111, 110, 101]⟩ := by
  obtain ⟨⟨l⟩⟩ := s
  have h' : l = [110, 111, 110, 101] := h
  rw [h']
set_option maxHeartbeats 1000000 in
theorem impl_split (s : ByteArray) (hs : s.size ≤ 1048576) (m : Int) (w : World) (hm : w.cell? ⟨4, 0, none⟩ = some (.int .i64 m)) : Calls Tryd.prog 49 #[.string s, .string ⟨#[44]⟩] w (RetPs s.data.toList w) := by
  refine (Tryd.strings_Split s ⟨#[44]⟩ m w (by omega) hm (by decide)).mono ?_
  rintro e w1 ⟨rfl, rfl⟩
  have hlen := Lib.splitB_all ⟨#[44]⟩ (by decide) 0 _ s rfl
  refine ⟨_, _, Lib.splitB ⟨#[44]⟩ 0 (Lib.countB s ⟨#[44]⟩) s, by rw [hlen], ?_, fun _ => ⟨w.heap.size, _, _, rfl, heap_alloc_new w _, fun i x hi => ?_⟩, (by repeat' (first | with_reducible exact Below.refl _ _ | with_reducible assumption | with_reducible refine below_dn ?_ _ | with_reducible refine Below.drew ?_ | with_reducible refine below_step ?_ (by assumption) | with_reducible refine Below.setCell ?_ ?_ _ | with_reducible refine Below.alloc ?_ ?_ _ | with_reducible exact Nat.le_refl _ | (simp; done) | (simp; omega) | omega))⟩
  · unfold asL
    rw [Lib.splitB_data, ← split_cut]
    rfl
  · simp [hi]
end Go.Proofs.YtfempadelilpoaaDoor
