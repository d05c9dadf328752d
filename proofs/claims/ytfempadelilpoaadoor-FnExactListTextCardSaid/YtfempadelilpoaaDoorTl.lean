/- ListText: contracts. -/
import Derived.Test.YtfempadelilpoaaDoorTi
import Derived.Test.YtfempadelilpoaaDoorTr
import Derived.Test.YtfempadelilpoaaDoorTj
import Derived.Laws.Concat
namespace Go.Proofs.YtfempadelilpoaaDoor
open Go.ChangeShapes Go.WideShapes Go.ChangeAt Go.RowKit Go.Deep

/-- the text of the first k + 1 numbers. -/
def itk (xs : List Int) : Nat → List UInt8
  | 0 => Lib.itoa (nthI xs 0)
  | k + 1 => itk xs k ++ ([44] ++ Lib.itoa (nthI xs (k + 1)))
def allR (xs : List Int) (k : Nat) : Prop := ∀ i, i < k → inr15 (nthI xs i) = true
theorem itk_length {xs : List Int} {n : Nat} (h : allR xs n) : ∀ k, k < n → (itk xs k).length ≤ 17 + 18 * k
  | 0, hk => (itoa_17 (h 0 hk)).2
  | k + 1, hk => by
    unfold itk
    rw [List.length_append, List.length_append]
    have h1 := itk_length h k (by omega)
    have h2 := (itoa_17 (h (k + 1) hk)).2
    simp
    omega
def lisT (xs : List Int) : List UInt8 := if xs.length = 0 then [110, 111, 110, 101] else itk xs (xs.length - 1)
def okL (xs : List Int) : Bool := (List.range xs.length).all (fun i => inr15 (nthI xs i)) && decide (xs.length ≤ 64)
def lisV (xs : List Int) : List UInt8 := match okL xs with
  | true => lisT xs
  | false => []
theorem okL_iff (xs : List Int) : okL xs = true ↔ allR xs xs.length ∧ xs.length ≤ 64 := by
  unfold okL allR
  rw [Bool.and_eq_true, List.all_eq_true, decide_eq_true_eq]
  constructor
  · exact fun h => ⟨fun i hi => h.1 i (List.mem_range.2 hi), h.2⟩
  · exact fun h => ⟨fun i hi => h.1 i (List.mem_range.1 hi), h.2⟩
theorem okL_yes {xs : List Int} (h1 : allR xs xs.length) (h2 : xs.length ≤ 64) : okL xs = true := (okL_iff xs).2 ⟨h1, h2⟩
theorem okL_out {xs : List Int} (h : okL xs = true) : allR xs xs.length ∧ xs.length ≤ 64 := (okL_iff xs).1 h
theorem okL_bad {xs : List Int} {k : Nat} (hk : k < xs.length) (h : inr15 (nthI xs k) = false) : okL xs = false := by
  cases e : okL xs
  · rfl
  · have := (okL_out e).1 k hk
    rw [h] at this
    cases this
theorem okL_long {xs : List Int} (h : ¬ xs.length ≤ 64) : okL xs = false := by
  cases e : okL xs
  · rfl
  · exact absurd (okL_out e).2 h
theorem itk_cat (xs : List Int) (k : Nat) : (⟨(itk xs k).toArray⟩ : ByteArray) ++ ((⟨#[44]⟩ : ByteArray) ++ (⟨(Lib.itoa (nthI xs (k + 1))).toArray⟩ : ByteArray)) = ⟨(itk xs (k + 1)).toArray⟩ := by
  rw [show (⟨#[44]⟩ : ByteArray) = ⟨([44] : List UInt8).toArray⟩ from rfl, ByteArray.mk_append_mk, ByteArray.mk_append_mk]
  rfl
set_option maxHeartbeats 1000000 in
theorem spec_l01Text (A : Option Addr) (cap : Nat) (xs : List Int) (hn : xs.length ≤ 64) (hok : allR xs xs.length) (w : World) (B : Nat) (h : IlAt w B A xs) (hB : B ≤ w.heap.size) :
    Calls Tryd.prog 32 #[.slice A xs.length cap] w (RetS (lisT xs) w) := by
  by_cases hx : 0 < xs.length
  · obtain ⟨b, off, rfl, hb, hc⟩ := h hx
    have HC := Lib.hid hc
    have HK := Lib.hid hok
    have hc0 : w.cell? ⟨b, off, none⟩ = some (.int .i64 (nthI xs 0)) := by have := hc 0 hx; rw [Nat.add_zero] at this; exact this
    have e : lisT xs = itk xs (xs.length - 1) := by unfold lisT; rw [if_neg (by omega)]
    have HD := Lib.hid (fun (i : Nat) (hi : i < xs.length) => (⟨by have := inr_bd (hok i hi); omega, by have := inr_bd (hok i hi); omega⟩ : -9223372036854775808 ≤ nthI xs i ∧ nthI xs i ≤ 9223372036854775807))
    rw [e]
    clear h hc hok e
    go_enter Tryd.func32, Tryd.ntmps32
    go_wp2_with (go_at_call 29; refine (spec_l01Dec _ (HD.out 0 hx).1 (HD.out 0 hx).2 _).mono ?_; rintro e w' ⟨rfl, hb1⟩)
    go_loopw [3, 4] (fun s i wr => ∃ k : Nat, k + 1 ≤ xs.length ∧ i = .int .i64 (k + 1) ∧ s = .string ⟨(itk xs k).toArray⟩ ∧ Below w.heap.size w wr) (fun _ i _ => xs.length - (intOf i).toNat)
    case atStart => exact ⟨0, hx, rfl, rfl, (by repeat' (first | with_reducible exact Below.refl _ _ | with_reducible assumption | with_reducible refine below_dn ?_ _ | with_reducible refine Below.drew ?_ | with_reducible refine below_step ?_ (by assumption) | with_reducible refine Below.setCell ?_ ?_ _ | with_reducible refine Below.alloc ?_ ?_ _ | with_reducible exact Nat.le_refl _ | (simp; done) | (simp; omega) | omega))⟩
    case round =>
      obtain ⟨k, hk, rfl, rfl, hB1⟩ := hrel
      by_cases hlt : k + 1 < xs.length
      · have hcx : wr.cell? ⟨b, off + (k + 1), none⟩ = some (.int .i64 (nthI xs (k + 1))) := (hB1.cell (p := ⟨b, off + (k + 1), none⟩) (Nat.lt_of_lt_of_le hb hB)).trans (HC.out (k + 1) hlt)
        have hl1 := (itoa_17 (HK.out (k + 1) hlt)).2
        have hl2 := itk_length HK.out k (by omega)
        go_wp2_with (go_at_call 29; refine (spec_l01Dec _ (HD.out (k + 1) hlt).1 (HD.out (k + 1) hlt).2 _).mono ?_; rintro e w' ⟨rfl, hb1⟩)
        go_roundw
        case rel => exact ⟨k + 1, by omega, by go_num, by rw [itk_cat], (by repeat' (first | with_reducible exact Below.refl _ _ | with_reducible assumption | with_reducible refine below_dn ?_ _ | with_reducible refine Below.drew ?_ | with_reducible refine below_step ?_ (by assumption) | with_reducible refine Below.setCell ?_ ?_ _ | with_reducible refine Below.alloc ?_ ?_ _ | with_reducible exact Nat.le_refl _ | (simp; done) | (simp; omega) | omega))⟩
        case measure => simp [intOf]; omega
      · have hke : k = xs.length - 1 := by omega
        have HE := Lib.hid hke
        clear hke
        go_wp2
        go_ret
        exact ⟨by rw [HE.out]; rfl, hB1⟩
  · have h0 : xs = [] := List.eq_nil_of_length_eq_zero (by omega)
    subst h0
    clear h hx hn hok
    show Calls Tryd.prog 32 #[.slice A 0 cap] w (RetS [110, 111, 110, 101] w)
    go_enter Tryd.func32, Tryd.ntmps32
    go_wp2
    go_ret
    exact ⟨rfl, (by repeat' (first | with_reducible exact Below.refl _ _ | with_reducible assumption | with_reducible refine below_dn ?_ _ | with_reducible refine Below.drew ?_ | with_reducible refine below_step ?_ (by assumption) | with_reducible refine Below.setCell ?_ ?_ _ | with_reducible refine Below.alloc ?_ ?_ _ | with_reducible exact Nat.le_refl _ | (simp; done) | (simp; omega) | omega))⟩
set_option maxHeartbeats 1000000 in
theorem spec_l01List (A : Option Addr) (cap : Nat) (xs : List Int) (hn : xs.length ≤ 1048576) (w : World) (B : Nat) (h : IlAt w B A xs) (hB : B ≤ w.heap.size) :
    Calls Tryd.prog 31 #[.slice A xs.length cap] w (RetV (.bool (okL xs)) w) := by
  have H := Lib.hid h
  clear h
  go_enter Tryd.func31, Tryd.ntmps31
  go_wp2
  go_loopw [3] (fun i wr => ∃ k : Nat, k ≤ xs.length ∧ i = .int .i64 k ∧ allR xs k ∧ Below w.heap.size w wr) (fun i _ => xs.length - (intOf i).toNat)
  case atStart => exact ⟨0, Nat.zero_le _, rfl, fun i hi => absurd hi (Nat.not_lt_zero _), (by repeat' (first | with_reducible exact Below.refl _ _ | with_reducible assumption | with_reducible refine below_dn ?_ _ | with_reducible refine Below.drew ?_ | with_reducible refine below_step ?_ (by assumption) | with_reducible refine Below.setCell ?_ ?_ _ | with_reducible refine Below.alloc ?_ ?_ _ | with_reducible exact Nat.le_refl _ | (simp; done) | (simp; omega) | omega))⟩
  case round =>
    obtain ⟨k, hk, rfl, hr, hB1⟩ := hrel
    have HR := Lib.hid hr
    clear hr
    by_cases hlt : k < xs.length
    · obtain ⟨b, off, rfl, hb, hc⟩ := H.out (by omega)
      have hcx : wr.cell? ⟨b, off + k, none⟩ = some (.int .i64 (nthI xs k)) := (hB1.cell (p := ⟨b, off + k, none⟩) (Nat.lt_of_lt_of_le hb hB)).trans (hc k hlt)
      have hk0 : (0 : Int) ≤ (k : Int) := by omega
      have hk1 : (k : Int) < (xs.length : Int) := by omega
      clear hc
      cases hin : inI (nthI xs k) (-1000000000000000) 1000000000000000
      · have HBAD := Lib.hid (okL_bad hlt hin)
        go_wp2_with (go_at_call 44; refine (spec_l00In _ _ _ _).mono ?_; rintro e w7 ⟨rfl, nq, rfl⟩; rw [hin])
        go_ret
        exact ⟨by rw [HBAD.out]; rfl, (by repeat' (first | with_reducible exact Below.refl _ _ | with_reducible assumption | with_reducible refine below_dn ?_ _ | with_reducible refine Below.drew ?_ | with_reducible refine below_step ?_ (by assumption) | with_reducible refine Below.setCell ?_ ?_ _ | with_reducible refine Below.alloc ?_ ?_ _ | with_reducible exact Nat.le_refl _ | (simp; done) | (simp; omega) | omega))⟩
      · have HIN := Lib.hid hin
        go_wp2_with (go_at_call 44; refine (spec_l00In _ _ _ _).mono ?_; rintro e w7 ⟨rfl, nq, rfl⟩; rw [hin])
        go_roundw
        case rel =>
          refine ⟨k + 1, by omega, by go_num, fun i hi => ?_, (by repeat' (first | with_reducible exact Below.refl _ _ | with_reducible assumption | with_reducible refine below_dn ?_ _ | with_reducible refine Below.drew ?_ | with_reducible refine below_step ?_ (by assumption) | with_reducible refine Below.setCell ?_ ?_ _ | with_reducible refine Below.alloc ?_ ?_ _ | with_reducible exact Nat.le_refl _ | (simp; done) | (simp; omega) | omega))⟩
          by_cases e : i = k
          · rw [e]; exact HIN.out
          · exact HR.out i (by omega)
        case measure => simp [intOf]; omega
    · obtain rfl : k = xs.length := by omega
      by_cases h64 : xs.length ≤ 64
      · have HY := Lib.hid (okL_yes HR.out h64)
        have h64' : (xs.length : Int) ≤ 64 := by omega
        clear h64
        go_wp2
        go_ret
        exact ⟨by rw [HY.out]; first | rfl | (simp; omega), (by repeat' (first | with_reducible exact Below.refl _ _ | with_reducible assumption | with_reducible refine below_dn ?_ _ | with_reducible refine Below.drew ?_ | with_reducible refine below_step ?_ (by assumption) | with_reducible refine Below.setCell ?_ ?_ _ | with_reducible refine Below.alloc ?_ ?_ _ | with_reducible exact Nat.le_refl _ | (simp; done) | (simp; omega) | omega))⟩
      · have HY := Lib.hid (okL_long h64)
        have h64' : ¬ (xs.length : Int) ≤ 64 := by omega
        clear h64
        go_wp2
        go_ret
        exact ⟨by rw [HY.out]; first | rfl | (simp; omega), (by repeat' (first | with_reducible exact Below.refl _ _ | with_reducible assumption | with_reducible refine below_dn ?_ _ | with_reducible refine Below.drew ?_ | with_reducible refine below_step ?_ (by assumption) | with_reducible refine Below.setCell ?_ ?_ _ | with_reducible refine Below.alloc ?_ ?_ _ | with_reducible exact Nat.le_refl _ | (simp; done) | (simp; omega) | omega))⟩
def RetSB (l : List UInt8) (b : Bool) (w : World) (e : Ending) (w' : World) : Prop := e = .returned (.tuple #[.string ⟨l.toArray⟩, .bool b]) ∧ Below w.heap.size w w'
theorem IlAt.to {w W : World} {B : Nat} {A : Option Addr} {xs : List Int} (h : IlAt w B A xs) (hB : B ≤ w.heap.size) (hb : Below w.heap.size w W) : IlAt W B A xs := h.below hB hb
set_option maxHeartbeats 1000000 in
theorem spec_ListText (A : Option Addr) (cap : Nat) (xs : List Int) (hn : xs.length ≤ 1048576) (w : World) (B : Nat) (h : IlAt w B A xs) (hB : B ≤ w.heap.size) :
    Calls Tryd.prog 11 #[.slice A xs.length cap] w (RetSB (lisV xs) (okL xs) w) := by
  have H := Lib.hid h
  clear h
  cases hok : okL xs
  · have e1 : lisV xs = [] := by unfold lisV; rw [hok]
    rw [e1]
    have HOK := Lib.hid hok
    clear hok e1
    go_enter Tryd.func11, Tryd.ntmps11
    go_wp2_with (go_at_call 31; refine (spec_l01List _ _ xs hn _ _ H.out hB).mono ?_; rintro e w1 ⟨rfl, hb1⟩; rw [HOK.out])
    go_ret2
    exact ⟨rfl, hb1⟩
  · have e1 : lisV xs = lisT xs := by unfold lisV; rw [hok]
    rw [e1]
    have HOK := Lib.hid hok
    have HX := Lib.hid (okL_out hok)
    clear hok e1
    go_enter Tryd.func11, Tryd.ntmps11
    go_wp2_with (first | (go_at_call 31; refine (spec_l01List _ _ xs hn _ _ H.out hB).mono ?_; rintro e w1 ⟨rfl, hb1⟩; rw [HOK.out]) | (go_at_call 32; refine (spec_l01Text _ _ xs HX.out.2 HX.out.1 _ _ (H.out.to hB hb1) (Nat.le_trans hB hb1.size)).mono ?_; rintro e w2 ⟨rfl, hb2⟩))
    go_ret2
    exact ⟨rfl, below_step hb1 hb2⟩
/-- the texts of the first k numbers. -/
def itOf (xs : List Int) (i : Nat) : ByteArray := ⟨(Lib.itoa (nthI xs i)).toArray⟩
def itL (xs : List Int) (k : Nat) : List ByteArray := (List.range k).map (itOf xs)
def partsV (xs : List Int) (k : Nat) : List Value := (itL xs k).map Value.string
theorem itL_length (xs : List Int) (k : Nat) : (itL xs k).length = k := by simp [itL]
theorem partsV_succ (xs : List Int) (k : Nat) : partsV xs (k + 1) = partsV xs k ++ [.string ⟨(Lib.itoa (nthI xs k)).toArray⟩] := by simp [partsV, itL, itOf, List.range_succ]
theorem flat_itk (xs : List Int) : ∀ k, Lib.itoa (nthI xs 0) ++ ((List.range k).map (fun i => [44] ++ Lib.itoa (nthI xs (i + 1)))).flatten = itk xs k
  | 0 => by simp [itk]
  | k + 1 => by
    rw [List.range_succ, List.map_append, List.flatten_append, ← List.append_assoc, flat_itk xs k]
    simp [itk]
theorem join_itk (xs : List Int) (k : Nat) : Lib.join ((itL xs (k + 1)).map (·.data.toList)) [44] = itk xs k := by
  rw [← flat_itk xs k]
  unfold itL
  rw [List.range_succ_eq_map, List.map_cons, List.map_cons, Lib.join_cons]
  simp [Lib.joinTail, itOf, List.map_map, Function.comp_def]
theorem infoS : (Tryd.prog.info? 9).map (fun i => (i.zero, i.size, i.bytes)) = some (some (.string ⟨#[]⟩), 1, 16) := by kernel_rfl
theorem own_below {w w' : World} {B C n : Nat} {t : TypeId} {v : Value} {l : List Value} (h : w.ownsRow B t 1 v n l) (hb : Below C w w') (hC : w.heap.size ≤ C) : w'.ownsRow B t 1 v n l := by
  refine ⟨h.1, ?_⟩
  rcases h.2 with hn | ⟨g, cap, cur, rfl, hB, hg, rest⟩
  · exact .inl hn
  · exact .inr ⟨g, cap, cur, rfl, hB, (hb.block g (Nat.lt_of_lt_of_le (Array.getElem?_eq_some_iff.1 hg).1 hC)).trans hg, rest⟩
theorem parts_rel {w wq w1 : World} {O : Obj} {p p' : Value} {xs : List Int} {k : Nat} (hown : wq.ownsRow w.heap.size 9 1 p k (partsV xs k)) (hB : Below w.heap.size w wq)
    (hown1 : w1.ownsRow w.heap.size 9 1 p' (k + 1) (partsV xs k ++ [.string ⟨(Lib.itoa (nthI xs k)).toArray⟩])) (hg : (wq.alloc O).grownBy w1 p.ownBlock) :
    w1.ownsRow w.heap.size 9 1 p' (k + 1) (partsV xs (k + 1)) ∧ Below w.heap.size w w1 :=
  ⟨by rw [partsV_succ]; exact hown1, (hB.alloc hB.size O).grown hg (by have := hB.size; simp; omega) (fun j hj => (hown.lt j hj).1)⟩
theorem joined_none (A : Option Addr) (cap : Nat) (w : World) : Calls Tryd.prog 34 #[.slice A 0 cap] w (RetS [110, 111, 110, 101] w) := by
  go_enter Tryd.func34, Tryd.ntmps34
  go_wp2
  go_ret
  exact ⟨rfl, (by repeat' (first | with_reducible exact Below.refl _ _ | with_reducible assumption | with_reducible refine below_dn ?_ _ | with_reducible refine Below.drew ?_ | with_reducible refine below_step ?_ (by assumption) | with_reducible refine Below.setCell ?_ ?_ _ | with_reducible refine Below.alloc ?_ ?_ _ | with_reducible exact Nat.le_refl _ | (simp; done) | (simp; omega) | omega))⟩
theorem impl_joined (p : Value) (xs : List Int) (hx : 0 < xs.length) (hn : xs.length ≤ 64) (hok : allR xs xs.length) (w : World) (B : Nat) (h : w.ownsRow B 9 1 p xs.length (partsV xs xs.length)) : Calls Tryd.prog 34 #[p] w (RetS (lisT xs) w) := by
  obtain ⟨_, ⟨_, h0⟩ | ⟨g, cap, cur, rfl, hB, hg, hle, _⟩⟩ := id h
  · omega
  · have hk : xs.length = (xs.length - 1) + 1 := by omega
    have e : Lib.join ((itL xs xs.length).map (·.data.toList)) [44] = lisT xs := by
      unfold lisT
      rw [if_neg (by omega)]
      conv => lhs; rw [hk]
      exact join_itk xs _
    have hlen : (lisT xs).length ≤ 3000 := by
      unfold lisT
      rw [if_neg (by omega)]
      have := itk_length hok (xs.length - 1) (by omega)
      omega
    have J := Tryd.strings_Join g 0 cap (itL xs xs.length) ⟨#[44]⟩ w (fun j x hj => by
      have hjl : j < xs.length := by
        have := (List.getElem?_eq_some_iff.1 hj).1
        rwa [itL_length] at this
      rw [Nat.zero_add, World.ownsRow.cellAt h j (by omega)]
      unfold partsV
      rw [List.getElem?_map, hj]
      rfl) (Array.getElem?_eq_some_iff.1 hg).1 (by rw [itL_length]; omega) (by rw [itL_length]; exact hle) (by
      show (Lib.join ((itL xs xs.length).map (·.data.toList)) [44]).length ≤ _
      rw [e]; omega)
    rw [itL_length] at J
    have e' : Lib.join ((itL xs xs.length).map (·.data.toList)) (⟨#[44]⟩ : ByteArray).data.toList = lisT xs := e
    rw [e'] at J
    have HJ := Lib.hid J
    clear J e e' hlen hk h hg hle
    go_enter Tryd.func34, Tryd.ntmps34
    go_wp2_with (go_at_call 45; refine HJ.out.mono ?_; rintro e w' ⟨rfl, hb⟩)
    go_ret
    exact ⟨rfl, hb⟩
set_option maxHeartbeats 2000000 in
theorem impl_ListText (A : Option Addr) (cap : Nat) (xs : List Int) (hn : xs.length ≤ 1048576) (w : World) (B : Nat) (h : IlAt w B A xs) (hB : B ≤ w.heap.size) (ht : Lib.TabIs Tryd.prog w "internal/strconv.uint64pow10" .u64 Lib.pow10Tab) :
    Calls Tryd.prog 13 #[.slice A xs.length cap] w (RetSB (lisV xs) (okL xs) w) := by
  have H := Lib.hid h
  have HT := Lib.hid ht
  clear h ht
  obtain ⟨j0, gi, gz0, gz1, gz2⟩ := info_parts infoS
  go_enter Tryd.func13, Tryd.ntmps13
  go_wp2_with fail
  go_loopw [4, 10] (fun p i wr => ∃ k : Nat, k ≤ xs.length ∧ k ≤ 64 ∧ i = .int .i64 k ∧ allR xs k ∧ (∃ g c, p = .slice (some ⟨g, 0, none⟩) k c) ∧ wr.ownsRow w.heap.size 9 1 p k (partsV xs k) ∧ Below w.heap.size w wr) (fun _ i _ => xs.length - (intOf i).toNat)
  case atStart => exact ⟨0, Nat.zero_le _, Nat.zero_le _, rfl, fun i hi => absurd hi (Nat.not_lt_zero _), ⟨_, _, rfl⟩, World.ownsRow_made w #[] 0 (Nat.le_refl _) (Nat.zero_le _) rfl, (by repeat' (first | with_reducible exact Below.refl _ _ | with_reducible assumption | with_reducible refine below_dn ?_ _ | with_reducible refine Below.drew ?_ | with_reducible refine below_step ?_ (by assumption) | with_reducible refine Below.setCell ?_ ?_ _ | with_reducible refine Below.alloc ?_ ?_ _ | with_reducible exact Nat.le_refl _ | (simp; done) | (simp; omega) | omega))⟩
  case round =>
    obtain ⟨k, hk, hk64, rfl, hr, ⟨pg, pc, rfl⟩, hown, hB1⟩ := hrel
    have HO := Lib.hid hown
    have HR := Lib.hid hr
    have HB1 := Lib.hid hB1
    clear hown hr
    by_cases hlt : k < xs.length
    · obtain ⟨b, off, rfl, hb, hc⟩ := H.out (by omega)
      have hcx : wr.cell? ⟨b, off + k, none⟩ = some (.int .i64 (nthI xs k)) := (hB1.cell (p := ⟨b, off + k, none⟩) (Nat.lt_of_lt_of_le hb hB)).trans (hc k hlt)
      have hk0 : (0 : Int) ≤ (k : Int) := by omega
      have hk1 : (k : Int) < (xs.length : Int) := by omega
      clear hc
      cases hin : inI (nthI xs k) (-1000000000000000) 1000000000000000
      · have HBAD := Lib.hid (okL_bad hlt hin)
        go_wp2_with (go_at_call 33; refine (impl_in _ _ _ _).mono ?_; rintro e w7 ⟨rfl, nq, rfl⟩; rw [hin])
        go_ret2
        rw [lisV, HBAD.out]
        exact ⟨rfl, below_dn HB1.out _⟩
      · by_cases h64 : k = 64
        · have HY := Lib.hid (okL_long (xs := xs) (by omega))
          have h64' : ((k : Int) == 64) = true := by rw [h64]; rfl
          clear h64
          go_wp2_with (go_at_call 33; refine (impl_in _ _ _ _).mono ?_; rintro e w7 ⟨rfl, nq, rfl⟩; rw [hin])
          go_ret2
          rw [lisV, HY.out]
          exact ⟨rfl, below_dn HB1.out _⟩
        · have h64' : ((k : Int) == 64) = false := by
            rw [beq_eq_false_iff_ne]
            omega
          have HIN := Lib.hid hin
          have hbd := inr_bd hin
          obtain ⟨hbd1, hbd2⟩ := hbd
          have hk63 : k < 64 := by omega
          clear h64
          go_wp2_with (first | (go_at_call 33; refine (impl_in _ _ _ _).mono ?_; rintro e w7 ⟨rfl, nq, rfl⟩; rw [hin]) | (go_at_call 10; refine (impl_Decimal _ (by omega) (by omega) _ (tab_below HT.out (below_dn HB1.out nq))).mono ?_; rintro e w8 ⟨rfl, hb8⟩; have HB8 := Lib.hid (below_step (below_dn HB1.out nq) hb8); have HP := Lib.hid (own_below (w := wr.drewN nq) HO.out hb8 (Nat.le_refl _)); have hsz := HB8.out.size; clear hb8) | (at_builtin; refine wpList_append_own _ rfl _ _ 49 rfl w.heap.size 9 j0 (.string ⟨#[]⟩) 1 16 Tryd.underlying49 gi gz0 gz1 gz2 rfl (by decide) _ _ _ rfl (HP.out.alloc _) ⟨w8.heap.size, 0, none⟩ 1 1 [.string ⟨(Lib.itoa (nthI xs k)).toArray⟩] rfl rfl (fun j u hj => by match j, hj with | 0, hj => (simp at hj; subst hj; simp [Addr.add])) (fun u hu => by simp at hu; subst hu; rfl) (by unfold maxLen; omega) (by omega) (by simp; omega) ?_; intro v' w1 hown1 hgrow _))
          have R := parts_rel HP.out HB8.out hown1 hgrow
          clear hown1 hgrow
          go_wp2_with fail
          go_roundw
          case rel =>
            refine ⟨k + 1, by omega, by omega, by go_num, fun i hi => ?_, ?_, R.1, R.2⟩
            · by_cases e : i = k
              · rw [e]; exact HIN.out
              · exact HR.out i (by omega)
            · rcases id R.1.2 with ⟨_, h0⟩ | ⟨g, c, cur, hv, _⟩
              · omega
              · exact ⟨g, c, hv⟩
          case measure => simp [intOf]; omega
    · obtain rfl : k = xs.length := by omega
      have HY := Lib.hid (okL_yes HR.out hk64)
      by_cases hx : 0 < xs.length
      · go_wp2_with (go_at_call 34; refine (impl_joined _ xs hx hk64 HR.out _ _ HO.out).mono ?_; rintro e w' ⟨rfl, hb⟩)
        go_ret2
        rw [lisV, HY.out]
        exact ⟨rfl, below_step HB1.out hb⟩
      · have h0 : xs = [] := List.eq_nil_of_length_eq_zero (by omega)
        have HE := Lib.hid (show lisT xs = [110, 111, 110, 101] by rw [h0]; rfl)
        have hl0 : xs.length = 0 := by omega
        rw [hl0]
        clear h0 hl0
        go_wp2_with (go_at_call 34; refine (joined_none _ _ _).mono ?_; rintro e w' ⟨rfl, hb⟩)
        go_ret2
        rw [lisV, HY.out, HE.out]
        exact ⟨rfl, below_step HB1.out hb⟩
end Go.Proofs.YtfempadelilpoaaDoor
