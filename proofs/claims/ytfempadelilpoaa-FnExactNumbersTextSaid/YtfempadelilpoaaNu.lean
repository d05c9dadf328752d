/- The text of numbers, program and reference. -/
import Derived.Test.YtfempadelilpoaaNt
import Derived.Test.YtfempadelilpoaaSj
import Derived.Laws.Concat
namespace Go.Proofs.Ytfempadelilpoaa
open Go.ChangeShapes Go.WideShapes Go.ChangeAt Go.RowKit Go.Deep

/-- the text of the first k + 1 numbers. -/
def ntk (xs : List Nat) : Nat → List UInt8
  | 0 => hexs (bitsI (nth xs 0)) 8
  | k + 1 => ntk xs k ++ ([44] ++ hexs (bitsI (nth xs (k + 1))) 8)
theorem ntk_length (xs : List Nat) : ∀ k, (ntk xs k).length = 8 + 9 * k
  | 0 => hexs_length _ _
  | k + 1 => by
    unfold ntk
    rw [List.length_append, List.length_append, ntk_length xs k, hexs_length]
    simp
    omega
def numT (xs : List Nat) : List UInt8 := if xs.length = 0 then [110, 111, 110, 101] else ntk xs (xs.length - 1)
theorem ok_nth {xs : List Nat} (h : ∀ x ∈ xs, x < 4294967296) (k : Nat) : nth xs k < 4294967296 := by
  unfold nth
  by_cases hk : k < xs.length
  · rw [List.getD, List.getElem?_eq_getElem hk]
    exact h _ (List.getElem_mem hk)
  · rw [List.getD, List.getElem?_eq_none (by omega)]
    decide
theorem ntk_cat (xs : List Nat) (k : Nat) : (⟨(ntk xs k).toArray⟩ : ByteArray) ++ ((⟨#[44]⟩ : ByteArray) ++ (⟨(hexs (bitsI (nth xs (k + 1))) 8).toArray⟩ : ByteArray)) = ⟨(ntk xs (k + 1)).toArray⟩ := by
  rw [show (⟨#[44]⟩ : ByteArray) = ⟨([44] : List UInt8).toArray⟩ from rfl, ByteArray.mk_append_mk, ByteArray.mk_append_mk]
  rfl

set_option maxHeartbeats 1000000 in
theorem spec_l01NText (A : Option Addr) (cap : Nat) (xs : List Nat) (hn : xs.length ≤ 256) (hok : ∀ x ∈ xs, x < 4294967296) (w : World) (B : Nat) (h : FlAt w B A xs) (hB : B ≤ w.heap.size) :
    Calls Try.prog 9 #[.slice A xs.length cap] w (RetS (numT xs) w) := by
  by_cases hx : 0 < xs.length
  · obtain ⟨b, off, rfl, hb, hc⟩ := h hx
    have HC := Lib.hid hc
    have HK := Lib.hid (ok_nth hok)
    have hc0 : w.cell? ⟨b, off, none⟩ = some (.float .f32 (nth xs 0)) := by have := hc 0 hx; simpa using this
    have e : numT xs = ntk xs (xs.length - 1) := by unfold numT; rw [if_neg (by omega)]
    rw [e]
    clear h hc hok e
    go_enter Try.func9, Try.ntmps9
    go_wp2_with (go_at_call 14; refine (spec_l01Hex _ (HK.out 0) _).mono ?_; rintro e w' ⟨rfl, hb1⟩)
    go_loopw [3, 4] (fun s i wr => ∃ k : Nat, k + 1 ≤ xs.length ∧ i = .int .i64 (k + 1) ∧ s = .string ⟨(ntk xs k).toArray⟩ ∧ Below w.heap.size w wr) (fun _ i _ => xs.length - (intOf i).toNat)
    case atStart => exact ⟨0, hx, rfl, rfl, (by repeat' (first | with_reducible exact Below.refl _ _ | with_reducible assumption | with_reducible refine below_dn ?_ _ | with_reducible refine Below.drew ?_ | with_reducible refine below_step ?_ (by assumption) | with_reducible refine Below.setCell ?_ ?_ _ | with_reducible refine Below.alloc ?_ ?_ _ | with_reducible exact Nat.le_refl _ | (simp; done) | (simp; omega) | omega))⟩
    case round =>
      obtain ⟨k, hk, rfl, rfl, hB1⟩ := hrel
      by_cases hlt : k + 1 < xs.length
      · have hcx : wr.cell? ⟨b, off + (k + 1), none⟩ = some (.float .f32 (nth xs (k + 1))) := (hB1.cell (p := ⟨b, off + (k + 1), none⟩) (Nat.lt_of_lt_of_le hb hB)).trans (HC.out (k + 1) hlt)
        have hl1 := hexs_length (bitsI (nth xs (k + 1))) 8
        have hl2 := ntk_length xs k
        go_wp2_with (go_at_call 14; refine (spec_l01Hex _ (HK.out (k + 1)) _).mono ?_; rintro e w' ⟨rfl, hb1⟩)
        go_roundw
        case rel => exact ⟨k + 1, by omega, by go_num, by rw [ntk_cat], (by repeat' (first | with_reducible exact Below.refl _ _ | with_reducible assumption | with_reducible refine below_dn ?_ _ | with_reducible refine Below.drew ?_ | with_reducible refine below_step ?_ (by assumption) | with_reducible refine Below.setCell ?_ ?_ _ | with_reducible refine Below.alloc ?_ ?_ _ | with_reducible exact Nat.le_refl _ | (simp; done) | (simp; omega) | omega))⟩
        case measure => simp [intOf]; omega
      · have hke : k = xs.length - 1 := by omega
        have HE := Lib.hid hke
        clear hke
        go_wp2
        go_ret
        exact ⟨by rw [HE.out]; rfl, hB1⟩
  · have h0 : xs = [] := List.eq_nil_of_length_eq_zero (by omega)
    subst h0
    clear h hx hn hok
    show Calls Try.prog 9 #[.slice A 0 cap] w (RetS [110, 111, 110, 101] w)
    go_enter Try.func9, Try.ntmps9
    go_wp2
    go_ret
    exact ⟨rfl, (by repeat' (first | with_reducible exact Below.refl _ _ | with_reducible assumption | with_reducible refine below_dn ?_ _ | with_reducible refine Below.drew ?_ | with_reducible refine below_step ?_ (by assumption) | with_reducible refine Below.setCell ?_ ?_ _ | with_reducible refine Below.alloc ?_ ?_ _ | with_reducible exact Nat.le_refl _ | (simp; done) | (simp; omega) | omega))⟩
def fewN (xs : List Nat) : Bool := decide (xs.length ≤ 256)
def numV (xs : List Nat) : List UInt8 := if xs.length ≤ 256 then numT xs else []
def RetSB (l : List UInt8) (b : Bool) (w : World) (e : Ending) (w' : World) : Prop := e = .returned (.tuple #[.string ⟨l.toArray⟩, .bool b]) ∧ Below w.heap.size w w'
theorem spec_NumbersText (A : Option Addr) (cap : Nat) (xs : List Nat) (hn : xs.length ≤ 1048576) (hok : ∀ x ∈ xs, x < 4294967296) (w : World) (B : Nat) (h : FlAt w B A xs) (hB : B ≤ w.heap.size) :
    Calls Try.prog 4 #[.slice A xs.length cap] w (RetSB (numV xs) (fewN xs) w) := by
  by_cases hf : xs.length ≤ 256
  · have e1 : numV xs = numT xs := by unfold numV; rw [if_pos hf]
    have e2 : fewN xs = true := decide_eq_true hf
    have hf' : decide ((xs.length : Int) ≤ 256) = true := decide_eq_true (by omega)
    have H := Lib.hid h
    have HK := Lib.hid hok
    have HF := Lib.hid hf
    rw [e1, e2]
    clear h hf e1 e2 hok
    go_enter Try.func4, Try.ntmps4
    go_wp2_with (first | (go_at_call 9; refine (spec_l01NText _ _ _ HF.out HK.out _ _ H.out hB).mono ?_; rintro e w' ⟨rfl, hb⟩) | go_in)
    go_ret2
    exact ⟨rfl, hb⟩
  · have e1 : numV xs = [] := by unfold numV; rw [if_neg hf]
    have e2 : fewN xs = false := decide_eq_false hf
    have hf' : decide ((xs.length : Int) ≤ 256) = false := decide_eq_false (by omega)
    rw [e1, e2]
    clear h hf e1 e2 hok
    go_enter Try.func4, Try.ntmps4
    go_wp2
    go_ret2
    exact ⟨rfl, (by repeat' (first | with_reducible exact Below.refl _ _ | with_reducible assumption | with_reducible refine below_dn ?_ _ | with_reducible refine Below.drew ?_ | with_reducible refine below_step ?_ (by assumption) | with_reducible refine Below.setCell ?_ ?_ _ | with_reducible refine Below.alloc ?_ ?_ _ | with_reducible exact Nat.le_refl _ | (simp; done) | (simp; omega) | omega))⟩
/-- the texts of the first k numbers. -/
def hexOf (xs : List Nat) (i : Nat) : ByteArray := ⟨(hexs (bitsI (nth xs i)) 8).toArray⟩
def hexL (xs : List Nat) (k : Nat) : List ByteArray := (List.range k).map (hexOf xs)
def partsV (xs : List Nat) (k : Nat) : List Value := (hexL xs k).map Value.string
theorem hexL_length (xs : List Nat) (k : Nat) : (hexL xs k).length = k := by simp [hexL]
theorem partsV_succ (xs : List Nat) (k : Nat) : partsV xs (k + 1) = partsV xs k ++ [.string ⟨(hexs (bitsI (nth xs k)) 8).toArray⟩] := by simp [partsV, hexL, hexOf, List.range_succ]
theorem flat_ntk (xs : List Nat) : ∀ k, hexs (bitsI (nth xs 0)) 8 ++ ((List.range k).map (fun i => [44] ++ hexs (bitsI (nth xs (i + 1))) 8)).flatten = ntk xs k
  | 0 => by simp [ntk]
  | k + 1 => by
    rw [List.range_succ, List.map_append, List.flatten_append, ← List.append_assoc, flat_ntk xs k]
    simp [ntk]
theorem join_ntk (xs : List Nat) (k : Nat) : Lib.join ((hexL xs (k + 1)).map (·.data.toList)) [44] = ntk xs k := by
  rw [← flat_ntk xs k]
  unfold hexL
  rw [List.range_succ_eq_map, List.map_cons, List.map_cons, Lib.join_cons]
  simp [Lib.joinTail, hexOf, List.map_map, Function.comp_def]
theorem infoS : (Try.prog.info? 9).map (fun i => (i.zero, i.size, i.bytes)) = some (some (.string ⟨#[]⟩), 1, 16) := by kernel_rfl
theorem own_below {w w' : World} {B C n : Nat} {t : TypeId} {v : Value} {l : List Value} (h : w.ownsRow B t 1 v n l) (hb : Below C w w') (hC : w.heap.size ≤ C) : w'.ownsRow B t 1 v n l := by
  refine ⟨h.1, ?_⟩
  rcases h.2 with hn | ⟨g, cap, cur, rfl, hB, hg, rest⟩
  · exact .inl hn
  · exact .inr ⟨g, cap, cur, rfl, hB, (hb.block g (Nat.lt_of_lt_of_le (Array.getElem?_eq_some_iff.1 hg).1 hC)).trans hg, rest⟩
theorem parts_rel {w wq w1 : World} {O : Obj} {p p' : Value} {xs : List Nat} {k : Nat} (hown : wq.ownsRow w.heap.size 9 1 p k (partsV xs k)) (hB : Below w.heap.size w wq)
    (hown1 : w1.ownsRow w.heap.size 9 1 p' (k + 1) (partsV xs k ++ [.string ⟨(hexs (bitsI (nth xs k)) 8).toArray⟩])) (hg : (wq.alloc O).grownBy w1 p.ownBlock) :
    w1.ownsRow w.heap.size 9 1 p' (k + 1) (partsV xs (k + 1)) ∧ Below w.heap.size w w1 :=
  ⟨by rw [partsV_succ]; exact hown1, (hB.alloc hB.size O).grown hg (by have := hB.size; simp; omega) (fun j hj => (hown.lt j hj).1)⟩
theorem joined_none (A : Option Addr) (cap : Nat) (w : World) : Calls Try.prog 12 #[.slice A 0 cap] w (RetS [110, 111, 110, 101] w) := by
  go_enter Try.func12, Try.ntmps12
  go_wp2
  go_ret
  exact ⟨rfl, (by repeat' (first | with_reducible exact Below.refl _ _ | with_reducible assumption | with_reducible refine below_dn ?_ _ | with_reducible refine Below.drew ?_ | with_reducible refine below_step ?_ (by assumption) | with_reducible refine Below.setCell ?_ ?_ _ | with_reducible refine Below.alloc ?_ ?_ _ | with_reducible exact Nat.le_refl _ | (simp; done) | (simp; omega) | omega))⟩
theorem impl_joined (p : Value) (xs : List Nat) (hx : 0 < xs.length) (hn : xs.length ≤ 256) (w : World) (B : Nat) (h : w.ownsRow B 9 1 p xs.length (partsV xs xs.length)) : Calls Try.prog 12 #[p] w (RetS (numT xs) w) := by
  obtain ⟨_, ⟨_, h0⟩ | ⟨g, cap, cur, rfl, hB, hg, hle, _⟩⟩ := id h
  · omega
  · have hk : xs.length = (xs.length - 1) + 1 := by omega
    have e : Lib.join ((hexL xs xs.length).map (·.data.toList)) [44] = numT xs := by
      unfold numT
      rw [if_neg (by omega)]
      conv => lhs; rw [hk]
      exact join_ntk xs _
    have hlen : (numT xs).length ≤ 3000 := by
      unfold numT
      rw [if_neg (by omega), ntk_length]
      omega
    have J := Try.strings_Join g 0 cap (hexL xs xs.length) ⟨#[44]⟩ w (fun j x hj => by
      have hjl : j < xs.length := by
        have := (List.getElem?_eq_some_iff.1 hj).1
        rwa [hexL_length] at this
      rw [Nat.zero_add, World.ownsRow.cellAt h j (by omega)]
      unfold partsV
      rw [List.getElem?_map, hj]
      rfl) (Array.getElem?_eq_some_iff.1 hg).1 (by rw [hexL_length]; omega) (by rw [hexL_length]; exact hle) (by
      show (Lib.join ((hexL xs xs.length).map (·.data.toList)) [44]).length ≤ _
      rw [e]; omega)
    rw [hexL_length] at J
    have e' : Lib.join ((hexL xs xs.length).map (·.data.toList)) (⟨#[44]⟩ : ByteArray).data.toList = numT xs := e
    rw [e'] at J
    have HJ := Lib.hid J
    clear J e e' hlen hk h hg hle
    go_enter Try.func12, Try.ntmps12
    go_wp2_with (go_at_call 17; refine HJ.out.mono ?_; rintro e w' ⟨rfl, hb⟩)
    go_ret
    exact ⟨rfl, hb⟩
theorem impl_listOk (A : Option Addr) (n cap : Nat) (w : World) : Calls Try.prog 10 #[.slice A n cap] w (fun e w' => e = .returned (.bool (decide ((n : Int) ≤ 256))) ∧ w = w') := by
  go_enter Try.func10, Try.ntmps10
  go_wp2
  go_ret
  exact ⟨rfl, rfl⟩
set_option maxHeartbeats 2000000 in
theorem impl_NumbersText0 (b off : Nat) (cap : Nat) (xs : List Nat) (hx : 0 < xs.length) (hf : xs.length ≤ 256) (hok : ∀ x ∈ xs, x < 4294967296) (w : World)
    (hb : b < w.heap.size) (hc : ∀ i, i < xs.length → w.cell? ⟨b, off + i, none⟩ = some (.float .f32 (nth xs i))) :
    Calls Try.prog 6 #[.slice (some ⟨b, off, none⟩) xs.length cap] w (RetSB (numT xs) true w) := by
  have hf' : decide ((xs.length : Int) ≤ 256) = true := decide_eq_true (by omega)
  have HC := Lib.hid hc
  have HK := Lib.hid (ok_nth hok)
  clear hc hok
  obtain ⟨i0, hi, hz0, hz1, hz2⟩ := info_parts info8
  obtain ⟨j0, gi, gz0, gz1, gz2⟩ := info_parts infoS
  go_enter Try.func6, Try.ntmps6
  go_wp2_with (go_at_call 10; refine (impl_listOk _ _ _ _).mono ?_; rintro e w' ⟨rfl, rfl⟩)
  go_loopw [4, 15] (fun p i wr => ∃ k : Nat, k ≤ xs.length ∧ i = .int .i64 k ∧ wr.ownsRow w.heap.size 9 1 p k (partsV xs k) ∧ Below w.heap.size w wr) (fun _ i _ => xs.length - (intOf i).toNat)
  case atStart => exact ⟨0, Nat.zero_le _, rfl, World.ownsRow_made w #[] 0 (Nat.le_refl _) (Nat.zero_le _) rfl, (by repeat' (first | with_reducible exact Below.refl _ _ | with_reducible assumption | with_reducible refine below_dn ?_ _ | with_reducible refine Below.drew ?_ | with_reducible refine below_step ?_ (by assumption) | with_reducible refine Below.setCell ?_ ?_ _ | with_reducible refine Below.alloc ?_ ?_ _ | with_reducible exact Nat.le_refl _ | (simp; done) | (simp; omega) | omega))⟩
  case round =>
    obtain ⟨k, hk, rfl, hown, hB1⟩ := hrel
    have HO := Lib.hid hown
    clear hown
    by_cases hlt : k < xs.length
    · have hcx : wr.cell? ⟨b, off + k, none⟩ = some (.float .f32 (nth xs k)) := (hB1.cell (p := ⟨b, off + k, none⟩) hb).trans (HC.out k hlt)
      have CB := Lib.hid (impl_BitsOf (nth xs k) (HK.out k))
      have DR := Lib.hid (dig_range (bitsI_range (HK.out k)).1 (bitsI_range (HK.out k)).2)
      rename World => wo
      go_wp2
      go_loopw [7, 8] (fun t s wq => ∃ j : Nat, j ≤ 8 ∧ s = .int .i64 (28 - 4 * j) ∧ wq.ownsRow wo.heap.size 5 1 t j (cellsB (hexs (bitsI (nth xs k)) j)) ∧ Below wo.heap.size wo wq) (fun _ s _ => (intOf s + 4).toNat)
      case atStart => exact ⟨0, Nat.zero_le _, rfl, World.ownsRow_made wo #[] 0 (Nat.le_refl _) (Nat.zero_le _) rfl, (by repeat' (first | with_reducible exact Below.refl _ _ | with_reducible assumption | with_reducible refine below_dn ?_ _ | with_reducible refine Below.drew ?_ | with_reducible refine below_step ?_ (by assumption) | with_reducible refine Below.setCell ?_ ?_ _ | with_reducible refine Below.alloc ?_ ?_ _ | with_reducible exact Nat.le_refl _ | (simp; done) | (simp; omega) | omega))⟩
      case round =>
        obtain ⟨j, hj, rfl, hown2, hB2⟩ := hrel
        have HO2 := Lib.hid hown2
        clear hown2
        by_cases hj8 : j < 8
        · have hd := DR.out j
          unfold digI at hd
          obtain ⟨hd0, hd1⟩ := hd
          have hsz := hB2.size
          go_wp2_with (first | (go_at_call 11; refine (CB.out _).mono ?_; rintro e w' ⟨rfl, n, rfl⟩) | (at_builtin; refine wpList_append_own _ rfl _ _ 31 rfl wo.heap.size 5 i0 (.int .u8 0) 1 1 Try.underlying31 hi hz0 hz1 hz2 rfl (by decide) _ _ _ rfl (World.ownsRow.alloc (w := wr.drewN n) HO2.out _) ⟨(wr.drewN n).heap.size, 0, none⟩ 1 1 [.int .u8 ((hexB (digI (bitsI (nth xs k)) j).toNat).toNat : Int)] rfl rfl (fun i u hi => by match i, hi with | 0, hi => (simp at hi; subst hi; simpa [Addr.add, hex_at, digI] using World.cell?_alloc_mark (wr.drewN n) #[.int .u8 ((hexB (digI (bitsI (nth xs k)) j).toNat).toNat : Int)] 5 (0, 0) 0)) (fun u hu => by simp at hu; subst hu; rfl) (by unfold maxLen; omega) (by omega) (by simp; omega) ?_; intro v' w1 hown1 hgrow _))
          have R := hex_rel (w := wo) (wr := wr.drewN n) HO2.out (below_dn hB2 n) hown1 hgrow
          clear hown1 hgrow
          go_wp2
          go_roundw
          case rel => exact ⟨j + 1, by omega, by go_num, R.1, R.2⟩
          case measure => simp [intOf]; omega
        · have hje : j = 8 := by omega
          subst hje
          obtain ⟨g, gcap, rfl, hcv⟩ := own_bytes (hexs_length (bitsI (nth xs k)) 8) (by decide) HO2.out
          have HP := Lib.hid (own_below HO.out hB2 (Nat.le_refl _))
          have hsz := hB2.size
          have hsz1 := hB1.size
          go_wp2_with (at_builtin; refine wpList_append_own _ rfl _ _ 30 rfl w.heap.size 9 j0 (.string ⟨#[]⟩) 1 16 Try.underlying30 gi gz0 gz1 gz2 rfl (by decide) _ _ _ rfl (HP.out.alloc _) ⟨wr.heap.size, 0, none⟩ 1 1 [.string ⟨(hexs (bitsI (nth xs k)) 8).toArray⟩] rfl rfl (fun j u hj => by match j, hj with | 0, hj => (simp at hj; subst hj; simp [Addr.add])) (fun u hu => by simp at hu; subst hu; rfl) (by unfold maxLen; omega) (by omega) (by simp; omega) ?_; intro v' w1 hown1 hgrow _)
          have R := parts_rel HP.out (below_step hB1 hB2) hown1 hgrow
          clear hown1 hgrow
          go_wp2
          go_roundw
          case rel => exact ⟨k + 1, by omega, by go_num, R.1, R.2⟩
          case measure => simp [intOf]; omega
    · have hke : k = xs.length := by omega
      subst hke
      go_wp2_with (go_at_call 12; refine (impl_joined _ xs hx hf _ _ HO.out).mono ?_; rintro e w' ⟨rfl, hb⟩)
      go_ret2
      exact ⟨rfl, (by repeat' (first | with_reducible exact Below.refl _ _ | with_reducible assumption | with_reducible refine below_dn ?_ _ | with_reducible refine Below.drew ?_ | with_reducible refine below_step ?_ (by assumption) | with_reducible refine Below.setCell ?_ ?_ _ | with_reducible refine Below.alloc ?_ ?_ _ | with_reducible exact Nat.le_refl _ | (simp; done) | (simp; omega) | omega))⟩
theorem impl_NumbersText (A : Option Addr) (cap : Nat) (xs : List Nat) (hn : xs.length ≤ 1048576) (hok : ∀ x ∈ xs, x < 4294967296) (w : World) (B : Nat) (h : FlAt w B A xs) (hB : B ≤ w.heap.size) :
    Calls Try.prog 6 #[.slice A xs.length cap] w (RetSB (numV xs) (fewN xs) w) := by
  by_cases hf : xs.length ≤ 256
  · have e1 : numV xs = numT xs := by unfold numV; rw [if_pos hf]
    have e2 : fewN xs = true := decide_eq_true hf
    rw [e1, e2]
    by_cases hx : 0 < xs.length
    · obtain ⟨b, off, rfl, hb, hc⟩ := h hx
      exact impl_NumbersText0 b off cap xs hx hf hok w (Nat.lt_of_lt_of_le hb hB) hc
    · have h0 : xs = [] := List.eq_nil_of_length_eq_zero (by omega)
      subst h0
      clear h hx hf hok hn e1 e2
      show Calls Try.prog 6 #[.slice A 0 cap] w (RetSB [110, 111, 110, 101] true w)
      go_enter Try.func6, Try.ntmps6
      go_wp2_with (go_at_call 10; refine (impl_listOk _ _ _ _).mono ?_; rintro e w' ⟨rfl, rfl⟩)
      refine wp_loop_rounds 1 ?_
      rw [rounds_succ]
      go_wp2_with (go_at_call 12; refine (joined_none _ _ _).mono ?_; rintro e w' ⟨rfl, hb⟩)
      go_ret2
      exact ⟨rfl, (by repeat' (first | with_reducible exact Below.refl _ _ | with_reducible assumption | with_reducible refine below_dn ?_ _ | with_reducible refine Below.drew ?_ | with_reducible refine below_step ?_ (by assumption) | with_reducible refine Below.setCell ?_ ?_ _ | with_reducible refine Below.alloc ?_ ?_ _ | with_reducible exact Nat.le_refl _ | (simp; done) | (simp; omega) | omega))⟩
  · have e1 : numV xs = [] := by unfold numV; rw [if_neg hf]
    have e2 : fewN xs = false := decide_eq_false hf
    have hf' : decide ((xs.length : Int) ≤ 256) = false := decide_eq_false (by omega)
    rw [e1, e2]
    clear h hf e1 e2 hok
    go_enter Try.func6, Try.ntmps6
    go_wp2_with (go_at_call 10; refine (impl_listOk _ _ _ _).mono ?_; rintro e w' ⟨rfl, rfl⟩)
    go_ret2
    exact ⟨rfl, (by repeat' (first | with_reducible exact Below.refl _ _ | with_reducible assumption | with_reducible refine below_dn ?_ _ | with_reducible refine Below.drew ?_ | with_reducible refine below_step ?_ (by assumption) | with_reducible refine Below.setCell ?_ ?_ _ | with_reducible refine Below.alloc ?_ ?_ _ | with_reducible exact Nat.le_refl _ | (simp; done) | (simp; omega) | omega))⟩
end Go.Proofs.Ytfempadelilpoaa
