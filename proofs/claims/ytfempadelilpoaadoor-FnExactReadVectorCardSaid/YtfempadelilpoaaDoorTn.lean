/- ReadList: contracts. -/
import Derived.Test.YtfempadelilpoaaDoorTc
import Derived.Test.YtfempadelilpoaaDoorRj
namespace Go.Proofs.YtfempadelilpoaaDoor
open Go.ChangeShapes Go.WideShapes Go.ChangeAt Go.RowKit Go.Deep

theorem var_below {w w' : World} {name : String} {g : Nat} {v : Array Value} (hg : Tryd.prog.globalNamed name = some g) (h : w.var? Tryd.prog name = some v) (hb : Below w.heap.size w w') : w'.var? Tryd.prog name = some v := by
  unfold World.var? at h ⊢
  rw [hg] at h ⊢
  simp only [Option.bind_some] at h ⊢
  have hlt : g < w.heap.size := by
    rcases Nat.lt_or_ge g w.heap.size with h' | h'
    · exact h'
    · rw [Array.getElem?_eq_none h'] at h; cases h
  rw [hb.block g hlt]
  exact h
theorem gES : Tryd.prog.globalNamed "strconv.ErrSyntax" = some 2 := by kernel_rfl
theorem gER : Tryd.prog.globalNamed "strconv.ErrRange" = some 3 := by kernel_rfl
def noneL : List UInt8 := [110, 111, 110, 101]
theorem cutL_len : ∀ l : List UInt8, ∀ p ∈ cutL l, p.length ≤ l.length
  | [], p, hp => by
    have : p = [] := by simpa [cutL] using hp
    rw [this]
    exact Nat.le_refl _
  | c :: l, p, hp => by
    have hp' : p ∈ (if c = 44 then [] :: cutL l else consH c (cutL l)) := hp
    rw [List.length_cons]
    by_cases hc : c = 44
    · rw [if_pos hc, List.mem_cons] at hp'
      rcases hp' with rfl | h
      · exact Nat.zero_le _
      · exact Nat.le_succ_of_le (cutL_len l p h)
    · rw [if_neg hc] at hp'
      cases hx : cutL l with
      | nil => exact absurd hx (cutL_ne l)
      | cons x xs =>
        rw [hx] at hp'
        rcases List.mem_cons.1 (show p ∈ (c :: x) :: xs from hp') with rfl | h
        · rw [List.length_cons]
          exact Nat.succ_le_succ (cutL_len l x (by rw [hx]; simp))
        · exact Nat.le_succ_of_le (cutL_len l p (by rw [hx]; simp [h]))
/-- the numbers of the first k texts. -/
def vals (P : List (List UInt8)) (k : Nat) : List Int := (P.take k).map fun p => (rdV p).1
def okTo (P : List (List UInt8)) (k : Nat) : Bool := (P.take k).all fun p => (rdV p).2
theorem take_at {P : List (List UInt8)} {k : Nat} {p : List UInt8} (h : P[k]? = some p) : P.take (k + 1) = P.take k ++ [p] := by
  have hk := (List.getElem?_eq_some_iff.1 h).1
  rw [List.take_succ_eq_append_getElem hk, (List.getElem?_eq_some_iff.1 h).2]
theorem vals_at {P : List (List UInt8)} {k : Nat} {p : List UInt8} (h : P[k]? = some p) : vals P (k + 1) = vals P k ++ [(rdV p).1] := by unfold vals; rw [take_at h, List.map_append]; rfl
theorem okTo_at {P : List (List UInt8)} {k : Nat} {p : List UInt8} (h : P[k]? = some p) : okTo P (k + 1) = (okTo P k && (rdV p).2) := by unfold okTo; rw [take_at h, List.all_append]; simp
theorem vals_length {P : List (List UInt8)} {k : Nat} (h : k ≤ P.length) : (vals P k).length = k := by unfold vals; rw [List.length_map, List.length_take]; omega
theorem okTo_bad {P : List (List UInt8)} {k : Nat} {p : List UInt8} (h : P[k]? = some p) (hp : (rdV p).2 = false) : okTo P P.length = false := by
  unfold okTo
  rw [List.take_length, List.all_eq_false]
  exact ⟨p, List.mem_of_getElem? h, by rw [hp]; simp⟩
def partsL (l : List UInt8) : List (List UInt8) := if l = noneL then [] else cutL l
def rlB (l : List UInt8) : Bool := decide ((partsL l).length ≤ 64) && okTo (partsL l) (partsL l).length
def rlV (l : List UInt8) : List Int := match rlB l with
  | true => vals (partsL l) (partsL l).length
  | false => []
theorem rl_no {l : List UInt8} (h : rlB l = false) : rlV l = [] := by unfold rlV; rw [h]
theorem rl_yes {l : List UInt8} (h : rlB l = true) : rlV l = vals (partsL l) (partsL l).length := by unfold rlV; rw [h]
theorem rlB_long {l : List UInt8} (h : ¬ (partsL l).length ≤ 64) : rlB l = false := by unfold rlB; rw [decide_eq_false h]; rfl
theorem rlB_bad {l : List UInt8} {k : Nat} {p : List UInt8} (h : (partsL l)[k]? = some p) (hp : (rdV p).2 = false) : rlB l = false := by unfold rlB; rw [okTo_bad h hp, Bool.and_false]
theorem rlB_yes {l : List UInt8} (h : (partsL l).length ≤ 64) (h2 : okTo (partsL l) (partsL l).length = true) : rlB l = true := by unfold rlB; rw [decide_eq_true h, h2]; rfl
theorem ow_nil (w : World) (B : Nat) : Ow w B (.slice none 0 0) [] := World.ownsRow_nil _ _ _ _
theorem ow_made {w : World} : Ow (w.alloc (.cells #[] 2)) w.heap.size (.slice (some ⟨w.heap.size, 0, none⟩) 0 0) [] := World.ownsRow_made w #[] 0 (Nat.le_refl _) (Nat.zero_le _) rfl
theorem ow_below {w w' : World} {B : Nat} {v : Value} {xs : List Int} (h : Ow w B v xs) (hb : Below w.heap.size w w') : Ow w' B v xs := by
  refine ⟨h.1, ?_⟩
  rcases h.2 with h0 | ⟨g, cap, cur, rfl, hB, hg, rest⟩
  · exact .inl h0
  · exact .inr ⟨g, cap, cur, rfl, hB, (hb.block g (Array.getElem?_eq_some_iff.1 hg).1).trans hg, rest⟩
theorem ow_put {w wq w1 : World} {O : Obj} {v v' : Value} {xs : List Int} {x : Int} (hown : Ow wq w.heap.size v xs) (hB : Below w.heap.size w wq)
    (hown1 : w1.ownsRow w.heap.size 2 1 v' (xs.length + 1) (xs.map (Value.int .i64) ++ [.int .i64 x])) (hg : (wq.alloc O).grownBy w1 v.ownBlock) :
    Ow w1 w.heap.size v' (xs ++ [x]) ∧ Below w.heap.size w w1 ∧ ∃ g c, v' = .slice (some ⟨g, 0, none⟩) (xs ++ [x]).length c := by
  have e1 : (xs ++ [x]).length = xs.length + 1 := by simp
  refine ⟨?_, (hB.alloc hB.size O).grown hg (by have := hB.size; simp; omega) (fun j hj => (hown.lt j hj).1), ?_⟩
  · unfold Ow
    rw [e1, List.map_append]
    exact hown1
  · rw [e1]
    rcases id hown1.2 with ⟨_, h0⟩ | ⟨g, c, cur, hv, _⟩
    · omega
    · exact ⟨g, c, hv⟩
theorem asL_at {ps : List ByteArray} {k : Nat} {x : ByteArray} (h : ps[k]? = some x) : (asL ps)[k]? = some x.data.toList := by unfold asL; rw [List.getElem?_map, h]; rfl
theorem asL_len (ps : List ByteArray) : (asL ps).length = ps.length := by simp [asL]
theorem ow_heap {w : World} {B : Nat} {v : Value} {xs : List Int} (h : Ow w B v xs) : ∀ k, v.ownBlock = some k → ∃ cs fz, w.heap[k]? = some (.cells cs 2 fz) := fun k hk => by
  rcases h.2 with ⟨rfl, _⟩ | ⟨g, cap, cur, rfl, _, hg, _⟩
  · cases hk
  · cases hk
    exact ⟨cur, _, hg⟩
theorem rl_none {l : List UInt8} (h : l = noneL) : rlB l = true ∧ rlV l = [] := by
  subst h
  exact ⟨rfl, rfl⟩
theorem parts_size {s : ByteArray} {ps : List ByteArray} (h : asL ps = cutL s.data.toList) (hs : s.size ≤ 1048576) : ∀ x ∈ ps, x.size ≤ 1048576 := fun x hx => by
  have h1 : x.data.toList ∈ cutL s.data.toList := by rw [← h]; exact List.mem_map_of_mem hx
  have h2 := cutL_len _ _ h1
  rw [← Lib.size_eq, ← Lib.size_eq] at h2
  omega
theorem Ow.alloc' {w : World} {B : Nat} {v : Value} {xs : List Int} (h : Ow w B v xs) (o : Obj) : Ow (w.alloc o) B v xs := ow_below h (Below.alloc (Below.refl _ _) (Nat.le_refl _) _)
theorem ne_none {s : ByteArray} (h : ¬ s.data.toList = noneL) : (s.toList == [110, 111, 110, 101]) = false := by
  rw [Lib.toList_data, beq_eq_false_iff_ne]
  exact h
set_option maxHeartbeats 4000000 in
set_option maxRecDepth 100000 in
theorem spec_l01Numbers (s : ByteArray) (hs : s.size ≤ 1048576) (w : World) : Calls Tryd.prog 40 #[.string s] w (RetIB (rlV s.data.toList) (rlB s.data.toList) w) := by
  obtain ⟨i0, hi, hz0, hz1, hz2⟩ := info_parts info64
  by_cases hn : s.data.toList = noneL
  · obtain ⟨e1, e2⟩ := rl_none hn
    rw [e1, e2]
    obtain rfl := bytes_none hn
    clear hn hs e1 e2
    go_enter Tryd.func40, Tryd.ntmps40
    go_wp2_with fail
    go_ret2
    exact ⟨_, rfl, ow_made, (by repeat' (first | with_reducible exact Below.refl _ _ | with_reducible assumption | with_reducible refine below_dn ?_ _ | with_reducible refine Below.drew ?_ | with_reducible refine below_step ?_ (by assumption) | with_reducible refine Below.setCell ?_ ?_ _ | with_reducible refine Below.alloc ?_ ?_ _ | with_reducible exact Nat.le_refl _ | (simp; done) | (simp; omega) | omega))⟩
  · have hne := ne_none hn
    have HN := Lib.hid hn
    clear hn
    go_enter Tryd.func40, Tryd.ntmps40
    go_wp2_with fail
    refine (spec_l01Cut s hs _).mono ?_
    rintro e wq ⟨A, c0, ps, rfl, hps, hst, hbq⟩
    have HPS := Lib.hid (show asL ps = partsL s.data.toList by unfold partsL; rw [if_neg HN.out]; exact hps)
    have HSZ := Lib.hid (parts_size hps hs)
    have HOQ := Lib.hid (ow_below (ow_made (w := w)) hbq)
    have HSQ := Lib.hid hst
    have HBQ := Lib.hid (show Below w.heap.size w wq from below_step (w := w) (by repeat' (first | with_reducible exact Below.refl _ _ | with_reducible assumption | with_reducible refine below_dn ?_ _ | with_reducible refine Below.drew ?_ | with_reducible refine below_step ?_ (by assumption) | with_reducible refine Below.setCell ?_ ?_ _ | with_reducible refine Below.alloc ?_ ?_ _ | with_reducible exact Nat.le_refl _ | (simp; done) | (simp; omega) | omega)) hbq)
    clear hps hst hbq
    by_cases h64 : ps.length ≤ 64
    · have h64' : (ps.length : Int) ≤ 64 := by omega
      go_wp2_with fail
      go_loopw [4, 6] (fun v i wr => ∃ (g c : Nat) (xs : List Int), xs.length ≤ ps.length ∧ xs.length ≤ 64 ∧ i = .int .i64 xs.length ∧ xs = vals (partsL s.data.toList) xs.length ∧ okTo (partsL s.data.toList) xs.length = true ∧ v = .slice (some ⟨g, 0, none⟩) xs.length c ∧ Ow wr w.heap.size (.slice (some ⟨g, 0, none⟩) xs.length c) xs ∧ StAt wr A ps ∧ Below w.heap.size w wr) (fun _ i _ => ps.length - (intOf i).toNat)
      case atStart => exact ⟨w.heap.size, 0, [], Nat.zero_le _, Nat.zero_le _, rfl, rfl, rfl, rfl, HOQ.out, HSQ.out, HBQ.out⟩
      case round =>
        obtain ⟨g, c, xs, hk, hk64, rfl, hxs, hok, rfl, hown, hst, hB⟩ := hrel
        have HXS := Lib.hid hxs
        have HOK := Lib.hid hok
        have HO := Lib.hid hown
        have HST := Lib.hid hst
        have HB := Lib.hid hB
        have hbw := hB.size
        clear hxs hok hown hst hB HOQ HSQ
        by_cases hlt : xs.length < ps.length
        · obtain ⟨x, hx⟩ : ∃ x, ps[xs.length]? = some x := ⟨_, List.getElem?_eq_getElem hlt⟩
          obtain ⟨sg, rfl, hcx⟩ := HST.out.at hx
          have HPX := Lib.hid (show (partsL s.data.toList)[xs.length]? = some x.data.toList by rw [← HPS.out]; exact asL_at hx)
          have hxsz : x.size ≤ 1048576 := HSZ.out x (List.mem_of_getElem? hx)
          have hk0 : (0 : Int) ≤ (xs.length : Int) := by omega
          have hk1 : (xs.length : Int) < (ps.length : Int) := by omega
          obtain ⟨z, hz⟩ : ∃ z : Int × Bool, z = rdV x.data.toList := ⟨_, rfl⟩
          have HZ := Lib.hid hz
          obtain ⟨rv, rb⟩ := z
          clear hx hz
          cases rb
          · have HBAD := Lib.hid (rlB_bad HPX.out (by rw [← HZ.out]))
            go_wp2_with (go_at_call 41; refine (spec_l01Value x hxsz _).mono ?_; rintro e w5 hr5; rw [← HZ.out] at hr5; obtain ⟨rfl, hb5⟩ := hr5; have HB5 := Lib.hid (HB.out.trans (hb5.mono hbw)); have HO5 := Lib.hid (ow_below HO.out hb5); have HS5 := Lib.hid (HST.out.go hb5); clear hb5)
            go_ret2
            rw [HBAD.out, rl_no HBAD.out]
            exact ⟨_, rfl, ow_nil _ _, HB5.out⟩
          · go_wp2_with (first | (go_at_call 41; refine (spec_l01Value x hxsz _).mono ?_; rintro e w5 hr5; rw [← HZ.out] at hr5; obtain ⟨rfl, hb5⟩ := hr5; have HB5 := Lib.hid (HB.out.trans (hb5.mono hbw)); have HO5 := Lib.hid (ow_below HO.out hb5); have HS5 := Lib.hid (HST.out.go hb5); clear hb5) | (at_builtin; refine wpList_append_own _ rfl _ _ 24 rfl w.heap.size 2 i0 (.int .i64 0) 1 8 Tryd.underlying24 hi hz0 hz1 hz2 rfl (by decide) _ _ _ rfl (HO5.out.alloc _) ⟨w5.heap.size, 0, none⟩ 1 1 [.int .i64 rv] rfl rfl (fun j u hj => by match j, hj with | 0, hj => (simp at hj; subst hj; simp [Addr.add])) (fun u hu => by simp at hu; subst hu; rfl) (by unfold maxLen; omega) (by omega) (by have := HB5.out.size; simp; omega) ?_; intro v2 w1 hown1 hgrow _))
            obtain ⟨ho6, hb6, g6, c6, rfl⟩ := ow_put HO5.out HB5.out hown1 hgrow
            have HO6 := Lib.hid ho6
            have HB6 := Lib.hid hb6
            have HS6 := Lib.hid (StAt.kept (HS5.out.go (Below.alloc (Below.refl _ _) (Nat.le_refl _) _)) hgrow (ow_heap (Ow.alloc' HO5.out _)) (by decide))
            clear hown1 hgrow ho6 hb6
            go_wp2_with fail
            go_roundw
            case rel =>
              refine ⟨g6, c6, xs ++ [rv], by rw [List.length_append]; exact hlt, by rw [List.length_append]; simp; omega, by rw [List.length_append]; go_num, ?_, ?_, rfl, HO6.out, HS6.out, HB6.out⟩
              · rw [List.length_append]
                show xs ++ [rv] = vals (partsL s.data.toList) (xs.length + 1)
                rw [vals_at HPX.out, ← HXS.out, ← HZ.out]
              · rw [List.length_append]
                show okTo (partsL s.data.toList) (xs.length + 1) = true
                rw [okTo_at HPX.out, HOK.out, ← HZ.out]
                rfl
            case measure => simp [intOf]; omega
        · have hke : xs.length = ps.length := by omega
          have hlen : (partsL s.data.toList).length = ps.length := by rw [← HPS.out, asL_len]
          have HY := Lib.hid (rlB_yes (l := s.data.toList) (by rw [hlen, ← hke]; exact hk64) (by rw [hlen, ← hke]; exact HOK.out))
          have HV := Lib.hid (show rlV s.data.toList = xs by rw [rl_yes HY.out, hlen, ← hke, ← HXS.out])
          clear hlen hke
          go_wp2_with fail
          go_ret2
          rw [HY.out, HV.out]
          exact ⟨_, rfl, HO.out, HB.out⟩
    · have HL := Lib.hid (rlB_long (l := s.data.toList) (by rw [← HPS.out, asL_len]; exact h64))
      have h64' : (64 : Int) < (ps.length : Int) := by omega
      clear h64
      go_wp2_with fail
      go_ret2
      rw [HL.out, rl_no HL.out]
      exact ⟨_, rfl, ow_nil _ _, HBQ.out⟩
set_option maxHeartbeats 1000000 in
theorem spec_ReadList (s : ByteArray) (hs : s.size ≤ 1048576) (w : World) : Calls Tryd.prog 23 #[.string s] w (RetIB (rlV s.data.toList) (rlB s.data.toList) w) := by
  go_enter Tryd.func23, Tryd.ntmps23
  go_wp2_with fail
  refine (spec_l01Numbers s hs _).mono ?_
  rintro e w1 ⟨v, rfl, ho, hb⟩
  go_wp2_with fail
  go_ret2
  exact ⟨v, rfl, ho, hb⟩
def RetPl (l : List UInt8) (w : World) (e : Ending) (w' : World) : Prop :=
  ∃ A c ps, e = .returned (.slice A ps.length c) ∧ asL ps = partsL l ∧ StAt w' A ps ∧ Below w.heap.size w w'
set_option maxHeartbeats 1000000 in
theorem impl_parted (s : ByteArray) (hs : s.size ≤ 1048576) (m : Int) (w : World) (hm : w.cell? ⟨4, 0, none⟩ = some (.int .i64 m)) : Calls Tryd.prog 38 #[.string s] w (RetPl s.data.toList w) := by
  have HM := Lib.hid hm
  clear hm
  by_cases hn : s.data.toList = noneL
  · have e1 : partsL s.data.toList = [] := by unfold partsL; rw [if_pos hn]
    have HE := Lib.hid e1
    obtain rfl := bytes_none hn
    clear hn hs e1
    go_enter Tryd.func38, Tryd.ntmps38
    go_wp2_with fail
    go_ret
    exact ⟨none, 0, [], rfl, HE.out.symm, fun h => absurd h (by simp), (by repeat' (first | with_reducible exact Below.refl _ _ | with_reducible assumption | with_reducible refine below_dn ?_ _ | with_reducible refine Below.drew ?_ | with_reducible refine below_step ?_ (by assumption) | with_reducible refine Below.setCell ?_ ?_ _ | with_reducible refine Below.alloc ?_ ?_ _ | with_reducible exact Nat.le_refl _ | (simp; done) | (simp; omega) | omega))⟩
  · have hne := ne_none hn
    have HN := Lib.hid hn
    clear hn
    go_enter Tryd.func38, Tryd.ntmps38
    go_wp2_with fail
    refine (impl_split s hs m _ HM.out).mono ?_
    rintro e w1 ⟨A, c, ps, rfl, h1, h2, h3⟩
    have H1 := Lib.hid h1
    have H2 := Lib.hid h2
    have H3 := Lib.hid h3
    clear h1 h2 h3
    go_wp2_with fail
    go_ret
    exact ⟨A, c, ps, rfl, by unfold partsL; rw [if_neg HN.out]; exact H1.out, H2.out, H3.out⟩
theorem partsL_size {s : ByteArray} {ps : List ByteArray} (h : asL ps = partsL s.data.toList) (hs : s.size ≤ 1048576) : ∀ x ∈ ps, x.size ≤ 1048576 := fun x hx => by
  unfold partsL at h
  split at h
  · have := congrArg List.length h
    rw [asL_len] at this
    have h0 : ps = [] := List.eq_nil_of_length_eq_zero this
    rw [h0] at hx
    cases hx
  · exact parts_size h hs x hx
set_option maxHeartbeats 4000000 in
set_option maxRecDepth 100000 in
theorem impl_ReadList (s : ByteArray) (hs : s.size ≤ 1048576) (m : Int) (w : World) (hm : w.cell? ⟨4, 0, none⟩ = some (.int .i64 m)) (ht : Lib.TabIs Tryd.prog w "internal/strconv.uint64pow10" .u64 Lib.pow10Tab) (tp1 : TypeId) (p1 : Value) (hv1 : w.var? Tryd.prog "strconv.ErrSyntax" = some #[.iface tp1 p1]) (tp2 : TypeId) (p2 : Value) (hv2 : w.var? Tryd.prog "strconv.ErrRange" = some #[.iface tp2 p2]) :
    Calls Tryd.prog 24 #[.string s] w (RetIB (rlV s.data.toList) (rlB s.data.toList) w) := by
  obtain ⟨i0, hi, hz0, hz1, hz2⟩ := info_parts info64
  have HT := Lib.hid ht
  have HV1 := Lib.hid hv1
  have HV2 := Lib.hid hv2
  have hgl : 4 < w.heap.size := by
    rcases Nat.lt_or_ge 4 w.heap.size with h | h
    · exact h
    · simp [World.cell?, Array.getElem?_eq_none h] at hm
  have HM := Lib.hid (show (w.alloc (.cells #[] 2)).cell? ⟨4, 0, none⟩ = some (.int .i64 m) from (cell_alloc_lt w _ 4 0 hgl).trans hm)
  clear ht hv1 hv2 hm hgl
  go_enter Tryd.func24, Tryd.ntmps24
  go_wp2_with fail
  refine (impl_parted s hs m _ HM.out).mono ?_
  rintro e wq ⟨A, c0, ps, rfl, hps, hst, hbq⟩
  have HPS := Lib.hid (show asL ps = partsL s.data.toList by exact hps)
  have HSZ := Lib.hid (partsL_size hps hs)
  have HOQ := Lib.hid (ow_below (ow_made (w := w)) hbq)
  have HSQ := Lib.hid hst
  have HBQ := Lib.hid (show Below w.heap.size w wq from below_step (w := w) (by repeat' (first | with_reducible exact Below.refl _ _ | with_reducible assumption | with_reducible refine below_dn ?_ _ | with_reducible refine Below.drew ?_ | with_reducible refine below_step ?_ (by assumption) | with_reducible refine Below.setCell ?_ ?_ _ | with_reducible refine Below.alloc ?_ ?_ _ | with_reducible exact Nat.le_refl _ | (simp; done) | (simp; omega) | omega)) hbq)
  clear hps hst hbq
  go_wp2_with fail
  go_loopw [4, 13] (fun v i wr => ∃ (g c : Nat) (xs : List Int), xs.length ≤ ps.length ∧ xs.length ≤ 64 ∧ i = .int .i64 xs.length ∧ xs = vals (partsL s.data.toList) xs.length ∧ okTo (partsL s.data.toList) xs.length = true ∧ v = .slice (some ⟨g, 0, none⟩) xs.length c ∧ Ow wr w.heap.size (.slice (some ⟨g, 0, none⟩) xs.length c) xs ∧ StAt wr A ps ∧ Below w.heap.size w wr) (fun _ i _ => ps.length - (intOf i).toNat)
  case atStart => exact ⟨w.heap.size, 0, [], Nat.zero_le _, Nat.zero_le _, rfl, rfl, rfl, rfl, HOQ.out, HSQ.out, HBQ.out⟩
  case round =>
    obtain ⟨g, c, xs, hk, hk64, rfl, hxs, hok, rfl, hown, hst, hB⟩ := hrel
    have HXS := Lib.hid hxs
    have HOK := Lib.hid hok
    have HO := Lib.hid hown
    have HST := Lib.hid hst
    have HB := Lib.hid hB
    have hbw := hB.size
    clear hxs hok hown hst hB HOQ HSQ
    by_cases hlt : xs.length < ps.length
    · obtain ⟨x, hx⟩ : ∃ x, ps[xs.length]? = some x := ⟨_, List.getElem?_eq_getElem hlt⟩
      obtain ⟨sg, rfl, hcx⟩ := HST.out.at hx
      have HPX := Lib.hid (show (partsL s.data.toList)[xs.length]? = some x.data.toList by rw [← HPS.out]; exact asL_at hx)
      have hxsz : x.size ≤ 1048576 := HSZ.out x (List.mem_of_getElem? hx)
      have hk0 : (0 : Int) ≤ (xs.length : Int) := by omega
      have hk1 : (xs.length : Int) < (ps.length : Int) := by omega
      obtain ⟨z, hz⟩ : ∃ z : Int × Bool, z = rdV x.data.toList := ⟨_, rfl⟩
      have HZ := Lib.hid hz
      obtain ⟨rv, rb⟩ := z
      clear hx hz
      cases rb
      · have HBAD := Lib.hid (rlB_bad HPX.out (by rw [← HZ.out]))
        go_wp2_with (go_at_call 28; refine (impl_ReadDecimal x hxsz _ (tab_below HT.out HB.out) _ _ (var_below gES HV1.out HB.out) _ _ (var_below gER HV2.out HB.out)).mono ?_; rintro e w5 hr5; rw [← HZ.out] at hr5; obtain ⟨rfl, hb5⟩ := hr5; have HB5 := Lib.hid (HB.out.trans (hb5.mono hbw)); have HO5 := Lib.hid (ow_below HO.out hb5); have HS5 := Lib.hid (HST.out.go hb5); clear hb5)
        go_ret2
        rw [HBAD.out, rl_no HBAD.out]
        exact ⟨_, rfl, ow_nil _ _, HB5.out⟩
      · by_cases h64 : xs.length = 64
        · have HL := Lib.hid (rlB_long (l := s.data.toList) (by rw [← HPS.out, asL_len]; omega))
          have h64' : ((xs.length : Int) == 64) = true := by rw [h64]; rfl
          clear h64
          go_wp2_with (go_at_call 28; refine (impl_ReadDecimal x hxsz _ (tab_below HT.out HB.out) _ _ (var_below gES HV1.out HB.out) _ _ (var_below gER HV2.out HB.out)).mono ?_; rintro e w5 hr5; rw [← HZ.out] at hr5; obtain ⟨rfl, hb5⟩ := hr5; have HB5 := Lib.hid (HB.out.trans (hb5.mono hbw)); have HO5 := Lib.hid (ow_below HO.out hb5); have HS5 := Lib.hid (HST.out.go hb5); clear hb5)
          go_ret2
          rw [HL.out, rl_no HL.out]
          exact ⟨_, rfl, ow_nil _ _, HB5.out⟩
        have h64' : ((xs.length : Int) == 64) = false := by
          rw [beq_eq_false_iff_ne]
          omega
        have hk63 : xs.length < 64 := by omega
        clear h64
        go_wp2_with (first | (go_at_call 28; refine (impl_ReadDecimal x hxsz _ (tab_below HT.out HB.out) _ _ (var_below gES HV1.out HB.out) _ _ (var_below gER HV2.out HB.out)).mono ?_; rintro e w5 hr5; rw [← HZ.out] at hr5; obtain ⟨rfl, hb5⟩ := hr5; have HB5 := Lib.hid (HB.out.trans (hb5.mono hbw)); have HO5 := Lib.hid (ow_below HO.out hb5); have HS5 := Lib.hid (HST.out.go hb5); clear hb5) | (at_builtin; refine wpList_append_own _ rfl _ _ 24 rfl w.heap.size 2 i0 (.int .i64 0) 1 8 Tryd.underlying24 hi hz0 hz1 hz2 rfl (by decide) _ _ _ rfl (HO5.out.alloc _) ⟨w5.heap.size, 0, none⟩ 1 1 [.int .i64 rv] rfl rfl (fun j u hj => by match j, hj with | 0, hj => (simp at hj; subst hj; simp [Addr.add])) (fun u hu => by simp at hu; subst hu; rfl) (by unfold maxLen; omega) (by omega) (by have := HB5.out.size; simp; omega) ?_; intro v2 w1 hown1 hgrow _))
        obtain ⟨ho6, hb6, g6, c6, rfl⟩ := ow_put HO5.out HB5.out hown1 hgrow
        have HO6 := Lib.hid ho6
        have HB6 := Lib.hid hb6
        have HS6 := Lib.hid (StAt.kept (HS5.out.go (Below.alloc (Below.refl _ _) (Nat.le_refl _) _)) hgrow (ow_heap (Ow.alloc' HO5.out _)) (by decide))
        clear hown1 hgrow ho6 hb6
        go_wp2_with fail
        go_roundw
        case rel =>
          refine ⟨g6, c6, xs ++ [rv], by rw [List.length_append]; exact hlt, by rw [List.length_append]; simp; omega, by rw [List.length_append]; go_num, ?_, ?_, rfl, HO6.out, HS6.out, HB6.out⟩
          · rw [List.length_append]
            show xs ++ [rv] = vals (partsL s.data.toList) (xs.length + 1)
            rw [vals_at HPX.out, ← HXS.out, ← HZ.out]
          · rw [List.length_append]
            show okTo (partsL s.data.toList) (xs.length + 1) = true
            rw [okTo_at HPX.out, HOK.out, ← HZ.out]
            rfl
        case measure => simp [intOf]; omega
    · have hke : xs.length = ps.length := by omega
      have hlen : (partsL s.data.toList).length = ps.length := by rw [← HPS.out, asL_len]
      have HY := Lib.hid (rlB_yes (l := s.data.toList) (by rw [hlen, ← hke]; exact hk64) (by rw [hlen, ← hke]; exact HOK.out))
      have HV := Lib.hid (show rlV s.data.toList = xs by rw [rl_yes HY.out, hlen, ← hke, ← HXS.out])
      clear hlen hke
      go_wp2_with fail
      go_ret2
      rw [HY.out, HV.out]
      exact ⟨_, rfl, HO.out, HB.out⟩
end Go.Proofs.YtfempadelilpoaaDoor
