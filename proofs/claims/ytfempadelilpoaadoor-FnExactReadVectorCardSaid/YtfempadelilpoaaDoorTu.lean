/- ReadNumbers: contracts of program and reference. -/
import Derived.Test.YtfempadelilpoaaDoorTv
namespace Go.Proofs.YtfempadelilpoaaDoor
open Go.ChangeShapes Go.WideShapes Go.ChangeAt Go.RowKit Go.Deep

/-- the numbers of the first k texts. -/
def fvals (P : List (List UInt8)) (k : Nat) : List Nat := (P.take k).map fun p => (hxV p).toNat
def okF (P : List (List UInt8)) (k : Nat) : Bool := (P.take k).all rnB
theorem fvals_at {P : List (List UInt8)} {k : Nat} {p : List UInt8} (h : P[k]? = some p) : fvals P (k + 1) = fvals P k ++ [(hxV p).toNat] := by unfold fvals; rw [take_at h, List.map_append]; rfl
theorem okF_at {P : List (List UInt8)} {k : Nat} {p : List UInt8} (h : P[k]? = some p) : okF P (k + 1) = (okF P k && rnB p) := by unfold okF; rw [take_at h, List.all_append]; simp
theorem fvals_length {P : List (List UInt8)} {k : Nat} (h : k ≤ P.length) : (fvals P k).length = k := by unfold fvals; rw [List.length_map, List.length_take]; omega
theorem okF_bad {P : List (List UInt8)} {k : Nat} {p : List UInt8} (h : P[k]? = some p) (hp : rnB p = false) : okF P P.length = false := by
  unfold okF
  rw [List.take_length, List.all_eq_false]
  exact ⟨p, List.mem_of_getElem? h, by rw [hp]; simp⟩
def nrB (l : List UInt8) : Bool := decide ((partsL l).length ≤ 256) && okF (partsL l) (partsL l).length
def nrV (l : List UInt8) : List Nat := match nrB l with
  | true => fvals (partsL l) (partsL l).length
  | false => []
theorem nr_no {l : List UInt8} (h : nrB l = false) : nrV l = [] := by unfold nrV; rw [h]
theorem nr_yes {l : List UInt8} (h : nrB l = true) : nrV l = fvals (partsL l) (partsL l).length := by unfold nrV; rw [h]
theorem nrB_long {l : List UInt8} (h : ¬ (partsL l).length ≤ 256) : nrB l = false := by unfold nrB; rw [decide_eq_false h]; rfl
theorem nrB_bad {l : List UInt8} {k : Nat} {p : List UInt8} (h : (partsL l)[k]? = some p) (hp : rnB p = false) : nrB l = false := by unfold nrB; rw [okF_bad h hp, Bool.and_false]
theorem nrB_yes {l : List UInt8} (h : (partsL l).length ≤ 256) (h2 : okF (partsL l) (partsL l).length = true) : nrB l = true := by unfold nrB; rw [decide_eq_true h, h2]; rfl
theorem nr_none {l : List UInt8} (h : l = noneL) : nrB l = true ∧ nrV l = [] := by
  subst h
  exact ⟨rfl, rfl⟩
theorem nrV_len (l : List UInt8) : (nrV l).length ≤ 256 := by
  cases h : nrB l
  · rw [nr_no h]
    exact Nat.zero_le _
  · have h2 : (partsL l).length ≤ 256 := by
      unfold nrB at h
      rw [Bool.and_eq_true, decide_eq_true_eq] at h
      exact h.1
    rw [nr_yes h, fvals_length (Nat.le_refl _)]
    exact h2
theorem retQ_V {f : FuncId} {args : Array Value} {w : World} {v : Value} (h : Calls Tryd.prog f args w (RetQ v w)) : Calls Tryd.prog f args w (RetV v w) :=
  h.mono fun _ _ ⟨he, n, hn⟩ => ⟨he, by rw [hn]; exact below_dn (Below.refl _ _) n⟩
theorem spec_bits (n : Int) (h0 : 0 ≤ n) (h1 : n ≤ 4294967295) (w : World) : Calls Tryd.prog 48 #[.float .f32 n.toNat] w (RetV (.int .i64 (bitsI n.toNat)) w) := retQ_V (spec_l01Bits _ (by omega) _)
theorem spec_from (n : Int) (h0 : 0 ≤ n) (h1 : n ≤ 4294967295) (w : World) : Calls Tryd.prog 47 #[.int .i64 n] w (RetV (.float .f32 n.toNat) w) := retQ_V (spec_l01From n h0 h1 _)
theorem hxD_num {c : UInt8} (h1 : 48 ≤ c.toNat) (h2 : c.toNat ≤ 57) : hxD c = (c.toNat : Int) - 48 := if_pos ⟨h1, h2⟩
theorem hxD_let {c : UInt8} (h1 : 97 ≤ c.toNat) (h2 : c.toNat ≤ 102) : hxD c = (c.toNat : Int) - 97 + 10 := by
  unfold hxD
  rw [if_neg (by omega), if_pos ⟨h1, h2⟩]
theorem hxD_bad {c : UInt8} (h1 : ¬ (48 ≤ c.toNat ∧ c.toNat ≤ 57)) (h2 : ¬ (97 ≤ c.toNat ∧ c.toNat ≤ 102)) : hxD c < 0 := by
  unfold hxD
  rw [if_neg h1, if_neg h2]
  decide
set_option maxHeartbeats 4000000 in
set_option maxRecDepth 100000 in
theorem spec_l01NRead (s : ByteArray) (hs : s.size ≤ 1048576) (w : World) : Calls Tryd.prog 37 #[.string s] w (RetFL (nrV s.data.toList) (nrB s.data.toList) w) := by
  obtain ⟨i0, hi, hz0, hz1, hz2⟩ := info_parts info32
  by_cases hn : s.data.toList = noneL
  · obtain ⟨e1, e2⟩ := nr_none hn
    rw [e1, e2]
    obtain rfl := bytes_none hn
    clear hn hs e1 e2
    go_enter Tryd.func37, Tryd.ntmps37
    go_wp2_with fail
    go_ret2
    exact ⟨_, rfl, owF_made, (by repeat' (first | with_reducible exact Below.refl _ _ | with_reducible assumption | with_reducible refine below_dn ?_ _ | with_reducible refine Below.drew ?_ | with_reducible refine below_step ?_ (by assumption) | with_reducible refine Below.setCell ?_ ?_ _ | with_reducible refine Below.alloc ?_ ?_ _ | with_reducible exact Nat.le_refl _ | (simp; done) | (simp; omega) | omega))⟩
  · have hne := ne_none hn
    have HN := Lib.hid hn
    clear hn
    go_enter Tryd.func37, Tryd.ntmps37
    go_wp2_with fail
    refine (spec_l01Cut s hs _).mono ?_
    rintro e wq ⟨A, c0, ps, rfl, hps, hst, hbq⟩
    have HPS := Lib.hid (show asL ps = partsL s.data.toList by unfold partsL; rw [if_neg HN.out]; exact hps)
    have HOQ := Lib.hid (owF_below (owF_made (w := w)) hbq)
    have HSQ := Lib.hid hst
    have HBQ := Lib.hid (show Below w.heap.size w wq from below_step (w := w) (by repeat' (first | with_reducible exact Below.refl _ _ | with_reducible assumption | with_reducible refine below_dn ?_ _ | with_reducible refine Below.drew ?_ | with_reducible refine below_step ?_ (by assumption) | with_reducible refine Below.setCell ?_ ?_ _ | with_reducible refine Below.alloc ?_ ?_ _ | with_reducible exact Nat.le_refl _ | (simp; done) | (simp; omega) | omega)) hbq)
    clear hps hst hbq
    by_cases h64 : ps.length ≤ 256
    · have h64' : (ps.length : Int) ≤ 256 := by omega
      go_wp2_with fail
      go_loopw [4, 6] (fun v i wr => ∃ (g c : Nat) (xs : List Nat), xs.length ≤ ps.length ∧ xs.length ≤ 256 ∧ i = .int .i64 xs.length ∧ xs = fvals (partsL s.data.toList) xs.length ∧ okF (partsL s.data.toList) xs.length = true ∧ v = .slice (some ⟨g, 0, none⟩) xs.length c ∧ OwF wr w.heap.size (.slice (some ⟨g, 0, none⟩) xs.length c) xs ∧ StAt wr A ps ∧ Below w.heap.size w wr) (fun _ i _ => ps.length - (intOf i).toNat)
      case atStart => exact ⟨w.heap.size, 0, [], Nat.zero_le _, Nat.zero_le _, rfl, rfl, rfl, rfl, HOQ.out, HSQ.out, HBQ.out⟩
      case round =>
        obtain ⟨g, c, xs, hk, hk64, rfl, hxs, hok, rfl, hown, hst, hB⟩ := hrel
        have HXS := Lib.hid hxs
        have HOK := Lib.hid hok
        have HO := Lib.hid hown
        have HST := Lib.hid hst
        have HB := Lib.hid hB
        have hbw := hB.size
        clear hxs hok hown hst hB HOQ HSQ
        by_cases hlt : xs.length < ps.length
        · obtain ⟨x, hx⟩ : ∃ x, ps[xs.length]? = some x := ⟨_, List.getElem?_eq_getElem hlt⟩
          obtain ⟨sg, rfl, hcx⟩ := HST.out.at hx
          have HPX := Lib.hid (show (partsL s.data.toList)[xs.length]? = some x.data.toList by rw [← HPS.out]; exact asL_at hx)
          have HXL := Lib.hid (show x.data.toList.length = x.size from by rw [Array.length_toList]; rfl)
          have hk0 : (0 : Int) ≤ (xs.length : Int) := by omega
          have hk1 : (xs.length : Int) < (ps.length : Int) := by omega
          clear hx
          by_cases hx8 : x.size = 8
          · have hx8' : ((x.size : Int) != 8) = false := by rw [hx8]; rfl
            rename World => wo
            go_wp2_with fail
            go_loopw [7, 8] (fun v i wr => ∃ (j : Nat) (n : Int), j ≤ 8 ∧ i = .int .i64 j ∧ v = .int .i64 n ∧ n = hxV (x.data.toList.take j) ∧ hxB (x.data.toList.take j) = true ∧ wr = wo) (fun _ i _ => 8 - (intOf i).toNat)
            case atStart => exact ⟨0, 0, Nat.zero_le _, rfl, rfl, rfl, rfl, rfl⟩
            case round =>
              obtain ⟨j, n, hj, rfl, rfl, hn, hb, rfl⟩ := hrel
              have HNN := Lib.hid hn
              have HXX := Lib.hid hb
              have hbd := hxV_bd hb (by rw [List.length_take]; omega)
              rw [← hn] at hbd
              obtain ⟨hn0, hn1⟩ := hbd
              clear hn hb
              by_cases hj8 : j < 8
              · have hjx : j < x.size := by omega
                have hj0 : (0 : Int) ≤ (j : Int) := by omega
                have hj1 : (j : Int) < (x.size : Int) := by omega
                have HT := Lib.hid (take_snoc' x j hjx)
                by_cases hg1 : 48 ≤ x[j].toNat ∧ x[j].toNat ≤ 57
                · obtain ⟨hg2, hg3⟩ := hg1
                  have HD := Lib.hid (hxD_num hg2 hg3)
                  have f1 : (48 : Int) ≤ (x[j].toNat : Int) := by omega
                  have f2 : (x[j].toNat : Int) ≤ 57 := by omega
                  have f3 : ¬ (97 : Int) ≤ (x[j].toNat : Int) := by omega
                  clear hg2 hg3
                  go_wp2_with fail
                  go_roundw
                  case rel =>
                    refine ⟨j + 1, n * 16 + ((x[j].toNat : Int) - 48), by omega, by go_num, by congr 1; omega, ?_, ?_, by first | trivial | rfl⟩
                    · rw [HT.out, hxV_snoc, ← HNN.out, HD.out]
                    · rw [HT.out, hxB_snoc, HXX.out, HD.out, decide_eq_true (show (0 : Int) ≤ (x[j].toNat : Int) - 48 by omega)]
                      rfl
                  case measure => simp [intOf]; omega
                · by_cases hg4 : 97 ≤ x[j].toNat ∧ x[j].toNat ≤ 102
                  · obtain ⟨hg5, hg6⟩ := hg4
                    have HD := Lib.hid (hxD_let hg5 hg6)
                    have f1 : (48 : Int) ≤ (x[j].toNat : Int) := by omega
                    have f2 : ¬ (x[j].toNat : Int) ≤ 57 := by omega
                    have f3 : (97 : Int) ≤ (x[j].toNat : Int) := by omega
                    have f4 : (x[j].toNat : Int) ≤ 102 := by omega
                    clear hg5 hg6 hg1
                    go_wp2_with fail
                    go_roundw
                    case rel =>
                      refine ⟨j + 1, n * 16 + ((x[j].toNat : Int) - 97 + 10), by omega, by go_num, by congr 1; omega, ?_, ?_, by first | trivial | rfl⟩
                      · rw [HT.out, hxV_snoc, ← HNN.out, HD.out]
                      · rw [HT.out, hxB_snoc, HXX.out, HD.out, decide_eq_true (show (0 : Int) ≤ (x[j].toNat : Int) - 97 + 10 by omega)]
                        rfl
                    case measure => simp [intOf]; omega
                  · have HBAD := Lib.hid (nrB_bad HPX.out (rnB_dig (hxB_bad (bytes_at x j hjx) (hxD_bad hg1 hg4))))
                    by_cases hg5 : 48 ≤ x[j].toNat
                    · have f1 : (48 : Int) ≤ (x[j].toNat : Int) := by omega
                      have f2 : ¬ (x[j].toNat : Int) ≤ 57 := by omega
                      by_cases hg6 : 97 ≤ x[j].toNat
                      · have f3 : (97 : Int) ≤ (x[j].toNat : Int) := by omega
                        have f4 : ¬ (x[j].toNat : Int) ≤ 102 := by omega
                        clear hg1 hg4 hg5 hg6
                        go_wp2_with fail
                        go_ret2
                        rw [HBAD.out, nr_no HBAD.out]
                        exact ⟨_, rfl, owF_nil _ _, HB.out⟩
                      · have f3 : ¬ (97 : Int) ≤ (x[j].toNat : Int) := by omega
                        clear hg1 hg4 hg5 hg6
                        go_wp2_with fail
                        go_ret2
                        rw [HBAD.out, nr_no HBAD.out]
                        exact ⟨_, rfl, owF_nil _ _, HB.out⟩
                    · have f1 : ¬ (48 : Int) ≤ (x[j].toNat : Int) := by omega
                      have f3 : ¬ (97 : Int) ≤ (x[j].toNat : Int) := by omega
                      clear hg1 hg4 hg5
                      go_wp2_with fail
                      go_ret2
                      rw [HBAD.out, nr_no HBAD.out]
                      exact ⟨_, rfl, owF_nil _ _, HB.out⟩
              · have HV := Lib.hid (show n = hxV x.data.toList by rw [HNN.out, List.take_of_length_le (by rw [HXL.out]; omega)])
                have HE := Lib.hid (rnB_all (l := x.data.toList) (by rw [HXL.out]; exact hx8) (by rw [← HXX.out, List.take_of_length_le (by rw [HXL.out]; omega)]))
                cases hq : (bitsI n.toNat != n)
                · have HY := Lib.hid (show rnB x.data.toList = true by
                    rw [HE.out, ← HV.out]
                    simpa using hq)
                  go_wp2_with (first | (go_at_call 47; refine (spec_from n hn0 hn1 _).mono ?_; rintro e w5 ⟨rfl, hb5⟩; have HB5 := Lib.hid (HB.out.trans (hb5.mono hbw)); have HO5 := Lib.hid (owF_below HO.out hb5); have HS5 := Lib.hid (HST.out.go hb5); clear hb5) | (go_at_call 48; refine (spec_bits n hn0 hn1 _).mono ?_; rintro e w6 ⟨rfl, hb6⟩; have HB6 := Lib.hid (below_step HB5.out hb6); have HO6 := Lib.hid (owF_below HO5.out hb6); have HS6 := Lib.hid (HS5.out.go hb6); clear hb6) | (at_builtin; refine wpList_append_own _ rfl _ _ 37 rfl w.heap.size 30 i0 (.float .f32 0) 1 4 Tryd.underlying37 hi hz0 hz1 hz2 rfl (by decide) _ _ _ rfl (HO6.out.alloc _) ⟨w6.heap.size, 0, none⟩ 1 1 [.float .f32 n.toNat] rfl rfl (fun j u hj => by match j, hj with | 0, hj => (simp at hj; subst hj; simp [Addr.add])) (fun u hu => by simp at hu; subst hu; rfl) (by unfold maxLen; omega) (by omega) (by have := HB6.out.size; simp; omega) ?_; intro v2 w1 hown1 hgrow _))
                  obtain ⟨ho7, hb7, g7, c7, rfl⟩ := owF_put HO6.out HB6.out hown1 hgrow
                  have HO7 := Lib.hid ho7
                  have HB7 := Lib.hid hb7
                  have HS7 := Lib.hid (StAt.kept (HS6.out.go (Below.alloc (Below.refl _ _) (Nat.le_refl _) _)) hgrow (owF_heap (OwF.alloc' HO6.out _)) (by decide))
                  clear hown1 hgrow ho7 hb7
                  go_wp2_with fail
                  go_roundw
                  case rel =>
                    refine ⟨g7, c7, xs ++ [n.toNat], by rw [List.length_append]; exact hlt, by rw [List.length_append]; simp; omega, by rw [List.length_append]; go_num, ?_, ?_, rfl, HO7.out, HS7.out, HB7.out⟩
                    · rw [List.length_append]
                      show xs ++ [n.toNat] = fvals (partsL s.data.toList) (xs.length + 1)
                      rw [fvals_at HPX.out, ← HXS.out, ← HV.out]
                    · rw [List.length_append]
                      show okF (partsL s.data.toList) (xs.length + 1) = true
                      rw [okF_at HPX.out, HOK.out, HY.out]
                      rfl
                  case measure => simp [intOf]; omega
                · have HBAD := Lib.hid (nrB_bad HPX.out (show rnB x.data.toList = false by
                    rw [HE.out, ← HV.out]
                    simpa using hq))
                  go_wp2_with (first | (go_at_call 47; refine (spec_from n hn0 hn1 _).mono ?_; rintro e w5 ⟨rfl, hb5⟩; have HB5 := Lib.hid (HB.out.trans (hb5.mono hbw)); clear hb5) | (go_at_call 48; refine (spec_bits n hn0 hn1 _).mono ?_; rintro e w6 ⟨rfl, hb6⟩; have HB6 := Lib.hid (below_step HB5.out hb6); clear hb6))
                  go_ret2
                  rw [HBAD.out, nr_no HBAD.out]
                  exact ⟨_, rfl, owF_nil _ _, HB6.out⟩
          · have HBAD := Lib.hid (nrB_bad HPX.out (rnB_len (by rw [HXL.out]; exact hx8)))
            have hx8' : ((x.size : Int) != 8) = true := by rw [bne_iff_ne]; omega
            clear hx8
            go_wp2_with fail
            go_ret2
            rw [HBAD.out, nr_no HBAD.out]
            exact ⟨_, rfl, owF_nil _ _, HB.out⟩
        · have hke : xs.length = ps.length := by omega
          have hlen : (partsL s.data.toList).length = ps.length := by rw [← HPS.out, asL_len]
          have HY := Lib.hid (nrB_yes (l := s.data.toList) (by rw [hlen, ← hke]; exact hk64) (by rw [hlen, ← hke]; exact HOK.out))
          have HV := Lib.hid (show nrV s.data.toList = xs by rw [nr_yes HY.out, hlen, ← hke, ← HXS.out])
          clear hlen hke
          go_wp2_with fail
          go_ret2
          rw [HY.out, HV.out]
          exact ⟨_, rfl, HO.out, HB.out⟩
    · have HL := Lib.hid (nrB_long (l := s.data.toList) (by rw [← HPS.out, asL_len]; exact h64))
      have h64' : (256 : Int) < (ps.length : Int) := by omega
      clear h64
      go_wp2_with fail
      go_ret2
      rw [HL.out, nr_no HL.out]
      exact ⟨_, rfl, owF_nil _ _, HBQ.out⟩
set_option maxHeartbeats 1000000 in
theorem spec_ReadNumbers (s : ByteArray) (hs : s.size ≤ 1048576) (w : World) : Calls Tryd.prog 18 #[.string s] w (RetFL (nrV s.data.toList) (nrB s.data.toList) w) := by
  go_enter Tryd.func18, Tryd.ntmps18
  go_wp2_with fail
  refine (spec_l01NRead s hs _).mono ?_
  rintro e w1 ⟨v, rfl, ho, hb⟩
  go_wp2_with fail
  go_ret2
  exact ⟨v, rfl, ho, hb⟩
set_option maxHeartbeats 4000000 in
set_option maxRecDepth 100000 in
theorem impl_ReadNumbers (s : ByteArray) (hs : s.size ≤ 1048576) (m : Int) (w : World) (hm : w.cell? ⟨4, 0, none⟩ = some (.int .i64 m)) :
    Calls Tryd.prog 19 #[.string s] w (RetFL (nrV s.data.toList) (nrB s.data.toList) w) := by
  obtain ⟨i0, hi, hz0, hz1, hz2⟩ := info_parts info32
  have hgl : 4 < w.heap.size := by
    rcases Nat.lt_or_ge 4 w.heap.size with h | h
    · exact h
    · simp [World.cell?, Array.getElem?_eq_none h] at hm
  have HM := Lib.hid (show (w.alloc (.cells #[] 30)).cell? ⟨4, 0, none⟩ = some (.int .i64 m) from (cell_alloc_lt w _ 4 0 hgl).trans hm)
  clear hm hgl
  go_enter Tryd.func19, Tryd.ntmps19
  go_wp2_with fail
  refine (impl_parted s hs m _ HM.out).mono ?_
  rintro e wq ⟨A, c0, ps, rfl, hps, hst, hbq⟩
  have HPS := Lib.hid (show asL ps = partsL s.data.toList by exact hps)
  have HSZ := Lib.hid (partsL_size hps hs)
  have HOQ := Lib.hid (owF_below (owF_made (w := w)) hbq)
  have HSQ := Lib.hid hst
  have HBQ := Lib.hid (show Below w.heap.size w wq from below_step (w := w) (by repeat' (first | with_reducible exact Below.refl _ _ | with_reducible assumption | with_reducible refine below_dn ?_ _ | with_reducible refine Below.drew ?_ | with_reducible refine below_step ?_ (by assumption) | with_reducible refine Below.setCell ?_ ?_ _ | with_reducible refine Below.alloc ?_ ?_ _ | with_reducible exact Nat.le_refl _ | (simp; done) | (simp; omega) | omega)) hbq)
  clear hps hst hbq
  go_wp2_with fail
  go_loopw [4, 13] (fun v i wr => ∃ (g c : Nat) (xs : List Nat), xs.length ≤ ps.length ∧ xs.length ≤ 256 ∧ i = .int .i64 xs.length ∧ xs = fvals (partsL s.data.toList) xs.length ∧ okF (partsL s.data.toList) xs.length = true ∧ v = .slice (some ⟨g, 0, none⟩) xs.length c ∧ OwF wr w.heap.size (.slice (some ⟨g, 0, none⟩) xs.length c) xs ∧ StAt wr A ps ∧ Below w.heap.size w wr) (fun _ i _ => ps.length - (intOf i).toNat)
  case atStart => exact ⟨w.heap.size, 0, [], Nat.zero_le _, Nat.zero_le _, rfl, rfl, rfl, rfl, HOQ.out, HSQ.out, HBQ.out⟩
  case round =>
    obtain ⟨g, c, xs, hk, hk64, rfl, hxs, hok, rfl, hown, hst, hB⟩ := hrel
    have HXS := Lib.hid hxs
    have HOK := Lib.hid hok
    have HO := Lib.hid hown
    have HST := Lib.hid hst
    have HB := Lib.hid hB
    have hbw := hB.size
    clear hxs hok hown hst hB HOQ HSQ
    by_cases hlt : xs.length < ps.length
    · obtain ⟨x, hx⟩ : ∃ x, ps[xs.length]? = some x := ⟨_, List.getElem?_eq_getElem hlt⟩
      obtain ⟨sg, rfl, hcx⟩ := HST.out.at hx
      have HPX := Lib.hid (show (partsL s.data.toList)[xs.length]? = some x.data.toList by rw [← HPS.out]; exact asL_at hx)
      have hxsz : x.size ≤ 1048576 := HSZ.out x (List.mem_of_getElem? hx)
      have hk0 : (0 : Int) ≤ (xs.length : Int) := by omega
      have hk1 : (xs.length : Int) < (ps.length : Int) := by omega
      obtain ⟨rb, hrb⟩ : ∃ rb : Bool, rb = rnB x.data.toList := ⟨_, rfl⟩
      have HZ := Lib.hid hrb
      clear hx hrb
      cases rb
      · have HBAD := Lib.hid (nrB_bad HPX.out HZ.out.symm)
        go_wp2_with (go_at_call 39; refine (impl_readNumber x hxsz _).mono ?_; rintro e w5 hr5; rw [RetRN, ← HZ.out] at hr5; obtain ⟨y, rfl, hy, hb5⟩ := hr5; have HB5 := Lib.hid (HB.out.trans (hb5.mono hbw)); clear hb5)
        go_ret2
        rw [HBAD.out, nr_no HBAD.out]
        exact ⟨_, rfl, owF_nil _ _, HB5.out⟩
      · by_cases h64 : xs.length = 256
        · have HL := Lib.hid (nrB_long (l := s.data.toList) (by rw [← HPS.out, asL_len]; omega))
          have h64' : ((xs.length : Int) == 256) = true := by rw [h64]; rfl
          clear h64
          go_wp2_with (go_at_call 39; refine (impl_readNumber x hxsz _).mono ?_; rintro e w5 hr5; rw [RetRN, ← HZ.out] at hr5; obtain ⟨y, rfl, hy, hb5⟩ := hr5; have HB5 := Lib.hid (HB.out.trans (hb5.mono hbw)); clear hb5)
          go_ret2
          rw [HL.out, nr_no HL.out]
          exact ⟨_, rfl, owF_nil _ _, HB5.out⟩
        have h64' : ((xs.length : Int) == 256) = false := by
          rw [beq_eq_false_iff_ne]
          omega
        have hk63 : xs.length < 256 := by omega
        clear h64
        go_wp2_with (first | (go_at_call 39; refine (impl_readNumber x hxsz _).mono ?_; rintro e w5 hr5; rw [RetRN, ← HZ.out] at hr5; obtain ⟨y, rfl, hy, hb5⟩ := hr5; have HYV := Lib.hid (hy rfl); have HB5 := Lib.hid (HB.out.trans (hb5.mono hbw)); have HO5 := Lib.hid (owF_below HO.out hb5); have HS5 := Lib.hid (HST.out.go hb5); clear hb5 hy) | (at_builtin; refine wpList_append_own _ rfl _ _ 37 rfl w.heap.size 30 i0 (.float .f32 0) 1 4 Tryd.underlying37 hi hz0 hz1 hz2 rfl (by decide) _ _ _ rfl (HO5.out.alloc _) ⟨w5.heap.size, 0, none⟩ 1 1 [.float .f32 y] rfl rfl (fun j u hj => by match j, hj with | 0, hj => (simp at hj; subst hj; simp [Addr.add])) (fun u hu => by simp at hu; subst hu; rfl) (by unfold maxLen; omega) (by omega) (by have := HB5.out.size; simp; omega) ?_; intro v2 w1 hown1 hgrow _))
        obtain ⟨ho6, hb6, g6, c6, rfl⟩ := owF_put HO5.out HB5.out hown1 hgrow
        have HO6 := Lib.hid ho6
        have HB6 := Lib.hid hb6
        have HS6 := Lib.hid (StAt.kept (HS5.out.go (Below.alloc (Below.refl _ _) (Nat.le_refl _) _)) hgrow (owF_heap (OwF.alloc' HO5.out _)) (by decide))
        clear hown1 hgrow ho6 hb6
        go_wp2_with fail
        go_roundw
        case rel =>
          refine ⟨g6, c6, xs ++ [y], by rw [List.length_append]; exact hlt, by rw [List.length_append]; simp; omega, by rw [List.length_append]; go_num, ?_, ?_, rfl, HO6.out, HS6.out, HB6.out⟩
          · rw [List.length_append]
            show xs ++ [y] = fvals (partsL s.data.toList) (xs.length + 1)
            rw [fvals_at HPX.out, ← HXS.out, HYV.out]
          · rw [List.length_append]
            show okF (partsL s.data.toList) (xs.length + 1) = true
            rw [okF_at HPX.out, HOK.out, ← HZ.out]
            rfl
        case measure => simp [intOf]; omega
    · have hke : xs.length = ps.length := by omega
      have hlen : (partsL s.data.toList).length = ps.length := by rw [← HPS.out, asL_len]
      have HY := Lib.hid (nrB_yes (l := s.data.toList) (by rw [hlen, ← hke]; exact hk64) (by rw [hlen, ← hke]; exact HOK.out))
      have HV := Lib.hid (show nrV s.data.toList = xs by rw [nr_yes HY.out, hlen, ← hke, ← HXS.out])
      clear hlen hke
      go_wp2_with fail
      go_ret2
      rw [HY.out, HV.out]
      exact ⟨_, rfl, HO.out, HB.out⟩
end Go.Proofs.YtfempadelilpoaaDoor
