/- StraightenShared: contracts. -/
import Derived.Test.YtlhgaihfghobmaaMt
import Derived.Test.YtlhgaihfghobmaaMo
namespace Go.Proofs.Ytlhgaihfghobmaa
open Go.ChangeShapes Go.WideShapes Go.ChangeAt Go.RowKit Go.Deep

/-- a chain with those of its first k rods straightened that have the colour c. -/
def stepC (D : D4) (xs : List Int) (c : Int) : Nat → D4
  | 0 => D
  | k + 1 => if nthI xs k = c then strR (stepC D xs c k) (D.R k) else stepC D xs c k
/-- colour by colour. -/
def shaC (D : D4) (m : Nat) (xs : List Int) : Nat → D4
  | 0 => D
  | r + 1 => stepC (shaC D m xs r) xs (r : Int) m
theorem stepC_R (D : D4) (xs : List Int) (c : Int) : ∀ k, (stepC D xs c k).R = D.R
  | 0 => rfl
  | k + 1 => by
    unfold stepC
    split
    · exact (straD_R _ _ _ _).trans (stepC_R D xs c k)
    · exact stepC_R D xs c k
theorem shaC_R (D : D4) (m : Nat) (xs : List Int) : ∀ r, (shaC D m xs r).R = D.R
  | 0 => rfl
  | r + 1 => (stepC_R _ _ _ _).trans (shaC_R D m xs r)
theorem stepC_none (D : D4) (xs : List Int) (c : Int) : ∀ k, (∀ j, j < k → nthI xs j ≠ c) → stepC D xs c k = D
  | 0, _ => rfl
  | k + 1, h => by
    unfold stepC
    rw [if_neg (h k (Nat.lt_succ_self k))]
    exact stepC_none D xs c k fun j hj => h j (Nat.lt_succ_of_lt hj)
theorem shaC_more (D : D4) (m : Nat) (xs : List Int) (a : Nat) (h : ∀ j, j < m → nthI xs j < (a : Int)) : ∀ d, shaC D m xs (a + d) = shaC D m xs a
  | 0 => rfl
  | d + 1 => by
    show stepC (shaC D m xs (a + d)) xs ((a + d : Nat) : Int) m = _
    rw [stepC_none _ _ _ _ fun j hj => by have := h j hj; omega]
    exact shaC_more D m xs a h d
open Classical in
/-- the colours of m rods. -/
noncomputable def colL (R : Nat → Rd) (m : Nat) : List Int := if h : ∃ xs : List Int, xs.length = m ∧ IsC R xs then Classical.choose h else []
theorem colL_eq {R : Nat → Rd} {m : Nat} {xs : List Int} (hl : xs.length = m) (h : IsC R xs) : colL R m = xs := by
  have hx : ∃ xs : List Int, xs.length = m ∧ IsC R xs := ⟨xs, hl, h⟩
  unfold colL
  rw [dif_pos hx]
  have := Classical.choose_spec hx
  exact this.2.same h (this.1.trans hl.symm)
noncomputable def shaD (D : D4) (m : Nat) : D4 := shaC D m (colL D.R m) m
/-- an own list of numbers, its length apart. -/
def Ls (w : World) (B : Nat) (A : Option Addr) (m c : Nat) (xs : List Int) : Prop := Ow w B (.slice A m c) xs ∧ xs.length = m
theorem Ls.of {w : World} {B m : Nat} {v : Value} {xs : List Int} (h : Ow w B v xs) (hl : xs.length = m) : ∃ A c, v = .slice A m c ∧ Ls w B A m c xs := by
  subst hl
  rcases ow_form h with ⟨hx, A, cap, hv⟩ | ⟨g, cap, hx, hv, _⟩
  · subst hv
    subst hx
    exact ⟨A, cap, rfl, h, rfl⟩
  · subst hv
    exact ⟨_, cap, rfl, h, rfl⟩
theorem Ls.at {w : World} {B m c : Nat} {A : Option Addr} {xs : List Int} (h : Ls w B A m c xs) {i : Nat} (hi : i < m) : ∃ g, A = some ⟨g, 0, none⟩ ∧ g < w.heap.size ∧ w.cell? ⟨g, i, none⟩ = some (.int .i64 (nthI xs i)) := by
  obtain ⟨ho, hl⟩ := h
  subst hl
  obtain ⟨g, cap, hv, hg, hc⟩ := ho.form (by omega)
  cases hv
  exact ⟨g, rfl, hg, hc i hi⟩
theorem Ls.go {w w' : World} {B m c : Nat} {A : Option Addr} {xs : List Int} (h : Ls w B A m c xs) (hb : Below w.heap.size w w') : Ls w' B A m c xs := ⟨h.1.below' hb (Nat.le_refl _), h.2⟩
theorem Ls.wr {S : Nat → Prop} {w w' : World} {B m c : Nat} {A : Option Addr} {xs : List Int} (h : Ls w B A m c xs) (hw : Wr S w w') (hn : ∀ k, B ≤ k → ¬ S k) : Ls w' B A m c xs := by
  refine ⟨⟨h.1.1, ?_⟩, h.2⟩
  rcases h.1.2 with h0 | ⟨g, cap, cur, he, hB, hg, rest⟩
  · exact .inl h0
  · exact .inr ⟨g, cap, cur, he, hB, (hw.block g (Array.getElem?_eq_some_iff.1 hg).1 (hn g hB)).trans hg, rest⟩
set_option maxHeartbeats 4000000 in
set_option maxRecDepth 100000 in
theorem impl_StraightenShared1 (g M : Nat) (a0 : Nat) (A1 A2 A3 A4 : Option Addr) (c1 c2 c3 c4 n m : Nat) (D : D4) (q : Int) (w : World) (hx : Bx w g 32 (.slice A1 n c1) (.slice A2 n c2) (.slice A3 n c3) (.slice A4 m c4)) (ho : Own w M A1 A2 A3 A4 c1 c2 c3 c4 n n n m D) (hd : Bds M w.heap.size A1 A2 A3 A4 n n n m) (_hz : Zc c1 c2 c3 c4 n n n m) (_hg : M ≤ g) (_hM : M ≤ w.heap.size) (q1 : okC n n n m D = true) (ha0 : a0 < M) (hx0 : Ox w a0 2 (.int .i64 q)) :
    Calls Try.prog 150 #[.pointer (some ⟨g, 0, none⟩), .pointer (some ⟨a0, 0, none⟩)] w (RetDo g M (inI q 1 8) (n) (n) (n) (m) (shaD D m) w) := by
  have HX := Lib.hid hx
  have HO := Lib.hid ho
  have _HD := Lib.hid hd
  have Y0 := Lib.hid hx0
  obtain ⟨s1, _, _, s4⟩ := okC_sz q1
  have HR := Lib.hid (okC_rods q1)
  have hmc := ho.room
  have HA := Lib.hid (fun (h0 : 0 < n) (k : Nat) (e : A1 = some ⟨k, 0, none⟩) => (hd.b1 k e h0).2)
  clear hx ho hd hx0 q1
  go_enter Try.func150, Try.ntmps150
  go_wp2_with fail
  refine (impl_colours g _ _ _ A4 c4 m D.R _ HX.out HO.out.s4.in_ s4 hmc).mono ?_
  rintro e w2 ⟨xs, x1, x2, v, rfl, ho2, hb2⟩
  obtain ⟨AL, cL, rfl, hL⟩ := Ls.of ho2 x1
  have X2 := Lib.hid x2
  have L2 := Lib.hid hL
  have HX2 := Lib.hid (HX.out.go hb2)
  have HO2 := Lib.hid (HO.out.go hb2)
  have Y2 := Lib.hid (Y0.out.go hb2)
  have B2 := Lib.hid (hb2.mono _hM)
  have sz2 := hb2.size
  clear hb2 x2 hL ho2 HX HO Y0
  have hm0 : (m : Int) ≤ 40 := by omega
  go_wp2_with fail
  go_loopw [12] (fun i wr => ∃ (r : Nat) (D1 : D4), r ≤ m ∧ i = .int .i64 r ∧ SimD n n n m D1 (shaC D m xs r) ∧ Own wr M A1 A2 A3 A4 c1 c2 c3 c4 n n n m D1 ∧ Bx wr g 32 (.slice A1 n c1) (.slice A2 n c2) (.slice A3 n c3) (.slice A4 m c4) ∧ Below M w2 wr ∧ w2.heap.size ≤ wr.heap.size ∧ Ls wr w.heap.size AL m cL xs ∧ Ox wr a0 2 (.int .i64 q)) (fun i _ => m - (intOf i).toNat)
  case atStart => exact ⟨0, D, Nat.zero_le _, rfl, SimD.refl _ _ _ _ _, HO2.out, HX2.out, Below.refl _ _, Nat.le_refl _, L2.out, Y2.out⟩
  case round =>
    obtain ⟨r, D1, hr, rfl, hS, hO, hX, hB, hz1, hL, hY⟩ := hrel
    have HS1 := Lib.hid hS
    have HO1 := Lib.hid hO
    have HX1 := Lib.hid hX
    have HB1 := Lib.hid hB
    have HL1 := Lib.hid hL
    have HY1 := Lib.hid hY
    by_cases hlt : r < m
    · obtain ⟨p0, p1, p2, p3, pf⟩ := hX.facts
      have lp := hX.lt
      have hr0 : (0 : Int) ≤ (r : Int) := by omega
      have hr1 : (r : Int) < (m : Int) := by omega
      clear hS hO hX hB hL hY
      go_wp2_with fail
      clear p0 p1 p2 p3 pf lp
      rename World => wo
      go_loopw [20] (fun i wr => ∃ (k : Nat) (D2 : D4), k ≤ m ∧ i = .int .i64 k ∧ SimD n n n m D2 (stepC (shaC D m xs r) xs r k) ∧ Own wr M A1 A2 A3 A4 c1 c2 c3 c4 n n n m D2 ∧ Bx wr g 32 (.slice A1 n c1) (.slice A2 n c2) (.slice A3 n c3) (.slice A4 m c4) ∧ Below M w2 wr ∧ w2.heap.size ≤ wr.heap.size ∧ Ls wr w.heap.size AL m cL xs ∧ Ox wr a0 2 (.int .i64 q)) (fun i _ => m - (intOf i).toNat)
      case atStart => exact ⟨0, D1, Nat.zero_le _, rfl, HS1.out, HO1.out, HX1.out, HB1.out, hz1, HL1.out, HY1.out⟩
      case round =>
        obtain ⟨k, D2, hk, rfl, hS, hO, hX, hB, hz2, hL, hY⟩ := hrel
        have HS2 := Lib.hid hS
        have HO2 := Lib.hid hO
        have HX2 := Lib.hid hX
        have HB2 := Lib.hid hB
        have HL2 := Lib.hid hL
        have HY2 := Lib.hid hY
        by_cases hlt2 : k < m
        · have hsr := hS.2.2.2 k hlt2
          rw [stepC_R, shaC_R] at hsr
          have hin := HR.out k hlt2
          obtain ⟨pa, pb, ea, eb, la, lb, ta, tb⟩ := rd_nat (r := D2.R k) (by rw [hsr.1, hsr.2.1]; exact hin)
          have HSR := Lib.hid hsr
          obtain ⟨b4, hA4, _, _, _, hr4⟩ := hO.s4 (by omega)
          subst hA4
          obtain ⟨gl, hAL, lgl, hcl⟩ := hL.at hlt2
          subst hAL
          obtain ⟨i0, i1, i2, _, _, _⟩ := hr4.at3 hlt2
          rw [rc0, ea] at i0
          rw [rc1, eb] at i1
          rw [rc2] at i2
          have l4 := hr4.lt
          have hk0 : (0 : Int) ≤ (k : Int) := by omega
          have hk1 : (k : Int) < (m : Int) := by omega
          clear hS hO hX hB hL hY hr4 hsr
          by_cases hq : nthI xs k = (r : Int)
          · have hqq : (nthI xs k == (r : Int)) = true := by simpa using hq
            have HQ := Lib.hid hq
            clear hq
            go_wp2_with fail
            refine (impl_straightenW g M _ _ _ _ _ _ _ _ n m D2 pa pb (D2.R k).l la lb _ (HX2.out.alloc _) (HO2.out.go (by repeat' (first | with_reducible exact Below.refl _ _ | with_reducible assumption | with_reducible refine below_dn ?_ _ | with_reducible refine Below.drew ?_ | with_reducible refine below_step ?_ (by assumption) | with_reducible refine Below.setCell ?_ ?_ _ | with_reducible refine Below.alloc ?_ ?_ _ | with_reducible exact Nat.le_refl _ | (simp; done) | (simp; omega) | omega))) (by omega)).mono ?_
            rintro e w3 hsw
            have hst := hsw.st (by omega) (by simp; omega)
            obtain ⟨rfl, hw3, D3, hs3, ho3, hx3⟩ := hsw
            have hb := hst.2.1
            have y3 := hb.size
            simp at y3
            have BB := Lib.hid (HB2.out.trans ((Below.alloc (Below.refl _ _) (by omega) _).trans hb))
            have LL := Lib.hid ((HL2.out.go (by repeat' (first | with_reducible exact Below.refl _ _ | with_reducible assumption | with_reducible refine below_dn ?_ _ | with_reducible refine Below.drew ?_ | with_reducible refine below_step ?_ (by assumption) | with_reducible refine Below.setCell ?_ ?_ _ | with_reducible refine Below.alloc ?_ ?_ _ | with_reducible exact Nat.le_refl _ | (simp; done) | (simp; omega) | omega))).wr hw3 (fun k' h1 h2 => by have := HA.out (by omega) k' h2; omega))
            have YY := Lib.hid ((HY2.out.alloc _).below hb ha0)
            have S3 := Lib.hid hs3
            have O3 := Lib.hid ho3
            have X3 := Lib.hid hx3
            clear hb hs3 ho3 hx3 hw3 hst i0 i1 i2 l4 hcl lgl hqq
            go_wp2_with fail
            go_roundw
            case rel =>
              refine ⟨k + 1, D3, by omega, by go_num, S3.out.trans ?_, O3.out, X3.out, BB.out, by omega, LL.out, YY.out⟩
              have h3 := strR_sim HS2.out HSR.out hin
              unfold strR at h3
              rw [ta, tb] at h3
              show SimD n n n m _ (if nthI xs k = (r : Int) then strR (stepC (shaC D m xs r) xs r k) ((shaC D m xs r).R k) else _)
              rw [if_pos HQ.out, shaC_R]
              exact h3
            case measure => simp [intOf]; omega
          · have hqq : (nthI xs k == (r : Int)) = false := by simpa using hq
            have HQ := Lib.hid hq
            clear hq
            go_wp2_with fail
            go_roundw
            case rel =>
              refine ⟨k + 1, D2, by omega, by go_num, ?_, HO2.out.go (by repeat' (first | with_reducible exact Below.refl _ _ | with_reducible assumption | with_reducible refine below_dn ?_ _ | with_reducible refine Below.drew ?_ | with_reducible refine below_step ?_ (by assumption) | with_reducible refine Below.setCell ?_ ?_ _ | with_reducible refine Below.alloc ?_ ?_ _ | with_reducible exact Nat.le_refl _ | (simp; done) | (simp; omega) | omega)), HX2.out.alloc _, HB2.out.alloc (by omega) _, by simp; omega, HL2.out.go (by repeat' (first | with_reducible exact Below.refl _ _ | with_reducible assumption | with_reducible refine below_dn ?_ _ | with_reducible refine Below.drew ?_ | with_reducible refine below_step ?_ (by assumption) | with_reducible refine Below.setCell ?_ ?_ _ | with_reducible refine Below.alloc ?_ ?_ _ | with_reducible exact Nat.le_refl _ | (simp; done) | (simp; omega) | omega)), HY2.out.alloc _⟩
              show SimD n n n m _ (if nthI xs k = (r : Int) then _ else stepC (shaC D m xs r) xs r k)
              rw [if_neg HQ.out]
              exact HS2.out
            case measure => simp [intOf]; omega
        · obtain rfl : m = k := by omega
          clear hS hO hX hB hL hY
          go_wp2_with fail
          go_roundw
          case rel => exact ⟨r + 1, D2, by omega, by go_num, HS2.out, HO2.out, HX2.out, HB2.out, hz2, HL2.out, HY2.out⟩
          case measure => simp [intOf]; omega
    · obtain rfl : m = r := by omega
      have hi := hY.c
      clear hS hO hX hB hL hY
      go_wp2_with fail
      refine (impl_in q 1 8 _).mono ?_
      rintro e w' ⟨rfl, z, rfl⟩
      go_wp2_with fail
      go_ret
      refine ⟨rfl, below_dn (B2.out.trans HB1.out) z, fun _ => ⟨A1, A2, A3, A4, c1, c2, c3, c4, D1, ?_, HX1.out.drewN z, HO1.out.drewN z, (HO1.out.drewN z).bds⟩⟩
      unfold shaD
      rw [colL_eq x1 X2.out]
      exact HS1.out
theorem run_StraightenShared1 (args : Array Value) (u : World) : (callFunc 150 args).run Try.prog u = .ok (.enter 150 args) u := call_enter Try.func150 (by kernel_rfl) (by kernel_rfl) _ _
theorem impl_StraightenShared (A1 A2 A3 A4 : Option Addr) (c1 c2 c3 c4 n1 n2 n3 n4 B : Nat) (D : D4) (q : Int) (w : World) (h : Own w B A1 A2 A3 A4 c1 c2 c3 c4 n1 n2 n3 n4 D) :
    Calls Try.prog 73 #[.agg #[.slice A1 n1 c1, .slice A2 n2 c2, .slice A3 n3 c3, .slice A4 n4 c4], .int .i64 q] w (RetM (okC n1 n2 n3 n4 D && (inI q 1 8 && okC n1 n2 n3 n4 (shaD D n4))) n1 n2 n3 n4 (shaD D n4) w) := by
  have H := Lib.hid h
  clear h
  have z1 : (w.alloc (.cells #[.slice A1 n1 c1, .slice A2 n2 c2, .slice A3 n3 c3, .slice A4 n4 c4] 32)).heap.size = w.heap.size + 1 := by simp
  have X0 : Ox (((w.alloc (.cells #[.slice A1 n1 c1, .slice A2 n2 c2, .slice A3 n3 c3, .slice A4 n4 c4] 32)).alloc (.cells #[.int .i64 q] 2)).alloc (.cells #[sn, sn, sn, sn] 32)) (w.heap.size + 1) 2 (.int .i64 q) := by rw [← z1]; exact (Ox.new_ _ _ _).alloc _
  have zn : ((w.alloc (.cells #[.slice A1 n1 c1, .slice A2 n2 c2, .slice A3 n3 c3, .slice A4 n4 c4] 32)).alloc (.cells #[.int .i64 q] 2)).heap.size = w.heap.size + 1 + 1 := by simp
  go_enter Try.func73, Try.ntmps73
  go_wp2_with fail
  refine (impl_changedChain 150 #[.pointer (some ⟨w.heap.size + 1, 0, none⟩)] (inI q 1 8) (n1) (n2) (n3) (n4) (shaD D n4) A1 A2 A3 A4 c1 c2 c3 c4 n1 n2 n3 n4 B D _ (H.out.go ?hq) run_StraightenShared1 ?hdo).mono ?_
  case hq => exact (by repeat' (first | with_reducible exact Below.refl _ _ | with_reducible assumption | with_reducible refine below_dn ?_ _ | with_reducible refine Below.drew ?_ | with_reducible refine below_step ?_ (by assumption) | with_reducible refine Below.setCell ?_ ?_ _ | with_reducible refine Below.alloc ?_ ?_ _ | with_reducible exact Nat.le_refl _ | (simp; done) | (simp; omega) | omega))
  case hdo =>
    intro q1 g M E1 E2 E3 E4 d1 d2 d3 d4 u hx ho hd hz hg hM0 _ hb
    have Y0 := X0.go hb
    obtain ⟨s1, rfl, rfl, s4⟩ := okC_sz q1
    exact impl_StraightenShared1 g M _ E1 E2 E3 E4 d1 d2 d3 d4 n3 n4 D q u hx ho hd hz hg (by omega) q1 (by have := hM0; simp at this; omega) Y0
  rintro e w1 ⟨hr, hb1⟩
  have V1 := Lib.hid ((Bx.new_ ((w.alloc (.cells #[.slice A1 n1 c1, .slice A2 n2 c2, .slice A3 n3 c3, .slice A4 n4 c4] 32)).alloc (.cells #[.int .i64 q] 2)) 32 sn sn sn sn).go hb1)
  have B1 := Lib.hid (show Below w.heap.size w w1 from below_step (w := w) ((by repeat' (first | with_reducible exact Below.refl _ _ | with_reducible assumption | with_reducible refine below_dn ?_ _ | with_reducible refine Below.drew ?_ | with_reducible refine below_step ?_ (by assumption) | with_reducible refine Below.setCell ?_ ?_ _ | with_reducible refine Below.alloc ?_ ?_ _ | with_reducible exact Nat.le_refl _ | (simp; done) | (simp; omega) | omega))) hb1)
  rw [zn] at V1
  have e2 : (((w.alloc (.cells #[.slice A1 n1 c1, .slice A2 n2 c2, .slice A3 n3 c3, .slice A4 n4 c4] 32)).alloc (.cells #[.int .i64 q] 2)).alloc (.cells #[sn, sn, sn, sn] 32)).heap.size = w.heap.size + 3 := by simp
  rw [e2] at hr
  clear hb1 zn e2 z1 X0
  obtain ⟨v0, v1, v2, v3, vf⟩ := V1.out.facts
  have lv := V1.out.lt
  cases hbb : (okC n1 n2 n3 n4 D && (inI q 1 8 && okC n1 n2 n3 n4 (shaD D n4)))
  · rw [hbb] at hr
    obtain rfl := hr
    go_wp2_with fail
    obtain ⟨r0, r1, r2, r3, rf⟩ := (V1.out.setAll sn sn sn sn).facts
    refine bodyPost_ret (v := .tuple #[.agg #[sn, sn, sn, sn], .bool false]) (by simp [results, Try.results73, go_sem, r0, r1, r2, r3]) rfl ?_
    rw [hbb]
    exact ⟨rfl, Bx.bel B1.out (by omega) _ _ _ _⟩
  · rw [hbb] at hr
    obtain ⟨F1, F2, F3, F4, x1, x2, x3, x4, D', rfl, hs, ho, hd⟩ := hr
    have HS := Lib.hid hs
    have HO := Lib.hid ho
    have HD := Lib.hid hd
    clear hs ho hd
    have VF := Lib.hid (V1.out.setAll (.slice F1 (n1) x1) (.slice F2 (n2) x2) (.slice F3 (n3) x3) (.slice F4 (n4) x4))
    have WF := Lib.hid (show Wr (fun k => k = w.heap.size + 1 + 1) w1 ((((w1.setCell ⟨w.heap.size + 1 + 1, 0, none⟩ (.slice F1 (n1) x1)).setCell ⟨w.heap.size + 1 + 1, 1, none⟩ (.slice F2 (n2) x2)).setCell ⟨w.heap.size + 1 + 1, 2, none⟩ (.slice F3 (n3) x3)).setCell ⟨w.heap.size + 1 + 1, 3, none⟩ (.slice F4 (n4) x4)) from by
      refine Wr.setCell (Wr.setCell (Wr.setCell (Wr.setCell (Wr.refl _ _) ?_ _) ?_ _) ?_ _) ?_ _ <;> rfl)
    go_wp2_with fail
    obtain ⟨r0, r1, r2, r3, rf⟩ := VF.out.facts
    refine bodyPost_ret (v := .tuple #[.agg #[.slice F1 (n1) x1, .slice F2 (n2) x2, .slice F3 (n3) x3, .slice F4 (n4) x4], .bool true]) (by simp [results, Try.results73, go_sem, r0, r1, r2, r3]) rfl ?_
    rw [hbb]
    exact ⟨⟨F1, F2, F3, F4, x1, x2, x3, x4, D', rfl, HS.out, (HO.out.off V1.out WF.out).mono (by omega), HD.out.mono (by omega) WF.out.size⟩, Bx.bel B1.out (by omega) _ _ _ _⟩
theorem spec_l00Max (x y : Int) (w : World) : Calls Try.prog 149 #[.int .i64 x, .int .i64 y] w (RetQ (.int .i64 (if y < x then x else y)) w) := by
  by_cases h : y < x
  · go_enter Try.func149, Try.ntmps149
    go_wp2_with fail
    go_ret
    exact ⟨rfl, 0, rfl⟩
  · go_enter Try.func149, Try.ntmps149
    go_wp2_with fail
    go_ret
    exact ⟨rfl, 0, rfl⟩
set_option maxHeartbeats 4000000 in
set_option maxRecDepth 100000 in
theorem spec_StraightenShared (A1 A2 A3 A4 : Option Addr) (c1 c2 c3 c4 n1 n2 n3 n4 B : Nat) (D : D4) (q : Int) (w : World) (h : Own w B A1 A2 A3 A4 c1 c2 c3 c4 n1 n2 n3 n4 D) :
    Calls Try.prog 72 #[.agg #[.slice A1 n1 c1, .slice A2 n2 c2, .slice A3 n3 c3, .slice A4 n4 c4], .int .i64 q] w (RetM (okC n1 n2 n3 n4 D && (inI q 1 8 && okC n1 n2 n3 n4 (shaD D n4))) n1 n2 n3 n4 (shaD D n4) w) := by
  have H := Lib.hid h
  clear h
  cases q1 : okC n1 n2 n3 n4 D
  · go_enter Try.func72, Try.ntmps72
    go_wp2_with fail
    refine (spec_l03Is w.heap.size A1 A2 A3 A4 c1 c2 c3 c4 n1 n2 n3 n4 B D _ ((Bx.new_ _ _ _ _ _ _).alloc _) (H.out.go (by repeat' (first | with_reducible exact Below.refl _ _ | with_reducible assumption | with_reducible refine below_dn ?_ _ | with_reducible refine Below.drew ?_ | with_reducible refine below_step ?_ (by assumption) | with_reducible refine Below.setCell ?_ ?_ _ | with_reducible refine Below.alloc ?_ ?_ _ | with_reducible exact Nat.le_refl _ | (simp; done) | (simp; omega) | omega)))).mono ?_
    rintro e w1 ⟨rfl, hb1⟩
    have V1 := Lib.hid ((Bx.new_ (w.alloc (.cells #[.slice A1 n1 c1, .slice A2 n2 c2, .slice A3 n3 c3, .slice A4 n4 c4] 32)) 32 sn sn sn sn).go hb1)
    have B1 := Lib.hid (show Below w.heap.size w w1 from below_step (w := w) ((by repeat' (first | with_reducible exact Below.refl _ _ | with_reducible assumption | with_reducible refine below_dn ?_ _ | with_reducible refine Below.drew ?_ | with_reducible refine below_step ?_ (by assumption) | with_reducible refine Below.setCell ?_ ?_ _ | with_reducible refine Below.alloc ?_ ?_ _ | with_reducible exact Nat.le_refl _ | (simp; done) | (simp; omega) | omega))) hb1)
    have e1 : (w.alloc (.cells #[.slice A1 n1 c1, .slice A2 n2 c2, .slice A3 n3 c3, .slice A4 n4 c4] 32)).heap.size = w.heap.size + 1 := by simp
    rw [e1] at V1
    clear hb1 e1
    obtain ⟨v0, v1, v2, v3, vf⟩ := V1.out.facts
    have lv := V1.out.lt
    rw [q1]
    go_wp2_with fail
    obtain ⟨r0, r1, r2, r3, rf⟩ := (V1.out.setAll sn sn sn sn).facts
    refine bodyPost_ret (v := .tuple #[.agg #[sn, sn, sn, sn], .bool false]) (by simp [results, Try.results72, go_sem, r0, r1, r2, r3]) rfl ?_
    exact ⟨rfl, Bx.bel B1.out (by omega) _ _ _ _⟩
  · obtain ⟨s1, rfl, rfl, s4⟩ := okC_sz q1
    cases q2 : inI q 1 8
    · go_enter Try.func72, Try.ntmps72
      go_wp2_with fail
      refine (spec_l03Is w.heap.size A1 A2 A3 A4 c1 c2 c3 c4 n3 n3 n3 n4 B D _ ((Bx.new_ _ _ _ _ _ _).alloc _) (H.out.go (by repeat' (first | with_reducible exact Below.refl _ _ | with_reducible assumption | with_reducible refine below_dn ?_ _ | with_reducible refine Below.drew ?_ | with_reducible refine below_step ?_ (by assumption) | with_reducible refine Below.setCell ?_ ?_ _ | with_reducible refine Below.alloc ?_ ?_ _ | with_reducible exact Nat.le_refl _ | (simp; done) | (simp; omega) | omega)))).mono ?_
      rintro e w1 ⟨rfl, hb1⟩
      have V1 := Lib.hid ((Bx.new_ (w.alloc (.cells #[.slice A1 n3 c1, .slice A2 n3 c2, .slice A3 n3 c3, .slice A4 n4 c4] 32)) 32 sn sn sn sn).go hb1)
      have B1 := Lib.hid (show Below w.heap.size w w1 from below_step (w := w) ((by repeat' (first | with_reducible exact Below.refl _ _ | with_reducible assumption | with_reducible refine below_dn ?_ _ | with_reducible refine Below.drew ?_ | with_reducible refine below_step ?_ (by assumption) | with_reducible refine Below.setCell ?_ ?_ _ | with_reducible refine Below.alloc ?_ ?_ _ | with_reducible exact Nat.le_refl _ | (simp; done) | (simp; omega) | omega))) hb1)
      have e1 : (w.alloc (.cells #[.slice A1 n3 c1, .slice A2 n3 c2, .slice A3 n3 c3, .slice A4 n4 c4] 32)).heap.size = w.heap.size + 1 := by simp
      rw [e1] at V1
      clear hb1 e1
      obtain ⟨v0, v1, v2, v3, vf⟩ := V1.out.facts
      have lv := V1.out.lt
      rw [q1]
      go_wp2_with (go_at_call 104; refine (spec_l00In q 1 8 _).mono ?_; rintro e wa ⟨rfl, nq, rfl⟩; rw [q2])
      have V1 := Lib.hid (V1.out.drewN nq)
      have B1 := Lib.hid (below_dn B1.out nq)
      obtain ⟨r0, r1, r2, r3, rf⟩ := (V1.out.setAll sn sn sn sn).facts
      refine bodyPost_ret (v := .tuple #[.agg #[sn, sn, sn, sn], .bool false]) (by simp [results, Try.results72, go_sem, r0, r1, r2, r3]) rfl ?_
      exact ⟨rfl, Bx.bel B1.out (by omega) _ _ _ _⟩
    · go_enter Try.func72, Try.ntmps72
      go_wp2_with fail
      refine (spec_l03Is w.heap.size A1 A2 A3 A4 c1 c2 c3 c4 n3 n3 n3 n4 B D _ ((Bx.new_ _ _ _ _ _ _).alloc _) (H.out.go (by repeat' (first | with_reducible exact Below.refl _ _ | with_reducible assumption | with_reducible refine below_dn ?_ _ | with_reducible refine Below.drew ?_ | with_reducible refine below_step ?_ (by assumption) | with_reducible refine Below.setCell ?_ ?_ _ | with_reducible refine Below.alloc ?_ ?_ _ | with_reducible exact Nat.le_refl _ | (simp; done) | (simp; omega) | omega)))).mono ?_
      rintro e w1 ⟨rfl, hb1⟩
      have P1 := Lib.hid (((Bx.new_ w 32 (.slice A1 n3 c1) (.slice A2 n3 c2) (.slice A3 n3 c3) (.slice A4 n4 c4)).alloc _).go hb1)
      have V1 := Lib.hid ((Bx.new_ (w.alloc (.cells #[.slice A1 n3 c1, .slice A2 n3 c2, .slice A3 n3 c3, .slice A4 n4 c4] 32)) 32 sn sn sn sn).go hb1)
      have B1 := Lib.hid (show Below w.heap.size w w1 from below_step (w := w) ((by repeat' (first | with_reducible exact Below.refl _ _ | with_reducible assumption | with_reducible refine below_dn ?_ _ | with_reducible refine Below.drew ?_ | with_reducible refine below_step ?_ (by assumption) | with_reducible refine Below.setCell ?_ ?_ _ | with_reducible refine Below.alloc ?_ ?_ _ | with_reducible exact Nat.le_refl _ | (simp; done) | (simp; omega) | omega))) hb1)
      have e1 : (w.alloc (.cells #[.slice A1 n3 c1, .slice A2 n3 c2, .slice A3 n3 c3, .slice A4 n4 c4] 32)).heap.size = w.heap.size + 1 := by simp
      rw [e1] at V1
      clear hb1 e1
      rw [q1]
      go_wp2_with (go_at_call 104; refine (spec_l00In q 1 8 _).mono ?_; rintro e wa ⟨rfl, nq, rfl⟩; rw [q2])
      have V1 := Lib.hid (V1.out.drewN nq)
      have B1 := Lib.hid (below_dn B1.out nq)
      have P1 := Lib.hid (P1.out.drewN nq)
      obtain ⟨w1, hw1⟩ : ∃ z : World, z = w1.drewN nq := ⟨_, rfl⟩
      rw [← hw1] at V1 B1 P1
      rw [← hw1]
      clear hw1
      refine (spec_l03Own w.heap.size A1 A2 A3 A4 c1 c2 c3 c4 n3 n3 n3 n4 D (by omega) (by omega) (by omega) (by omega) _ P1.out ((H.out.go B1.out).s1.in_) ((H.out.go B1.out).s2.in_) ((H.out.go B1.out).s3.in_) ((H.out.go B1.out).s4.in_)).mono ?_
      rintro e w2 ⟨E1, E2, E3, E4, d1, d2, d3, d4, rfl, ho2, hd2, hz2, hb2⟩
      have P2 := Lib.hid (P1.out.go hb2)
      have V2 := Lib.hid (V1.out.go hb2)
      have B2 := Lib.hid (below_step B1.out hb2)
      have O2 := Lib.hid ho2
      have D2 := Lib.hid hd2
      have HZ2 := Lib.hid hz2
      clear hz2
      have y1 := V1.out.lt
      have y2 := hb2.size
      have y0 := B1.out.size
      clear hb2 ho2 hd2 P1 V1 
      have ez2 : (w2.alloc (.cells #[.slice E1 n3 d1, .slice E2 n3 d2, .slice E3 n3 d3, .slice E4 n4 d4] 32)).heap.size = w2.heap.size + 1 := by simp
      have HR := Lib.hid (okC_rods q1)
      have hmc := (H.out.go B2.out).room
      have n40 : (n4 : Int) ≤ 40 := by omega
      go_wp2_with fail
      refine (spec_colours w.heap.size _ _ _ A4 c4 n4 D.R _ (P2.out.alloc _) ((H.out.go (w' := w2.alloc (.cells #[.slice E1 n3 d1, .slice E2 n3 d2, .slice E3 n3 d3, .slice E4 n4 d4] 32)) (Below.alloc B2.out (by omega) _)).s4.in_) s4).mono ?_
      rintro e w3 ⟨xs, x1, x2, v, rfl, ho3, hb3⟩
      obtain ⟨AL, cL, rfl, hL⟩ := Ls.of ho3 x1
      rw [ez2] at hL
      have X2 := Lib.hid x2
      have L3 := Lib.hid hL
      have XX3 := Lib.hid ((Bx.new_ w2 32 (.slice E1 n3 d1) (.slice E2 n3 d2) (.slice E3 n3 d3) (.slice E4 n4 d4)).go hb3)
      have O3 := Lib.hid ((O2.out.go (w' := w2.alloc _) (by repeat' (first | with_reducible exact Below.refl _ _ | with_reducible assumption | with_reducible refine below_dn ?_ _ | with_reducible refine Below.drew ?_ | with_reducible refine below_step ?_ (by assumption) | with_reducible refine Below.setCell ?_ ?_ _ | with_reducible refine Below.alloc ?_ ?_ _ | with_reducible exact Nat.le_refl _ | (simp; done) | (simp; omega) | omega))).go hb3)
      have V3 := Lib.hid ((V2.out.alloc _).go hb3)
      have B3 := Lib.hid (below_step (Below.alloc B2.out (by omega) _) hb3)
      have sz3 := hb3.size
      rw [ez2] at sz3
      have HA := Lib.hid (fun (h0 : 0 < n3) (k : Nat) (e : E1 = some ⟨k, 0, none⟩) => (D2.out.b1 k e h0).2)
      clear hb3 x2 hL ho3 P2 V2 B2 O2 D2 ez2
      go_wp2_with fail
      go_loopw [8, 24] (fun v i wr => ∃ (k a n : Nat), k ≤ n4 ∧ a ≤ k ∧ (∀ j, j < k → nthI xs j < (a : Int)) ∧ v = .int .i64 ((a : Int) - 1) ∧ i = .int .i64 k ∧ wr = w3.drewN n) (fun _ i _ => n4 - (intOf i).toNat)
      case atStart => exact ⟨0, 0, 0, Nat.zero_le _, Nat.le_refl _, fun j hj => absurd hj (Nat.not_lt_zero _), rfl, rfl, rfl⟩
      case round =>
        obtain ⟨k, a, n, hk, ha, hlt0, rfl, rfl, rfl⟩ := hrel
        have HLT := Lib.hid hlt0
        clear hlt0
        by_cases hlt : k < n4
        · obtain ⟨cc, hcc, hcl⟩ := X2.out.at_ (show k < xs.length by omega)
          obtain ⟨gl, hAL, lgl, hcl2⟩ := (L3.out.go (below_n _ w3 n)).at hlt
          subst hAL
          rw [hcc] at hcl2
          have hk0 : (0 : Int) ≤ (k : Int) := by omega
          have hk1 : (k : Int) < (n4 : Int) := by omega
          have HCC := Lib.hid hcc
          clear hcc
          go_wp2_with fail
          refine (spec_l00Max _ _ _).mono ?_
          rintro e w4 ⟨rfl, n', rfl⟩
          clear hcl2 lgl
          go_wp2_with fail
          go_roundw
          case rel =>
            by_cases hm : (cc : Int) < (a : Int) - 1
            · refine ⟨k + 1, a, n + n', by omega, by omega, fun j hj => ?_, by rw [if_pos hm], by go_num, rfl⟩
              by_cases hjk : j = k
              · rw [hjk, HCC.out]; omega
              · exact HLT.out j (by omega)
            · refine ⟨k + 1, cc + 1, n + n', by omega, by omega, fun j hj => ?_, by rw [if_neg hm]; congr 1; omega, by go_num, rfl⟩
              by_cases hjk : j = k
              · rw [hjk, HCC.out]; omega
              · have := HLT.out j (by omega); omega
          case measure => simp [intOf]; omega
        · obtain rfl : n4 = k := by omega
          obtain ⟨w3', hw3'⟩ : ∃ z : World, z = w3.drewN n := ⟨_, rfl⟩
          have L3' := Lib.hid (show Ls w3' _ AL n4 cL xs by rw [hw3']; exact L3.out.go (below_n _ w3 n))
          have XX3' := Lib.hid (show Bx w3' w2.heap.size 32 (.slice E1 n3 d1) (.slice E2 n3 d2) (.slice E3 n3 d3) (.slice E4 n4 d4) by rw [hw3']; exact XX3.out.drewN n)
          have O3' := Lib.hid (show Own w3' w1.heap.size E1 E2 E3 E4 d1 d2 d3 d4 n3 n3 n3 n4 D by rw [hw3']; exact O3.out.drewN n)
          have V3' := Lib.hid (show Bx w3' (w.heap.size + 1) 32 sn sn sn sn by rw [hw3']; exact V3.out.drewN n)
          have B3' := Lib.hid (show Below w.heap.size w w3' by rw [hw3']; exact below_dn B3.out n)
          have sz3' : w2.heap.size + 1 ≤ w3'.heap.size := by rw [hw3']; exact sz3
          rw [← hw3']
          clear hw3' L3 XX3 O3 V3 B3 sz3
          go_wp2_with fail
          go_loopw [10] (fun i wr => ∃ (r : Nat) (D1 : D4), r ≤ a ∧ i = .int .i64 r ∧ SimD n3 n3 n3 n4 D1 (shaC D n4 xs r) ∧ Own wr w1.heap.size E1 E2 E3 E4 d1 d2 d3 d4 n3 n3 n3 n4 D1 ∧ Bx wr w2.heap.size 32 (.slice E1 n3 d1) (.slice E2 n3 d2) (.slice E3 n3 d3) (.slice E4 n4 d4) ∧ Below w1.heap.size w3' wr ∧ w3'.heap.size ≤ wr.heap.size ∧ Ls wr (w2.heap.size + 1) AL n4 cL xs ∧ Bx wr (w.heap.size + 1) 32 sn sn sn sn) (fun i _ => a - (intOf i).toNat)
          case atStart => exact ⟨0, D, Nat.zero_le _, rfl, SimD.refl _ _ _ _ _, O3'.out, XX3'.out, Below.refl _ _, Nat.le_refl _, L3'.out, V3'.out⟩
          case round =>
            obtain ⟨r, D1, hr, rfl, hS, hO, hX, hB, hz1, hL, hY⟩ := hrel
            have HS1 := Lib.hid hS
            have HO1 := Lib.hid hO
            have HX1 := Lib.hid hX
            have HB1 := Lib.hid hB
            have HL1 := Lib.hid hL
            have HY1 := Lib.hid hY
            by_cases hlt : r < a
            · obtain ⟨p0, p1, p2, p3, pf⟩ := hX.facts
              have lp := hX.lt
              have hr0 : (0 : Int) ≤ (r : Int) := by omega
              have hr1 : (r : Int) ≤ (a : Int) - 1 := by omega
              clear hS hO hX hB hL hY
              go_wp2_with fail
              clear p0 p1 p2 p3 pf lp
              rename World => wo
              go_loopw [42] (fun i wr => ∃ (k : Nat) (D2 : D4), k ≤ n4 ∧ i = .int .i64 k ∧ SimD n3 n3 n3 n4 D2 (stepC (shaC D n4 xs r) xs r k) ∧ Own wr w1.heap.size E1 E2 E3 E4 d1 d2 d3 d4 n3 n3 n3 n4 D2 ∧ Bx wr w2.heap.size 32 (.slice E1 n3 d1) (.slice E2 n3 d2) (.slice E3 n3 d3) (.slice E4 n4 d4) ∧ Below w1.heap.size w3' wr ∧ w3'.heap.size ≤ wr.heap.size ∧ Ls wr (w2.heap.size + 1) AL n4 cL xs ∧ Bx wr (w.heap.size + 1) 32 sn sn sn sn) (fun i _ => n4 - (intOf i).toNat)
              case atStart => exact ⟨0, D1, Nat.zero_le _, rfl, HS1.out, HO1.out, HX1.out, HB1.out, hz1, HL1.out, HY1.out⟩
              case round =>
                obtain ⟨k, D2, hk, rfl, hS, hO, hX, hB, hz2, hL, hY⟩ := hrel
                have HS2 := Lib.hid hS
                have HO2 := Lib.hid hO
                have HX2 := Lib.hid hX
                have HB2 := Lib.hid hB
                have HL2 := Lib.hid hL
                have HY2 := Lib.hid hY
                by_cases hlt2 : k < n4
                · have hsr := hS.2.2.2 k hlt2
                  rw [stepC_R, shaC_R] at hsr
                  have hin := HR.out k hlt2
                  obtain ⟨pa, pb, ea, eb, la, lb, ta, tb⟩ := rd_nat (r := D2.R k) (by rw [hsr.1, hsr.2.1]; exact hin)
                  have HSR := Lib.hid hsr
                  obtain ⟨gl, hAL, lgl, hcl⟩ := hL.at hlt2
                  subst hAL
                  obtain ⟨p0, p1, p2, p3, pf⟩ := hX.facts
                  have lp := hX.lt
                  have hk0 : (0 : Int) ≤ (k : Int) := by omega
                  have hk1 : (k : Int) < (n4 : Int) := by omega
                  clear hS hO hX hB hL hY hsr
                  by_cases hq : nthI xs k = (r : Int)
                  · have hqq : (nthI xs k == (r : Int)) = true := by simpa using hq
                    have HQ := Lib.hid hq
                    clear hq
                    go_wp2_with fail
                    refine (spec_straightenW w2.heap.size w1.heap.size _ _ _ _ _ _ _ _ n3 n4 D2 pa pb (D2.R k).l k hlt2 ea eb rfl la lb _ HX2.out HO2.out (by omega)).mono ?_
                    rintro e w5 hsw
                    have hst := hsw.st (by omega) (by omega)
                    obtain ⟨rfl, hw5, D3, hs3, ho3, hx3⟩ := hsw
                    have hb := hst.2.1
                    have y3 := hb.size
                    have BB := Lib.hid (HB2.out.trans hb)
                    have LL := Lib.hid (HL2.out.wr hw5 (fun k' h1 h2 => by have := HA.out (by omega) k' h2; omega))
                    have YY := Lib.hid (HY2.out.below hb (by omega))
                    have S3 := Lib.hid hs3
                    have O3 := Lib.hid ho3
                    have X3 := Lib.hid hx3
                    clear hb hs3 ho3 hx3 hw5 hst hcl lgl hqq p0 p1 p2 p3 pf lp
                    go_wp2_with fail
                    go_roundw
                    case rel =>
                      refine ⟨k + 1, D3, by omega, by go_num, S3.out.trans ?_, O3.out, X3.out, BB.out, by omega, LL.out, YY.out⟩
                      have h3 := strR_sim HS2.out HSR.out hin
                      unfold strR at h3
                      rw [ta, tb] at h3
                      show SimD n3 n3 n3 n4 _ (if nthI xs k = (r : Int) then strR (stepC (shaC D n4 xs r) xs r k) ((shaC D n4 xs r).R k) else _)
                      rw [if_pos HQ.out, shaC_R]
                      exact h3
                    case measure => simp [intOf]; omega
                  · have hqq : (nthI xs k == (r : Int)) = false := by simpa using hq
                    have HQ := Lib.hid hq
                    clear hq
                    go_wp2_with fail
                    go_roundw
                    case rel =>
                      refine ⟨k + 1, D2, by omega, by go_num, ?_, HO2.out, HX2.out, HB2.out, hz2, HL2.out, HY2.out⟩
                      show SimD n3 n3 n3 n4 _ (if nthI xs k = (r : Int) then _ else stepC (shaC D n4 xs r) xs r k)
                      rw [if_neg HQ.out]
                      exact HS2.out
                    case measure => simp [intOf]; omega
                · obtain rfl : n4 = k := by omega
                  clear hS hO hX hB hL hY
                  go_wp2_with fail
                  go_roundw
                  case rel => exact ⟨r + 1, D2, by omega, by go_num, HS2.out, HO2.out, HX2.out, HB2.out, hz2, HL2.out, HY2.out⟩
                  case measure => simp [intOf]; omega
            · obtain rfl : a = r := by omega
              obtain ⟨wm, rfl⟩ : ∃ z : World, z = wr := ⟨wr, rfl⟩
              have XM := Lib.hid hX
              have VM := Lib.hid hY
              have BM := Lib.hid (show Below w.heap.size w wm from B3'.out.trans (hB.mono y0))
              have OM := Lib.hid hO
              have hmore := shaC_more D n4 xs a HLT.out (n4 - a)
              have SM := Lib.hid (show SimD n3 n3 n3 n4 D1 (shaD D n4) from by
                unfold shaD
                rw [colL_eq x1 X2.out]
                rw [show a + (n4 - a) = n4 by omega] at hmore
                rw [hmore]
                exact hS)
              have DM := Lib.hid hO.bds
              clear hX hY hB hO hS hL HS1 HO1 HX1 HB1 HL1 HY1 L3' XX3' O3' V3' B3' hmore
              obtain ⟨t0, t1, t2, t3, tf⟩ := XM.out.facts
              have lt := XM.out.lt
              go_wp2_with fail
              refine (spec_l03Give E1 E2 E3 E4 d1 d2 d3 d4 (n3) (n3) (n3) (n4) _ (D1) _ OM.out).mono ?_
              rintro e w4 ⟨rfl, hb4⟩
              have V4 := Lib.hid (VM.out.go hb4)
              have B4 := Lib.hid (below_step BM.out hb4)
              have O4 := Lib.hid (OM.out.go hb4)
              have D4_ := Lib.hid (DM.out.mono (Nat.le_refl _) hb4.size)
              clear hb4 t0 t1 t2 t3 tf lt VM BM OM DM
              obtain ⟨v0, v1, v2, v3, vf⟩ := V4.out.facts
              have lv := V4.out.lt
              rw [okC_sim SM.out]
              cases q3 : okC (n3) (n3) (n3) (n4) (shaD D n4)
              · unfold giveV
                go_wp2_with fail
                obtain ⟨r0, r1, r2, r3, rf⟩ := (V4.out.setAll sn sn sn sn).facts
                refine bodyPost_ret (v := .tuple #[.agg #[sn, sn, sn, sn], .bool false]) (by simp [results, Try.results72, go_sem, r0, r1, r2, r3]) rfl ?_
                rw [q3]
                exact ⟨rfl, Bx.bel B4.out (by omega) _ _ _ _⟩
              · unfold giveV
                have WF := Lib.hid (show Wr (fun k => k = w.heap.size + 1) w4 ((((w4.setCell ⟨w.heap.size + 1, 0, none⟩ (.slice E1 (n3) d1)).setCell ⟨w.heap.size + 1, 1, none⟩ (.slice E2 (n3) d2)).setCell ⟨w.heap.size + 1, 2, none⟩ (.slice E3 (n3) d3)).setCell ⟨w.heap.size + 1, 3, none⟩ (.slice E4 (n4) d4)) from by
                  refine Wr.setCell (Wr.setCell (Wr.setCell (Wr.setCell (Wr.refl _ _) ?_ _) ?_ _) ?_ _) ?_ _ <;> rfl)
                go_wp2_with fail
                obtain ⟨r0, r1, r2, r3, rf⟩ := (V4.out.setAll (.slice E1 (n3) d1) (.slice E2 (n3) d2) (.slice E3 (n3) d3) (.slice E4 (n4) d4)).facts
                refine bodyPost_ret (v := .tuple #[.agg #[.slice E1 (n3) d1, .slice E2 (n3) d2, .slice E3 (n3) d3, .slice E4 (n4) d4], .bool true]) (by simp [results, Try.results72, go_sem, r0, r1, r2, r3]) rfl ?_
                rw [q3]
                exact ⟨⟨E1, E2, E3, E4, d1, d2, d3, d4, D1, rfl, SM.out, (O4.out.off V4.out WF.out).mono y0, D4_.out.mono y0 WF.out.size⟩, Bx.bel B4.out (by omega) _ _ _ _⟩
end Go.Proofs.Ytlhgaihfghobmaa
