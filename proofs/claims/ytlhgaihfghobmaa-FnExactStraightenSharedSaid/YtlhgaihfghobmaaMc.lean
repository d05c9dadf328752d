/- The colours of the rods: contracts. -/
import Derived.Test.YtlhgaihfghobmaaMa
import Derived.Test.YtlhgaihfghobmaaRj
import Derived.BigRegion
namespace Go.Proofs.Ytlhgaihfghobmaa
open Go.ChangeShapes Go.WideShapes Go.ChangeAt Go.RowKit Go.Deep

/-! ### colours: each rod has the least number that no earlier rod with an end in common has -/
def cs (R : Nat → Rd) (j i : Nat) : Bool := (R j).a == (R i).a || ((R j).a == (R i).b || ((R j).b == (R i).a || (R j).b == (R i).b))
def IsC (R : Nat → Rd) (xs : List Int) : Prop := ∀ i, i < xs.length → ∃ c : Nat, nthI xs i = (c : Int) ∧ c ≤ i ∧ (∀ j, j < i → cs R j i = true → nthI xs j ≠ (c : Int)) ∧ ∀ d : Nat, d < c → ∃ j, j < i ∧ cs R j i = true ∧ nthI xs j = (d : Int)
theorem nthI_snoc_lt {xs : List Int} {c : Int} {j : Nat} (h : j < xs.length) : nthI (xs ++ [c]) j = nthI xs j := by
  unfold nthI List.getD
  rw [List.getElem?_append_left h]
theorem nthI_snoc (xs : List Int) (c : Int) : nthI (xs ++ [c]) xs.length = c := by
  unfold nthI List.getD
  rw [List.getElem?_append_right (Nat.le_refl _), Nat.sub_self]
  rfl
theorem IsC.nil (R : Nat → Rd) : IsC R [] := fun _ h => absurd h (Nat.not_lt_zero _)
theorem IsC.snoc {R : Nat → Rd} {xs : List Int} (h : IsC R xs) (c : Nat) (h1 : c ≤ xs.length) (h2 : ∀ j, j < xs.length → cs R j xs.length = true → nthI xs j ≠ (c : Int)) (h3 : ∀ d : Nat, d < c → ∃ j, j < xs.length ∧ cs R j xs.length = true ∧ nthI xs j = (d : Int)) : IsC R (xs ++ [(c : Int)]) := fun i hi => by
  rw [List.length_append] at hi
  by_cases hl : i < xs.length
  · obtain ⟨e, g1, g2, g3, g4⟩ := h i hl
    refine ⟨e, (nthI_snoc_lt hl).trans g1, g2, fun j hj hc => ?_, fun d hd => ?_⟩
    · rw [nthI_snoc_lt (show j < xs.length by omega)]
      exact g3 j hj hc
    · obtain ⟨j, a1, a2, a3⟩ := g4 d hd
      exact ⟨j, a1, a2, (nthI_snoc_lt (show j < xs.length by omega)).trans a3⟩
  · have hi2 : i < xs.length + 1 := hi
    obtain rfl : i = xs.length := by omega
    refine ⟨c, nthI_snoc _ _, h1, fun j hj hc => ?_, fun d hd => ?_⟩
    · rw [nthI_snoc_lt hj]
      exact h2 j hj hc
    · obtain ⟨j, a1, a2, a3⟩ := h3 d hd
      exact ⟨j, a1, a2, (nthI_snoc_lt a1).trans a3⟩
theorem IsC.at_ {R : Nat → Rd} {xs : List Int} (h : IsC R xs) {j : Nat} (hj : j < xs.length) : ∃ c : Nat, nthI xs j = (c : Int) ∧ c ≤ j := by
  obtain ⟨c, g1, g2, _⟩ := h j hj
  exact ⟨c, g1, g2⟩
theorem IsC.same_at {R : Nat → Rd} {xs ys : List Int} (h : IsC R xs) (h' : IsC R ys) (hl : xs.length = ys.length) : ∀ N i, i < N → i < xs.length → nthI xs i = nthI ys i
  | 0, _, hN, _ => absurd hN (Nat.not_lt_zero _)
  | N + 1, i, hN, hi => by
    obtain ⟨c, a1, a2, a3, a4⟩ := h i hi
    obtain ⟨d, e1, e2, e3, e4⟩ := h' i (by omega)
    have ih : ∀ j, j < i → nthI xs j = nthI ys j := fun j hj => IsC.same_at h h' hl N j (by omega) (by omega)
    rcases Nat.lt_trichotomy c d with hcd | hcd | hcd
    · obtain ⟨j, g1, g2, g3⟩ := e4 c hcd
      exact absurd ((ih j g1).trans g3) (a3 j g1 g2)
    · rw [a1, e1, hcd]
    · obtain ⟨j, g1, g2, g3⟩ := a4 d hcd
      exact absurd ((ih j g1).symm.trans g3) (e3 j g1 g2)
theorem IsC.same {R : Nat → Rd} {xs ys : List Int} (h : IsC R xs) (h' : IsC R ys) (hl : xs.length = ys.length) : xs = ys := by
  refine List.ext_getElem hl fun i h1 h2 => ?_
  have := IsC.same_at h h' hl (i + 1) i (by omega) h1
  simpa [nthI, List.getD, h1, h2] using this
theorem In.rods {w : World} {B n : Nat} {A : Option Addr} {R : Nat → Rd} (h : In w B 3 A n (rc R)) (hn : 0 < n) : ∃ b off, A = some ⟨b, off, none⟩ ∧ b < B ∧ ∀ k, k < n → w.cell? ⟨b, off + k * 3, none⟩ = some (.int .i64 (R k).a) ∧ w.cell? ⟨b, off + k * 3 + 1, none⟩ = some (.int .i64 (R k).b) ∧ w.cell? ⟨b, off + k * 3 + 2, none⟩ = some (.float .f32 (R k).l) := by
  obtain ⟨b, off, rfl, hb, hc⟩ := h hn
  refine ⟨b, off, rfl, hb, fun k hk => ⟨?_, ?_, ?_⟩⟩
  · rw [← rc0]; exact hc (k * 3) (by omega)
  · rw [← rc1]; exact hc (k * 3 + 1) (by omega)
  · rw [← rc2]; exact hc (k * 3 + 2) (by omega)
theorem Ow.put {W w1 wq : World} {C : Nat} {u v' : Value} {us : List Int} {x : Int} (hB : Below C wq W) (hC : C ≤ wq.heap.size) (hu : Ow W C u us) (h1 : w1.ownsRow C 2 1 v' (us.length + 1) (us.map (Value.int .i64) ++ [.int .i64 x])) (hg : W.grownBy w1 u.ownBlock) : Ow w1 C v' (us ++ [x]) ∧ Below C wq w1 := by
  refine ⟨?_, hB.grown hg (Nat.le_trans hC hB.size) (fun j hj => (hu.lt j hj).1)⟩
  unfold Ow
  rw [List.length_append, List.map_append]
  exact h1
theorem Ow.form {w : World} {B : Nat} {v : Value} {xs : List Int} (h : Ow w B v xs) (hx : 0 < xs.length) : ∃ g cap, v = .slice (some ⟨g, 0, none⟩) xs.length cap ∧ g < w.heap.size ∧ ∀ i, i < xs.length → w.cell? ⟨g, i, none⟩ = some (.int .i64 (nthI xs i)) := by
  rcases ow_form h with ⟨rfl, _⟩ | ⟨g, cap, _, rfl, _, hg, hc, _⟩
  · exact absurd hx (by simp)
  · exact ⟨g, cap, rfl, hg, hc⟩
theorem Ow.below' {w w' : World} {B C : Nat} {v : Value} {xs : List Int} (h : Ow w B v xs) (hb : Below C w w') (hC : w.heap.size ≤ C) : Ow w' B v xs := by
  refine ⟨h.1, ?_⟩
  rcases h.2 with hn | ⟨g, cap, cur, rfl, hB, hg, rest⟩
  · exact .inl hn
  · exact .inr ⟨g, cap, cur, rfl, hB, (hb.block g (Nat.lt_of_lt_of_le (Array.getElem?_eq_some_iff.1 hg).1 hC)).trans hg, rest⟩
/-- numbers taken by rods up to kk that share an end with rod i. -/
def Tk (R : Nat → Rd) (xs us : List Int) (i kk : Nat) : Prop := us.length ≤ kk ∧ (∀ j, j < us.length → ∃ q, q < i ∧ cs R q i = true ∧ nthI us j = nthI xs q) ∧ ∀ q, q < kk → cs R q i = true → ∃ j, j < us.length ∧ nthI us j = nthI xs q
theorem Tk.nil (R : Nat → Rd) (xs : List Int) (i : Nat) : Tk R xs [] i 0 := ⟨Nat.le_refl _, fun _ hj => absurd hj (Nat.not_lt_zero _), fun _ hq => absurd hq (Nat.not_lt_zero _)⟩
theorem Tk.put {R : Nat → Rd} {xs us : List Int} {i kk : Nat} (h : Tk R xs us i kk) (hk : kk < i) (hc : cs R kk i = true) : Tk R xs (us ++ [nthI xs kk]) i (kk + 1) := by
  refine ⟨by rw [List.length_append]; have := h.1; simp; omega, fun j hj => ?_, fun q hq hcq => ?_⟩
  · by_cases hl : j < us.length
    · rw [nthI_snoc_lt hl]; exact h.2.1 j hl
    · rw [List.length_append] at hj
      have hj2 : j < us.length + 1 := hj
      obtain rfl : j = us.length := by omega
      exact ⟨kk, hk, hc, nthI_snoc _ _⟩
  · by_cases hl : q < kk
    · obtain ⟨j, h1, h2⟩ := h.2.2 q hl hcq
      exact ⟨j, by rw [List.length_append]; omega, (nthI_snoc_lt h1).trans h2⟩
    · obtain rfl : q = kk := by omega
      exact ⟨us.length, by rw [List.length_append]; simp, nthI_snoc _ _⟩
theorem Tk.skip {R : Nat → Rd} {xs us : List Int} {i kk : Nat} (h : Tk R xs us i kk) (hc : cs R kk i = false) : Tk R xs us i (kk + 1) := by
  refine ⟨by have := h.1; omega, h.2.1, fun q hq hcq => ?_⟩
  by_cases hl : q < kk
  · exact h.2.2 q hl hcq
  · obtain rfl : q = kk := by omega
    rw [hc] at hcq
    exact absurd hcq (by simp)
def RetC (R : Nat → Rd) (m : Nat) (w : World) (e : Ending) (w' : World) : Prop := ∃ xs : List Int, xs.length = m ∧ IsC R xs ∧ RetI xs w e w'
set_option maxHeartbeats 1000000 in
theorem spec_l00Has (v : Value) (xs : List Int) (hn : xs.length ≤ 1048576) (x : Int) (w : World) (B : Nat) (h : Ow w B v xs) :
    Calls Try.prog 165 #[v, .int .i64 x] w (fun e w' => ∃ b n, e = .returned (.bool b) ∧ w' = w.drewN n ∧ (b = true ↔ ∃ j, j < xs.length ∧ nthI xs j = x)) := by
  have key : ∃ A cap, v = .slice A xs.length cap ∧ (0 < xs.length → ∃ g, A = some ⟨g, 0, none⟩ ∧ ∀ i, i < xs.length → w.cell? ⟨g, i, none⟩ = some (.int .i64 (nthI xs i))) := by
    rcases ow_form h with ⟨rfl, A, cap, rfl⟩ | ⟨g, cap, hx, rfl, hB, hg, hc, hf⟩
    · exact ⟨A, cap, rfl, fun h0 => absurd h0 (by simp)⟩
    · exact ⟨_, cap, rfl, fun _ => ⟨g, rfl, hc⟩⟩
  obtain ⟨A, cap, rfl, hcell⟩ := key
  have HC := Lib.hid hcell
  clear h hcell
  go_enter Try.func165, Try.ntmps165
  go_wp2_with fail
  go_loopw [5] (fun i wr => ∃ k n : Nat, k ≤ xs.length ∧ i = .int .i64 k ∧ wr = w.drewN n ∧ ∀ j, j < k → nthI xs j ≠ x) (fun i _ => xs.length - (intOf i).toNat)
  case atStart => exact ⟨0, 0, Nat.zero_le _, rfl, rfl, fun j hj => absurd hj (Nat.not_lt_zero _)⟩
  case round =>
    obtain ⟨k, n, hk, rfl, rfl, hno⟩ := hrel
    have HN := Lib.hid hno
    clear hno
    by_cases hlt : k < xs.length
    · obtain ⟨g, rfl, hc⟩ := HC.out (by omega)
      have hcx := hc k hlt
      have hk0 : (0 : Int) ≤ (k : Int) := by omega
      have hk1 : (k : Int) < (xs.length : Int) := by omega
      clear hc
      by_cases hq : nthI xs k = x
      · have hqq : (nthI xs k == x) = true := by simpa using hq
        have HQ := Lib.hid hq
        clear hq
        go_wp2_with fail
        go_ret
        exact ⟨true, n, rfl, rfl, fun _ => ⟨k, hlt, HQ.out⟩, fun _ => rfl⟩
      · have hqq : (nthI xs k == x) = false := by simpa using hq
        have HQ := Lib.hid hq
        clear hq
        go_wp2_with fail
        go_roundw
        case rel =>
          refine ⟨k + 1, n, by omega, by go_num, rfl, fun j hj => ?_⟩
          by_cases hjk : j = k
          · rw [hjk]; exact HQ.out
          · exact HN.out j (by omega)
        case measure => simp [intOf]; omega
    · obtain rfl : xs.length = k := by omega
      go_wp2_with fail
      go_ret
      exact ⟨false, n, rfl, rfl, fun h => (Bool.false_ne_true h).elim, fun ⟨j, h1, h2⟩ => absurd h2 (HN.out j h1)⟩
set_option maxHeartbeats 4000000 in
set_option maxRecDepth 100000 in
theorem spec_colours (g : Nat) (s1 s2 s3 : Value) (A : Option Addr) (c m : Nat) (R : Nat → Rd) (w : World) (hx : Bx w g 32 s1 s2 s3 (.slice A m c)) (hr : In w w.heap.size 3 A m (rc R)) (hm : m ≤ 40) :
    Calls Try.prog 120 #[.pointer (some ⟨g, 0, none⟩)] w (RetC R m w) := by
  have HX := Lib.hid hx
  have HR := Lib.hid hr
  have lg := hx.lt
  obtain ⟨p0, p1, p2, p3, pf⟩ := hx.facts
  clear hx hr
  obtain ⟨i0, hi, hz0, hz1, hz2⟩ := info_parts info64
  go_enter Try.func120, Try.ntmps120
  go_wp2_with fail
  go_loopw [3, 16] (fun v i wr => ∃ xs : List Int, IsC R xs ∧ xs.length ≤ m ∧ i = .int .i64 xs.length ∧ Ow wr w.heap.size v xs ∧ Below w.heap.size w wr) (fun _ i _ => m - (intOf i).toNat)
  case atStart => exact ⟨[], IsC.nil R, Nat.zero_le _, rfl, World.ownsRow_made w #[] 0 (Nat.le_refl _) (Nat.zero_le _) rfl, (by repeat' (first | with_reducible exact Below.refl _ _ | with_reducible assumption | with_reducible refine below_dn ?_ _ | with_reducible refine Below.drew ?_ | with_reducible refine below_step ?_ (by assumption) | with_reducible refine Below.setCell ?_ ?_ _ | with_reducible refine Below.alloc ?_ ?_ _ | with_reducible exact Nat.le_refl _ | (simp; done) | (simp; omega) | omega))⟩
  case round =>
    obtain ⟨xs, hC, hle, rfl, hown, hB⟩ := hrel
    have HC := Lib.hid hC
    have HO := Lib.hid hown
    have HB := Lib.hid hB
    by_cases hlt : xs.length < m
    · obtain ⟨b, off, rfl, lb, hcell⟩ := HR.out (by omega) |> fun _ => In.rods HR.out (by omega)
      obtain ⟨q0, q1, q2, q3, qf⟩ := (HX.out.below hB lg).facts
      obtain ⟨e0, e1, e2⟩ := hcell xs.length hlt
      have x0 := (hB.cell (p := ⟨b, off + xs.length * 3, none⟩) lb).trans e0
      have x1 := (hB.cell (p := ⟨b, off + xs.length * 3 + 1, none⟩) lb).trans e1
      have x2 := (hB.cell (p := ⟨b, off + xs.length * 3 + 2, none⟩) lb).trans e2
      have HCELL := Lib.hid hcell
      have sz := hB.size
      have hk0 : (0 : Int) ≤ (xs.length : Int) := by omega
      have hk1 : (xs.length : Int) < (m : Int) := by omega
      clear hC hown hB e0 e1 e2 hcell p0 p1 p2 p3 pf
      go_wp2_with fail
      rename World => wo
      go_loopw [6, 7] (fun v k wq => ∃ (us : List Int) (kk : Nat), kk ≤ xs.length ∧ k = .int .i64 kk ∧ Tk R xs us xs.length kk ∧ Ow wq (wo.heap.size + 1) v us ∧ Tx wq wo.heap.size 91 (.int .i64 (R xs.length).a) (.int .i64 (R xs.length).b) (.float .f32 (R xs.length).l) ∧ Below wo.heap.size wo wq) (fun _ k _ => xs.length - (intOf k).toNat)
      case atStart =>
        refine ⟨[], 0, Nat.zero_le _, rfl, Tk.nil R xs _, ?_, (Tx.new_ wo _ _ _ _).alloc _, (by repeat' (first | with_reducible exact Below.refl _ _ | with_reducible assumption | with_reducible refine below_dn ?_ _ | with_reducible refine Below.drew ?_ | with_reducible refine below_step ?_ (by assumption) | with_reducible refine Below.setCell ?_ ?_ _ | with_reducible refine Below.alloc ?_ ?_ _ | with_reducible exact Nat.le_refl _ | (simp; done) | (simp; omega) | omega))⟩
        have hm := World.ownsRow_made (base := wo.heap.size + 1) (e := 2) (size := 1) (wo.alloc (.cells #[.int .i64 (R xs.length).a, .int .i64 (R xs.length).b, .float .f32 (R xs.length).l] 91)) #[] 0 (by simp) (Nat.zero_le _) rfl
        unfold Ow
        simpa using hm
      case round =>
        obtain ⟨us, kk, hkk, rfl, htk, huo, htx, hbw⟩ := hrel
        have HTK := Lib.hid htk
        have HUO := Lib.hid huo
        have HTX := Lib.hid htx
        have HBW := Lib.hid hbw
        have hul := htk.1
        have lt2 := htx.lt
        by_cases hlt2 : kk < xs.length
        · obtain ⟨e0, e1, e2⟩ := HCELL.out kk (by omega)
          obtain ⟨go, co, rfl, lgo, hgo⟩ := HO.out.form (by omega)
          have lb2 : b < wo.heap.size := by omega
          have y0 := (hbw.cell (p := ⟨b, off + kk * 3, none⟩) lb2).trans ((HB.out.cell (p := ⟨b, off + kk * 3, none⟩) lb).trans e0)
          have y1 := (hbw.cell (p := ⟨b, off + kk * 3 + 1, none⟩) lb2).trans ((HB.out.cell (p := ⟨b, off + kk * 3 + 1, none⟩) lb).trans e1)
          have y2 := (hbw.cell (p := ⟨b, off + kk * 3 + 2, none⟩) lb2).trans ((HB.out.cell (p := ⟨b, off + kk * 3 + 2, none⟩) lb).trans e2)
          have lgo2 := Nat.lt_of_lt_of_le lgo hbw.size
          have yo := (hbw.cell (p := ⟨go, kk, none⟩) lgo).trans (hgo kk hlt2)
          obtain ⟨t0, t1, t2, tf⟩ := htx.facts
          obtain ⟨z0, z1, z2, z3, zf⟩ := ((HX.out.below HB.out lg).below hbw (by omega)).facts
          have hcs : cs R kk xs.length = ((R kk).a == (R xs.length).a || ((R kk).a == (R xs.length).b || ((R kk).b == (R xs.length).a || (R kk).b == (R xs.length).b))) := rfl
          have HCS := Lib.hid hcs
          have hj0 : (0 : Int) ≤ (kk : Int) := by omega
          have hj1 : (kk : Int) < (m : Int) := by omega
          have hj2 : (kk : Int) < (xs.length : Int) := by omega
          clear htk huo htx hbw e0 e1 e2 q0 q1 q2 q3 qf x0 x1 x2 hcs hgo
          go_wp2_with (at_builtin; refine wpList_append_own _ rfl _ _ 59 rfl (wo.heap.size + 1) 2 i0 (.int .i64 0) 1 8 Try.underlying59 hi hz0 hz1 hz2 rfl (by decide) _ _ _ rfl ((HUO.out.alloc _).alloc _) ⟨_, 0, none⟩ 1 1 [.int .i64 (nthI xs kk)] rfl rfl (fun j u hj => by match j, hj with | 0, hj => (simp at hj; subst hj; simp [Addr.add])) (fun u hu => by simp at hu; subst hu; rfl) (by unfold maxLen; omega) (by omega) (by simp; omega) ?_; intro v' w1 hown1 hgrow _)
          all_goals first
            | (go_roundw
               case rel => exact ⟨us, kk + 1, by omega, by go_num, HTK.out.skip (by have := HCS.out; grind), HUO.out.alloc _, HTX.out.alloc _, HBW.out.alloc (by omega) _⟩
               case measure => simp [intOf]; omega)
            | (have R1 := Ow.put (wq := _) (((Below.refl _ _).alloc (by omega) _).alloc (by simp; omega) _) (by omega) ((HUO.out.alloc _).alloc _) hown1 hgrow
               clear hown1 hgrow
               go_wp2_with fail
               go_roundw
               case rel => exact ⟨us ++ [nthI xs kk], kk + 1, by omega, by go_num, HTK.out.put hlt2 (by have := HCS.out; grind), R1.1, Rw.below HTX.out R1.2 (by omega), HBW.out.trans (R1.2.mono (by omega))⟩
               case measure => simp [intOf]; omega)
        · obtain rfl : xs.length = kk := by omega
          clear htk huo htx hbw q0 q1 q2 q3 qf x0 x1 x2
          go_wp2_with fail
          rename World => wi
          have szi := HBW.out.size
          go_loopw [9] (fun u wz => ∃ cc n : Nat, u = .int .i64 cc ∧ cc ≤ xs.length ∧ wz = wi.drewN n ∧ ∀ d : Nat, d < cc → ∃ q, q < xs.length ∧ cs R q xs.length = true ∧ nthI xs q = (d : Int)) (fun u _ => xs.length - (intOf u).toNat)
          case atStart => exact ⟨0, 0, rfl, Nat.zero_le _, rfl, fun d hd => absurd hd (Nat.not_lt_zero _)⟩
          case round =>
            obtain ⟨cc, n, rfl, hcc, rfl, hd⟩ := hrel
            have HD := Lib.hid hd
            clear hd
            go_wp2_with fail
            refine (spec_l00Has u6 us (by omega) (cc : Int) (wi.drewN n) (wo.heap.size + 1) (show Ow (wi.drewN n) (wo.heap.size + 1) u6 us from HUO.out)).mono ?_
            rintro e w5 ⟨bb, n5, rfl, rfl, hb⟩
            have H5 := Lib.hid hb
            clear hb
            cases bb
            · have HO5 := Lib.hid (Ow.below' HO.out (below_dn (below_dn HBW.out n) n5) (Nat.le_refl _))
              have hB5 : Below wi.heap.size wi ((wi.drewN n).drewN n5) := below_dn (below_dn (Below.refl _ _) _) _
              generalize (wi.drewN n).drewN n5 = wd at HO5 hB5 ⊢
              have sz5 := hB5.size
              go_wp2_with (at_builtin; refine wpList_append_own _ rfl _ _ 59 rfl w.heap.size 2 i0 (.int .i64 0) 1 8 Try.underlying59 hi hz0 hz1 hz2 rfl (by decide) _ _ _ rfl (HO5.out.alloc _) ⟨_, 0, none⟩ 1 1 [.int .i64 (cc : Int)] rfl rfl (fun j u hj => by match j, hj with | 0, hj => (simp at hj; subst hj; simp [Addr.add])) (fun u hu => by simp at hu; subst hu; rfl) (by unfold maxLen; omega) (by omega) (by simp; omega) ?_; intro v' w1 hown1 hgrow _)
              have R1 := Ow.put (wq := wi) (Below.alloc (hB5.mono (Nat.le_trans sz szi)) (Nat.le_trans (Nat.le_trans sz szi) sz5) _) (Nat.le_trans sz szi) (HO5.out.alloc _) hown1 hgrow
              clear hown1 hgrow
              go_wp2_with fail
              go_roundw
              case rel =>
                refine ⟨xs ++ [(cc : Int)], HC.out.snoc cc hcc (fun q hq hcq e => ?_) HD.out, by rw [List.length_append]; exact hlt, ?_, R1.1, (HB.out.trans (HBW.out.mono sz)).trans R1.2⟩
                · obtain ⟨j, j1, j2⟩ := HTK.out.2.2 q hq hcq
                  exact Bool.false_ne_true (H5.out.2 ⟨j, j1, j2.trans e⟩)
                · rw [List.length_append]
                  go_num
              case measure => simp [intOf]; omega
            · obtain ⟨j, j1, j2⟩ := H5.out.1 rfl
              obtain ⟨q, q1, q2, q3⟩ := HTK.out.2.1 j j1
              have hq := q3.symm.trans j2
              obtain ⟨cq, c1, c2⟩ := HC.out.at_ q1
              have hcq : (cq : Int) = (cc : Int) := c1.symm.trans hq
              have HQ := Lib.hid hq
              clear j2 q3 hq c1
              go_wp2_with fail
              go_roundw
              case rel =>
                refine ⟨cc + 1, n + n5, by go_num, by omega, rfl, fun d hd => ?_⟩
                by_cases hdc : d = cc
                · exact ⟨q, q1, q2, by rw [hdc]; exact HQ.out⟩
                · exact HD.out d (by omega)
              case measure => simp [intOf]; omega
    · obtain rfl : m = xs.length := by omega
      clear hC hown hB p0 p1 p2 p3 pf
      go_wp2_with fail
      go_ret
      exact ⟨xs, rfl, HC.out, _, rfl, HO.out, HB.out⟩
def boolN (v : Value) : Nat := match v with
  | .bool true => 1
  | _ => 0
set_option maxHeartbeats 4000000 in
set_option maxRecDepth 100000 in
theorem impl_colours (g : Nat) (s1 s2 s3 : Value) (A : Option Addr) (c m : Nat) (R : Nat → Rd) (w : World) (hx : Bx w g 32 s1 s2 s3 (.slice A m c)) (hr : In w w.heap.size 3 A m (rc R)) (hm : m ≤ 40) (hmc : m ≤ c) :
    Calls Try.prog 121 #[.pointer (some ⟨g, 0, none⟩)] w (RetC R m w) := by
  have HX := Lib.hid hx
  have HR := Lib.hid hr
  have lg := hx.lt
  obtain ⟨p0, p1, p2, p3, pf⟩ := hx.facts
  clear hx hr
  obtain ⟨i0, hi, hz0, hz1, hz2⟩ := info_parts info64
  go_enter Try.func121, Try.ntmps121
  go_wp2_with fail
  go_loopw [3, 17] (fun v i wr => ∃ xs : List Int, IsC R xs ∧ xs.length ≤ m ∧ i = .int .i64 xs.length ∧ Ow wr w.heap.size v xs ∧ Below w.heap.size w wr) (fun _ i _ => m - (intOf i).toNat)
  case atStart => exact ⟨[], IsC.nil R, Nat.zero_le _, rfl, World.ownsRow_made w #[] 0 (Nat.le_refl _) (Nat.zero_le _) rfl, (by repeat' (first | with_reducible exact Below.refl _ _ | with_reducible assumption | with_reducible refine below_dn ?_ _ | with_reducible refine Below.drew ?_ | with_reducible refine below_step ?_ (by assumption) | with_reducible refine Below.setCell ?_ ?_ _ | with_reducible refine Below.alloc ?_ ?_ _ | with_reducible exact Nat.le_refl _ | (simp; done) | (simp; omega) | omega))⟩
  case round =>
    obtain ⟨xs, hC, hle, rfl, hown, hB⟩ := hrel
    have HC := Lib.hid hC
    have HO := Lib.hid hown
    have HB := Lib.hid hB
    by_cases hlt : xs.length < m
    · obtain ⟨b, off, rfl, lb, hcell⟩ := In.rods HR.out (by omega)
      obtain ⟨e0, e1, e2⟩ := hcell xs.length hlt
      have x0 := (hB.cell (p := ⟨b, off + xs.length * 3, none⟩) lb).trans e0
      have x1 := (hB.cell (p := ⟨b, off + xs.length * 3 + 1, none⟩) lb).trans e1
      have x2 := (hB.cell (p := ⟨b, off + xs.length * 3 + 2, none⟩) lb).trans e2
      have HCELL := Lib.hid hcell
      have sz := hB.size
      have hk0 : (0 : Int) ≤ (xs.length : Int) := by omega
      have hk1 : (xs.length : Int) < (m : Int) := by omega
      have hk2 : (xs.length : Int) ≤ (c : Int) := by omega
      clear hC hown hB e0 e1 e2 hcell p0 p1 p2 p3 pf
      go_wp2_with fail
      rename World => wo
      go_loopw [6, 7] (fun u ag wq => ∃ (cc : Nat) (bb : Bool), u = .int .i64 cc ∧ ag = .bool bb ∧ cc ≤ xs.length ∧ (∀ d : Nat, d < cc → ∃ q, q < xs.length ∧ cs R q xs.length = true ∧ nthI xs q = (d : Int)) ∧ (bb = false → ∀ q, q < xs.length → cs R q xs.length = true → nthI xs q ≠ (cc : Int)) ∧ Tx wq wo.heap.size 91 (.int .i64 (R xs.length).a) (.int .i64 (R xs.length).b) (.float .f32 (R xs.length).l) ∧ Below wo.heap.size wo wq) (fun u ag _ => 2 * (xs.length - (intOf u).toNat) + boolN ag)
      case atStart => exact ⟨0, true, rfl, rfl, Nat.zero_le _, fun d hd => absurd hd (Nat.not_lt_zero _), fun h => absurd h (by simp), Tx.new_ wo _ _ _ _, (by repeat' (first | with_reducible exact Below.refl _ _ | with_reducible assumption | with_reducible refine below_dn ?_ _ | with_reducible refine Below.drew ?_ | with_reducible refine below_step ?_ (by assumption) | with_reducible refine Below.setCell ?_ ?_ _ | with_reducible refine Below.alloc ?_ ?_ _ | with_reducible exact Nat.le_refl _ | (simp; done) | (simp; omega) | omega))⟩
      case round =>
        obtain ⟨cc, bb, rfl, rfl, hcc, hd, hno, htx, hbw⟩ := hrel
        have HD := Lib.hid hd
        have HNO := Lib.hid hno
        have HTX := Lib.hid htx
        have HBW := Lib.hid hbw
        cases bb
        · have szi := HBW.out.size
          have HO5 := Lib.hid (Ow.below' HO.out HBW.out (Nat.le_refl _))
          clear hd hno htx hbw x0 x1 x2
          rename World => wi
          go_wp2_with (at_builtin; refine wpList_append_own _ rfl _ _ 59 rfl w.heap.size 2 i0 (.int .i64 0) 1 8 Try.underlying59 hi hz0 hz1 hz2 rfl (by decide) _ _ _ rfl (HO5.out.alloc _) ⟨_, 0, none⟩ 1 1 [.int .i64 (cc : Int)] rfl rfl (fun j u hj => by match j, hj with | 0, hj => (simp at hj; subst hj; simp [Addr.add])) (fun u hu => by simp at hu; subst hu; rfl) (by unfold maxLen; omega) (by omega) (by simp; omega) ?_; intro v' w1 hown1 hgrow _)
          have R1 := Ow.put (wq := wi) (Below.alloc (Below.refl _ _) (Nat.le_trans sz szi) _) (Nat.le_trans sz szi) (HO5.out.alloc _) hown1 hgrow
          clear hown1 hgrow
          go_wp2_with fail
          go_roundw
          case rel => exact ⟨xs ++ [(cc : Int)], HC.out.snoc cc hcc (HNO.out rfl) HD.out, by rw [List.length_append]; exact hlt, by rw [List.length_append]; go_num, R1.1, (HB.out.trans (HBW.out.mono sz)).trans R1.2⟩
          case measure => simp [intOf]; omega
        · have szi := hbw.size
          obtain ⟨z0, z1, z2, z3, zf⟩ := ((HX.out.below HB.out lg).below hbw (by omega)).facts
          clear hd hno htx hbw x0 x1 x2
          go_wp2_with fail
          rename World => wi
          go_loopw [6, 7, 30] (fun u ag k wz => ∃ (cz kk : Nat) (bz : Bool), u = .int .i64 cz ∧ ag = .bool bz ∧ k = .int .i64 kk ∧ kk ≤ xs.length ∧ cz ≤ xs.length ∧ (∀ d : Nat, d < cz → ∃ q, q < xs.length ∧ cs R q xs.length = true ∧ nthI xs q = (d : Int)) ∧ cc ≤ cz ∧ (bz = true → cc < cz) ∧ (bz = false → cz = cc) ∧ (bz = false → ∀ q, q < kk → cs R q xs.length = true → nthI xs q ≠ (cz : Int)) ∧ Tx wz wo.heap.size 91 (.int .i64 (R xs.length).a) (.int .i64 (R xs.length).b) (.float .f32 (R xs.length).l) ∧ Below wo.heap.size wo wz) (fun _ _ k _ => xs.length - (intOf k).toNat)
          case atStart => exact ⟨cc, 0, false, rfl, rfl, rfl, Nat.zero_le _, hcc, HD.out, Nat.le_refl _, fun h => absurd h (by simp), fun _ => rfl, fun _ q hq => absurd hq (Nat.not_lt_zero _), HTX.out, HBW.out⟩
          case round =>
            obtain ⟨cz, kk, bz, rfl, rfl, rfl, hkk, hcz, hdz, hcle, hb1, hb2, hnz, htz, hbz⟩ := hrel
            have HDZ := Lib.hid hdz
            have HB1 := Lib.hid hb1
            have HB2 := Lib.hid hb2
            have HNZ := Lib.hid hnz
            have HTZ := Lib.hid htz
            have HBZ := Lib.hid hbz
            clear z0 z1 z2 z3 zf
            by_cases hlt2 : kk < xs.length
            · obtain ⟨e0, e1, e2⟩ := HCELL.out kk (by omega)
              obtain ⟨go, co, rfl, lgo, hgo⟩ := HO.out.form (by omega)
              have lb2 : b < wo.heap.size := by omega
              have lgo2 := Nat.lt_of_lt_of_le lgo hbz.size
              have szz := hbz.size
              have y0 := (hbz.cell (p := ⟨b, off + kk * 3, none⟩) lb2).trans ((HB.out.cell (p := ⟨b, off + kk * 3, none⟩) lb).trans e0)
              have y1 := (hbz.cell (p := ⟨b, off + kk * 3 + 1, none⟩) lb2).trans ((HB.out.cell (p := ⟨b, off + kk * 3 + 1, none⟩) lb).trans e1)
              have y2 := (hbz.cell (p := ⟨b, off + kk * 3 + 2, none⟩) lb2).trans ((HB.out.cell (p := ⟨b, off + kk * 3 + 2, none⟩) lb).trans e2)
              have yo := (hbz.cell (p := ⟨go, kk, none⟩) lgo).trans (hgo kk hlt2)
              obtain ⟨t0, t1, t2, tf⟩ := htz.facts
              have lt2 := htz.lt
              have hcs : cs R kk xs.length = ((R kk).a == (R xs.length).a || ((R kk).a == (R xs.length).b || ((R kk).b == (R xs.length).a || (R kk).b == (R xs.length).b))) := rfl
              have HCS := Lib.hid hcs
              have hj0 : (0 : Int) ≤ (kk : Int) := by omega
              have hj1 : (kk : Int) < (m : Int) := by omega
              have hj2 : (kk : Int) < (xs.length : Int) := by omega
              clear hdz hb1 hb2 hnz htz hbz e0 e1 e2 hcs hgo
              by_cases hq : nthI xs kk = (cz : Int)
              · have hqq : (nthI xs kk == (cz : Int)) = true := by simpa using hq
                obtain ⟨ck, k1, k2⟩ := HC.out.at_ hlt2
                have k3 : (ck : Int) = (cz : Int) := k1.symm.trans hq
                have HQ := Lib.hid hq
                clear hq k1
                go_wp2_with fail
                all_goals first
                  | (go_roundw
                     case rel => exact ⟨cz, kk + 1, bz, rfl, rfl, by go_num, by omega, hcz, HDZ.out, hcle, HB1.out, HB2.out, fun hf q hq1 hq2 => by
                       by_cases hqk : q = kk
                       · have := HCS.out
                         rw [hqk] at hq2
                         grind
                       · exact HNZ.out hf q (by omega) hq2, HTZ.out.alloc _, HBZ.out.alloc (by omega) _⟩
                     case measure => simp [intOf]; omega)
                  | (go_roundw
                     case rel => exact ⟨cz + 1, kk + 1, true, by go_num, rfl, by go_num, by omega, by omega, fun d hd => by
                       by_cases hdz : d = cz
                       · exact ⟨kk, hlt2, (by have := HCS.out; grind), by rw [hdz]; exact HQ.out⟩
                       · exact HDZ.out d (by omega), by omega, fun _ => by omega, fun h => absurd h (by simp), fun h => absurd h (by simp), HTZ.out.alloc _, HBZ.out.alloc (by omega) _⟩
                     case measure => simp [intOf]; omega)
              · have hqq : (nthI xs kk == (cz : Int)) = false := by simpa using hq
                have HQ := Lib.hid hq
                clear hq
                go_wp2_with fail
                all_goals go_roundw
                all_goals first
                  | exact ⟨cz, kk + 1, bz, rfl, rfl, by go_num, by omega, hcz, HDZ.out, hcle, HB1.out, HB2.out, fun hf q hq1 hq2 => by
                      by_cases hqk : q = kk
                      · rw [hqk]; exact HQ.out
                      · exact HNZ.out hf q (by omega) hq2, HTZ.out.alloc _, HBZ.out.alloc (by omega) _⟩
                  | (simp [intOf]; omega)
            · obtain rfl : xs.length = kk := by omega
              clear hdz hb1 hb2 hnz htz hbz
              cases bz
              · obtain rfl := HB2.out rfl
                go_wp2_with fail
                go_roundw
                case rel => exact ⟨cz, false, rfl, rfl, hcz, HDZ.out, HNZ.out, HTZ.out, HBZ.out⟩
                case measure => simp [boolN]
              · have hlc := HB1.out rfl
                go_wp2_with fail
                go_roundw
                case rel => exact ⟨cz, true, rfl, rfl, hcz, HDZ.out, fun h => absurd h (by simp), HTZ.out, HBZ.out⟩
                case measure => simp [intOf, boolN]; omega
    · obtain rfl : m = xs.length := by omega
      clear hC hown hB p0 p1 p2 p3 pf
      go_wp2_with fail
      go_ret
      exact ⟨xs, rfl, HC.out, _, rfl, HO.out, HB.out⟩
end Go.Proofs.Ytlhgaihfghobmaa
