/- Which chains are valid: the program's ValidChain, the reference's. -/
import Derived.Test.YtlhgaihfghobmaaCk
namespace Go.Proofs.Ytlhgaihfghobmaa
open Go.ChangeShapes Go.WideShapes Go.ChangeAt Go.RowKit Go.Deep

theorem impl_ValidChain1 (a : Nat) (A1 : Option Addr) (n c1 : Nat) (ra rb : Int) (l : Nat) (hn : n ≤ 1048576) (w : World) (h : w.cell? ⟨a, 0, none⟩ = some (.slice A1 n c1)) (ha : a < w.heap.size) :
    Calls Try.prog 86 #[.agg #[.int .i64 ra, .int .i64 rb, .float .f32 l], .pointer (some ⟨a, 0, none⟩)] w (RetV (.bool (!rdB n ⟨ra, rb, l⟩)) w) := by
  go_enter Try.func86, Try.ntmps86
  go_wp2_with fail
  refine (impl_rodOk a A1 n c1 ra rb l hn _ ?h0 ?h1).mono ?_
  case h0 => rw [World.cell?_alloc_lt _ _ _ ha]; exact h
  case h1 => simp; omega
  rintro e w' ⟨rfl, hb⟩
  go_wp2_with fail
  go_ret
  exact ⟨rfl, (by repeat' (first | with_reducible exact Below.refl _ _ | with_reducible assumption | with_reducible refine below_dn ?_ _ | with_reducible refine Below.drew ?_ | with_reducible refine below_step ?_ (by assumption) | with_reducible refine Below.setCell ?_ ?_ _ | with_reducible refine Below.alloc ?_ ?_ _ | with_reducible exact Nat.le_refl _ | (simp; done) | (simp; omega) | omega))⟩
set_option maxHeartbeats 1000000 in
theorem indexFunc_rod (a : Nat) (A1 : Option Addr) (n c1 : Nat) (A : Option Addr) (m c : Nat) (r : Nat → Rd) (hn : n ≤ 1048576) (hm : m ≤ 1048576) (w : World) (h1 : w.cell? ⟨a, 0, none⟩ = some (.slice A1 n c1)) (ha : a < w.heap.size) (h : In w w.heap.size 3 A m (rc r)) :
    Calls Try.prog 156 #[.slice A m c, .func (.func 86) #[] #[.pointer (some ⟨a, 0, none⟩)]] w (IxB m (fun i => rdB n (r i)) w) := by
  have H := Lib.hid h
  have H1 := Lib.hid h1
  clear h h1
  go_enter Try.func156, Try.ntmps156
  go_wp2
  go_loopw [8] (fun i wr => ∃ k : Nat, k ≤ m ∧ i = .int .i64 k ∧ allB k (fun i => rdB n (r i)) = true ∧ Below w.heap.size w wr) (fun i _ => m - (intOf i).toNat)
  case atStart => exact ⟨0, Nat.zero_le _, rfl, rfl, (by repeat' (first | with_reducible exact Below.refl _ _ | with_reducible assumption | with_reducible refine below_dn ?_ _ | with_reducible refine Below.drew ?_ | with_reducible refine below_step ?_ (by assumption) | with_reducible refine Below.setCell ?_ ?_ _ | with_reducible refine Below.alloc ?_ ?_ _ | with_reducible exact Nat.le_refl _ | (simp; done) | (simp; omega) | omega))⟩
  case round =>
    obtain ⟨k, hk, rfl, hall, hB⟩ := hrel
    have HA := Lib.hid hall
    have HB := Lib.hid hB
    by_cases hlt : k < m
    · obtain ⟨b, off, rfl, hb, d0, d1, d2⟩ := (H.out.below (Nat.le_refl _) hB).at3 hlt
      rw [rc0] at d0
      rw [rc1] at d1
      rw [rc2] at d2
      have e1 := (hB.cell (p := ⟨a, 0, none⟩) ha).trans H1.out
      have ha1 : a < wr.heap.size := Nat.lt_of_lt_of_le ha hB.size
      have E1 := Lib.hid e1
      have hk0 : (0 : Int) ≤ (k : Int) := by omega
      have hk1 : (k : Int) < (m : Int) := by omega
      have HT := Lib.hid (allB_succ k (fun i => rdB n (r i)))
      clear hB hall e1
      cases hf : rdB n (r k)
      all_goals
        have hc := impl_ValidChain1 a A1 n c1 (r k).a (r k).b (r k).l hn
        have hf' : rdB n ⟨(r k).a, (r k).b, (r k).l⟩ = _ := hf
        rw [hf'] at hc
        have HC := Lib.hid hc
        have HF := Lib.hid hf
        clear hc hf hf'
        go_wp2_with (go_at_call 86; refine (HC.out _ E1.out ha1).mono ?_; rintro e w1 ⟨rfl, hb1⟩; have HB1 := Lib.hid hb1; clear hb1)
        first
          | (go_roundw
             case rel => exact ⟨k + 1, by omega, by go_num, by rw [HT.out, HA.out, HF.out]; rfl, below_step HB.out HB1.out⟩
             case measure => simp [intOf]; omega)
          | (go_ret
             exact ⟨_, rfl, (nn k).trans (not_all hlt HF.out).symm, below_step HB.out HB1.out⟩)
    · have hke : k = m := by omega
      subst hke
      clear hB hall
      go_wp2
      go_ret
      exact ⟨_, rfl, by rw [HA.out]; rfl, HB.out⟩
theorem impl_ValidChain_sz (A1 A2 A3 A4 : Option Addr) (c1 c2 c3 c4 n1 n2 n3 n4 : Nat) (w : World) (hz : szB n1 n2 n3 n4 = false) :
    Calls Try.prog 26 #[.agg #[.slice A1 n1 c1, .slice A2 n2 c2, .slice A3 n3 c3, .slice A4 n4 c4]] w (RetV (.bool false) w) := by
  by_cases h1 : n1 ≤ 24
  · by_cases h2 : n2 = n1
    · subst h2
      by_cases h3 : n3 = n2
      · subst h3
        have h4 : 40 < n4 := by
          unfold szB at hz
          simp at hz
          omega
        have g1 : ¬ ((24 : Int) < (n3 : Int)) := by omega
        have g4 : ((40 : Int) < (n4 : Int)) := by omega
        have g5 : ((n3 : Int) != (n3 : Int)) = false := by simp
        clear hz
        go_enter Try.func26, Try.ntmps26
        go_wp2
        go_ret
        exact ⟨rfl, (by repeat' (first | with_reducible exact Below.refl _ _ | with_reducible assumption | with_reducible refine below_dn ?_ _ | with_reducible refine Below.drew ?_ | with_reducible refine below_step ?_ (by assumption) | with_reducible refine Below.setCell ?_ ?_ _ | with_reducible refine Below.alloc ?_ ?_ _ | with_reducible exact Nat.le_refl _ | (simp; done) | (simp; omega) | omega))⟩
      · have g1 : ¬ ((24 : Int) < (n2 : Int)) := by omega
        have g5 : ((n2 : Int) != (n2 : Int)) = false := by simp
        have g6 : ((n3 : Int) != (n2 : Int)) = true := by simp; omega
        clear hz
        go_enter Try.func26, Try.ntmps26
        go_wp2
        go_ret
        exact ⟨rfl, (by repeat' (first | with_reducible exact Below.refl _ _ | with_reducible assumption | with_reducible refine below_dn ?_ _ | with_reducible refine Below.drew ?_ | with_reducible refine below_step ?_ (by assumption) | with_reducible refine Below.setCell ?_ ?_ _ | with_reducible refine Below.alloc ?_ ?_ _ | with_reducible exact Nat.le_refl _ | (simp; done) | (simp; omega) | omega))⟩
    · have g1 : ¬ ((24 : Int) < (n1 : Int)) := by omega
      have g5 : ((n2 : Int) != (n1 : Int)) = true := by simp; omega
      clear hz
      go_enter Try.func26, Try.ntmps26
      go_wp2
      go_ret
      exact ⟨rfl, (by repeat' (first | with_reducible exact Below.refl _ _ | with_reducible assumption | with_reducible refine below_dn ?_ _ | with_reducible refine Below.drew ?_ | with_reducible refine below_step ?_ (by assumption) | with_reducible refine Below.setCell ?_ ?_ _ | with_reducible refine Below.alloc ?_ ?_ _ | with_reducible exact Nat.le_refl _ | (simp; done) | (simp; omega) | omega))⟩
  · have g1 : ((24 : Int) < (n1 : Int)) := by omega
    clear hz
    go_enter Try.func26, Try.ntmps26
    go_wp2
    go_ret
    exact ⟨rfl, (by repeat' (first | with_reducible exact Below.refl _ _ | with_reducible assumption | with_reducible refine below_dn ?_ _ | with_reducible refine Below.drew ?_ | with_reducible refine below_step ?_ (by assumption) | with_reducible refine Below.setCell ?_ ?_ _ | with_reducible refine Below.alloc ?_ ?_ _ | with_reducible exact Nat.le_refl _ | (simp; done) | (simp; omega) | omega))⟩
theorem allB_vw (n : Nat) (D : D4) : allB n (vwB D) = (allB n (fun i => finV (D.P i)) && allB n (fun i => finV (D.B i)) && allB n (fun i => lvl (D.W i))) := by
  rw [Bool.eq_iff_iff, Bool.and_eq_true, Bool.and_eq_true, allB_iff, allB_iff, allB_iff, allB_iff]
  unfold vwB
  constructor
  · intro h
    refine ⟨⟨fun i hi => ?_, fun i hi => ?_⟩, fun i hi => ?_⟩
    · have := h i hi; simp only [Bool.and_eq_true] at this; exact this.1.1
    · have := h i hi; simp only [Bool.and_eq_true] at this; exact this.1.2
    · have := h i hi; simp only [Bool.and_eq_true] at this; exact this.2
  · rintro ⟨⟨h1, h2⟩, h3⟩ i hi
    rw [h1 i hi, h2 i hi, h3 i hi]; rfl
set_option maxHeartbeats 4000000 in
theorem impl_ValidChain_at (A1 A2 A3 A4 : Option Addr) (c1 c2 c3 c4 n m B : Nat) (D : D4) (w : World) (h1 : n ≤ 24) (h4 : m ≤ 40) (h : Own w B A1 A2 A3 A4 c1 c2 c3 c4 n n n m D) :
    Calls Try.prog 26 #[.agg #[.slice A1 n c1, .slice A2 n c2, .slice A3 n c3, .slice A4 m c4]] w (RetV (.bool (allB n (fun i => finV (D.P i)) && allB n (fun i => finV (D.B i)) && allB n (fun i => lvl (D.W i)) && allB m (fun i => rdB n (D.R i)))) w) := by
  have H := Lib.hid h
  have g1 : ¬ ((24 : Int) < (n : Int)) := by omega
  have g4 : ¬ ((40 : Int) < (m : Int)) := by omega
  have g5 : ((n : Int) != (n : Int)) = false := by simp
  have kn : n ≤ 1048576 := by omega
  have km : m ≤ 1048576 := by omega
  clear h
  cases q1 : allB n (fun i => finV (D.P i)) <;> cases q2 : allB n (fun i => finV (D.B i)) <;> cases q3 : allB n (fun i => lvl (D.W i))
  all_goals
    have Q1 := Lib.hid q1
    have Q2 := Lib.hid q2
    have Q3 := Lib.hid q3
    clear q1 q2 q3
    have hP : Bx (w.alloc (.cells #[.slice A1 n c1, .slice A2 n c2, .slice A3 n c3, .slice A4 m c4] 32)) w.heap.size 32 (.slice A1 n c1) (.slice A2 n c2) (.slice A3 n c3) (.slice A4 m c4) := Bx.new_ w _ _ _ _ _
    have hb0 : Below w.heap.size w (w.alloc (.cells #[.slice A1 n c1, .slice A2 n c2, .slice A3 n c3, .slice A4 m c4] 32)) := (by repeat' (first | with_reducible exact Below.refl _ _ | with_reducible assumption | with_reducible refine below_dn ?_ _ | with_reducible refine Below.drew ?_ | with_reducible refine below_step ?_ (by assumption) | with_reducible refine Below.setCell ?_ ?_ _ | with_reducible refine Below.alloc ?_ ?_ _ | with_reducible exact Nat.le_refl _ | (simp; done) | (simp; omega) | omega))
    go_enter Try.func26, Try.ntmps26
    go_wp2_with (first
      | (go_at_call 81; go_in)
      | (go_at_call 83; go_in)
      | (go_at_call 153; (with_reducible refine (indexFunc_vec A1 n c1 D.P kn _ (H.out.s1.go hb0).in_).mono ?_); rintro e w1 ⟨r, rfl, hr, hb1⟩; rw [Q1.out] at hr; obtain ⟨p0, p1, p2, p3, pf⟩ := (hP.go hb1).facts; have hP := hP.go hb1; have hb0 := below_step hb0 hb1; clear hb1)
      | (go_at_call 153; (with_reducible refine (indexFunc_vec A2 n c2 D.B kn _ (H.out.s2.go hb0).in_).mono ?_); rintro e w1 ⟨r, rfl, hr, hb1⟩; rw [Q2.out] at hr; obtain ⟨p0, p1, p2, p3, pf⟩ := (hP.go hb1).facts; have hP := hP.go hb1; have hb0 := below_step hb0 hb1; clear hb1)
      | (go_at_call 154; (with_reducible refine (indexFunc_lvl A3 n c3 D.W kn _ (H.out.s3.go hb0).in_).mono ?_); rintro e w1 ⟨r, rfl, hr, hb1⟩; rw [Q3.out] at hr; obtain ⟨p0, p1, p2, p3, pf⟩ := (hP.go hb1).facts; have hP := hP.go hb1; have hb0 := below_step hb0 hb1; clear hb1)
      | (go_at_call 85; go_in)
      | (go_at_call 156; (with_reducible refine (indexFunc_rod w.heap.size A1 n c1 A4 m c4 D.R kn km _ hP.c0 hP.lt (H.out.s4.go hb0).in_).mono ?_); rintro e w1 ⟨r, rfl, hr, hb1⟩; have HR := Lib.hid hr; clear hr; have hb0 := below_step hb0 hb1; clear hb1))
    go_ret
    first
      | exact ⟨rfl, hb0⟩
      | exact retV_bool (by rw [HR.out, Bool.not_not]; rfl) hb0
theorem impl_ValidChain (A1 A2 A3 A4 : Option Addr) (c1 c2 c3 c4 n1 n2 n3 n4 B : Nat) (D : D4) (w : World) (h : Own w B A1 A2 A3 A4 c1 c2 c3 c4 n1 n2 n3 n4 D) :
    Calls Try.prog 26 #[.agg #[.slice A1 n1 c1, .slice A2 n2 c2, .slice A3 n3 c3, .slice A4 n4 c4]] w (RetV (.bool (okC n1 n2 n3 n4 D)) w) := by
  unfold okC
  cases hz : szB n1 n2 n3 n4
  · exact impl_ValidChain_sz A1 A2 A3 A4 c1 c2 c3 c4 n1 n2 n3 n4 w hz
  · unfold szB at hz
    simp only [Bool.and_eq_true, decide_eq_true_eq] at hz
    obtain ⟨⟨⟨h1, rfl⟩, rfl⟩, h4⟩ := hz
    rw [allB_vw, Bool.true_and]
    exact impl_ValidChain_at A1 A2 A3 A4 c1 c2 c3 c4 _ n4 B D w h1 h4 h
theorem spec_ValidChain (A1 A2 A3 A4 : Option Addr) (c1 c2 c3 c4 n1 n2 n3 n4 B : Nat) (D : D4) (w : World) (h : Own w B A1 A2 A3 A4 c1 c2 c3 c4 n1 n2 n3 n4 D) :
    Calls Try.prog 24 #[.agg #[.slice A1 n1 c1, .slice A2 n2 c2, .slice A3 n3 c3, .slice A4 n4 c4]] w (RetV (.bool (okC n1 n2 n3 n4 D)) w) := by
  go_enter Try.func24, Try.ntmps24
  go_wp2_with fail
  refine (spec_l03Is w.heap.size A1 A2 A3 A4 c1 c2 c3 c4 n1 n2 n3 n4 B D _ (Bx.new_ w _ _ _ _ _) (h.go (by repeat' (first | with_reducible exact Below.refl _ _ | with_reducible assumption | with_reducible refine below_dn ?_ _ | with_reducible refine Below.drew ?_ | with_reducible refine below_step ?_ (by assumption) | with_reducible refine Below.setCell ?_ ?_ _ | with_reducible refine Below.alloc ?_ ?_ _ | with_reducible exact Nat.le_refl _ | (simp; done) | (simp; omega) | omega)))).mono ?_
  rintro e w1 ⟨rfl, hb1⟩
  go_wp2_with fail
  go_ret
  exact ⟨rfl, (by repeat' (first | with_reducible exact Below.refl _ _ | with_reducible assumption | with_reducible refine below_dn ?_ _ | with_reducible refine Below.drew ?_ | with_reducible refine below_step ?_ (by assumption) | with_reducible refine Below.setCell ?_ ?_ _ | with_reducible refine Below.alloc ?_ ?_ _ | with_reducible exact Nat.le_refl _ | (simp; done) | (simp; omega) | omega))⟩
end Go.Proofs.Ytlhgaihfghobmaa
