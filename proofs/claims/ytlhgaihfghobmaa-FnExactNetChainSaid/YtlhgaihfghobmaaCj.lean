/- Which chains are valid: the reference. -/
import Derived.Test.YtlhgaihfghobmaaCi
namespace Go.Proofs.Ytlhgaihfghobmaa
open Go.ChangeShapes Go.WideShapes Go.ChangeAt Go.RowKit Go.Deep

def szB (n1 n2 n3 n4 : Nat) : Bool := decide (n1 ≤ 24) && decide (n2 = n1) && decide (n3 = n1) && decide (n4 ≤ 40)
def vwB (D : D4) (i : Nat) : Bool := finV (D.P i) && finV (D.B i) && lvl (D.W i)
def rdB (n : Nat) (r : Rd) : Bool := inI r.a 0 ((n : Int) - 1) && inI r.b 0 ((n : Int) - 1) && !(r.a == r.b) && lvl r.l
def allB (k : Nat) (f : Nat → Bool) : Bool := (List.range k).all f
theorem allB_succ (k : Nat) (f : Nat → Bool) : allB (k + 1) f = (allB k f && f k) := by
  unfold allB
  rw [List.range_succ, List.all_append]
  simp
theorem allB_iff {k : Nat} {f : Nat → Bool} : allB k f = true ↔ ∀ i, i < k → f i = true := by
  unfold allB
  rw [List.all_eq_true]
  exact ⟨fun h i hi => h i (List.mem_range.2 hi), fun h i hi => h i (List.mem_range.1 hi)⟩
theorem allB_false {k n : Nat} {f : Nat → Bool} (h : f k = false) (hk : k < n) : allB n f = false := by
  cases e : allB n f
  · rfl
  · rw [allB_iff.1 e k hk] at h; cases h
theorem allB_congr {k : Nat} {f g : Nat → Bool} (h : ∀ i, i < k → f i = g i) : allB k f = allB k g := by
  rw [Bool.eq_iff_iff, allB_iff, allB_iff]
  exact ⟨fun a i hi => by rw [← h i hi]; exact a i hi, fun a i hi => by rw [h i hi]; exact a i hi⟩
def okC (n1 n2 n3 n4 : Nat) (D : D4) : Bool := szB n1 n2 n3 n4 && allB n1 (vwB D) && allB n4 (fun i => rdB n1 (D.R i))
theorem rdB_sim {n : Nat} {r s : Rd} (h : SimR r s) : rdB n r = rdB n s := by unfold rdB; rw [h.1, h.2.1, lvl_sim h.2.2]
theorem okC_sim {n1 n2 n3 n4 : Nat} {D E : D4} (h : SimD n1 n2 n3 n4 D E) : okC n1 n2 n3 n4 D = okC n1 n2 n3 n4 E := by
  unfold okC
  cases hz : szB n1 n2 n3 n4
  · rw [Bool.false_and, Bool.false_and, Bool.false_and, Bool.false_and]
  · have hz' := hz
    unfold szB at hz'
    simp only [Bool.and_eq_true, decide_eq_true_eq] at hz'
    obtain ⟨⟨⟨_, e2⟩, e3⟩, _⟩ := hz'
    rw [allB_congr (f := vwB D) (g := vwB E) (fun i hi => by unfold vwB; rw [finV_sim (h.1 i hi), finV_sim (h.2.1 i (by omega)), lvl_sim (h.2.2.1 i (by omega))]),
      allB_congr (f := fun i => rdB n1 (D.R i)) (g := fun i => rdB n1 (E.R i)) (fun i hi => rdB_sim (h.2.2.2 i hi))]
theorem spec_l03Is_sz (a : Nat) (A1 A2 A3 A4 : Option Addr) (c1 c2 c3 c4 n1 n2 n3 n4 : Nat) (w : World) (hz : szB n1 n2 n3 n4 = false) (hp : Bx w a 32 (.slice A1 n1 c1) (.slice A2 n2 c2) (.slice A3 n3 c3) (.slice A4 n4 c4)) :
    Calls Try.prog 77 #[.pointer (some ⟨a, 0, none⟩)] w (RetV (.bool false) w) := by
  obtain ⟨p0, p1, p2, p3, pf⟩ := hp.facts
  by_cases h1 : n1 ≤ 24
  · by_cases h2 : n2 = n1
    · subst h2
      by_cases h3 : n3 = n2
      · subst h3
        have h4 : 40 < n4 := by
          unfold szB at hz
          simp at hz
          omega
        have g1 : ¬ ((24 : Int) < (n3 : Int)) := by omega
        have g4 : ((40 : Int) < (n4 : Int)) := by omega
        have g5 : ((n3 : Int) != (n3 : Int)) = false := by simp
        clear hz
        go_enter Try.func77, Try.ntmps77
        go_wp2
        go_ret
        exact ⟨rfl, (by repeat' (first | with_reducible exact Below.refl _ _ | with_reducible assumption | with_reducible refine below_dn ?_ _ | with_reducible refine Below.drew ?_ | with_reducible refine below_step ?_ (by assumption) | with_reducible refine Below.setCell ?_ ?_ _ | with_reducible refine Below.alloc ?_ ?_ _ | with_reducible exact Nat.le_refl _ | (simp; done) | (simp; omega) | omega))⟩
      · have g1 : ¬ ((24 : Int) < (n2 : Int)) := by omega
        have g5 : ((n2 : Int) != (n2 : Int)) = false := by simp
        have g6 : ((n3 : Int) != (n2 : Int)) = true := by simp; omega
        clear hz
        go_enter Try.func77, Try.ntmps77
        go_wp2
        go_ret
        exact ⟨rfl, (by repeat' (first | with_reducible exact Below.refl _ _ | with_reducible assumption | with_reducible refine below_dn ?_ _ | with_reducible refine Below.drew ?_ | with_reducible refine below_step ?_ (by assumption) | with_reducible refine Below.setCell ?_ ?_ _ | with_reducible refine Below.alloc ?_ ?_ _ | with_reducible exact Nat.le_refl _ | (simp; done) | (simp; omega) | omega))⟩
    · have g1 : ¬ ((24 : Int) < (n1 : Int)) := by omega
      have g5 : ((n2 : Int) != (n1 : Int)) = true := by simp; omega
      clear hz
      go_enter Try.func77, Try.ntmps77
      go_wp2
      go_ret
      exact ⟨rfl, (by repeat' (first | with_reducible exact Below.refl _ _ | with_reducible assumption | with_reducible refine below_dn ?_ _ | with_reducible refine Below.drew ?_ | with_reducible refine below_step ?_ (by assumption) | with_reducible refine Below.setCell ?_ ?_ _ | with_reducible refine Below.alloc ?_ ?_ _ | with_reducible exact Nat.le_refl _ | (simp; done) | (simp; omega) | omega))⟩
  · have g1 : ((24 : Int) < (n1 : Int)) := by omega
    clear hz
    go_enter Try.func77, Try.ntmps77
    go_wp2
    go_ret
    exact ⟨rfl, (by repeat' (first | with_reducible exact Below.refl _ _ | with_reducible assumption | with_reducible refine below_dn ?_ _ | with_reducible refine Below.drew ?_ | with_reducible refine below_step ?_ (by assumption) | with_reducible refine Below.setCell ?_ ?_ _ | with_reducible refine Below.alloc ?_ ?_ _ | with_reducible exact Nat.le_refl _ | (simp; done) | (simp; omega) | omega))⟩
set_option maxHeartbeats 4000000 in
theorem spec_l03Is_at (a : Nat) (A1 A2 A3 A4 : Option Addr) (c1 c2 c3 c4 n m B : Nat) (D : D4) (w : World) (h1 : n ≤ 24) (h4 : m ≤ 40) (hp : Bx w a 32 (.slice A1 n c1) (.slice A2 n c2) (.slice A3 n c3) (.slice A4 m c4)) (h : Own w B A1 A2 A3 A4 c1 c2 c3 c4 n n n m D) :
    Calls Try.prog 77 #[.pointer (some ⟨a, 0, none⟩)] w (RetV (.bool (allB n (vwB D) && allB m (fun i => rdB n (D.R i)))) w) := by
  have HP := Lib.hid hp
  have H := Lib.hid h
  obtain ⟨p0, p1, p2, p3, pf⟩ := hp.facts
  have g1 : ¬ ((24 : Int) < (n : Int)) := by omega
  have g4 : ¬ ((40 : Int) < (m : Int)) := by omega
  have g5 : ((n : Int) != (n : Int)) = false := by simp
  clear hp h
  go_enter Try.func77, Try.ntmps77
  go_wp2
  clear p0 p1 p2 p3 pf
  go_loopw [45] (fun i wr => ∃ k : Nat, k ≤ n ∧ i = .int .i64 k ∧ allB k (vwB D) = true ∧ Below w.heap.size w wr) (fun i _ => n - (intOf i).toNat)
  case atStart => exact ⟨0, Nat.zero_le _, rfl, rfl, (by repeat' (first | with_reducible exact Below.refl _ _ | with_reducible assumption | with_reducible refine below_dn ?_ _ | with_reducible refine Below.drew ?_ | with_reducible refine below_step ?_ (by assumption) | with_reducible refine Below.setCell ?_ ?_ _ | with_reducible refine Below.alloc ?_ ?_ _ | with_reducible exact Nat.le_refl _ | (simp; done) | (simp; omega) | omega))⟩
  case round =>
    obtain ⟨k, hk, rfl, hall, hB⟩ := hrel
    have HB := Lib.hid hB
    have HA := Lib.hid hall
    obtain ⟨p0, p1, p2, p3, pf⟩ := (HP.out.go hB).facts
    have la := (HP.out.go hB).lt
    by_cases hlt : k < n
    · obtain ⟨b1, off1, rfl, l1, d0, d1, d2⟩ := (H.out.s1.go hB).in_.at3 hlt
      obtain ⟨b2, off2, rfl, l2, e0, e1, e2⟩ := (H.out.s2.go hB).in_.at3 hlt
      obtain ⟨b3, off3, rfl, l3, hc3⟩ := (H.out.s3.go hB).in_ (by omega)
      have i0 := hc3 k (by omega)
      rw [vc0] at d0 e0
      rw [vc1] at d1 e1
      rw [vc2] at d2 e2
      unfold fc at i0
      have hk0 : (0 : Int) ≤ (k : Int) := by omega
      have hk1 : (k : Int) < (n : Int) := by omega
      have HS := Lib.hid (allB_succ k (vwB D))
      have HF := Lib.hid (fun h => @allB_false k n (vwB D) h hlt)
      have hv : vwB D k = (finV (D.P k) && finV (D.B k) && lvl (D.W k)) := rfl
      have HV := Lib.hid hv
      clear hB hall hc3 hv
      cases q1 : finV (D.P k) <;> cases q2 : finV (D.B k) <;> cases q3 : lvl (D.W k)
      all_goals
        have hq := HV.out
        rw [q1, q2, q3] at hq
        have HQ := Lib.hid hq
        have r1 : finV ⟨(D.P k).x, (D.P k).y, (D.P k).z⟩ = _ := q1
        have r2 : finV ⟨(D.B k).x, (D.B k).y, (D.B k).z⟩ = _ := q2
        clear q1 q2 hq
        have hb0 := HB.out
        go_wp2_with (first | (go_at_call 100; refine (spec_l01VFinite _ _ _ _).mono ?_; rintro e w1 ⟨rfl, hb1⟩; obtain ⟨hc1, hf1⟩ := bcell hb1; have hz1 := hb1.size; have la := Nat.lt_of_lt_of_le la hz1; have l1 := Nat.lt_of_lt_of_le l1 hz1; have l2 := Nat.lt_of_lt_of_le l2 hz1; have l3 := Nat.lt_of_lt_of_le l3 hz1; have hb0 := below_step hb0 hb1; clear hb1) | (go_at_call 151; refine (spec_l03Least _ _).mono ?_; rintro e w1 ⟨rfl, nq, rfl⟩))
        first
          | (go_roundw
             case rel => exact ⟨k + 1, by omega, by go_num, by rw [HS.out, HA.out, HQ.out]; rfl, below_dn hb0 _⟩
             case measure => simp [intOf]; omega)
          | (go_ret
             first
               | exact retV_bool (by rw [HF.out HQ.out, Bool.false_and]) hb0
               | exact retV_bool (by rw [HF.out HQ.out, Bool.false_and]) (below_dn hb0 _))
    · have hke : k = n := by omega
      subst hke
      clear hB hall
      go_wp2
      clear p0 p1 p2 p3 pf la
      go_loopw [85] (fun i wr => ∃ j : Nat, j ≤ m ∧ i = .int .i64 j ∧ allB j (fun i => rdB k (D.R i)) = true ∧ Below w.heap.size w wr) (fun i _ => m - (intOf i).toNat)
      case atStart => exact ⟨0, Nat.zero_le _, rfl, rfl, HB.out⟩
      case round =>
        obtain ⟨j, hj, rfl, hall2, hB2⟩ := hrel
        have HB2 := Lib.hid hB2
        have HA2 := Lib.hid hall2
        obtain ⟨p0, p1, p2, p3, pf⟩ := (HP.out.go hB2).facts
        have la := (HP.out.go hB2).lt
        by_cases hlt2 : j < m
        · obtain ⟨b4, off4, rfl, l4, d0, d1, d2⟩ := (H.out.s4.go hB2).in_.at3 hlt2
          rw [rc0] at d0
          rw [rc1] at d1
          rw [rc2] at d2
          have hk0 : (0 : Int) ≤ (j : Int) := by omega
          have hk1 : (j : Int) < (m : Int) := by omega
          have hk2 : (k : Int) ≤ 24 := by omega
          have hk3 : (0 : Int) ≤ (k : Int) := by omega
          have HS := Lib.hid (allB_succ j (fun i => rdB k (D.R i)))
          have HF := Lib.hid (fun h => @allB_false j m (fun i => rdB k (D.R i)) h hlt2)
          have hv : rdB k (D.R j) = (inI (D.R j).a 0 ((k : Int) - 1) && inI (D.R j).b 0 ((k : Int) - 1) && !((D.R j).a == (D.R j).b) && lvl (D.R j).l) := rfl
          have HV := Lib.hid hv
          clear hB2 hall2 hv
          cases q1 : inI (D.R j).a 0 ((k : Int) - 1) <;> cases q2 : inI (D.R j).b 0 ((k : Int) - 1) <;> cases q3 : ((D.R j).a == (D.R j).b) <;> cases q4 : lvl (D.R j).l
          all_goals
            have hq := HV.out
            rw [q1, q2, q3, q4] at hq
            have HQ := Lib.hid hq
            clear hq
            go_wp2_with (first | (go_at_call 104; refine (spec_l00In _ _ _ _).mono ?_; rintro e w1 ⟨rfl, n1, rfl⟩) | (go_at_call 151; refine (spec_l03Least _ _).mono ?_; rintro e w1 ⟨rfl, nq, rfl⟩))
            have hb0 := HB2.out
            have hz0 := hb0.size
            first
              | (go_roundw
                 case rel => exact ⟨j + 1, by omega, by go_num, by rw [HS.out, HA2.out, HQ.out]; rfl, (by repeat' (first | with_reducible exact Below.refl _ _ | with_reducible assumption | with_reducible refine below_dn ?_ _ | with_reducible refine Below.drew ?_ | with_reducible refine below_step ?_ (by assumption) | with_reducible refine Below.setCell ?_ ?_ _ | with_reducible refine Below.alloc ?_ ?_ _ | with_reducible exact Nat.le_refl _ | (simp; done) | (simp; omega) | omega))⟩
                 case measure => simp [intOf]; omega)
              | (go_ret
                 exact retV_bool (by rw [HF.out HQ.out, Bool.and_false]) (by repeat' (first | with_reducible exact Below.refl _ _ | with_reducible assumption | with_reducible refine below_dn ?_ _ | with_reducible refine Below.drew ?_ | with_reducible refine below_step ?_ (by assumption) | with_reducible refine Below.setCell ?_ ?_ _ | with_reducible refine Below.alloc ?_ ?_ _ | with_reducible exact Nat.le_refl _ | (simp; done) | (simp; omega) | omega)))
        · have hje : j = m := by omega
          subst hje
          clear hB2 hall2
          go_wp2
          go_ret
          exact retV_bool (by rw [HA.out, HA2.out]; rfl) HB2.out
theorem spec_l03Is (a : Nat) (A1 A2 A3 A4 : Option Addr) (c1 c2 c3 c4 n1 n2 n3 n4 B : Nat) (D : D4) (w : World) (hp : Bx w a 32 (.slice A1 n1 c1) (.slice A2 n2 c2) (.slice A3 n3 c3) (.slice A4 n4 c4)) (h : Own w B A1 A2 A3 A4 c1 c2 c3 c4 n1 n2 n3 n4 D) :
    Calls Try.prog 77 #[.pointer (some ⟨a, 0, none⟩)] w (RetV (.bool (okC n1 n2 n3 n4 D)) w) := by
  unfold okC
  cases hz : szB n1 n2 n3 n4
  · exact spec_l03Is_sz a A1 A2 A3 A4 c1 c2 c3 c4 n1 n2 n3 n4 w hz hp
  · unfold szB at hz
    simp only [Bool.and_eq_true, decide_eq_true_eq] at hz
    obtain ⟨⟨⟨h1, rfl⟩, rfl⟩, h4⟩ := hz
    exact spec_l03Is_at a A1 A2 A3 A4 c1 c2 c3 c4 _ n4 B D w h1 h4 hp h
end Go.Proofs.Ytlhgaihfghobmaa
