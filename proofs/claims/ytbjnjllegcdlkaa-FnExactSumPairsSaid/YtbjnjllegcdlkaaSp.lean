/- Contracts of the sum by halves, which calls itself. -/
import Derived.Test.YtbjnjllegcdlkaaSm
import Derived.Deep.RegionWith
namespace Go.Proofs.Ytbjnjllegcdlkaa
open Go.ChangeShapes Go.WideShapes Go.ChangeAt Go.RowKit Go.Deep

/-- the sum of both halves; n bounds how deep it goes. -/
def F.pairs : Nat → List Nat → Nat
  | 0, _ => 0
  | n + 1, xs => if xs.length = 0 then 0 else if xs.length = 1 then nth xs 0 else F.add (F.pairs n (xs.take ((xs.length + 1) / 2))) (F.pairs n (xs.drop ((xs.length + 1) / 2)))

theorem FlAt.take {W : World} {B : Nat} {A : Option Addr} {xs : List Nat} (h : FlAt W B A xs) (k : Nat) : FlAt W B A (xs.take k) := fun hx => by
  have hk : k ≠ 0 := by rintro rfl; simp at hx
  have hl : 0 < xs.length := by simp at hx; omega
  obtain ⟨b, off, rfl, hlt, hc⟩ := h hl
  refine ⟨b, off, rfl, hlt, fun i hi => ?_⟩
  have hi' : i < k ∧ i < xs.length := by
    rw [List.length_take] at hi
    omega
  rw [hc i hi'.2]
  simp [nth, List.getD, hi'.1]
theorem FlAt.drop {W : World} {B : Nat} {b off : Nat} {xs : List Nat} (h : FlAt W B (some ⟨b, off, none⟩) xs) (k : Nat) : FlAt W B (some ⟨b, off + k, none⟩) (xs.drop k) := fun hx => by
  have hl : k < xs.length := by simp at hx; omega
  obtain ⟨b', off', he, hlt, hc⟩ := h (by omega)
  injection he with he
  injection he with e1 e2
  subst e1 e2
  refine ⟨b, off + k, rfl, hlt, fun i hi => ?_⟩
  have hi' : k + i < xs.length := by simp at hi; omega
  have := hc (k + i) hi'
  rw [← Nat.add_assoc] at this
  rw [this]
  simp [nth, List.getD]

set_option maxHeartbeats 1000000 in
theorem spec_l01SumPairs : ∀ (d : Nat) (A : Option Addr) (cap : Nat) (xs : List Nat) (w : World) (B : Nat), xs.length ≤ d → xs.length ≤ 256 → xs.length ≤ cap → cap ≤ maxLen → FlAt w B A xs → ((∀ x ∈ xs, x < 4294967296)) →
    Calls Try.prog 65 #[.slice A xs.length cap] w (RetFQ .f32 (F.pairs d xs) w) := by
  intro d
  induction d with
  | zero =>
    intro A cap xs w B hd h256 hcap hmax h hok
    have h0 : xs = [] := List.eq_nil_of_length_eq_zero (by omega)
    subst h0
    clear h hd h256 hok
    show Calls Try.prog 65 #[.slice A 0 cap] w (RetFQ .f32 0 w)
    go_enter Try.func65, Try.ntmps65
    go_wp2_with fail
    go_ret
    exact retFQ0 (by decide) (Sim.refl _ _) w
  | succ d ih =>
    intro A cap xs w B hd h256 hcap hmax h hok
    by_cases h0 : xs.length = 0
    · have hx0 : xs = [] := List.eq_nil_of_length_eq_zero h0
      subst hx0
      clear h hd h256 hok ih h0
      show Calls Try.prog 65 #[.slice A 0 cap] w (RetFQ .f32 0 w)
      go_enter Try.func65, Try.ntmps65
      go_wp2_with fail
      go_ret
      exact retFQ0 (by decide) (Sim.refl _ _) w
    · obtain ⟨b, off, rfl, hb, hc⟩ := h (by omega)
      by_cases h1 : xs.length = 1
      · have hcx : w.cell? ⟨b, off, none⟩ = some (.float .f32 (nth xs 0)) := by have := hc 0 (by omega); simpa using this
        have hv := Lib.hid (show F.pairs (d + 1) xs = nth xs 0 by unfold F.pairs; rw [if_neg h0, if_pos h1])
        have hlt : nth xs 0 < 4294967296 := by
          unfold nth List.getD
          cases hk : xs[0]? with
          | none => simp
          | some v => simpa using hok v (List.mem_of_getElem? hk)
        have h1' : (xs.length : Int) = 1 := by omega
        rw [h1]
        clear h hc ih hd h256 hok h0 h1 h1'
        go_enter Try.func65, Try.ntmps65
        go_wp2_with fail
        go_ret
        exact retFQ0 hlt (by rw [hv.out]; exact Sim.refl _ _) w
      · have hl : (xs.take ((xs.length + 1) / 2)).length = (xs.length + 1) / 2 := by rw [List.length_take]; omega
        have hr : (xs.drop ((xs.length + 1) / 2)).length = xs.length - (xs.length + 1) / 2 := by rw [List.length_drop]
        have hc2 : 1 ≤ (xs.length + 1) / 2 := by omega
        have hc3 : (xs.length + 1) / 2 < xs.length := by omega
        have h0' : ((xs.length : Int) == 0) = false := by rw [beq_eq_false_iff_ne]; omega
        have h1' : ((xs.length : Int) == 1) = false := by rw [beq_eq_false_iff_ne]; omega
        have hok1 : ∀ x ∈ xs.take ((xs.length + 1) / 2), x < 4294967296 := fun x hx => hok x (List.mem_of_mem_take hx)
        have hok2 : ∀ x ∈ xs.drop ((xs.length + 1) / 2), x < 4294967296 := fun x hx => hok x (List.mem_of_mem_drop hx)
        have IHL := Lib.hid (show ∀ W : World, FlAt W B (some ⟨b, off, none⟩) xs → Calls Try.prog 65 #[.slice (some ⟨b, off, none⟩) ((xs.length + 1) / 2) cap] W (RetFQ .f32 (F.pairs d (xs.take ((xs.length + 1) / 2))) W) from fun W hW => by
          have hh := ih (some ⟨b, off, none⟩) cap (xs.take ((xs.length + 1) / 2)) W B (by omega) (by omega) (by omega) hmax (hW.take _) hok1
          rw [hl] at hh
          exact hh)
        have IHR := Lib.hid (show ∀ W : World, FlAt W B (some ⟨b, off, none⟩) xs → Calls Try.prog 65 #[.slice (some ⟨b, off + (xs.length + 1) / 2, none⟩) (xs.length - (xs.length + 1) / 2) (cap - (xs.length + 1) / 2)] W (RetFQ .f32 (F.pairs d (xs.drop ((xs.length + 1) / 2))) W) from fun W hW => by
          have hh := ih (some ⟨b, off + (xs.length + 1) / 2, none⟩) (cap - (xs.length + 1) / 2) (xs.drop ((xs.length + 1) / 2)) W B (by omega) (by omega) (by omega) (by omega) (hW.drop _) hok2
          rw [hr] at hh
          exact hh)
        have hv := Lib.hid (show F.pairs (d + 1) xs = F.add (F.pairs d (xs.take ((xs.length + 1) / 2))) (F.pairs d (xs.drop ((xs.length + 1) / 2))) by
          show (if xs.length = 0 then 0 else if xs.length = 1 then nth xs 0 else F.add (F.pairs d (xs.take ((xs.length + 1) / 2))) (F.pairs d (xs.drop ((xs.length + 1) / 2)))) = _
          rw [if_neg h0, if_neg h1])
        have HF := Lib.hid h
        clear ih h hc hl hr h0 h1 hok hok1 hok2
        unfold maxLen at hmax
        generalize hP1 : F.pairs d (xs.take ((xs.length + 1) / 2)) = P1 at IHL hv
        generalize hP2 : F.pairs d (xs.drop ((xs.length + 1) / 2)) = P2 at IHR hv
        clear hP1 hP2
        obtain ⟨h, hh⟩ : ∃ h, h = (xs.length + 1) / 2 := ⟨_, rfl⟩
        rw [← hh] at IHL IHR hc2 hc3
        have hq : ((xs.length : Int) + 1) / 2 = (h : Int) := by omega
        have hi1 : (h : Int) ≤ (xs.length : Int) := by omega
        have hi2 : (h : Int) ≤ (cap : Int) := by omega
        have hi3 : ¬ cap = h := by omega
        clear hh
        go_enter Try.func65, Try.ntmps65
        go_wp2_with fail
        go_region_with (first | (go_at_call_of 65 (Value.slice (some ⟨b, off, none⟩) h cap); refine (IHL.out _ (by exact HF.out)).mono ?_; rintro e w' ⟨r, n, rfl, hr, hs, rfl⟩) | (go_at_call_of 65 (Value.slice (some ⟨b, off + h, none⟩) (xs.length - h) (cap - h)); refine (IHR.out _ (by exact HF.out)).mono ?_; rintro e w' ⟨r', n', rfl, hr', hs', rfl⟩))
        all_goals
          go_wp2
          go_ret
          exact retFQ (opV_lt _ _ _ _ _ _) (by rw [hv.out]; exact add_sim hs hs' _ _) w _
set_option maxHeartbeats 1000000 in
theorem impl_sumPairs : ∀ (d : Nat) (A : Option Addr) (cap : Nat) (xs : List Nat) (w : World) (B : Nat), xs.length ≤ d → xs.length ≤ 256 → xs.length ≤ cap → cap ≤ maxLen → FlAt w B A xs → ((∀ x ∈ xs, x < 4294967296)) →
    Calls Try.prog 66 #[.slice A xs.length cap] w (RetFQ .f32 (F.pairs d xs) w) := by
  intro d
  induction d with
  | zero =>
    intro A cap xs w B hd h256 hcap hmax h hok
    have h0 : xs = [] := List.eq_nil_of_length_eq_zero (by omega)
    subst h0
    clear h hd h256 hok
    show Calls Try.prog 66 #[.slice A 0 cap] w (RetFQ .f32 0 w)
    go_enter Try.func66, Try.ntmps66
    go_wp2_with fail
    go_ret
    exact retFQ0 (by decide) (Sim.refl _ _) w
  | succ d ih =>
    intro A cap xs w B hd h256 hcap hmax h hok
    by_cases h0 : xs.length = 0
    · have hx0 : xs = [] := List.eq_nil_of_length_eq_zero h0
      subst hx0
      clear h hd h256 hok ih h0
      show Calls Try.prog 66 #[.slice A 0 cap] w (RetFQ .f32 0 w)
      go_enter Try.func66, Try.ntmps66
      go_wp2_with fail
      go_ret
      exact retFQ0 (by decide) (Sim.refl _ _) w
    · obtain ⟨b, off, rfl, hb, hc⟩ := h (by omega)
      by_cases h1 : xs.length = 1
      · have hcx : w.cell? ⟨b, off, none⟩ = some (.float .f32 (nth xs 0)) := by have := hc 0 (by omega); simpa using this
        have hv := Lib.hid (show F.pairs (d + 1) xs = nth xs 0 by unfold F.pairs; rw [if_neg h0, if_pos h1])
        have hlt : nth xs 0 < 4294967296 := by
          unfold nth List.getD
          cases hk : xs[0]? with
          | none => simp
          | some v => simpa using hok v (List.mem_of_getElem? hk)
        have h1' : (xs.length : Int) = 1 := by omega
        rw [h1]
        clear h hc ih hd h256 hok h0 h1 h1'
        go_enter Try.func66, Try.ntmps66
        go_wp2_with fail
        go_ret
        exact retFQ0 hlt (by rw [hv.out]; exact Sim.refl _ _) w
      · have hl : (xs.take ((xs.length + 1) / 2)).length = (xs.length + 1) / 2 := by rw [List.length_take]; omega
        have hr : (xs.drop ((xs.length + 1) / 2)).length = xs.length - (xs.length + 1) / 2 := by rw [List.length_drop]
        have hc2 : 1 ≤ (xs.length + 1) / 2 := by omega
        have hc3 : (xs.length + 1) / 2 < xs.length := by omega
        have h0' : ((xs.length : Int) == 0) = false := by rw [beq_eq_false_iff_ne]; omega
        have h1' : ((xs.length : Int) == 1) = false := by rw [beq_eq_false_iff_ne]; omega
        have hok1 : ∀ x ∈ xs.take ((xs.length + 1) / 2), x < 4294967296 := fun x hx => hok x (List.mem_of_mem_take hx)
        have hok2 : ∀ x ∈ xs.drop ((xs.length + 1) / 2), x < 4294967296 := fun x hx => hok x (List.mem_of_mem_drop hx)
        have IHL := Lib.hid (show ∀ W : World, FlAt W B (some ⟨b, off, none⟩) xs → Calls Try.prog 66 #[.slice (some ⟨b, off, none⟩) ((xs.length + 1) / 2) cap] W (RetFQ .f32 (F.pairs d (xs.take ((xs.length + 1) / 2))) W) from fun W hW => by
          have hh := ih (some ⟨b, off, none⟩) cap (xs.take ((xs.length + 1) / 2)) W B (by omega) (by omega) (by omega) hmax (hW.take _) hok1
          rw [hl] at hh
          exact hh)
        have IHR := Lib.hid (show ∀ W : World, FlAt W B (some ⟨b, off, none⟩) xs → Calls Try.prog 66 #[.slice (some ⟨b, off + (xs.length + 1) / 2, none⟩) (xs.length - (xs.length + 1) / 2) (cap - (xs.length + 1) / 2)] W (RetFQ .f32 (F.pairs d (xs.drop ((xs.length + 1) / 2))) W) from fun W hW => by
          have hh := ih (some ⟨b, off + (xs.length + 1) / 2, none⟩) (cap - (xs.length + 1) / 2) (xs.drop ((xs.length + 1) / 2)) W B (by omega) (by omega) (by omega) (by omega) (hW.drop _) hok2
          rw [hr] at hh
          exact hh)
        have hv := Lib.hid (show F.pairs (d + 1) xs = F.add (F.pairs d (xs.take ((xs.length + 1) / 2))) (F.pairs d (xs.drop ((xs.length + 1) / 2))) by
          show (if xs.length = 0 then 0 else if xs.length = 1 then nth xs 0 else F.add (F.pairs d (xs.take ((xs.length + 1) / 2))) (F.pairs d (xs.drop ((xs.length + 1) / 2)))) = _
          rw [if_neg h0, if_neg h1])
        have HF := Lib.hid h
        clear ih h hc hl hr h0 h1 hok hok1 hok2
        unfold maxLen at hmax
        generalize hP1 : F.pairs d (xs.take ((xs.length + 1) / 2)) = P1 at IHL hv
        generalize hP2 : F.pairs d (xs.drop ((xs.length + 1) / 2)) = P2 at IHR hv
        clear hP1 hP2
        obtain ⟨h, hh⟩ : ∃ h, h = (xs.length + 1) / 2 := ⟨_, rfl⟩
        rw [← hh] at IHL IHR hc2 hc3
        have hq : ((xs.length : Int) + 1) / 2 = (h : Int) := by omega
        have hi1 : (h : Int) ≤ (xs.length : Int) := by omega
        have hi2 : (h : Int) ≤ (cap : Int) := by omega
        have hi3 : ¬ cap = h := by omega
        clear hh
        go_enter Try.func66, Try.ntmps66
        go_wp2_with fail
        go_region_with (first | (go_at_call_of 66 (Value.slice (some ⟨b, off, none⟩) h cap); refine (IHL.out _ (by exact HF.out)).mono ?_; rintro e w' ⟨r, n, rfl, hr, hs, rfl⟩) | (go_at_call_of 66 (Value.slice (some ⟨b, off + h, none⟩) (xs.length - h) (cap - h)); refine (IHR.out _ (by exact HF.out)).mono ?_; rintro e w' ⟨r', n', rfl, hr', hs', rfl⟩))
        all_goals
          go_wp2
          go_ret
          exact retFQ (opV_lt _ _ _ _ _ _) (by rw [hv.out]; exact add_sim hs hs' _ _) w _

def F.pairsV (xs : List Nat) : Nat := if xs.length ≤ 256 then F.pairs 256 xs else 0
theorem spec_SumPairs (A : Option Addr) (cap : Nat) (xs : List Nat) (hn : xs.length ≤ 1048576) (hcap : xs.length ≤ cap) (hmax : cap ≤ maxLen) (hok : ∀ x ∈ xs, x < 4294967296) (w : World) (B : Nat) (h : FlAt w B A xs) :
    Calls Try.prog 40 #[.slice A xs.length cap] w (RetFB .f32 (F.pairsV xs) (few xs) w) := by
  by_cases hf : xs.length ≤ 256
  · have e1 := Lib.hid (show F.pairsV xs = F.pairs 256 xs by unfold F.pairsV; rw [if_pos hf])
    have e2 := Lib.hid (show few xs = true from decide_eq_true hf)
    have hf' : (xs.length : Int) ≤ 256 := by omega
    have C := Lib.hid (fun W (hW : FlAt W B A xs) => spec_l01SumPairs 256 A cap xs W B hf hf hcap hmax hW hok)
    have H := Lib.hid h
    clear h hf hok hmax hcap
    go_enter Try.func40, Try.ntmps40
    go_wp2_with (first | (go_at_call 65; refine (C.out _ (by exact H.out)).mono ?_; rintro e w' ⟨r, n, rfl, hl, hs, rfl⟩) | (go_at_call 56; go_in))
    go_ret2
    exact retFB hl (by rw [e1.out]; exact hs) e2.out.symm w n
  · have e1 := Lib.hid (show F.pairsV xs = 0 by unfold F.pairsV; rw [if_neg hf])
    have e2 := Lib.hid (show few xs = false from decide_eq_false hf)
    have hf' : decide ((xs.length : Int) ≤ 256) = false := decide_eq_false (by omega)
    clear h hf hok hmax hcap
    go_enter Try.func40, Try.ntmps40
    go_wp2
    go_ret2
    exact retFB0 (by decide) (by rw [e1.out]; exact Sim.refl _ _) e2.out.symm w
theorem impl_SumPairs (A : Option Addr) (cap : Nat) (xs : List Nat) (hn : xs.length ≤ 1048576) (hcap : xs.length ≤ cap) (hmax : cap ≤ maxLen) (hok : ∀ x ∈ xs, x < 4294967296) (w : World) (B : Nat) (h : FlAt w B A xs) :
    Calls Try.prog 41 #[.slice A xs.length cap] w (RetFB .f32 (F.pairsV xs) (few xs) w) := by
  by_cases hf : xs.length ≤ 256
  · have e1 := Lib.hid (show F.pairsV xs = F.pairs 256 xs by unfold F.pairsV; rw [if_pos hf])
    have e2 := Lib.hid (show few xs = true from decide_eq_true hf)
    have hf' : (xs.length : Int) ≤ 256 := by omega
    have C := Lib.hid (fun W (hW : FlAt W B A xs) => impl_sumPairs 256 A cap xs W B hf hf hcap hmax hW hok)
    have H := Lib.hid h
    clear h hf hok hmax hcap
    go_enter Try.func41, Try.ntmps41
    go_wp2_with (first | (go_at_call 66; refine (C.out _ (by exact H.out)).mono ?_; rintro e w' ⟨r, n, rfl, hl, hs, rfl⟩) | (go_at_call 58; go_in))
    go_ret2
    exact retFB hl (by rw [e1.out]; exact hs) e2.out.symm w n
  · have e1 := Lib.hid (show F.pairsV xs = 0 by unfold F.pairsV; rw [if_neg hf])
    have e2 := Lib.hid (show few xs = false from decide_eq_false hf)
    have hf' : decide ((xs.length : Int) ≤ 256) = false := decide_eq_false (by omega)
    clear h hf hok hmax hcap
    go_enter Try.func41, Try.ntmps41
    go_wp2
    go_ret2
    exact retFB0 (by decide) (by rw [e1.out]; exact Sim.refl _ _) e2.out.symm w
end Go.Proofs.Ytbjnjllegcdlkaa
