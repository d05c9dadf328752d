/- Whether all numbers of a list are finite: the program's finite. -/
import Derived.Test.YtojkdlidcmfkeaaAg
import Derived.Test.YtojkdlidcmfkeaaSl
import Derived.Test.YtojkdlidcmfkeaaSq
namespace Go.Proofs.Ytojkdlidcmfkeaa
open Go.ChangeShapes Go.WideShapes Go.ChangeAt Go.RowKit Go.Deep

def FinIx (xs : List Nat) (w : World) (e : Ending) (w' : World) : Prop := ∃ (r : Int) (n : Nat), e = .returned (.int .i64 r) ∧ (decide (0 ≤ r) = !(xs.all finB)) ∧ w' = w.drewN n
theorem all_take (xs : List Nat) (k : Nat) (hk : k < xs.length) : (xs.take (k + 1)).all finB = ((xs.take k).all finB && finB (nth xs k)) := by
  rw [List.take_succ_eq_append_getElem hk, List.all_append]
  simp [nth, List.getD, hk]
theorem all_of_take {xs : List Nat} {k : Nat} (h : (xs.take k).all finB = false) : xs.all finB = false := by
  rw [← List.take_append_drop k xs, List.all_append, h, Bool.false_and]
theorem impl_finite1 (x : Nat) (w : World) : Calls Try.prog 66 #[.float .f32 x] w (RetQ (.bool (!finB x)) w) := by
  go_enter Try.func66, Try.ntmps66
  go_wp2_with (go_at_call 41; refine (impl_IsFinite x _).mono ?_; rintro e w' ⟨rfl, n, rfl⟩)
  go_ret
  exact ⟨rfl, n, rfl⟩
set_option maxHeartbeats 1000000 in
theorem indexFunc_fin (A : Option Addr) (cap : Nat) (xs : List Nat) (hn : xs.length ≤ 1048576) (w : World) (B : Nat) (h : FlAt w B A xs) :
    Calls Try.prog 74 #[.slice A xs.length cap, .func (.func 66) #[] #[]] w (FinIx xs w) := by
  by_cases hx : 0 < xs.length
  · obtain ⟨b, off, rfl, hb, hc⟩ := h hx
    have HC := Lib.hid hc
    clear h hc
    go_enter Try.func74, Try.ntmps74
    go_wp2
    go_loopw [8] (fun i wr => ∃ k n : Nat, k ≤ xs.length ∧ i = .int .i64 k ∧ (xs.take k).all finB = true ∧ wr = w.drewN n) (fun i _ => xs.length - (intOf i).toNat)
    case atStart => exact ⟨0, 0, Nat.zero_le _, rfl, rfl, rfl⟩
    case round =>
      obtain ⟨k, n, hk, rfl, hall, rfl⟩ := hrel
      have HA := Lib.hid hall
      clear hall
      by_cases hlt : k < xs.length
      · have hcx : w.cell? ⟨b, off + k, none⟩ = some (.float .f32 (nth xs k)) := HC.out k hlt
        have hk0 : (0 : Int) ≤ (k : Int) := by omega
        have hk1 : (k : Int) < (xs.length : Int) := by omega
        have HT := Lib.hid (all_take xs k hlt)
        cases hf : finB (nth xs k)
        all_goals
          have hc1 := impl_finite1 (nth xs k)
          rw [hf] at hc1
          have HC1 := Lib.hid hc1
          clear hc1
          go_wp2_with (go_at_call 66; refine (HC1.out _).mono ?_; rintro e w' ⟨rfl, m, rfl⟩)
          first
            | (go_roundw
               case rel => exact ⟨k + 1, _, by omega, by go_num, by rw [HT.out, HA.out, hf]; rfl, rfl⟩
               case measure => simp [intOf]; omega)
            | (go_ret
               exact ⟨_, _, rfl, by rw [decide_eq_true (by omega), all_of_take (k := k + 1) (by rw [HT.out, hf, Bool.and_false])]; rfl, rfl⟩)
      · have hke : k = xs.length := by omega
        subst hke
        go_wp2
        go_ret
        refine ⟨_, _, rfl, ?_, rfl⟩
        have := HA.out
        rw [List.take_length] at this
        rw [this]
        rfl
  · have h0 : xs.length = 0 := by omega
    have hx0 : xs = [] := List.eq_nil_of_length_eq_zero h0
    subst hx0
    go_enter Try.func74, Try.ntmps74
    go_wp2
    refine wp_loop_rounds 1 ?_
    rw [rounds_succ]
    go_wp2
    go_ret
    exact ⟨_, 0, rfl, rfl, rfl⟩
theorem impl_finite (A : Option Addr) (cap : Nat) (xs : List Nat) (hn : xs.length ≤ 1048576) (w : World) (B : Nat) (h : FlAt w B A xs) :
    Calls Try.prog 50 #[.slice A xs.length cap] w (RetQ (.bool (xs.all finB)) w) := by
  go_enter Try.func50, Try.ntmps50
  go_wp2_with (first | (go_at_call 65; go_in) | (go_at_call 74; refine (indexFunc_fin A cap xs hn _ B h).mono ?_; rintro e w' ⟨r, n, rfl, hr, rfl⟩; have HR := Lib.hid hr; clear hr))
  go_ret
  exact retQ_bool (by rw [HR.out, Bool.not_not]) w n

/-! ### the reference's wide angle -/
theorem ang_simF {W C : Nat} (h : W = if false = true then Op.negFloat .f64 C else C) : Sim .f64 C W := by rw [h]; exact Sim.refl _ _
theorem ang_simT {W C : Nat} (h : W = if true = true then Op.negFloat .f64 C else C) : Sim .f64 (Op.negFloat .f64 C) W := by rw [h]; exact Sim.refl _ _
theorem lt_fix {op : BinOp} {x y z : Nat} (h : ∀ T n, opV op .f64 x y T n = z) : z < 2 ^ FloatKind.f64.format.width := by rw [← h z0 0]; exact opV_lt _ _ _ _ _ _
theorem spec_Angle_nan1 (Y X : Nat) (h : ∀ T n, (FloatKind.f64.format.order (opV .sub .f64 Y Y T n) 0 != some .eq) = true) (w : World) : Calls Try.prog 64 #[.float .f64 Y, .float .f64 X] w (RetQ (.float .f64 9221120237041090561) w) := by
  go_enter Try.func64, Try.ntmps64
  go_wp2_with (go_in)
  go_ret
  exact ⟨rfl, _, rfl⟩
theorem spec_Angle_nan2 (Y X : Nat) (h0 : ∀ T n, (FloatKind.f64.format.order (opV .sub .f64 Y Y T n) 0 != some .eq) = false) (h : ∀ T n, (FloatKind.f64.format.order (opV .sub .f64 X X T n) 0 != some .eq) = true) (w : World) : Calls Try.prog 64 #[.float .f64 Y, .float .f64 X] w (RetQ (.float .f64 9221120237041090561) w) := by
  go_enter Try.func64, Try.ntmps64
  go_wp2_with (go_in)
  go_ret
  exact ⟨rfl, _, rfl⟩
theorem spec_Angle_zero (Y X : Nat) (h0 : ∀ T n, (FloatKind.f64.format.order (opV .sub .f64 Y Y T n) 0 != some .eq) = false) (h1 : ∀ T n, (FloatKind.f64.format.order (opV .sub .f64 X X T n) 0 != some .eq) = false) (hx : (FloatKind.f64.format.order X 0 == some .eq) = true) (hy : (FloatKind.f64.format.order Y 0 == some .eq) = true) (w : World) :
    Calls Try.prog 64 #[.float .f64 Y, .float .f64 X] w (RetQ (.float .f64 0) w) := by
  go_enter Try.func64, Try.ntmps64
  go_wp2_with (go_in)
  go_ret
  exact ⟨rfl, _, rfl⟩
set_option maxHeartbeats 4000000 in
theorem spec_Angle_at (Y X a b t0 : Nat) (over z1 xn yn : Bool) (h0 : ∀ T n, (FloatKind.f64.format.order (opV .sub .f64 Y Y T n) 0 != some .eq) = false) (h1 : ∀ T n, (FloatKind.f64.format.order (opV .sub .f64 X X T n) 0 != some .eq) = false)
    (hz : (FloatKind.f64.format.order X 0 == some .eq) = z1) (hzy : z1 = true → (FloatKind.f64.format.order Y 0 == some .eq) = false) (ha : (bits .andNot .u64 (Y : Int) 9223372036854775808).toNat = a) (hb : (bits .andNot .u64 (X : Int) 9223372036854775808).toNat = b)
    (hov : (FloatKind.f64.format.order a b == some .gt) = over) (ht1 : over = true → ∀ T n, opV .quo .f64 b a T n = t0) (ht0 : over = false → ∀ T n, opV .quo .f64 a b T n = t0) (hl : le2 .f64 t0 1075)
    (hxn : (FloatKind.f64.format.order X 0 == some .lt) = xn) (hyn : (FloatKind.f64.format.order Y 0 == some .lt) = yn) (w : World) :
    Calls Try.prog 64 #[.float .f64 Y, .float .f64 X] w (RetFQ .f64 (angW over xn yn (tI t0 3)) w) := by
  have HL := Lib.hid hl
  clear hl
  cases over <;> cases z1
  all_goals
    first | (have q1 := ht1 rfl) | (have q1 := ht0 rfl)
    first | (have q2 := hzy rfl) | skip
    clear ht1 ht0 hzy
    go_enter Try.func64, Try.ntmps64
    go_wp2_with (go_in)
    go_loopw [8, 9] (fun t k wr => ∃ (j m : Nat), j ≤ 3 ∧ k = .int .i64 j ∧ t = .float .f64 (tI t0 j) ∧ wr = w.drewN m) (fun _ k _ => 3 - (intOf k).toNat)
    case atStart => exact ⟨0, _, by omega, rfl, rfl, rfl⟩
    case round =>
      obtain ⟨j, m, hj, rfl, rfl, rfl⟩ := hrel
      by_cases hj3 : j < 3
      · refine tstep_fix (E := 1075 + j) (by omega) (by omega) (le2_tI HL.out j (by omega)) fun A D S F t' e1 e2 e3 e4 e5 e6 _ => ?_
        have HT := Lib.hid (show tI t0 (j + 1) = t' from e6.symm)
        clear e6
        generalize tI t0 j = tj at e1 e5 ⊢
        go_wp2_with (go_at_call 51; go_in)
        go_roundw
        case rel => exact ⟨j + 1, _, by omega, by go_num, by rw [HT.out], rfl⟩
        case measure => simp [intOf]; omega
      · have hje : j = 3 := by omega
        subst hje
        have hl3 := le2_tI HL.out 3 (Nat.le_refl _)
        obtain ⟨t3, ht3⟩ : ∃ t3, t3 = tI t0 3 := ⟨_, rfl⟩
        rw [← ht3] at hl3
        rw [← ht3]
        refine ang_fix hl3 (FloatKind.f64.format.order a b == some .gt) xn yn fun u M N A B C e1 hnq e2 e3 e4 e5 e5' e6 e6' hW => ?_
        rw [hov, ht3] at hW
        clear ht3
        first | (have e5a := e5 hov; subst e5a) | (have e5b := e5' hov)
        clear e5 e5'
        have HN := Lib.hid hnq
        have HW := Lib.hid hW
        clear hW hnq hl3
        go_wp2
        go_loopw [11, 12] (fun p c wr => ∃ (i m q : Nat), i ≤ 8 ∧ c = .int .i64 (15 - 2 * i) ∧ p = .float .f64 q ∧ Sim .f64 q (angQ u i) ∧ wr = w.drewN m) (fun _ c _ => (intOf c + 1).toNat)
        case atStart => exact ⟨0, _, _, by omega, rfl, rfl, Sim.refl _ _, rfl⟩
        case round =>
          obtain ⟨i, m3, q, hi, rfl, rfl, hq, rfl⟩ := hrel
          by_cases hi8 : i = 8
          · subst hi8
            obtain rfl : q = angQ u 8 := (hq.symm.eq HN.out).symm
            clear hq
            generalize angQ u 8 = q at e2 ⊢
            have hk : ((15 : Int) - 2 * ((8 : Nat) : Int)) = -1 := by omega
            rw [hk]
            cases xn <;> cases yn
            all_goals
              first | (have e6a := e6 rfl; subst e6a) | (have e6b := e6' rfl)
              clear e6 e6'
              go_wp2
              go_ret
              first
                | exact retFQ (lt_fix e6b) (ang_simF HW.out) w _
                | exact retFQ (neg_lt64 (lt_fix e6b)) (ang_simT HW.out) w _
                | exact retFQ (lt_fix e5b) (ang_simF HW.out) w _
                | exact retFQ (neg_lt64 (lt_fix e5b)) (ang_simT HW.out) w _
                | exact retFQ (lt_fix e4) (ang_simF HW.out) w _
                | exact retFQ (neg_lt64 (lt_fix e4)) (ang_simT HW.out) w _
          · have hi7 : i < 8 := by omega
            have HQ := Lib.hid hq
            clear hi hi8 hq
            go_wp2
            go_roundw
            case rel => exact ⟨i + 1, _, _, by omega, by go_num, rfl, opV_sim .sub (opV_sim .quo (Sim.refl _ _) (Sim.refl _ _) _ _ _ _) (opV_sim .mul (Sim.refl _ _) HQ.out _ _ _ _) _ _ _ _, rfl⟩
            case measure => simp [intOf]; omega
end Go.Proofs.Ytojkdlidcmfkeaa
