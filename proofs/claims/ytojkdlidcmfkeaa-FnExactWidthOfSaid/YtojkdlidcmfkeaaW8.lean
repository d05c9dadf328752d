/- Contracts of LongOf and WidthOf, program and reference. -/
import Derived.Test.YtojkdlidcmfkeaaW6
import Derived.Test.YtojkdlidcmfkeaaSl
import Derived.Handy
namespace Go.Proofs.Ytojkdlidcmfkeaa
open Go.ChangeShapes Go.WideShapes Go.ChangeAt Go.RowKit Go.Deep

theorem long_sim (a b c : Nat) (T : Nat → Question → Nat) (n1 n2 n3 n4 n5 : Nat) (T1 : Nat → Question → Nat) (m1 : Nat) (T2 : Nat → Question → Nat) (m2 : Nat) (T3 : Nat → Question → Nat) (m3 : Nat) :
    Sim .f32 (cvV .f64 .f32 (sqV (cvV .f32 .f64 (opV .add .f32 (opV .add .f32 (opV .mul .f32 a a T n1) (opV .mul .f32 b b T n2) T n3) (opV .mul .f32 c c T n4) T n5) T1 m1) T2 m2) T3 m3) (F.root (F.inner a b c a b c)) :=
  root_sim (add_sim (add_sim (mul_sim (Sim.refl _ _) (Sim.refl _ _) _ _) (mul_sim (Sim.refl _ _) (Sim.refl _ _) _ _) _ _) (mul_sim (Sim.refl _ _) (Sim.refl _ _) _ _) _ _) _ _ _ _ _ _
theorem spec_LongOf (a b c : Nat) (w : World) : Calls Try.prog 25 #[.agg #[.float .f32 a, .float .f32 b, .float .f32 c]] w (RetF .f32 (F.root (F.inner a b c a b c)) w) := by
  go_enter Try.func25, Try.ntmps25
  go_wp2
  go_ret
  exact ⟨_, rfl, cvV_lt32 _ _ _ _, long_sim a b c _ _ _ _ _ _ _ _ _ _ _ _, (by repeat' (first | with_reducible exact Below.refl _ _ | with_reducible assumption | with_reducible refine below_dn ?_ _ | with_reducible refine Below.drew ?_ | with_reducible refine below_step ?_ (by assumption) | with_reducible refine Below.setCell ?_ ?_ _ | with_reducible refine Below.alloc ?_ ?_ _ | with_reducible exact Nat.le_refl _ | (simp; done) | (simp; omega) | omega))⟩
theorem impl_LongOf (a b c : Nat) (w : World) : Calls Try.prog 27 #[.agg #[.float .f32 a, .float .f32 b, .float .f32 c]] w (RetF .f32 (F.root (F.inner a b c a b c)) w) := by
  go_enter Try.func27, Try.ntmps27
  go_wp2
  go_ret
  exact ⟨_, rfl, cvV_lt32 _ _ _ _, long_sim a b c _ _ _ _ _ _ _ _ _ _ _ _, (by repeat' (first | with_reducible exact Below.refl _ _ | with_reducible assumption | with_reducible refine below_dn ?_ _ | with_reducible refine Below.drew ?_ | with_reducible refine below_step ?_ (by assumption) | with_reducible refine Below.setCell ?_ ?_ _ | with_reducible refine Below.alloc ?_ ?_ _ | with_reducible exact Nat.le_refl _ | (simp; done) | (simp; omega) | omega))⟩

/-! ### the widest -/
def wid (m x : Nat) : Nat := if isN .f32 x = false ∧ m < x % 2147483648 then x % 2147483648 else m
def F.wid (xs : List Nat) : Nat → Nat
  | 0 => 0
  | k + 1 => Go.Proofs.Ytojkdlidcmfkeaa.wid (F.wid xs k) (nth xs k)
theorem wid_le {m x : Nat} (h : m ≤ 2139095040) : Go.Proofs.Ytojkdlidcmfkeaa.wid m x ≤ 2139095040 := by
  unfold Go.Proofs.Ytojkdlidcmfkeaa.wid
  split
  · rename_i hc; exact isN_le hc.1
  · exact h
theorem Fwid_le (xs : List Nat) : ∀ k, F.wid xs k ≤ 2139095040
  | 0 => Nat.zero_le _
  | k + 1 => wid_le (Fwid_le xs k)
theorem xor31 (x : Nat) (hx : x < 4294967296) : x ^^^ 2147483648 = if x < 2147483648 then x + 2147483648 else x - 2147483648 := by
  have key : ∀ y : Nat, y < 2 ^ 31 → y ^^^ 2 ^ 31 = y + 2 ^ 31 := by
    intro y hy
    apply Nat.eq_of_testBit_eq
    intro i
    rw [Nat.testBit_xor, Nat.testBit_two_pow, Nat.add_comm]
    by_cases h : i < 31
    · rw [Nat.testBit_two_pow_add_gt h]
      have : ¬ 31 = i := by omega
      simp [this]
    · by_cases h2 : i = 31
      · subst h2
        rw [Nat.testBit_two_pow_add_eq, Nat.testBit_lt_two_pow hy]
        simp
      · have h3 : 2 ^ 31 + y < 2 ^ i := by
          have : 2 ^ 32 ≤ 2 ^ i := Nat.pow_le_pow_right (by decide) (by omega)
          omega
        have h4 : y < 2 ^ i := by omega
        rw [Nat.testBit_lt_two_pow h3, Nat.testBit_lt_two_pow h4]
        have : ¬ 31 = i := by omega
        simp [this]
  split
  · exact key x (by omega)
  · have h1 := key (x - 2147483648) (by omega)
    have h2 : x - 2147483648 + 2 ^ 31 = x := by omega
    rw [h2] at h1
    have h3 : x ^^^ 2147483648 = (x - 2147483648) ^^^ 2 ^ 31 ^^^ 2147483648 := by rw [h1]
    rw [h3]
    show (x - 2147483648) ^^^ 2147483648 ^^^ 2147483648 = _
    rw [Nat.xor_assoc, Nat.xor_self, Nat.xor_zero]
theorem neg32 (x : Nat) (hx : x < 4294967296) : Op.negFloat .f32 x = if x < 2147483648 then x + 2147483648 else x - 2147483648 := xor31 x hx
theorem isN_neg (x : Nat) (hx : x < 4294967296) : isN .f32 (Op.negFloat .f32 x) = isN .f32 x := by
  rw [neg32 x hx, isN_f32, isN_f32]
  split
  · have e : (x + 2147483648) % 2147483648 = x % 2147483648 := by omega
    rw [e]
  · have e : (x - 2147483648) % 2147483648 = x % 2147483648 := by omega
    rw [e]
theorem isN_m {m : Nat} (h : m ≤ 2139095040) : isN .f32 m = false := isN_small m (by omega)
theorem gt_pos (x m : Nat) (hx : x < 2147483648) (hn : isN .f32 x = false) (hm : m ≤ 2139095040) : (FloatKind.f32.format.order x m == some Ordering.gt) = decide (m < x) := by
  have h := order_gt_iff .f32 x m
  rw [si_num m (by omega), si_num x hx] at h
  by_cases c : m < x
  · rw [decide_eq_true c, h.2 ⟨hn, isN_m hm, by omega⟩]; rfl
  · rw [decide_eq_false c, beq_eq_false_iff_ne]
    intro g
    have := (h.1 g).2.2
    omega
theorem gt_neg (x m : Nat) (h1 : 2147483648 ≤ x) (h2 : x < 4294967296) (hm : m ≤ 2139095040) : (FloatKind.f32.format.order x m == some Ordering.gt) = false := by
  have h := order_gt_iff .f32 x m
  rw [si_num m (by omega), si_neg32 x h1 h2] at h
  rw [beq_eq_false_iff_ne]
  intro g
  have := (h.1 g).2.2
  omega
theorem gt_nan (x m : Nat) (hn : isN .f32 x = true) : (FloatKind.f32.format.order x m == some Ordering.gt) = false := by
  rw [order_none .f32 x m (.inl hn)]; rfl

/-- the cases of a number held against the widest so far, with what every test of both texts says in each. -/
theorem wid_cases (x m : Nat) (hx : x < 4294967296) (hm : m ≤ 2139095040) {p : Prop}
    (h1 : (FloatKind.f32.format.order x m == some Ordering.gt) = false → (FloatKind.f32.format.order (Op.negFloat .f32 x) m == some Ordering.gt) = false → (FloatKind.f32.format.order (x % 2147483648) m == some Ordering.gt) = false → Go.Proofs.Ytojkdlidcmfkeaa.wid m x = m → p)
    (h2 : (FloatKind.f32.format.order x m == some Ordering.gt) = true → (FloatKind.f32.format.order (Op.negFloat .f32 x) x == some Ordering.gt) = false → (FloatKind.f32.format.order (x % 2147483648) m == some Ordering.gt) = true → x % 2147483648 = x → Go.Proofs.Ytojkdlidcmfkeaa.wid m x = x → p)
    (h3 : (FloatKind.f32.format.order x m == some Ordering.gt) = false → (FloatKind.f32.format.order (Op.negFloat .f32 x) m == some Ordering.gt) = true → (FloatKind.f32.format.order (x % 2147483648) m == some Ordering.gt) = true → Op.negFloat .f32 x = x % 2147483648 → Go.Proofs.Ytojkdlidcmfkeaa.wid m x = x % 2147483648 → p) : p := by
  cases hn : isN .f32 x
  · have hle := isN_le hn
    have hnm : isN .f32 (x % 2147483648) = false := isN_small _ (by omega)
    have hnn : isN .f32 (Op.negFloat .f32 x) = false := by rw [isN_neg x hx]; exact hn
    have hg := neg32 x hx
    by_cases hs : x < 2147483648
    · rw [if_pos hs] at hg
      have hmod : x % 2147483648 = x := Nat.mod_eq_of_lt hs
      by_cases c : m < x
      · refine h2 (by rw [gt_pos x m hs hn hm, decide_eq_true c]) ?_ (by rw [hmod, gt_pos x m hs hn hm, decide_eq_true c]) hmod ?_
        · rw [hg]; exact gt_neg _ x (by omega) (by omega) (by omega)
        · unfold Go.Proofs.Ytojkdlidcmfkeaa.wid; rw [hmod, if_pos ⟨hn, c⟩]
      · refine h1 (by rw [gt_pos x m hs hn hm, decide_eq_false c]) ?_ (by rw [hmod, gt_pos x m hs hn hm, decide_eq_false c]) ?_
        · rw [hg]; exact gt_neg _ m (by omega) (by omega) hm
        · unfold Go.Proofs.Ytojkdlidcmfkeaa.wid; rw [hmod, if_neg (fun h => c h.2)]
    · rw [if_neg hs] at hg
      have hmod : x % 2147483648 = x - 2147483648 := by omega
      have hgm : Op.negFloat .f32 x = x % 2147483648 := by rw [hg, hmod]
      have hlt : x % 2147483648 < 2147483648 := Nat.mod_lt _ (by decide)
      by_cases c : m < x % 2147483648
      · refine h3 (gt_neg x m (by omega) hx hm) ?_ (by rw [gt_pos _ m hlt hnm hm, decide_eq_true c]) hgm ?_
        · rw [hgm, gt_pos _ m hlt hnm hm, decide_eq_true c]
        · unfold Go.Proofs.Ytojkdlidcmfkeaa.wid; rw [if_pos ⟨hn, c⟩]
      · refine h1 (gt_neg x m (by omega) hx hm) ?_ (by rw [gt_pos _ m hlt hnm hm, decide_eq_false c]) ?_
        · rw [hgm, gt_pos _ m hlt hnm hm, decide_eq_false c]
        · unfold Go.Proofs.Ytojkdlidcmfkeaa.wid; rw [if_neg (fun h => c h.2)]
  · have hgt := isN_gt hn
    have hna : isN .f32 (x % 2147483648) = true := by rw [isN_f32, Nat.mod_mod]; exact decide_eq_true hgt
    have hnn : isN .f32 (Op.negFloat .f32 x) = true := by rw [isN_neg x hx]; exact hn
    exact h1 (gt_nan _ _ hn) (gt_nan _ _ hnn) (gt_nan _ _ hna) (by unfold Go.Proofs.Ytojkdlidcmfkeaa.wid; rw [if_neg (fun h => by rw [hn] at h; cases h.1)])

def okL (xs : List Nat) : Prop := ∀ x ∈ xs, x < 4294967296
theorem okL.nth {xs : List Nat} (h : okL xs) (k : Nat) : nth xs k < 4294967296 := by
  unfold Go.Proofs.Ytojkdlidcmfkeaa.nth List.getD
  cases hk : xs[k]? with
  | none => simp
  | some v => simpa using h v (List.mem_of_getElem? hk)

set_option maxHeartbeats 1000000 in
theorem spec_l02Width (A : Option Addr) (cap : Nat) (xs : List Nat) (hn : xs.length ≤ 1048576) (hok : okL xs) (w : World) (B : Nat) (h : FlAt w B A xs) :
    Calls Try.prog 32 #[.slice A xs.length cap] w (RetQ (.float .f32 (F.wid xs xs.length)) w) := by
  by_cases hx : 0 < xs.length
  · obtain ⟨b, off, rfl, hb, hc⟩ := h hx
    have HC := Lib.hid hc
    have HK := Lib.hid hok
    clear h hc hok
    go_enter Try.func32, Try.ntmps32
    go_wp2
    go_loop [3, 4] (fun s i => ∃ k : Nat, k ≤ xs.length ∧ i = .int .i64 k ∧ s = .float .f32 (F.wid xs k)) (fun _ i => xs.length - (intOf i).toNat)
    case atStart => exact ⟨0, Nat.zero_le _, rfl, rfl⟩
    case round =>
      obtain ⟨k, hk, rfl, rfl⟩ := hrel
      by_cases hlt : k < xs.length
      · have hcx : w.cell? ⟨b, off + k, none⟩ = some (.float .f32 (nth xs k)) := HC.out k hlt
        have hxk := HK.out.nth k
        have hml := Fwid_le xs k
        have hst := Lib.hid (show F.wid xs (k + 1) = Go.Proofs.Ytojkdlidcmfkeaa.wid (F.wid xs k) (nth xs k) from rfl)
        refine wid_cases (nth xs k) (F.wid xs k) hxk hml ?_ ?_ ?_
        · intro a1 a2 _ hv
          have hv := Lib.hid hv
          go_wp2
          go_round
          case rel => exact ⟨k + 1, by omega, by go_num, by rw [hst.out, hv.out]⟩
          case measure => simp [intOf]; omega
        · intro a1 a2 _ _ hv
          have hv := Lib.hid hv
          go_wp2
          go_round
          case rel => exact ⟨k + 1, by omega, by go_num, by rw [hst.out, hv.out]⟩
          case measure => simp [intOf]; omega
        · intro a1 a2 _ he hv
          have hv := Lib.hid hv
          have he := Lib.hid he
          go_wp2
          go_round
          case rel => exact ⟨k + 1, by omega, by go_num, by first | rw [hst.out, hv.out] | rw [hst.out, hv.out, he.out]⟩
          case measure => simp [intOf]; omega
      · have hke := Lib.hid (show k = xs.length by omega)
        go_wp2
        go_ret
        exact ⟨by rw [← hke.out]; rfl, 0, rfl⟩
  · have h0 : xs = [] := List.eq_nil_of_length_eq_zero (by omega)
    subst h0
    clear h hx hn hok
    show Calls Try.prog 32 #[.slice A 0 cap] w (RetQ (.float .f32 0) w)
    go_enter Try.func32, Try.ntmps32
    go_wp2
    refine wp_loop_rounds 1 ?_
    rw [rounds_succ]
    go_wp2
    go_ret
    exact ⟨rfl, 0, rfl⟩
set_option maxHeartbeats 1000000 in
theorem impl_width (A : Option Addr) (cap : Nat) (xs : List Nat) (hn : xs.length ≤ 1048576) (hok : okL xs) (w : World) (B : Nat) (h : FlAt w B A xs) :
    Calls Try.prog 33 #[.slice A xs.length cap] w (RetQ (.float .f32 (F.wid xs xs.length)) w) := by
  by_cases hx : 0 < xs.length
  · obtain ⟨b, off, rfl, hb, hc⟩ := h hx
    have HC := Lib.hid hc
    have HK := Lib.hid hok
    clear h hc hok
    go_enter Try.func33, Try.ntmps33
    go_wp2
    go_loopw [3, 5, 8] (fun s _ i wr => ∃ k n : Nat, k ≤ xs.length ∧ i = .int .i64 k ∧ s = .float .f32 (F.wid xs k) ∧ wr = w.drewN n) (fun _ _ i _ => xs.length - (intOf i).toNat)
    case atStart => exact ⟨0, 0, Nat.zero_le _, rfl, rfl, rfl⟩
    case round =>
      obtain ⟨k, n, hk, rfl, rfl, rfl⟩ := hrel
      by_cases hlt : k < xs.length
      · have hcx : w.cell? ⟨b, off + k, none⟩ = some (.float .f32 (nth xs k)) := HC.out k hlt
        have hxk := HK.out.nth k
        have hml := Fwid_le xs k
        have hst := Lib.hid (show F.wid xs (k + 1) = Go.Proofs.Ytojkdlidcmfkeaa.wid (F.wid xs k) (nth xs k) from rfl)
        refine wid_cases (nth xs k) (F.wid xs k) hxk hml ?_ ?_ ?_
        · intro _ _ a3 hv
          have hv := Lib.hid hv
          go_wp2_with (go_at_call 52; refine (impl_abs _ hxk _).mono ?_; rintro e w' ⟨rfl, m, rfl⟩)
          go_roundw
          case rel => exact ⟨k + 1, _, by omega, by go_num, by rw [hst.out, hv.out], rfl⟩
          case measure => simp [intOf]; omega
        · intro _ _ a3 he hv
          have hv := Lib.hid hv
          have he := Lib.hid he
          go_wp2_with (go_at_call 52; refine (impl_abs _ hxk _).mono ?_; rintro e w' ⟨rfl, m, rfl⟩)
          go_roundw
          case rel => exact ⟨k + 1, _, by omega, by go_num, by first | rw [hst.out, hv.out] | rw [hst.out, hv.out, he.out], rfl⟩
          case measure => simp [intOf]; omega
        · intro _ _ a3 _ hv
          have hv := Lib.hid hv
          go_wp2_with (go_at_call 52; refine (impl_abs _ hxk _).mono ?_; rintro e w' ⟨rfl, m, rfl⟩)
          go_roundw
          case rel => exact ⟨k + 1, _, by omega, by go_num, by rw [hst.out, hv.out], rfl⟩
          case measure => simp [intOf]; omega
      · have hke := Lib.hid (show k = xs.length by omega)
        go_wp2
        go_ret
        exact ⟨by rw [← hke.out]; rfl, n, rfl⟩
  · have h0 : xs = [] := List.eq_nil_of_length_eq_zero (by omega)
    subst h0
    clear h hx hn hok
    show Calls Try.prog 33 #[.slice A 0 cap] w (RetQ (.float .f32 0) w)
    go_enter Try.func33, Try.ntmps33
    go_wp2
    refine wp_loop_rounds 1 ?_
    rw [rounds_succ]
    go_wp2
    go_ret
    exact ⟨rfl, 0, rfl⟩
def fewW (xs : List Nat) : Bool := decide (xs.length ≤ 256)
def F.widV (xs : List Nat) : Nat := if xs.length ≤ 256 then F.wid xs xs.length else 0
theorem spec_WidthOf (A : Option Addr) (cap : Nat) (xs : List Nat) (hn : xs.length ≤ 1048576) (hok : okL xs) (w : World) (B : Nat) (h : FlAt w B A xs) :
    Calls Try.prog 10 #[.slice A xs.length cap] w (RetQ (.tuple #[.float .f32 (F.widV xs), .bool (fewW xs)]) w) := by
  by_cases hf : xs.length ≤ 256
  · have e1 := Lib.hid (show F.widV xs = F.wid xs xs.length by unfold F.widV; rw [if_pos hf])
    have e2 := Lib.hid (show fewW xs = true from decide_eq_true hf)
    have hf' : (xs.length : Int) ≤ 256 := by omega
    have H := Lib.hid h
    have HK := Lib.hid hok
    clear h hf hok
    go_enter Try.func10, Try.ntmps10
    go_wp2_with (go_at_call 32; refine (spec_l02Width _ _ _ hn HK.out _ _ H.out).mono ?_; rintro e w' ⟨rfl, n, rfl⟩)
    go_ret2
    exact ⟨by rw [e1.out, e2.out]; rfl, n, rfl⟩
  · have e1 := Lib.hid (show F.widV xs = 0 by unfold F.widV; rw [if_neg hf])
    have e2 := Lib.hid (show fewW xs = false from decide_eq_false hf)
    have hf' : (256 : Int) < (xs.length : Int) := by omega
    clear h hf hok
    go_enter Try.func10, Try.ntmps10
    go_wp2
    go_ret2
    exact ⟨by rw [e1.out, e2.out]; rfl, 0, rfl⟩
theorem impl_WidthOf (A : Option Addr) (cap : Nat) (xs : List Nat) (hn : xs.length ≤ 1048576) (hok : okL xs) (w : World) (B : Nat) (h : FlAt w B A xs) :
    Calls Try.prog 12 #[.slice A xs.length cap] w (RetQ (.tuple #[.float .f32 (F.widV xs), .bool (fewW xs)]) w) := by
  by_cases hf : xs.length ≤ 256
  · have e1 := Lib.hid (show F.widV xs = F.wid xs xs.length by unfold F.widV; rw [if_pos hf])
    have e2 := Lib.hid (show fewW xs = true from decide_eq_true hf)
    have hf' : (xs.length : Int) ≤ 256 := by omega
    have H := Lib.hid h
    have HK := Lib.hid hok
    clear h hf hok
    go_enter Try.func12, Try.ntmps12
    go_wp2_with (go_at_call 33; refine (impl_width _ _ _ hn HK.out _ _ H.out).mono ?_; rintro e w' ⟨rfl, n, rfl⟩)
    go_ret2
    exact ⟨by rw [e1.out, e2.out]; rfl, n, rfl⟩
  · have e1 := Lib.hid (show F.widV xs = 0 by unfold F.widV; rw [if_neg hf])
    have e2 := Lib.hid (show fewW xs = false from decide_eq_false hf)
    have hf' : (256 : Int) < (xs.length : Int) := by omega
    clear h hf hok
    go_enter Try.func12, Try.ntmps12
    go_wp2
    go_ret2
    exact ⟨by rw [e1.out, e2.out]; rfl, 0, rfl⟩
end Go.Proofs.Ytojkdlidcmfkeaa
