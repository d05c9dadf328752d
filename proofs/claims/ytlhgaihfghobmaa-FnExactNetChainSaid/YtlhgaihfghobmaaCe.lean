/- The laws' marks in chains, and whether they are held. -/
import Derived.Test.YtlhgaihfghobmaaCd
namespace Go.Proofs.Ytlhgaihfghobmaa
open Go.ChangeShapes Go.WideShapes Go.ChangeAt Go.RowKit Go.Deep

/-- the marks from k on, as floats; and as the cells of rods. -/
def mv (k j : Nat) : Value := .float .f32 (Go.floatOfInt .f32 ((k : Int) + j))
def mr (k j : Nat) : Value := if j % 3 = 2 then .float .f32 (Go.floatOfInt .f32 ((k : Int) + j)) else .int .i64 ((k : Int) + j)
def mx (m f : Nat → Value) (c j : Nat) : Value := if j < c then m j else f j
theorem mx_0 (m f : Nat → Value) (j : Nat) : mx m f 0 j = f j := if_neg (Nat.not_lt_zero _)
theorem mx_all (m f : Nat → Value) {c j : Nat} (h : j < c) : mx m f c j = m j := if_pos h
theorem mx_set1 (m f : Nat → Value) (c j : Nat) : (if j = c then m c else mx m f c j) = mx m f (c + 1) j := by
  unfold mx
  by_cases h : j = c
  · subst h; rw [if_pos rfl, if_pos (by omega)]
  · rw [if_neg h]
    by_cases h2 : j < c
    · rw [if_pos h2, if_pos (by omega)]
    · rw [if_neg h2, if_neg (by omega)]
theorem mx_set3 (m f : Nat → Value) (c j : Nat) : (if j = c + 2 then m (c + 2) else if j = c + 1 then m (c + 1) else if j = c then m c else mx m f c j) = mx m f (c + 3) j := by
  rw [mx_set1, mx_set1, mx_set1]
theorem mv0 (k0 k : Nat) : mv k0 (k * 3) = .float .f32 (Go.floatOfInt .f32 ((k0 : Int) + 3 * k)) := by
  unfold mv; rw [show ((k0 : Int) + ((k * 3 : Nat) : Int)) = (k0 : Int) + 3 * k by omega]
theorem mv1 (k0 k : Nat) : mv k0 (k * 3 + 1) = .float .f32 (Go.floatOfInt .f32 ((k0 : Int) + 3 * k + 1)) := by
  unfold mv; rw [show ((k0 : Int) + ((k * 3 + 1 : Nat) : Int)) = (k0 : Int) + 3 * k + 1 by omega]
theorem mv2 (k0 k : Nat) : mv k0 (k * 3 + 2) = .float .f32 (Go.floatOfInt .f32 ((k0 : Int) + 3 * k + 1 + 1)) := by
  unfold mv; rw [show ((k0 : Int) + ((k * 3 + 2 : Nat) : Int)) = (k0 : Int) + 3 * k + 1 + 1 by omega]
theorem mr0 (k0 k : Nat) : mr k0 (k * 3) = .int .i64 ((k0 : Int) + 3 * k) := by
  unfold mr; rw [if_neg (by omega), show ((k0 : Int) + ((k * 3 : Nat) : Int)) = (k0 : Int) + 3 * k by omega]
theorem mr1 (k0 k : Nat) : mr k0 (k * 3 + 1) = .int .i64 ((k0 : Int) + 3 * k + 1) := by
  unfold mr; rw [if_neg (by omega), show ((k0 : Int) + ((k * 3 + 1 : Nat) : Int)) = (k0 : Int) + 3 * k + 1 by omega]
theorem mr2 (k0 k : Nat) : mr k0 (k * 3 + 2) = .float .f32 (Go.floatOfInt .f32 ((k0 : Int) + 3 * k + 1 + 1)) := by
  unfold mr; rw [if_pos (by omega), show ((k0 : Int) + ((k * 3 + 2 : Nat) : Int)) = (k0 : Int) + 3 * k + 1 + 1 by omega]
theorem mark_num (i : Int) : (FloatKind.f32.format.order (Go.floatOfInt .f32 i) (Go.floatOfInt .f32 i) != some .eq) = false := by
  rw [self_neq]; exact isN_encode .f32 (.number (i < 0) i.natAbs 0) rfl
def RetMark (r : Int) (B : Nat) (t : TypeId) (sz : Nat) (A : Option Addr) (n c : Nat) (m : Nat → Value) (w : World) (e : Ending) (w' : World) : Prop :=
  e = .returned (.int .i64 r) ∧ Sl w' B t sz A n c m ∧ Wr (fun k => A = some ⟨k, 0, none⟩ ∧ 0 < n) w w'
set_option maxHeartbeats 1000000 in
theorem laws_markVectorS (A : Option Addr) (n c k0 : Nat) (f : Nat → Value) (hn : n ≤ 1048576) (hk0 : k0 ≤ 100000000) (w : World) (B : Nat) (h : Sl w B 38 3 A n c f) :
    Calls Try.prog 110 #[.slice A n c, .int .i64 k0] w (RetMark ((k0 : Int) + 3 * n) B 38 3 A n c (mv k0) w) := by
  have H := Lib.hid h
  clear h
  go_enter Try.func110, Try.ntmps110
  go_wp2
  go_loopw [1, 5] (fun q i wr => ∃ k : Nat, k ≤ n ∧ i = .int .i64 k ∧ q = .int .i64 ((k0 : Int) + 3 * k) ∧ Sl wr B 38 3 A n c (mx (mv k0) f (k * 3)) ∧ Wr (fun k => A = some ⟨k, 0, none⟩ ∧ 0 < n) w wr) (fun _ i _ => n - (intOf i).toNat)
  case atStart => exact ⟨0, Nat.zero_le _, rfl, by go_num, H.out.congr (fun j _ => (mx_0 _ _ j).symm), Wr.refl _ _⟩
  case round =>
    obtain ⟨k, hk, rfl, rfl, hs, hw⟩ := hrel
    have HW := Lib.hid hw
    have HS := Lib.hid hs
    by_cases hlt : k < n
    · obtain ⟨g, rfl, hB, hnc, hcm, hr⟩ := hs (by omega)
      obtain ⟨d0, d1, d2, f0, f1, f2⟩ := hr.at3 hlt
      have HR := Lib.hid (fun x y z => ((hr.set (k * 3) x).set (k * 3 + 1) y).set (k * 3 + 2) z)
      have hk0' : (0 : Int) ≤ (k : Int) := by omega
      have hk1 : (k : Int) < (n : Int) := by omega
      have hk2 : (k : Int) ≤ 1048576 := by omega
      have hk3 : (k0 : Int) ≤ 100000000 := by omega
      have HN := Lib.hid hn
      clear hr hs hw HS
      go_wp2
      go_roundw
      case rel =>
        refine ⟨k + 1, by omega, by go_num, by go_num, fun _ => ⟨g, rfl, hB, hnc, hcm, ?_⟩, (((HW.out.setCell ⟨rfl, by omega⟩ _).setCell ⟨rfl, by omega⟩ _).setCell ⟨rfl, by omega⟩ _)⟩
        rw [← mv0, ← mv1, ← mv2]
        refine (HR.out _ _ _).congr fun j _ => ?_
        rw [show (k + 1) * 3 = k * 3 + 3 by omega]
        exact mx_set3 _ _ _ j
      case measure => simp [intOf]; omega
    · have hke : k = n := by omega
      subst hke
      clear hs hw
      go_wp2
      go_ret
      exact ⟨rfl, HS.out.congr (fun j hj => mx_all _ _ hj), HW.out⟩
set_option maxHeartbeats 1000000 in
theorem laws_markRodS (A : Option Addr) (n c k0 : Nat) (f : Nat → Value) (hn : n ≤ 1048576) (hk0 : k0 ≤ 100000000) (w : World) (B : Nat) (h : Sl w B 91 3 A n c f) :
    Calls Try.prog 112 #[.slice A n c, .int .i64 k0] w (RetMark ((k0 : Int) + 3 * n) B 91 3 A n c (mr k0) w) := by
  have H := Lib.hid h
  clear h
  go_enter Try.func112, Try.ntmps112
  go_wp2
  go_loopw [1, 5] (fun q i wr => ∃ k : Nat, k ≤ n ∧ i = .int .i64 k ∧ q = .int .i64 ((k0 : Int) + 3 * k) ∧ Sl wr B 91 3 A n c (mx (mr k0) f (k * 3)) ∧ Wr (fun k => A = some ⟨k, 0, none⟩ ∧ 0 < n) w wr) (fun _ i _ => n - (intOf i).toNat)
  case atStart => exact ⟨0, Nat.zero_le _, rfl, by go_num, H.out.congr (fun j _ => (mx_0 _ _ j).symm), Wr.refl _ _⟩
  case round =>
    obtain ⟨k, hk, rfl, rfl, hs, hw⟩ := hrel
    have HW := Lib.hid hw
    have HS := Lib.hid hs
    by_cases hlt : k < n
    · obtain ⟨g, rfl, hB, hnc, hcm, hr⟩ := hs (by omega)
      obtain ⟨d0, d1, d2, f0, f1, f2⟩ := hr.at3 hlt
      have HR := Lib.hid (fun x y z => ((hr.set (k * 3) x).set (k * 3 + 1) y).set (k * 3 + 2) z)
      have hk0' : (0 : Int) ≤ (k : Int) := by omega
      have hk1 : (k : Int) < (n : Int) := by omega
      have hk2 : (k : Int) ≤ 1048576 := by omega
      have hk3 : (k0 : Int) ≤ 100000000 := by omega
      clear hr hs hw HS
      go_wp2
      go_roundw
      case rel =>
        refine ⟨k + 1, by omega, by go_num, by go_num, fun _ => ⟨g, rfl, hB, hnc, hcm, ?_⟩, (((HW.out.setCell ⟨rfl, by omega⟩ _).setCell ⟨rfl, by omega⟩ _).setCell ⟨rfl, by omega⟩ _)⟩
        rw [← mr0, ← mr1, ← mr2]
        refine (HR.out _ _ _).congr fun j _ => ?_
        rw [show (k + 1) * 3 = k * 3 + 3 by omega]
        exact mx_set3 _ _ _ j
      case measure => simp [intOf]; omega
    · have hke : k = n := by omega
      subst hke
      clear hs hw
      go_wp2
      go_ret
      exact ⟨rfl, HS.out.congr (fun j hj => mx_all _ _ hj), HW.out⟩
set_option maxHeartbeats 1000000 in
theorem laws_markFloat32S' (A : Option Addr) (n c k0 : Nat) (f : Nat → Value) (hn : n ≤ 1048576) (hk0 : k0 ≤ 100000000) (w : World) (B : Nat) (h : Sl w B 36 1 A n c f) :
    Calls Try.prog 111 #[.slice A n c, .int .i64 k0] w (RetMark ((k0 : Int) + n) B 36 1 A n c (mv k0) w) := by
  have H := Lib.hid h
  clear h
  go_enter Try.func111, Try.ntmps111
  go_wp2
  go_loopw [1, 5] (fun q i wr => ∃ k : Nat, k ≤ n ∧ i = .int .i64 k ∧ q = .int .i64 ((k0 : Int) + k) ∧ Sl wr B 36 1 A n c (mx (mv k0) f k) ∧ Wr (fun k => A = some ⟨k, 0, none⟩ ∧ 0 < n) w wr) (fun _ i _ => n - (intOf i).toNat)
  case atStart => exact ⟨0, Nat.zero_le _, rfl, by go_num, H.out.congr (fun j _ => (mx_0 _ _ j).symm), Wr.refl _ _⟩
  case round =>
    obtain ⟨k, hk, rfl, rfl, hs, hw⟩ := hrel
    have HW := Lib.hid hw
    have HS := Lib.hid hs
    by_cases hlt : k < n
    · obtain ⟨g, rfl, hB, hnc, hcm, hr⟩ := hs (by omega)
      have d0 := hr.cell (j := k) (by omega)
      have f0 := hr.frozen k
      have HR := Lib.hid (fun x => hr.set k x)
      have hk0' : (0 : Int) ≤ (k : Int) := by omega
      have hk1 : (k : Int) < (n : Int) := by omega
      have hk2 : (k : Int) ≤ 1048576 := by omega
      have hk3 : (k0 : Int) ≤ 100000000 := by omega
      clear hr hs hw HS
      go_wp2
      go_roundw
      case rel => exact ⟨k + 1, by omega, by go_num, by go_num, fun _ => ⟨g, rfl, hB, hnc, hcm, (HR.out _).congr fun j _ => mx_set1 (mv k0) _ _ j⟩, HW.out.setCell ⟨rfl, by omega⟩ _⟩
      case measure => simp [intOf]; omega
    · have hke : k = n := by omega
      subst hke
      clear hs hw
      go_wp2
      go_ret
      exact ⟨rfl, HS.out.congr (fun j hj => mx_all _ _ (by omega)), HW.out⟩
end Go.Proofs.Ytlhgaihfghobmaa
