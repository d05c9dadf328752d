/- Slices of int64 that the call has made: the rises, program and reference. -/
import Derived.Test.YtojkdlidcmfkeaaSl
import Derived.Laws.OwnMore
import Derived.OwnWalk
import Derived.Handy
namespace Go.Proofs.Ytojkdlidcmfkeaa
open Go.ChangeShapes Go.WideShapes Go.ChangeAt Go.RowKit Go.Deep

/-- does the list rise through 0 at k? -/
def upAt (xs : List Nat) (k : Nat) : Bool := (FloatKind.f32.format.order (nth xs (k - 1)) 0 == some Ordering.lt) && (FloatKind.f32.format.order (nth xs k) 0 == some Ordering.gt || FloatKind.f32.format.order (nth xs k) 0 == some Ordering.eq)
def rs (xs : List Nat) : Nat → List Int
  | 0 => []
  | k + 1 => if 0 < k ∧ upAt xs k = true then rs xs k ++ [(k : Int)] else rs xs k
theorem rs_le (xs : List Nat) : ∀ k, (rs xs k).length ≤ k
  | 0 => Nat.le_refl _
  | k + 1 => by
    have := rs_le xs k
    unfold rs
    split <;> simp <;> omega
theorem rs_hit {xs : List Nat} {k : Nat} (hk : 0 < k) (h : upAt xs k = true) : rs xs (k + 1) = rs xs k ++ [(k : Int)] := by
  show (if _ then _ else _) = _
  rw [if_pos ⟨hk, h⟩]
theorem rs_miss {xs : List Nat} {k : Nat} (h : upAt xs k = false) : rs xs (k + 1) = rs xs k := by
  show (if _ then _ else _) = _
  rw [if_neg (fun c => by rw [h] at c; cases c.2)]
theorem info64 : (Try.prog.info? 2).map (fun i => (i.zero, i.size, i.bytes)) = some (some (.int .i64 0), 1, 8) := by kernel_rfl

/-- the slice v, made by the call from block B on, holds the numbers xs. -/
def Ow (w : World) (B : Nat) (v : Value) (xs : List Int) : Prop := w.ownsRow B 2 1 v xs.length (xs.map (Value.int .i64))
def RetI (xs : List Int) (w : World) (e : Ending) (w' : World) : Prop := ∃ v, e = .returned v ∧ Ow w' w.heap.size v xs ∧ Below w.heap.size w w'
def RetIB (xs : List Int) (b : Bool) (w : World) (e : Ending) (w' : World) : Prop := ∃ v, e = .returned (.tuple #[v, .bool b]) ∧ Ow w' w.heap.size v xs ∧ Below w.heap.size w w'
theorem rs_rel {w wr w1 : World} {O : Obj} {v v' : Value} {xs : List Nat} {k : Nat} (hk : 0 < k) (h : upAt xs k = true) (hown : Ow wr w.heap.size v (rs xs k)) (hB : Below w.heap.size w wr)
    (hown1 : w1.ownsRow w.heap.size 2 1 v' ((rs xs k).length + 1) ((rs xs k).map (Value.int .i64) ++ [.int .i64 k])) (hg : (wr.alloc O).grownBy w1 v.ownBlock) :
    Ow w1 w.heap.size v' (rs xs (k + 1)) ∧ Below w.heap.size w w1 := by
  refine ⟨?_, (hB.alloc hB.size O).grown hg (by have := hB.size; simp; omega) (fun j hj => (hown.lt j hj).1)⟩
  unfold Ow
  rw [rs_hit hk h, List.length_append, List.map_append]
  exact hown1

set_option maxHeartbeats 1000000 in
theorem spec_l02Rises (A : Option Addr) (cap : Nat) (xs : List Nat) (hn : xs.length ≤ 1048576) (w : World) (B : Nat) (h : FlAt w B A xs) (hB : B ≤ w.heap.size) :
    Calls Try.prog 34 #[.slice A xs.length cap] w (RetI (rs xs xs.length) w) := by
  by_cases hx : 0 < xs.length
  · obtain ⟨b, off, rfl, hb, hc⟩ := h hx
    have HC := Lib.hid hc
    clear h hc
    obtain ⟨i0, hi, hz0, hz1, hz2⟩ := info_parts info64
    go_enter Try.func34, Try.ntmps34
    go_wp2
    go_loopw [3, 4] (fun v i wr => ∃ k : Nat, 1 ≤ k ∧ k ≤ xs.length ∧ i = .int .i64 k ∧ Ow wr w.heap.size v (rs xs k) ∧ Below w.heap.size w wr) (fun _ i _ => xs.length - (intOf i).toNat)
    case atStart => exact ⟨1, Nat.le_refl _, hx, rfl, World.ownsRow_made w #[] 0 (Nat.le_refl _) (Nat.zero_le _) rfl, (by repeat' (first | with_reducible exact Below.refl _ _ | with_reducible assumption | with_reducible refine below_dn ?_ _ | with_reducible refine Below.drew ?_ | with_reducible refine below_step ?_ (by assumption) | with_reducible refine Below.setCell ?_ ?_ _ | with_reducible refine Below.alloc ?_ ?_ _ | with_reducible exact Nat.le_refl _ | (simp; done) | (simp; omega) | omega))⟩
    case round =>
      obtain ⟨k, hk1, hk, rfl, hown, hB1⟩ := hrel
      have HO := Lib.hid hown
      clear hown
      by_cases hlt : k < xs.length
      · have hcx : wr.cell? ⟨b, off + k, none⟩ = some (.float .f32 (nth xs k)) := (hB1.cell (p := ⟨b, off + k, none⟩) (Nat.lt_of_lt_of_le hb hB)).trans (HC.out k hlt)
        have hcy : wr.cell? ⟨b, off + (k - 1), none⟩ = some (.float .f32 (nth xs (k - 1))) := (hB1.cell (p := ⟨b, off + (k - 1), none⟩) (Nat.lt_of_lt_of_le hb hB)).trans (HC.out (k - 1) (by omega))
        have hup : upAt xs k = ((FloatKind.f32.format.order (nth xs (k - 1)) 0 == some Ordering.lt) && (FloatKind.f32.format.order (nth xs k) 0 == some Ordering.gt || FloatKind.f32.format.order (nth xs k) 0 == some Ordering.eq)) := rfl
        have HU := Lib.hid hup
        clear hup
        have hle := rs_le xs k
        go_wp2_with (at_builtin; refine wpList_append_own _ rfl _ _ 31 rfl w.heap.size 2 i0 (.int .i64 0) 1 8 Try.underlying31 hi hz0 hz1 hz2 rfl (by decide) _ _ _ rfl (HO.out.alloc _) ⟨wr.heap.size, 0, none⟩ 1 1 [.int .i64 k] rfl rfl (fun j u hj => by match j, hj with | 0, hj => (simp at hj; subst hj; simp [Addr.add])) (fun u hu => by simp at hu; subst hu; rfl) (by unfold maxLen; omega) (by omega) (by have := hB1.size; simp; omega) ?_; intro v' w1 hown1 hgrow _)
        all_goals first
          | (go_roundw
             case rel => exact ⟨k + 1, by omega, by omega, by go_num, by rw [rs_miss (by have := HU.out; first | (simp_all; done) | (simp_all; intro hq; rcases (by assumption : _ ∨ ¬ _) with g1 | g1; exact g1; exact absurd hq g1) | grind)]; exact HO.out, hB1⟩
             case measure => simp [intOf]; omega)
          | (have R := rs_rel (by omega) (by have := HU.out; first | (simp_all; done) | (simp_all; intro hq; rcases (by assumption : _ ∨ ¬ _) with g1 | g1; exact g1; exact absurd hq g1) | grind) HO.out hB1 hown1 hgrow
             clear hown1 hgrow
             go_wp2
             go_roundw
             case rel => exact ⟨k + 1, by omega, by omega, by go_num, R.1, R.2⟩
             case measure => simp [intOf]; omega)
      · have hke : k = xs.length := by omega
        have HO' := Lib.hid (show Ow wr w.heap.size _ (rs xs xs.length) from hke ▸ HO.out)
        go_wp2
        go_ret
        exact ⟨_, rfl, HO'.out, hB1⟩
  · have h0 : xs = [] := List.eq_nil_of_length_eq_zero (by omega)
    subst h0
    clear h hx hn
    show Calls Try.prog 34 #[.slice A 0 cap] w (RetI [] w)
    go_enter Try.func34, Try.ntmps34
    go_wp2
    refine wp_loop_rounds 1 ?_
    rw [rounds_succ]
    go_wp2
    go_ret
    exact ⟨_, rfl, World.ownsRow_made w #[] 0 (Nat.le_refl _) (Nat.zero_le _) rfl, (by repeat' (first | with_reducible exact Below.refl _ _ | with_reducible assumption | with_reducible refine below_dn ?_ _ | with_reducible refine Below.drew ?_ | with_reducible refine below_step ?_ (by assumption) | with_reducible refine Below.setCell ?_ ?_ _ | with_reducible refine Below.alloc ?_ ?_ _ | with_reducible exact Nat.le_refl _ | (simp; done) | (simp; omega) | omega))⟩
set_option maxHeartbeats 1000000 in
theorem impl_rises (A : Option Addr) (cap : Nat) (xs : List Nat) (hn : xs.length ≤ 1048576) (w : World) (B : Nat) (h : FlAt w B A xs) (hB : B ≤ w.heap.size) :
    Calls Try.prog 35 #[.slice A xs.length cap] w (RetI (rs xs xs.length) w) := by
  by_cases hx : 0 < xs.length
  · obtain ⟨b, off, rfl, hb, hc⟩ := h hx
    have HC := Lib.hid hc
    clear h hc
    obtain ⟨i0, hi, hz0, hz1, hz2⟩ := info_parts info64
    go_enter Try.func35, Try.ntmps35
    go_wp2
    go_loopw [3, 4] (fun v i wr => ∃ k : Nat, 1 ≤ k ∧ k ≤ xs.length ∧ i = .int .i64 k ∧ Ow wr w.heap.size v (rs xs k) ∧ Below w.heap.size w wr) (fun _ i _ => xs.length - (intOf i).toNat)
    case atStart => exact ⟨1, Nat.le_refl _, hx, rfl, World.ownsRow_made w #[] 0 (Nat.le_refl _) (Nat.zero_le _) rfl, (by repeat' (first | with_reducible exact Below.refl _ _ | with_reducible assumption | with_reducible refine below_dn ?_ _ | with_reducible refine Below.drew ?_ | with_reducible refine below_step ?_ (by assumption) | with_reducible refine Below.setCell ?_ ?_ _ | with_reducible refine Below.alloc ?_ ?_ _ | with_reducible exact Nat.le_refl _ | (simp; done) | (simp; omega) | omega))⟩
    case round =>
      obtain ⟨k, hk1, hk, rfl, hown, hB1⟩ := hrel
      have HO := Lib.hid hown
      clear hown
      by_cases hlt : k < xs.length
      · have hcx : wr.cell? ⟨b, off + k, none⟩ = some (.float .f32 (nth xs k)) := (hB1.cell (p := ⟨b, off + k, none⟩) (Nat.lt_of_lt_of_le hb hB)).trans (HC.out k hlt)
        have hcy : wr.cell? ⟨b, off + (k - 1), none⟩ = some (.float .f32 (nth xs (k - 1))) := (hB1.cell (p := ⟨b, off + (k - 1), none⟩) (Nat.lt_of_lt_of_le hb hB)).trans (HC.out (k - 1) (by omega))
        have hup : upAt xs k = ((FloatKind.f32.format.order (nth xs (k - 1)) 0 == some Ordering.lt) && (FloatKind.f32.format.order (nth xs k) 0 == some Ordering.gt || FloatKind.f32.format.order (nth xs k) 0 == some Ordering.eq)) := rfl
        have HU := Lib.hid hup
        clear hup
        have hle := rs_le xs k
        go_wp2_with (at_builtin; refine wpList_append_own _ rfl _ _ 31 rfl w.heap.size 2 i0 (.int .i64 0) 1 8 Try.underlying31 hi hz0 hz1 hz2 rfl (by decide) _ _ _ rfl (HO.out.alloc _) ⟨wr.heap.size, 0, none⟩ 1 1 [.int .i64 k] rfl rfl (fun j u hj => by match j, hj with | 0, hj => (simp at hj; subst hj; simp [Addr.add])) (fun u hu => by simp at hu; subst hu; rfl) (by unfold maxLen; omega) (by omega) (by have := hB1.size; simp; omega) ?_; intro v' w1 hown1 hgrow _)
        all_goals first
          | (go_roundw
             case rel => exact ⟨k + 1, by omega, by omega, by go_num, by rw [rs_miss (by have := HU.out; first | (simp_all; done) | (simp_all; intro hq; rcases (by assumption : _ ∨ ¬ _) with g1 | g1; exact g1; exact absurd hq g1) | grind)]; exact HO.out, hB1⟩
             case measure => simp [intOf]; omega)
          | (have R := rs_rel (by omega) (by have := HU.out; first | (simp_all; done) | (simp_all; intro hq; rcases (by assumption : _ ∨ ¬ _) with g1 | g1; exact g1; exact absurd hq g1) | grind) HO.out hB1 hown1 hgrow
             clear hown1 hgrow
             go_wp2
             go_roundw
             case rel => exact ⟨k + 1, by omega, by omega, by go_num, R.1, R.2⟩
             case measure => simp [intOf]; omega)
      · have hke : k = xs.length := by omega
        have HO' := Lib.hid (show Ow wr w.heap.size _ (rs xs xs.length) from hke ▸ HO.out)
        go_wp2
        go_ret
        exact ⟨_, rfl, HO'.out, hB1⟩
  · have h0 : xs = [] := List.eq_nil_of_length_eq_zero (by omega)
    subst h0
    clear h hx hn
    show Calls Try.prog 35 #[.slice A 0 cap] w (RetI [] w)
    go_enter Try.func35, Try.ntmps35
    go_wp2
    refine wp_loop_rounds 1 ?_
    rw [rounds_succ]
    go_wp2
    go_ret
    exact ⟨_, rfl, World.ownsRow_made w #[] 0 (Nat.le_refl _) (Nat.zero_le _) rfl, (by repeat' (first | with_reducible exact Below.refl _ _ | with_reducible assumption | with_reducible refine below_dn ?_ _ | with_reducible refine Below.drew ?_ | with_reducible refine below_step ?_ (by assumption) | with_reducible refine Below.setCell ?_ ?_ _ | with_reducible refine Below.alloc ?_ ?_ _ | with_reducible exact Nat.le_refl _ | (simp; done) | (simp; omega) | omega))⟩

/-- what RisesOf returns. -/
def risesV (xs : List Nat) : List Int := if xs.length ≤ 256 then rs xs xs.length else []
def fewR (xs : List Nat) : Bool := decide (xs.length ≤ 256)
theorem spec_RisesOf (A : Option Addr) (cap : Nat) (xs : List Nat) (hn : xs.length ≤ 1048576) (w : World) (B : Nat) (h : FlAt w B A xs) (hB : B ≤ w.heap.size) :
    Calls Try.prog 15 #[.slice A xs.length cap] w (RetIB (risesV xs) (fewR xs) w) := by
  by_cases hf : xs.length ≤ 256
  · have e1 : risesV xs = rs xs xs.length := by unfold risesV; rw [if_pos hf]
    have e2 : fewR xs = true := decide_eq_true hf
    have hf' : (xs.length : Int) ≤ 256 := by omega
    have H := Lib.hid h
    rw [e1, e2]
    clear h hf e1 e2
    go_enter Try.func15, Try.ntmps15
    go_wp2_with (go_at_call 34; refine (spec_l02Rises _ _ _ hn _ _ H.out hB).mono ?_; rintro e w' ⟨v, rfl, ho, hb⟩)
    go_ret2
    exact ⟨_, rfl, ho, hb⟩
  · have e1 : risesV xs = [] := by unfold risesV; rw [if_neg hf]
    have e2 : fewR xs = false := decide_eq_false hf
    have hf' : (256 : Int) < (xs.length : Int) := by omega
    rw [e1, e2]
    clear h hf e1 e2
    go_enter Try.func15, Try.ntmps15
    go_wp2
    go_ret2
    exact ⟨_, rfl, World.ownsRow_nil _ _ _ _, (by repeat' (first | with_reducible exact Below.refl _ _ | with_reducible assumption | with_reducible refine below_dn ?_ _ | with_reducible refine Below.drew ?_ | with_reducible refine below_step ?_ (by assumption) | with_reducible refine Below.setCell ?_ ?_ _ | with_reducible refine Below.alloc ?_ ?_ _ | with_reducible exact Nat.le_refl _ | (simp; done) | (simp; omega) | omega))⟩
theorem impl_RisesOf (A : Option Addr) (cap : Nat) (xs : List Nat) (hn : xs.length ≤ 1048576) (w : World) (B : Nat) (h : FlAt w B A xs) (hB : B ≤ w.heap.size) :
    Calls Try.prog 16 #[.slice A xs.length cap] w (RetIB (risesV xs) (fewR xs) w) := by
  by_cases hf : xs.length ≤ 256
  · have e1 : risesV xs = rs xs xs.length := by unfold risesV; rw [if_pos hf]
    have e2 : fewR xs = true := decide_eq_true hf
    have hf' : (xs.length : Int) ≤ 256 := by omega
    have H := Lib.hid h
    rw [e1, e2]
    clear h hf e1 e2
    go_enter Try.func16, Try.ntmps16
    go_wp2_with (go_at_call 35; refine (impl_rises _ _ _ hn _ _ H.out hB).mono ?_; rintro e w' ⟨v, rfl, ho, hb⟩)
    go_ret2
    exact ⟨_, rfl, ho, hb⟩
  · have e1 : risesV xs = [] := by unfold risesV; rw [if_neg hf]
    have e2 : fewR xs = false := decide_eq_false hf
    have hf' : (256 : Int) < (xs.length : Int) := by omega
    rw [e1, e2]
    clear h hf e1 e2
    go_enter Try.func16, Try.ntmps16
    go_wp2
    go_ret2
    exact ⟨_, rfl, World.ownsRow_nil _ _ _ _, (by repeat' (first | with_reducible exact Below.refl _ _ | with_reducible assumption | with_reducible refine below_dn ?_ _ | with_reducible refine Below.drew ?_ | with_reducible refine below_step ?_ (by assumption) | with_reducible refine Below.setCell ?_ ?_ _ | with_reducible refine Below.alloc ?_ ?_ _ | with_reducible exact Nat.le_refl _ | (simp; done) | (simp; omega) | omega))⟩
end Go.Proofs.Ytojkdlidcmfkeaa
