/- The hexadecimal text of a number, program and reference. -/
import Derived.Test.YtfempadelilpoaaSl
import Derived.Test.YtfempadelilpoaaW1
import Derived.Laws.OwnMore
import Derived.Laws.IdiomStrings
import Derived.OwnWalk
import Derived.Handy
namespace Go.Proofs.Ytfempadelilpoaa
open Go.ChangeShapes Go.WideShapes Go.ChangeAt Go.RowKit Go.Deep

theorem info8 : (Try.prog.info? 5).map (fun i => (i.zero, i.size, i.bytes)) = some (some (.int .u8 0), 1, 1) := by kernel_rfl

def hexB (i : Nat) : UInt8 := if i < 10 then (48 + i).toUInt8 else (87 + i).toUInt8
theorem hex_at (i : Nat) (h : i < (⟨#[48, 49, 50, 51, 52, 53, 54, 55, 56, 57, 97, 98, 99, 100, 101, 102]⟩ : ByteArray).size) : (⟨#[48, 49, 50, 51, 52, 53, 54, 55, 56, 57, 97, 98, 99, 100, 101, 102]⟩ : ByteArray)[i]'h = hexB i := by
  have h' : i < 16 := h
  have key : ∀ i : Fin 16, (⟨#[48, 49, 50, 51, 52, 53, 54, 55, 56, 57, 97, 98, 99, 100, 101, 102]⟩ : ByteArray)[i.1]'i.2 = hexB i.1 := by decide
  exact key ⟨i, h'⟩
/-- the digit of the bits b at place j, from the left. -/
def digI (b : Int) (j : Nat) : Int := bits .and .i64 (b / 2 ^ (28 - 4 * j)) 15
def hexs (b : Int) : Nat → List UInt8
  | 0 => []
  | j + 1 => hexs b j ++ [hexB (digI b j).toNat]
theorem hexs_length (b : Int) : ∀ j, (hexs b j).length = j
  | 0 => rfl
  | j + 1 => by simp [hexs, hexs_length b j]
theorem dig_range {b : Int} (h0 : 0 ≤ b) (h1 : b ≤ 4294967295) (j : Nat) : 0 ≤ digI b j ∧ digI b j < 16 := by
  obtain ⟨m, rfl⟩ := Int.eq_ofNat_of_zero_le h0
  unfold digI
  have e : ((m : Int) / 2 ^ (28 - 4 * j)) = ((m / 2 ^ (28 - 4 * j) : Nat) : Int) := by simp
  have hm : m / 2 ^ (28 - 4 * j) ≤ m := Nat.div_le_self _ _
  rw [e, show (15 : Int) = ((15 : Nat) : Int) from rfl, i64_and_nat _ _ (by omega) (by decide)]
  have := @Nat.and_le_right (m / 2 ^ (28 - 4 * j)) 15
  omega
def cellsB (l : List UInt8) : List Value := l.map (fun u => Value.int .u8 (u.toNat : Int))
def RetS (l : List UInt8) (w : World) (e : Ending) (w' : World) : Prop := e = .returned (.string ⟨l.toArray⟩) ∧ Below w.heap.size w w'
theorem hex_rel {w wr w1 : World} {O : Obj} {v v' : Value} {b : Int} {j : Nat} (hown : wr.ownsRow w.heap.size 5 1 v j (cellsB (hexs b j))) (hB : Below w.heap.size w wr)
    (hown1 : w1.ownsRow w.heap.size 5 1 v' (j + 1) (cellsB (hexs b j) ++ [.int .u8 ((hexB (digI b j).toNat).toNat : Int)])) (hg : (wr.alloc O).grownBy w1 v.ownBlock) :
    w1.ownsRow w.heap.size 5 1 v' (j + 1) (cellsB (hexs b (j + 1))) ∧ Below w.heap.size w w1 := by
  refine ⟨?_, (hB.alloc hB.size O).grown hg (by have := hB.size; simp; omega) (fun j hj => (hown.lt j hj).1)⟩
  have e : cellsB (hexs b (j + 1)) = cellsB (hexs b j) ++ [.int .u8 ((hexB (digI b j).toNat).toNat : Int)] := by simp [cellsB, hexs]
  rw [e]
  exact hown1
theorem own_bytes {w : World} {B n : Nat} {v : Value} {l : List UInt8} (hl : l.length = n) (hn : 0 < n) (h : w.ownsRow B 5 1 v n (cellsB l)) :
    ∃ g cap, v = .slice (some ⟨g, 0, none⟩) n cap ∧ (convert 31 9 v).run Try.prog w = .ok (.string ⟨l.toArray⟩) w := by
  obtain ⟨_, ⟨_, h0⟩ | ⟨g, cap, cur, rfl, hB, hg, _⟩⟩ := id h
  · omega
  · refine ⟨g, cap, rfl, ?_⟩
    subst hl
    refine run_convert_bytes_back w 31 9 5 ⟨g, 0, none⟩ cap l Try.underlying31 Try.underlying5 Try.underlying9 fun j hj => ?_
    have := World.ownsRow.cellAt h j (by omega)
    rw [show (⟨g, 0, none⟩ : Addr).add j = ⟨g, j, none⟩ by unfold Addr.add; simp; try omega, this]
    simp [cellsB, hj]

set_option maxHeartbeats 1000000 in
theorem spec_l01Hex (x : Nat) (hx : x < 4294967296) (w : World) : Calls Try.prog 14 #[.float .f32 x] w (RetS (hexs (bitsI x) 8) w) := by
  have hr := bitsI_range hx
  have CB' := spec_l01Bits x hx
  generalize bitsI x = b at hr CB'
  have CB := Lib.hid CB'
  have DR := Lib.hid (dig_range hr.1 hr.2)
  obtain ⟨h0, h1⟩ := hr
  clear CB'
  obtain ⟨i0, hi, hz0, hz1, hz2⟩ := info_parts info8
  go_enter Try.func14, Try.ntmps14
  go_wp2_with (go_at_call 18; refine (CB.out _).mono ?_; rintro e w' ⟨rfl, n, rfl⟩)
  go_loopw [4, 5] (fun v i wr => ∃ j : Nat, j ≤ 8 ∧ i = .int .i64 (28 - 4 * j) ∧ wr.ownsRow w.heap.size 5 1 v j (cellsB (hexs b j)) ∧ Below w.heap.size w wr) (fun _ i _ => (intOf i + 4).toNat)
  case atStart => exact ⟨0, Nat.zero_le _, rfl, World.ownsRow_made (w.drewN n) #[] 0 (Nat.le_refl _) (Nat.zero_le _) rfl, (by repeat' (first | with_reducible exact Below.refl _ _ | with_reducible assumption | with_reducible refine below_dn ?_ _ | with_reducible refine Below.drew ?_ | with_reducible refine below_step ?_ (by assumption) | with_reducible refine Below.setCell ?_ ?_ _ | with_reducible refine Below.alloc ?_ ?_ _ | with_reducible exact Nat.le_refl _ | (simp; done) | (simp; omega) | omega))⟩
  case round =>
    obtain ⟨j, hj, rfl, hown, hB⟩ := hrel
    have HO := Lib.hid hown
    clear hown
    by_cases hlt : j < 8
    · have hd := DR.out j
      unfold digI at hd
      obtain ⟨hd0, hd1⟩ := hd
      have hsz := hB.size
      go_wp2_with (at_builtin; refine wpList_append_own _ rfl _ _ 31 rfl w.heap.size 5 i0 (.int .u8 0) 1 1 Try.underlying31 hi hz0 hz1 hz2 rfl (by decide) _ _ _ rfl (HO.out.alloc _) ⟨wr.heap.size, 0, none⟩ 1 1 [.int .u8 ((hexB (digI b j).toNat).toNat : Int)] rfl rfl (fun j u hj => by match j, hj with | 0, hj => (simp at hj; subst hj; simp [Addr.add, hex_at, digI])) (fun u hu => by simp at hu; subst hu; rfl) (by unfold maxLen; omega) (by omega) (by simp; omega) ?_; intro v' w1 hown1 hgrow _)
      have R := hex_rel HO.out hB hown1 hgrow
      clear hown1 hgrow
      go_wp2
      go_roundw
      case rel => exact ⟨j + 1, by omega, by go_num, R.1, R.2⟩
      case measure => simp [intOf]; omega
    · have hje : j = 8 := by omega
      subst hje
      obtain ⟨g, cap, rfl, hcv⟩ := own_bytes (hexs_length b 8) (by decide) HO.out
      go_wp2
      go_ret
      exact ⟨rfl, hB⟩
end Go.Proofs.Ytfempadelilpoaa
