/- Slices of int64 that the call has made: the rises, program and reference. -/
import Derived.Test.YtfempadelilpoaaDoorSl
import Derived.Laws.OwnMore
import Derived.OwnWalk
import Derived.Handy
namespace Go.Proofs.YtfempadelilpoaaDoor
open Go.ChangeShapes Go.WideShapes Go.ChangeAt Go.RowKit Go.Deep

/-- does the list rise through 0 at k? -/
def upAt (xs : List Nat) (k : Nat) : Bool := (FloatKind.f32.format.order (nth xs (k - 1)) 0 == some Ordering.lt) && (FloatKind.f32.format.order (nth xs k) 0 == some Ordering.gt || FloatKind.f32.format.order (nth xs k) 0 == some Ordering.eq)
def rs (xs : List Nat) : Nat → List Int
  | 0 => []
  | k + 1 => if 0 < k ∧ upAt xs k = true then rs xs k ++ [(k : Int)] else rs xs k
theorem rs_le (xs : List Nat) : ∀ k, (rs xs k).length ≤ k
  | 0 => Nat.le_refl _
  | k + 1 => by
    have := rs_le xs k
    unfold rs
    split <;> simp <;> omega
theorem rs_hit {xs : List Nat} {k : Nat} (hk : 0 < k) (h : upAt xs k = true) : rs xs (k + 1) = rs xs k ++ [(k : Int)] := by
  show (if _ then _ else _) = _
  rw [if_pos ⟨hk, h⟩]
theorem rs_miss {xs : List Nat} {k : Nat} (h : upAt xs k = false) : rs xs (k + 1) = rs xs k := by
  show (if _ then _ else _) = _
  rw [if_neg (fun c => by rw [h] at c; cases c.2)]
theorem info64 : (Tryd.prog.info? 2).map (fun i => (i.zero, i.size, i.bytes)) = some (some (.int .i64 0), 1, 8) := by kernel_rfl

/-- the slice v, made by the call from block B on, holds the numbers xs. -/
def Ow (w : World) (B : Nat) (v : Value) (xs : List Int) : Prop := w.ownsRow B 2 1 v xs.length (xs.map (Value.int .i64))
def RetI (xs : List Int) (w : World) (e : Ending) (w' : World) : Prop := ∃ v, e = .returned v ∧ Ow w' w.heap.size v xs ∧ Below w.heap.size w w'
def RetIB (xs : List Int) (b : Bool) (w : World) (e : Ending) (w' : World) : Prop := ∃ v, e = .returned (.tuple #[v, .bool b]) ∧ Ow w' w.heap.size v xs ∧ Below w.heap.size w w'
theorem rs_rel {w wr w1 : World} {O : Obj} {v v' : Value} {xs : List Nat} {k : Nat} (hk : 0 < k) (h : upAt xs k = true) (hown : Ow wr w.heap.size v (rs xs k)) (hB : Below w.heap.size w wr)
    (hown1 : w1.ownsRow w.heap.size 2 1 v' ((rs xs k).length + 1) ((rs xs k).map (Value.int .i64) ++ [.int .i64 k])) (hg : (wr.alloc O).grownBy w1 v.ownBlock) :
    Ow w1 w.heap.size v' (rs xs (k + 1)) ∧ Below w.heap.size w w1 := by
  refine ⟨?_, (hB.alloc hB.size O).grown hg (by have := hB.size; simp; omega) (fun j hj => (hown.lt j hj).1)⟩
  unfold Ow
  rw [rs_hit hk h, List.length_append, List.map_append]
  exact hown1


/-- what RisesOf returns. -/
def risesV (xs : List Nat) : List Int := if xs.length ≤ 256 then rs xs xs.length else []
def fewR (xs : List Nat) : Bool := decide (xs.length ≤ 256)
end Go.Proofs.YtfempadelilpoaaDoor
