/-
  No cell of these rows narrows 'for every input' (looked for: loops, veiled, ifaces, maps, wideKeys, modest, calm, conditions, laid).
  DERIVED. THE GIVEN ROWS OF THIS SEAT. 12 by the template 'for every input the law returns true; each argument reads behind the call as it read before'; 0 by the template 'total and deterministic' (their statements: YtbjnjllegcdlkaaTotals.lean).
  GIVEN WITH THE SEED: the statements are not yours to turn. If you find one false, say at which input.
  Laid BY PROGRAM, IN A SANDBOX (cutbox-rows.mjs): the forced cells as the released guide's own fill.sh prints them over the translation 605d0fd73d0a2e67… (all of the seat's roots in one cut). By AI agents, Wed Nov 11 2026. No macro, syntax, notation, axiom, sorry.
-/
import Derived.Test.YtbjnjllegcdlkaaChecked
import GoSem.Claim
import GoSem.ClaimJoined
import GoSem.ClaimMapViews
import Derived.JoinedTies
import Derived.KernelRfl
namespace Go.Proofs.Ytbjnjllegcdlkaa
/- THE CELL 'sum', in the pinned program and in every row, IS THE sha256 OF THE DUMP (.gsa) THAT YtbjnjllegcdlkaaProg.lean LOADS. Nothing in Lean hashes anything: it is a label: what it is worth is what the hold of that sum in a sandbox is worth. -/
noncomputable def Try.pinned : Pinned := { name := "ytbjnjllegcdlkaa", sum := "605d0fd73d0a2e67741f3059a461d54d55f1081239c82c7b7c83c79741a3687d", checked := Try.checked }
namespace Rows
def none {H : Type} : Left H := { results := [], args := [] }

/-- 'laws.FnExactScaleVector': WHATEVER THE INPUT: true; the input reads as it did. -/
def fnExactScaleVectorSpec : ChangeSpec := { name := "fnExactScaleVector", fn := fun _ => fun
  | [d1, d2] => { results := [.lit (.bool true)], args := [d1, d2] }
  | _ => none }
def fnExactScaleVectorRow : OpenClaim := { program := "ytbjnjllegcdlkaa", sum := "605d0fd73d0a2e67741f3059a461d54d55f1081239c82c7b7c83c79741a3687d", func := "loop.example/g01253/laws.FnExactScaleVector", spec := "fnExactScaleVector", apart := false }
def FnExactScaleVectorSaid : Prop := fnExactScaleVectorRow.holds Try.pinned (OpenSpec.ofChange fnExactScaleVectorSpec)

/-- ITS FALSE NEIGHBOUR: 'it returns false'. Refute it at one input. -/
def fnExactScaleVectorWrong : ChangeSpec := { name := "fnExactScaleVector", fn := fun _ => fun
  | [d1, d2] => { results := [.lit (.bool false)], args := [d1, d2] }
  | _ => none }
def FnExactScaleVectorWrongFalsely : Prop := fnExactScaleVectorRow.holds Try.pinned (OpenSpec.ofChange fnExactScaleVectorWrong)

/-- 'laws.FnExactCrossOf': WHATEVER THE INPUT: true; the input reads as it did. -/
def fnExactCrossOfSpec : ChangeSpec := { name := "fnExactCrossOf", fn := fun _ => fun
  | [d1, d2] => { results := [.lit (.bool true)], args := [d1, d2] }
  | _ => none }
def fnExactCrossOfRow : OpenClaim := { program := "ytbjnjllegcdlkaa", sum := "605d0fd73d0a2e67741f3059a461d54d55f1081239c82c7b7c83c79741a3687d", func := "loop.example/g01253/laws.FnExactCrossOf", spec := "fnExactCrossOf", apart := false }
def FnExactCrossOfSaid : Prop := fnExactCrossOfRow.holds Try.pinned (OpenSpec.ofChange fnExactCrossOfSpec)

/-- ITS FALSE NEIGHBOUR: 'it returns false'. Refute it at one input. -/
def fnExactCrossOfWrong : ChangeSpec := { name := "fnExactCrossOf", fn := fun _ => fun
  | [d1, d2] => { results := [.lit (.bool false)], args := [d1, d2] }
  | _ => none }
def FnExactCrossOfWrongFalsely : Prop := fnExactCrossOfRow.holds Try.pinned (OpenSpec.ofChange fnExactCrossOfWrong)

/-- 'laws.FnExactFlushNumber': WHATEVER THE INPUT: true; the input reads as it did. -/
def fnExactFlushNumberSpec : ChangeSpec := { name := "fnExactFlushNumber", fn := fun _ => fun
  | [d] => { results := [.lit (.bool true)], args := [d] }
  | _ => none }
def fnExactFlushNumberRow : OpenClaim := { program := "ytbjnjllegcdlkaa", sum := "605d0fd73d0a2e67741f3059a461d54d55f1081239c82c7b7c83c79741a3687d", func := "loop.example/g01253/laws.FnExactFlushNumber", spec := "fnExactFlushNumber", inPlace := ["math.Float32bits", "math.Float32frombits"], apart := false }
def FnExactFlushNumberSaid : Prop := fnExactFlushNumberRow.holds Try.pinned (OpenSpec.ofChange fnExactFlushNumberSpec)

/-- ITS FALSE NEIGHBOUR: 'it returns false'. Refute it at one input. -/
def fnExactFlushNumberWrong : ChangeSpec := { name := "fnExactFlushNumber", fn := fun _ => fun
  | [d] => { results := [.lit (.bool false)], args := [d] }
  | _ => none }
def FnExactFlushNumberWrongFalsely : Prop := fnExactFlushNumberRow.holds Try.pinned (OpenSpec.ofChange fnExactFlushNumberWrong)

/-- 'laws.FnExactNextUp': WHATEVER THE INPUT: true; the input reads as it did. -/
def fnExactNextUpSpec : ChangeSpec := { name := "fnExactNextUp", fn := fun _ => fun
  | [d] => { results := [.lit (.bool true)], args := [d] }
  | _ => none }
def fnExactNextUpRow : OpenClaim := { program := "ytbjnjllegcdlkaa", sum := "605d0fd73d0a2e67741f3059a461d54d55f1081239c82c7b7c83c79741a3687d", func := "loop.example/g01253/laws.FnExactNextUp", spec := "fnExactNextUp", inPlace := ["math.Float32bits", "math.Float32frombits"], apart := false }
def FnExactNextUpSaid : Prop := fnExactNextUpRow.holds Try.pinned (OpenSpec.ofChange fnExactNextUpSpec)

/-- ITS FALSE NEIGHBOUR: 'it returns false'. Refute it at one input. -/
def fnExactNextUpWrong : ChangeSpec := { name := "fnExactNextUp", fn := fun _ => fun
  | [d] => { results := [.lit (.bool false)], args := [d] }
  | _ => none }
def FnExactNextUpWrongFalsely : Prop := fnExactNextUpRow.holds Try.pinned (OpenSpec.ofChange fnExactNextUpWrong)

/-- 'laws.FnExactNextDown': WHATEVER THE INPUT: true; the input reads as it did. -/
def fnExactNextDownSpec : ChangeSpec := { name := "fnExactNextDown", fn := fun _ => fun
  | [d] => { results := [.lit (.bool true)], args := [d] }
  | _ => none }
def fnExactNextDownRow : OpenClaim := { program := "ytbjnjllegcdlkaa", sum := "605d0fd73d0a2e67741f3059a461d54d55f1081239c82c7b7c83c79741a3687d", func := "loop.example/g01253/laws.FnExactNextDown", spec := "fnExactNextDown", inPlace := ["math.Float32bits", "math.Float32frombits"], apart := false }
def FnExactNextDownSaid : Prop := fnExactNextDownRow.holds Try.pinned (OpenSpec.ofChange fnExactNextDownSpec)

/-- ITS FALSE NEIGHBOUR: 'it returns false'. Refute it at one input. -/
def fnExactNextDownWrong : ChangeSpec := { name := "fnExactNextDown", fn := fun _ => fun
  | [d] => { results := [.lit (.bool false)], args := [d] }
  | _ => none }
def FnExactNextDownWrongFalsely : Prop := fnExactNextDownRow.holds Try.pinned (OpenSpec.ofChange fnExactNextDownWrong)

/-- 'laws.FnExactBetweenVectors': WHATEVER THE INPUT: true; the input reads as it did. -/
def fnExactBetweenVectorsSpec : ChangeSpec := { name := "fnExactBetweenVectors", fn := fun _ => fun
  | [d1, d2, d3] => { results := [.lit (.bool true)], args := [d1, d2, d3] }
  | _ => none }
def fnExactBetweenVectorsRow : OpenClaim := { program := "ytbjnjllegcdlkaa", sum := "605d0fd73d0a2e67741f3059a461d54d55f1081239c82c7b7c83c79741a3687d", func := "loop.example/g01253/laws.FnExactBetweenVectors", spec := "fnExactBetweenVectors", apart := false }
def FnExactBetweenVectorsSaid : Prop := fnExactBetweenVectorsRow.holds Try.pinned (OpenSpec.ofChange fnExactBetweenVectorsSpec)

/-- ITS FALSE NEIGHBOUR: 'it returns false'. Refute it at one input. -/
def fnExactBetweenVectorsWrong : ChangeSpec := { name := "fnExactBetweenVectors", fn := fun _ => fun
  | [d1, d2, d3] => { results := [.lit (.bool false)], args := [d1, d2, d3] }
  | _ => none }
def FnExactBetweenVectorsWrongFalsely : Prop := fnExactBetweenVectorsRow.holds Try.pinned (OpenSpec.ofChange fnExactBetweenVectorsWrong)

/-- 'laws.FnExactDotWide': WHATEVER THE INPUT: true; the input reads as it did. -/
def fnExactDotWideSpec : ChangeSpec := { name := "fnExactDotWide", fn := fun _ => fun
  | [d1, d2] => { results := [.lit (.bool true)], args := [d1, d2] }
  | _ => none }
def fnExactDotWideRow : OpenClaim := { program := "ytbjnjllegcdlkaa", sum := "605d0fd73d0a2e67741f3059a461d54d55f1081239c82c7b7c83c79741a3687d", func := "loop.example/g01253/laws.FnExactDotWide", spec := "fnExactDotWide", apart := false }
def FnExactDotWideSaid : Prop := fnExactDotWideRow.holds Try.pinned (OpenSpec.ofChange fnExactDotWideSpec)

/-- ITS FALSE NEIGHBOUR: 'it returns false'. Refute it at one input. -/
def fnExactDotWideWrong : ChangeSpec := { name := "fnExactDotWide", fn := fun _ => fun
  | [d1, d2] => { results := [.lit (.bool false)], args := [d1, d2] }
  | _ => none }
def FnExactDotWideWrongFalsely : Prop := fnExactDotWideRow.holds Try.pinned (OpenSpec.ofChange fnExactDotWideWrong)

/-- 'laws.FnExactDotNumbers': WHATEVER THE INPUT: true; the input reads as it did. -/
def fnExactDotNumbersSpec : ChangeSpec := { name := "fnExactDotNumbers", fn := fun _ => fun
  | [d1, d2] => { results := [.lit (.bool true)], args := [d1, d2] }
  | _ => none }
def fnExactDotNumbersRow : OpenClaim := { program := "ytbjnjllegcdlkaa", sum := "605d0fd73d0a2e67741f3059a461d54d55f1081239c82c7b7c83c79741a3687d", func := "loop.example/g01253/laws.FnExactDotNumbers", spec := "fnExactDotNumbers", apart := false }
def FnExactDotNumbersSaid : Prop := fnExactDotNumbersRow.holds Try.pinned (OpenSpec.ofChange fnExactDotNumbersSpec)

/-- ITS FALSE NEIGHBOUR: 'it returns false'. Refute it at one input. -/
def fnExactDotNumbersWrong : ChangeSpec := { name := "fnExactDotNumbers", fn := fun _ => fun
  | [d1, d2] => { results := [.lit (.bool false)], args := [d1, d2] }
  | _ => none }
def FnExactDotNumbersWrongFalsely : Prop := fnExactDotNumbersRow.holds Try.pinned (OpenSpec.ofChange fnExactDotNumbersWrong)

/-- 'laws.FnExactSumNumbers': WHATEVER THE INPUT: true; the input reads as it did. -/
def fnExactSumNumbersSpec : ChangeSpec := { name := "fnExactSumNumbers", fn := fun _ => fun
  | [d] => { results := [.lit (.bool true)], args := [d] }
  | _ => none }
def fnExactSumNumbersRow : OpenClaim := { program := "ytbjnjllegcdlkaa", sum := "605d0fd73d0a2e67741f3059a461d54d55f1081239c82c7b7c83c79741a3687d", func := "loop.example/g01253/laws.FnExactSumNumbers", spec := "fnExactSumNumbers", apart := false }
def FnExactSumNumbersSaid : Prop := fnExactSumNumbersRow.holds Try.pinned (OpenSpec.ofChange fnExactSumNumbersSpec)

/-- ITS FALSE NEIGHBOUR: 'it returns false'. Refute it at one input. -/
def fnExactSumNumbersWrong : ChangeSpec := { name := "fnExactSumNumbers", fn := fun _ => fun
  | [d] => { results := [.lit (.bool false)], args := [d] }
  | _ => none }
def FnExactSumNumbersWrongFalsely : Prop := fnExactSumNumbersRow.holds Try.pinned (OpenSpec.ofChange fnExactSumNumbersWrong)

/-- 'laws.FnExactExpNumber': WHATEVER THE INPUT: true; the input reads as it did. -/
def fnExactExpNumberSpec : ChangeSpec := { name := "fnExactExpNumber", fn := fun _ => fun
  | [d] => { results := [.lit (.bool true)], args := [d] }
  | _ => none }
def fnExactExpNumberRow : OpenClaim := { program := "ytbjnjllegcdlkaa", sum := "605d0fd73d0a2e67741f3059a461d54d55f1081239c82c7b7c83c79741a3687d", func := "loop.example/g01253/laws.FnExactExpNumber", spec := "fnExactExpNumber", inPlace := ["math.Float64frombits"], apart := false }
def FnExactExpNumberSaid : Prop := fnExactExpNumberRow.holds Try.pinned (OpenSpec.ofChange fnExactExpNumberSpec)

/-- ITS FALSE NEIGHBOUR: 'it returns false'. Refute it at one input. -/
def fnExactExpNumberWrong : ChangeSpec := { name := "fnExactExpNumber", fn := fun _ => fun
  | [d] => { results := [.lit (.bool false)], args := [d] }
  | _ => none }
def FnExactExpNumberWrongFalsely : Prop := fnExactExpNumberRow.holds Try.pinned (OpenSpec.ofChange fnExactExpNumberWrong)

/-- 'laws.FnExactSumPairs': WHATEVER THE INPUT: true; the input reads as it did. -/
def fnExactSumPairsSpec : ChangeSpec := { name := "fnExactSumPairs", fn := fun _ => fun
  | [d] => { results := [.lit (.bool true)], args := [d] }
  | _ => none }
def fnExactSumPairsRow : OpenClaim := { program := "ytbjnjllegcdlkaa", sum := "605d0fd73d0a2e67741f3059a461d54d55f1081239c82c7b7c83c79741a3687d", func := "loop.example/g01253/laws.FnExactSumPairs", spec := "fnExactSumPairs", recurses := true, apart := false }
def FnExactSumPairsSaid : Prop := fnExactSumPairsRow.holds Try.pinned (OpenSpec.ofChange fnExactSumPairsSpec)

/-- ITS FALSE NEIGHBOUR: 'it returns false'. Refute it at one input. -/
def fnExactSumPairsWrong : ChangeSpec := { name := "fnExactSumPairs", fn := fun _ => fun
  | [d] => { results := [.lit (.bool false)], args := [d] }
  | _ => none }
def FnExactSumPairsWrongFalsely : Prop := fnExactSumPairsRow.holds Try.pinned (OpenSpec.ofChange fnExactSumPairsWrong)

/-- 'laws.FnExactRootNumber': WHATEVER THE INPUT: true; the input reads as it did. -/
def fnExactRootNumberSpec : ChangeSpec := { name := "fnExactRootNumber", fn := fun _ => fun
  | [d] => { results := [.lit (.bool true)], args := [d] }
  | _ => none }
def fnExactRootNumberRow : OpenClaim := { program := "ytbjnjllegcdlkaa", sum := "605d0fd73d0a2e67741f3059a461d54d55f1081239c82c7b7c83c79741a3687d", func := "loop.example/g01253/laws.FnExactRootNumber", spec := "fnExactRootNumber", inPlace := ["math.sqrt"], apart := false }
def FnExactRootNumberSaid : Prop := fnExactRootNumberRow.holds Try.pinned (OpenSpec.ofChange fnExactRootNumberSpec)

/-- ITS FALSE NEIGHBOUR: 'it returns false'. Refute it at one input. -/
def fnExactRootNumberWrong : ChangeSpec := { name := "fnExactRootNumber", fn := fun _ => fun
  | [d] => { results := [.lit (.bool false)], args := [d] }
  | _ => none }
def FnExactRootNumberWrongFalsely : Prop := fnExactRootNumberRow.holds Try.pinned (OpenSpec.ofChange fnExactRootNumberWrong)

/- THE SECOND FORM. 'bulk': how many values and letters a reading holds, each counted each time it is reached (what is shared counts as often as it is met; a slice's spare places count too). A statement '..UptoSaid' is the law's where the arguments, and the package variables that the reading takes, are together of bulk at most 1048576: NARROWER than '..Said'. Prove '..Said' where nothing that the law and all that it calls make is longer than what came in: it says more and counts as full. Else prove '..UptoSaid'. A law counts once. -/
mutual
def uptoBulk {H : Type} : DataW H → Nat
  | .lit (.string bytes) => bytes.length + 1
  | .lit _ => 1
  | .nil => 1
  | .ptr d => uptoBulk d + 1
  | .slice elems spare => uptoBulkAll elems + uptoBulkAll spare + 1
  | .agg parts => uptoBulkAll parts + 1
  | .iface _ d => uptoBulk d + 1
  | .map entries => uptoBulkEntries entries + 1
  | .held _ => 1
def uptoBulkAll {H : Type} : List (DataW H) → Nat
  | [] => 0
  | d :: r => uptoBulk d + uptoBulkAll r
def uptoBulkEntries {H : Type} : List (Lit × DataW H) → Nat
  | [] => 0
  | x :: r => uptoBulkEntry x + uptoBulkEntries r
def uptoBulkEntry {H : Type} : Lit × DataW H → Nat
  | (.string bytes, d) => bytes.length + uptoBulk d + 1
  | (_, d) => uptoBulk d + 1
 end
def uptoSmall : (H : Type) → List (DataW H) → Bool := fun _ ds => decide (uptoBulkAll ds ≤ 1048576)
def OpenSpec.upto (s : _root_.Go.ChangeSpec) : _root_.Go.OpenSpec := { _root_.Go.OpenSpec.ofChange s with cond := some uptoSmall }

/-- 'laws.FnExactScaleVector', WHERE WHAT IT READS IS OF BULK AT MOST 1048576: true; the input reads as it did. -/
def fnExactScaleVectorUptoRow : OpenClaim := { program := "ytbjnjllegcdlkaa", sum := "605d0fd73d0a2e67741f3059a461d54d55f1081239c82c7b7c83c79741a3687d", func := "loop.example/g01253/laws.FnExactScaleVector", spec := "fnExactScaleVector", apart := false, narrowed := true }
def FnExactScaleVectorUptoSaid : Prop := fnExactScaleVectorUptoRow.holds Try.pinned (OpenSpec.upto fnExactScaleVectorSpec)

/-- 'laws.FnExactCrossOf', WHERE WHAT IT READS IS OF BULK AT MOST 1048576: true; the input reads as it did. -/
def fnExactCrossOfUptoRow : OpenClaim := { program := "ytbjnjllegcdlkaa", sum := "605d0fd73d0a2e67741f3059a461d54d55f1081239c82c7b7c83c79741a3687d", func := "loop.example/g01253/laws.FnExactCrossOf", spec := "fnExactCrossOf", apart := false, narrowed := true }
def FnExactCrossOfUptoSaid : Prop := fnExactCrossOfUptoRow.holds Try.pinned (OpenSpec.upto fnExactCrossOfSpec)

/-- 'laws.FnExactFlushNumber', WHERE WHAT IT READS IS OF BULK AT MOST 1048576: true; the input reads as it did. -/
def fnExactFlushNumberUptoRow : OpenClaim := { program := "ytbjnjllegcdlkaa", sum := "605d0fd73d0a2e67741f3059a461d54d55f1081239c82c7b7c83c79741a3687d", func := "loop.example/g01253/laws.FnExactFlushNumber", spec := "fnExactFlushNumber", inPlace := ["math.Float32bits", "math.Float32frombits"], apart := false, narrowed := true }
def FnExactFlushNumberUptoSaid : Prop := fnExactFlushNumberUptoRow.holds Try.pinned (OpenSpec.upto fnExactFlushNumberSpec)

/-- 'laws.FnExactNextUp', WHERE WHAT IT READS IS OF BULK AT MOST 1048576: true; the input reads as it did. -/
def fnExactNextUpUptoRow : OpenClaim := { program := "ytbjnjllegcdlkaa", sum := "605d0fd73d0a2e67741f3059a461d54d55f1081239c82c7b7c83c79741a3687d", func := "loop.example/g01253/laws.FnExactNextUp", spec := "fnExactNextUp", inPlace := ["math.Float32bits", "math.Float32frombits"], apart := false, narrowed := true }
def FnExactNextUpUptoSaid : Prop := fnExactNextUpUptoRow.holds Try.pinned (OpenSpec.upto fnExactNextUpSpec)

/-- 'laws.FnExactNextDown', WHERE WHAT IT READS IS OF BULK AT MOST 1048576: true; the input reads as it did. -/
def fnExactNextDownUptoRow : OpenClaim := { program := "ytbjnjllegcdlkaa", sum := "605d0fd73d0a2e67741f3059a461d54d55f1081239c82c7b7c83c79741a3687d", func := "loop.example/g01253/laws.FnExactNextDown", spec := "fnExactNextDown", inPlace := ["math.Float32bits", "math.Float32frombits"], apart := false, narrowed := true }
def FnExactNextDownUptoSaid : Prop := fnExactNextDownUptoRow.holds Try.pinned (OpenSpec.upto fnExactNextDownSpec)

/-- 'laws.FnExactBetweenVectors', WHERE WHAT IT READS IS OF BULK AT MOST 1048576: true; the input reads as it did. -/
def fnExactBetweenVectorsUptoRow : OpenClaim := { program := "ytbjnjllegcdlkaa", sum := "605d0fd73d0a2e67741f3059a461d54d55f1081239c82c7b7c83c79741a3687d", func := "loop.example/g01253/laws.FnExactBetweenVectors", spec := "fnExactBetweenVectors", apart := false, narrowed := true }
def FnExactBetweenVectorsUptoSaid : Prop := fnExactBetweenVectorsUptoRow.holds Try.pinned (OpenSpec.upto fnExactBetweenVectorsSpec)

/-- 'laws.FnExactDotWide', WHERE WHAT IT READS IS OF BULK AT MOST 1048576: true; the input reads as it did. -/
def fnExactDotWideUptoRow : OpenClaim := { program := "ytbjnjllegcdlkaa", sum := "605d0fd73d0a2e67741f3059a461d54d55f1081239c82c7b7c83c79741a3687d", func := "loop.example/g01253/laws.FnExactDotWide", spec := "fnExactDotWide", apart := false, narrowed := true }
def FnExactDotWideUptoSaid : Prop := fnExactDotWideUptoRow.holds Try.pinned (OpenSpec.upto fnExactDotWideSpec)

/-- 'laws.FnExactDotNumbers', WHERE WHAT IT READS IS OF BULK AT MOST 1048576: true; the input reads as it did. -/
def fnExactDotNumbersUptoRow : OpenClaim := { program := "ytbjnjllegcdlkaa", sum := "605d0fd73d0a2e67741f3059a461d54d55f1081239c82c7b7c83c79741a3687d", func := "loop.example/g01253/laws.FnExactDotNumbers", spec := "fnExactDotNumbers", apart := false, narrowed := true }
def FnExactDotNumbersUptoSaid : Prop := fnExactDotNumbersUptoRow.holds Try.pinned (OpenSpec.upto fnExactDotNumbersSpec)

/-- 'laws.FnExactSumNumbers', WHERE WHAT IT READS IS OF BULK AT MOST 1048576: true; the input reads as it did. -/
def fnExactSumNumbersUptoRow : OpenClaim := { program := "ytbjnjllegcdlkaa", sum := "605d0fd73d0a2e67741f3059a461d54d55f1081239c82c7b7c83c79741a3687d", func := "loop.example/g01253/laws.FnExactSumNumbers", spec := "fnExactSumNumbers", apart := false, narrowed := true }
def FnExactSumNumbersUptoSaid : Prop := fnExactSumNumbersUptoRow.holds Try.pinned (OpenSpec.upto fnExactSumNumbersSpec)

/-- 'laws.FnExactExpNumber', WHERE WHAT IT READS IS OF BULK AT MOST 1048576: true; the input reads as it did. -/
def fnExactExpNumberUptoRow : OpenClaim := { program := "ytbjnjllegcdlkaa", sum := "605d0fd73d0a2e67741f3059a461d54d55f1081239c82c7b7c83c79741a3687d", func := "loop.example/g01253/laws.FnExactExpNumber", spec := "fnExactExpNumber", inPlace := ["math.Float64frombits"], apart := false, narrowed := true }
def FnExactExpNumberUptoSaid : Prop := fnExactExpNumberUptoRow.holds Try.pinned (OpenSpec.upto fnExactExpNumberSpec)

/-- 'laws.FnExactSumPairs', WHERE WHAT IT READS IS OF BULK AT MOST 1048576: true; the input reads as it did. -/
def fnExactSumPairsUptoRow : OpenClaim := { program := "ytbjnjllegcdlkaa", sum := "605d0fd73d0a2e67741f3059a461d54d55f1081239c82c7b7c83c79741a3687d", func := "loop.example/g01253/laws.FnExactSumPairs", spec := "fnExactSumPairs", recurses := true, apart := false, narrowed := true }
def FnExactSumPairsUptoSaid : Prop := fnExactSumPairsUptoRow.holds Try.pinned (OpenSpec.upto fnExactSumPairsSpec)

/-- 'laws.FnExactRootNumber', WHERE WHAT IT READS IS OF BULK AT MOST 1048576: true; the input reads as it did. -/
def fnExactRootNumberUptoRow : OpenClaim := { program := "ytbjnjllegcdlkaa", sum := "605d0fd73d0a2e67741f3059a461d54d55f1081239c82c7b7c83c79741a3687d", func := "loop.example/g01253/laws.FnExactRootNumber", spec := "fnExactRootNumber", inPlace := ["math.sqrt"], apart := false, narrowed := true }
def FnExactRootNumberUptoSaid : Prop := fnExactRootNumberUptoRow.holds Try.pinned (OpenSpec.upto fnExactRootNumberSpec)

end Rows
end Go.Proofs.Ytbjnjllegcdlkaa
