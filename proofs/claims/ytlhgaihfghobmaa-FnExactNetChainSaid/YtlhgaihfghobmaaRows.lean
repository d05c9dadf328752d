/-
  No cell of these rows narrows 'for every input' (looked for: loops, veiled, ifaces, maps, wideKeys, modest, calm, conditions, laid).
  DERIVED. THE GIVEN ROWS OF THIS SEAT. 20 by the template 'for every input the law returns true; each argument reads behind the call as it read before'; 0 by the template 'total and deterministic' (their statements: YtlhgaihfghobmaaTotals.lean).
  GIVEN WITH THE SEED: the statements are not yours to turn. If you find one false, say at which input.
  Laid BY PROGRAM, IN A SANDBOX (cutbox-rows.mjs): the forced cells as the released guide's own fill.sh prints them over the translation 50de223ade7d2fba… (all of the seat's roots in one cut). By AI agents, Wed Nov 11 2026. No macro, syntax, notation, axiom, sorry.
-/
import Derived.Test.YtlhgaihfghobmaaChecked
import GoSem.Claim
import GoSem.ClaimJoined
import GoSem.ClaimMapViews
import Derived.JoinedTies
import Derived.KernelRfl
namespace Go.Proofs.Ytlhgaihfghobmaa
/- THE CELL 'sum', in the pinned program and in every row, IS THE sha256 OF THE DUMP (.gsa) THAT YtlhgaihfghobmaaProg.lean LOADS. Nothing in Lean hashes anything: it is a label: what it is worth is what the hold of that sum in a sandbox is worth. -/
noncomputable def Try.pinned : Pinned := { name := "ytlhgaihfghobmaa", sum := "50de223ade7d2fba261a7f60850905841e8ed117545daf0655507f500df96609", checked := Try.checked }
namespace Rows
def none {H : Type} : Left H := { results := [], args := [] }

/-- 'laws.FnExactValidChain': WHATEVER THE INPUT: true; the input reads as it did. -/
def fnExactValidChainSpec : ChangeSpec := { name := "fnExactValidChain", fn := fun _ => fun
  | [d] => { results := [.lit (.bool true)], args := [d] }
  | _ => none }
def fnExactValidChainRow : OpenClaim := { program := "ytlhgaihfghobmaa", sum := "50de223ade7d2fba261a7f60850905841e8ed117545daf0655507f500df96609", func := "loop.example/g01253/laws.FnExactValidChain", spec := "fnExactValidChain", unfollowed := true, recurses := true, apart := false }
def FnExactValidChainSaid : Prop := fnExactValidChainRow.holds Try.pinned (OpenSpec.ofChange fnExactValidChainSpec)

/-- ITS FALSE NEIGHBOUR: 'it returns false'. Refute it at one input. -/
def fnExactValidChainWrong : ChangeSpec := { name := "fnExactValidChain", fn := fun _ => fun
  | [d] => { results := [.lit (.bool false)], args := [d] }
  | _ => none }
def FnExactValidChainWrongFalsely : Prop := fnExactValidChainRow.holds Try.pinned (OpenSpec.ofChange fnExactValidChainWrong)

/-- 'laws.FnExactMomentumOf': WHATEVER THE INPUT: true; the input reads as it did. -/
def fnExactMomentumOfSpec : ChangeSpec := { name := "fnExactMomentumOf", fn := fun _ => fun
  | [d1, d2] => { results := [.lit (.bool true)], args := [d1, d2] }
  | _ => none }
def fnExactMomentumOfRow : OpenClaim := { program := "ytlhgaihfghobmaa", sum := "50de223ade7d2fba261a7f60850905841e8ed117545daf0655507f500df96609", func := "loop.example/g01253/laws.FnExactMomentumOf", spec := "fnExactMomentumOf", unfollowed := true, recurses := true, apart := false }
def FnExactMomentumOfSaid : Prop := fnExactMomentumOfRow.holds Try.pinned (OpenSpec.ofChange fnExactMomentumOfSpec)

/-- ITS FALSE NEIGHBOUR: 'it returns false'. Refute it at one input. -/
def fnExactMomentumOfWrong : ChangeSpec := { name := "fnExactMomentumOf", fn := fun _ => fun
  | [d1, d2] => { results := [.lit (.bool false)], args := [d1, d2] }
  | _ => none }
def FnExactMomentumOfWrongFalsely : Prop := fnExactMomentumOfRow.holds Try.pinned (OpenSpec.ofChange fnExactMomentumOfWrong)

/-- 'laws.FnExactCentreOfChain': WHATEVER THE INPUT: true; the input reads as it did. -/
def fnExactCentreOfChainSpec : ChangeSpec := { name := "fnExactCentreOfChain", fn := fun _ => fun
  | [d] => { results := [.lit (.bool true)], args := [d] }
  | _ => none }
def fnExactCentreOfChainRow : OpenClaim := { program := "ytlhgaihfghobmaa", sum := "50de223ade7d2fba261a7f60850905841e8ed117545daf0655507f500df96609", func := "loop.example/g01253/laws.FnExactCentreOfChain", spec := "fnExactCentreOfChain", unfollowed := true, recurses := true, apart := false }
def FnExactCentreOfChainSaid : Prop := fnExactCentreOfChainRow.holds Try.pinned (OpenSpec.ofChange fnExactCentreOfChainSpec)

/-- ITS FALSE NEIGHBOUR: 'it returns false'. Refute it at one input. -/
def fnExactCentreOfChainWrong : ChangeSpec := { name := "fnExactCentreOfChain", fn := fun _ => fun
  | [d] => { results := [.lit (.bool false)], args := [d] }
  | _ => none }
def FnExactCentreOfChainWrongFalsely : Prop := fnExactCentreOfChainRow.holds Try.pinned (OpenSpec.ofChange fnExactCentreOfChainWrong)

/-- 'laws.FnExactEnergyOfChain': WHATEVER THE INPUT: true; the input reads as it did. -/
def fnExactEnergyOfChainSpec : ChangeSpec := { name := "fnExactEnergyOfChain", fn := fun _ => fun
  | [d1, d2, d3] => { results := [.lit (.bool true)], args := [d1, d2, d3] }
  | _ => none }
def fnExactEnergyOfChainRow : OpenClaim := { program := "ytlhgaihfghobmaa", sum := "50de223ade7d2fba261a7f60850905841e8ed117545daf0655507f500df96609", func := "loop.example/g01253/laws.FnExactEnergyOfChain", spec := "fnExactEnergyOfChain", unfollowed := true, recurses := true, apart := false }
def FnExactEnergyOfChainSaid : Prop := fnExactEnergyOfChainRow.holds Try.pinned (OpenSpec.ofChange fnExactEnergyOfChainSpec)

/-- ITS FALSE NEIGHBOUR: 'it returns false'. Refute it at one input. -/
def fnExactEnergyOfChainWrong : ChangeSpec := { name := "fnExactEnergyOfChain", fn := fun _ => fun
  | [d1, d2, d3] => { results := [.lit (.bool false)], args := [d1, d2, d3] }
  | _ => none }
def FnExactEnergyOfChainWrongFalsely : Prop := fnExactEnergyOfChainRow.holds Try.pinned (OpenSpec.ofChange fnExactEnergyOfChainWrong)

/-- 'laws.FnExactRopeChain': WHATEVER THE INPUT: true; the input reads as it did. -/
def fnExactRopeChainSpec : ChangeSpec := { name := "fnExactRopeChain", fn := fun _ => fun
  | [d1, d2, d3] => { results := [.lit (.bool true)], args := [d1, d2, d3] }
  | _ => none }
def fnExactRopeChainRow : OpenClaim := { program := "ytlhgaihfghobmaa", sum := "50de223ade7d2fba261a7f60850905841e8ed117545daf0655507f500df96609", func := "loop.example/g01253/laws.FnExactRopeChain", spec := "fnExactRopeChain", unfollowed := true, recurses := true, apart := false }
def FnExactRopeChainSaid : Prop := fnExactRopeChainRow.holds Try.pinned (OpenSpec.ofChange fnExactRopeChainSpec)

/-- ITS FALSE NEIGHBOUR: 'it returns false'. Refute it at one input. -/
def fnExactRopeChainWrong : ChangeSpec := { name := "fnExactRopeChain", fn := fun _ => fun
  | [d1, d2, d3] => { results := [.lit (.bool false)], args := [d1, d2, d3] }
  | _ => none }
def FnExactRopeChainWrongFalsely : Prop := fnExactRopeChainRow.holds Try.pinned (OpenSpec.ofChange fnExactRopeChainWrong)

/-- 'laws.FnExactNetChain': WHATEVER THE INPUT: true; the input reads as it did. -/
def fnExactNetChainSpec : ChangeSpec := { name := "fnExactNetChain", fn := fun _ => fun
  | [d1, d2, d3, d4] => { results := [.lit (.bool true)], args := [d1, d2, d3, d4] }
  | _ => none }
def fnExactNetChainRow : OpenClaim := { program := "ytlhgaihfghobmaa", sum := "50de223ade7d2fba261a7f60850905841e8ed117545daf0655507f500df96609", func := "loop.example/g01253/laws.FnExactNetChain", spec := "fnExactNetChain", unfollowed := true, recurses := true, apart := false }
def FnExactNetChainSaid : Prop := fnExactNetChainRow.holds Try.pinned (OpenSpec.ofChange fnExactNetChainSpec)

/-- ITS FALSE NEIGHBOUR: 'it returns false'. Refute it at one input. -/
def fnExactNetChainWrong : ChangeSpec := { name := "fnExactNetChain", fn := fun _ => fun
  | [d1, d2, d3, d4] => { results := [.lit (.bool false)], args := [d1, d2, d3, d4] }
  | _ => none }
def FnExactNetChainWrongFalsely : Prop := fnExactNetChainRow.holds Try.pinned (OpenSpec.ofChange fnExactNetChainWrong)

/-- 'laws.FnExactRodLong': WHATEVER THE INPUT: true; the input reads as it did. -/
def fnExactRodLongSpec : ChangeSpec := { name := "fnExactRodLong", fn := fun _ => fun
  | [d1, d2] => { results := [.lit (.bool true)], args := [d1, d2] }
  | _ => none }
def fnExactRodLongRow : OpenClaim := { program := "ytlhgaihfghobmaa", sum := "50de223ade7d2fba261a7f60850905841e8ed117545daf0655507f500df96609", func := "loop.example/g01253/laws.FnExactRodLong", spec := "fnExactRodLong", inPlace := ["math.sqrt"], unfollowed := true, recurses := true, apart := false }
def FnExactRodLongSaid : Prop := fnExactRodLongRow.holds Try.pinned (OpenSpec.ofChange fnExactRodLongSpec)

/-- ITS FALSE NEIGHBOUR: 'it returns false'. Refute it at one input. -/
def fnExactRodLongWrong : ChangeSpec := { name := "fnExactRodLong", fn := fun _ => fun
  | [d1, d2] => { results := [.lit (.bool false)], args := [d1, d2] }
  | _ => none }
def FnExactRodLongWrongFalsely : Prop := fnExactRodLongRow.holds Try.pinned (OpenSpec.ofChange fnExactRodLongWrong)

/-- 'laws.FnExactColoursOfRods': WHATEVER THE INPUT: true; the input reads as it did. -/
def fnExactColoursOfRodsSpec : ChangeSpec := { name := "fnExactColoursOfRods", fn := fun _ => fun
  | [d] => { results := [.lit (.bool true)], args := [d] }
  | _ => none }
def fnExactColoursOfRodsRow : OpenClaim := { program := "ytlhgaihfghobmaa", sum := "50de223ade7d2fba261a7f60850905841e8ed117545daf0655507f500df96609", func := "loop.example/g01253/laws.FnExactColoursOfRods", spec := "fnExactColoursOfRods", unfollowed := true, recurses := true, apart := false }
def FnExactColoursOfRodsSaid : Prop := fnExactColoursOfRodsRow.holds Try.pinned (OpenSpec.ofChange fnExactColoursOfRodsSpec)

/-- ITS FALSE NEIGHBOUR: 'it returns false'. Refute it at one input. -/
def fnExactColoursOfRodsWrong : ChangeSpec := { name := "fnExactColoursOfRods", fn := fun _ => fun
  | [d] => { results := [.lit (.bool false)], args := [d] }
  | _ => none }
def FnExactColoursOfRodsWrongFalsely : Prop := fnExactColoursOfRodsRow.holds Try.pinned (OpenSpec.ofChange fnExactColoursOfRodsWrong)

/-- 'laws.FnExactWorstRod': WHATEVER THE INPUT: true; the input reads as it did. -/
def fnExactWorstRodSpec : ChangeSpec := { name := "fnExactWorstRod", fn := fun _ => fun
  | [d] => { results := [.lit (.bool true)], args := [d] }
  | _ => none }
def fnExactWorstRodRow : OpenClaim := { program := "ytlhgaihfghobmaa", sum := "50de223ade7d2fba261a7f60850905841e8ed117545daf0655507f500df96609", func := "loop.example/g01253/laws.FnExactWorstRod", spec := "fnExactWorstRod", inPlace := ["math.sqrt", "math.Float32bits", "math.Float32frombits"], unfollowed := true, recurses := true, apart := false }
def FnExactWorstRodSaid : Prop := fnExactWorstRodRow.holds Try.pinned (OpenSpec.ofChange fnExactWorstRodSpec)

/-- ITS FALSE NEIGHBOUR: 'it returns false'. Refute it at one input. -/
def fnExactWorstRodWrong : ChangeSpec := { name := "fnExactWorstRod", fn := fun _ => fun
  | [d] => { results := [.lit (.bool false)], args := [d] }
  | _ => none }
def FnExactWorstRodWrongFalsely : Prop := fnExactWorstRodRow.holds Try.pinned (OpenSpec.ofChange fnExactWorstRodWrong)

/-- 'laws.FnExactTurnBack': WHATEVER THE INPUT: true; the input reads as it did. -/
def fnExactTurnBackSpec : ChangeSpec := { name := "fnExactTurnBack", fn := fun _ => fun
  | [d] => { results := [.lit (.bool true)], args := [d] }
  | _ => none }
def fnExactTurnBackRow : OpenClaim := { program := "ytlhgaihfghobmaa", sum := "50de223ade7d2fba261a7f60850905841e8ed117545daf0655507f500df96609", func := "loop.example/g01253/laws.FnExactTurnBack", spec := "fnExactTurnBack", unfollowed := true, recurses := true, apart := false }
def FnExactTurnBackSaid : Prop := fnExactTurnBackRow.holds Try.pinned (OpenSpec.ofChange fnExactTurnBackSpec)

/-- ITS FALSE NEIGHBOUR: 'it returns false'. Refute it at one input. -/
def fnExactTurnBackWrong : ChangeSpec := { name := "fnExactTurnBack", fn := fun _ => fun
  | [d] => { results := [.lit (.bool false)], args := [d] }
  | _ => none }
def FnExactTurnBackWrongFalsely : Prop := fnExactTurnBackRow.holds Try.pinned (OpenSpec.ofChange fnExactTurnBackWrong)

/-- 'laws.FnExactHoldWeight': WHATEVER THE INPUT: true; the input reads as it did. -/
def fnExactHoldWeightSpec : ChangeSpec := { name := "fnExactHoldWeight", fn := fun _ => fun
  | [d1, d2] => { results := [.lit (.bool true)], args := [d1, d2] }
  | _ => none }
def fnExactHoldWeightRow : OpenClaim := { program := "ytlhgaihfghobmaa", sum := "50de223ade7d2fba261a7f60850905841e8ed117545daf0655507f500df96609", func := "loop.example/g01253/laws.FnExactHoldWeight", spec := "fnExactHoldWeight", unfollowed := true, recurses := true, apart := false }
def FnExactHoldWeightSaid : Prop := fnExactHoldWeightRow.holds Try.pinned (OpenSpec.ofChange fnExactHoldWeightSpec)

/-- ITS FALSE NEIGHBOUR: 'it returns false'. Refute it at one input. -/
def fnExactHoldWeightWrong : ChangeSpec := { name := "fnExactHoldWeight", fn := fun _ => fun
  | [d1, d2] => { results := [.lit (.bool false)], args := [d1, d2] }
  | _ => none }
def FnExactHoldWeightWrongFalsely : Prop := fnExactHoldWeightRow.holds Try.pinned (OpenSpec.ofChange fnExactHoldWeightWrong)

/-- 'laws.FnExactAddRod': WHATEVER THE INPUT: true; the input reads as it did. -/
def fnExactAddRodSpec : ChangeSpec := { name := "fnExactAddRod", fn := fun _ => fun
  | [d1, d2, d3, d4] => { results := [.lit (.bool true)], args := [d1, d2, d3, d4] }
  | _ => none }
def fnExactAddRodRow : OpenClaim := { program := "ytlhgaihfghobmaa", sum := "50de223ade7d2fba261a7f60850905841e8ed117545daf0655507f500df96609", func := "loop.example/g01253/laws.FnExactAddRod", spec := "fnExactAddRod", unfollowed := true, recurses := true, apart := false }
def FnExactAddRodSaid : Prop := fnExactAddRodRow.holds Try.pinned (OpenSpec.ofChange fnExactAddRodSpec)

/-- ITS FALSE NEIGHBOUR: 'it returns false'. Refute it at one input. -/
def fnExactAddRodWrong : ChangeSpec := { name := "fnExactAddRod", fn := fun _ => fun
  | [d1, d2, d3, d4] => { results := [.lit (.bool false)], args := [d1, d2, d3, d4] }
  | _ => none }
def FnExactAddRodWrongFalsely : Prop := fnExactAddRodRow.holds Try.pinned (OpenSpec.ofChange fnExactAddRodWrong)

/-- 'laws.FnExactAddWeight': WHATEVER THE INPUT: true; the input reads as it did. -/
def fnExactAddWeightSpec : ChangeSpec := { name := "fnExactAddWeight", fn := fun _ => fun
  | [d1, d2, d3] => { results := [.lit (.bool true)], args := [d1, d2, d3] }
  | _ => none }
def fnExactAddWeightRow : OpenClaim := { program := "ytlhgaihfghobmaa", sum := "50de223ade7d2fba261a7f60850905841e8ed117545daf0655507f500df96609", func := "loop.example/g01253/laws.FnExactAddWeight", spec := "fnExactAddWeight", unfollowed := true, recurses := true, apart := false }
def FnExactAddWeightSaid : Prop := fnExactAddWeightRow.holds Try.pinned (OpenSpec.ofChange fnExactAddWeightSpec)

/-- ITS FALSE NEIGHBOUR: 'it returns false'. Refute it at one input. -/
def fnExactAddWeightWrong : ChangeSpec := { name := "fnExactAddWeight", fn := fun _ => fun
  | [d1, d2, d3] => { results := [.lit (.bool false)], args := [d1, d2, d3] }
  | _ => none }
def FnExactAddWeightWrongFalsely : Prop := fnExactAddWeightRow.holds Try.pinned (OpenSpec.ofChange fnExactAddWeightWrong)

/-- 'laws.FnExactMoveChain': WHATEVER THE INPUT: true; the input reads as it did. -/
def fnExactMoveChainSpec : ChangeSpec := { name := "fnExactMoveChain", fn := fun _ => fun
  | [d1, d2] => { results := [.lit (.bool true)], args := [d1, d2] }
  | _ => none }
def fnExactMoveChainRow : OpenClaim := { program := "ytlhgaihfghobmaa", sum := "50de223ade7d2fba261a7f60850905841e8ed117545daf0655507f500df96609", func := "loop.example/g01253/laws.FnExactMoveChain", spec := "fnExactMoveChain", unfollowed := true, recurses := true, apart := false }
def FnExactMoveChainSaid : Prop := fnExactMoveChainRow.holds Try.pinned (OpenSpec.ofChange fnExactMoveChainSpec)

/-- ITS FALSE NEIGHBOUR: 'it returns false'. Refute it at one input. -/
def fnExactMoveChainWrong : ChangeSpec := { name := "fnExactMoveChain", fn := fun _ => fun
  | [d1, d2] => { results := [.lit (.bool false)], args := [d1, d2] }
  | _ => none }
def FnExactMoveChainWrongFalsely : Prop := fnExactMoveChainRow.holds Try.pinned (OpenSpec.ofChange fnExactMoveChainWrong)

/-- 'laws.FnExactKickChain': WHATEVER THE INPUT: true; the input reads as it did. -/
def fnExactKickChainSpec : ChangeSpec := { name := "fnExactKickChain", fn := fun _ => fun
  | [d1, d2, d3] => { results := [.lit (.bool true)], args := [d1, d2, d3] }
  | _ => none }
def fnExactKickChainRow : OpenClaim := { program := "ytlhgaihfghobmaa", sum := "50de223ade7d2fba261a7f60850905841e8ed117545daf0655507f500df96609", func := "loop.example/g01253/laws.FnExactKickChain", spec := "fnExactKickChain", unfollowed := true, recurses := true, apart := false }
def FnExactKickChainSaid : Prop := fnExactKickChainRow.holds Try.pinned (OpenSpec.ofChange fnExactKickChainSpec)

/-- ITS FALSE NEIGHBOUR: 'it returns false'. Refute it at one input. -/
def fnExactKickChainWrong : ChangeSpec := { name := "fnExactKickChain", fn := fun _ => fun
  | [d1, d2, d3] => { results := [.lit (.bool false)], args := [d1, d2, d3] }
  | _ => none }
def FnExactKickChainWrongFalsely : Prop := fnExactKickChainRow.holds Try.pinned (OpenSpec.ofChange fnExactKickChainWrong)

/-- 'laws.FnExactDropRod': WHATEVER THE INPUT: true; the input reads as it did. -/
def fnExactDropRodSpec : ChangeSpec := { name := "fnExactDropRod", fn := fun _ => fun
  | [d1, d2] => { results := [.lit (.bool true)], args := [d1, d2] }
  | _ => none }
def fnExactDropRodRow : OpenClaim := { program := "ytlhgaihfghobmaa", sum := "50de223ade7d2fba261a7f60850905841e8ed117545daf0655507f500df96609", func := "loop.example/g01253/laws.FnExactDropRod", spec := "fnExactDropRod", unfollowed := true, recurses := true, apart := false }
def FnExactDropRodSaid : Prop := fnExactDropRodRow.holds Try.pinned (OpenSpec.ofChange fnExactDropRodSpec)

/-- ITS FALSE NEIGHBOUR: 'it returns false'. Refute it at one input. -/
def fnExactDropRodWrong : ChangeSpec := { name := "fnExactDropRod", fn := fun _ => fun
  | [d1, d2] => { results := [.lit (.bool false)], args := [d1, d2] }
  | _ => none }
def FnExactDropRodWrongFalsely : Prop := fnExactDropRodRow.holds Try.pinned (OpenSpec.ofChange fnExactDropRodWrong)

/-- 'laws.FnExactFlyChain': WHATEVER THE INPUT: true; the input reads as it did. -/
def fnExactFlyChainSpec : ChangeSpec := { name := "fnExactFlyChain", fn := fun _ => fun
  | [d1, d2, d3, d4] => { results := [.lit (.bool true)], args := [d1, d2, d3, d4] }
  | _ => none }
def fnExactFlyChainRow : OpenClaim := { program := "ytlhgaihfghobmaa", sum := "50de223ade7d2fba261a7f60850905841e8ed117545daf0655507f500df96609", func := "loop.example/g01253/laws.FnExactFlyChain", spec := "fnExactFlyChain", unfollowed := true, recurses := true, apart := false }
def FnExactFlyChainSaid : Prop := fnExactFlyChainRow.holds Try.pinned (OpenSpec.ofChange fnExactFlyChainSpec)

/-- ITS FALSE NEIGHBOUR: 'it returns false'. Refute it at one input. -/
def fnExactFlyChainWrong : ChangeSpec := { name := "fnExactFlyChain", fn := fun _ => fun
  | [d1, d2, d3, d4] => { results := [.lit (.bool false)], args := [d1, d2, d3, d4] }
  | _ => none }
def FnExactFlyChainWrongFalsely : Prop := fnExactFlyChainRow.holds Try.pinned (OpenSpec.ofChange fnExactFlyChainWrong)

/-- 'laws.FnExactStraightenRod': WHATEVER THE INPUT: true; the input reads as it did. -/
def fnExactStraightenRodSpec : ChangeSpec := { name := "fnExactStraightenRod", fn := fun _ => fun
  | [d1, d2] => { results := [.lit (.bool true)], args := [d1, d2] }
  | _ => none }
def fnExactStraightenRodRow : OpenClaim := { program := "ytlhgaihfghobmaa", sum := "50de223ade7d2fba261a7f60850905841e8ed117545daf0655507f500df96609", func := "loop.example/g01253/laws.FnExactStraightenRod", spec := "fnExactStraightenRod", inPlace := ["math.sqrt"], unfollowed := true, recurses := true, apart := false }
def FnExactStraightenRodSaid : Prop := fnExactStraightenRodRow.holds Try.pinned (OpenSpec.ofChange fnExactStraightenRodSpec)

/-- ITS FALSE NEIGHBOUR: 'it returns false'. Refute it at one input. -/
def fnExactStraightenRodWrong : ChangeSpec := { name := "fnExactStraightenRod", fn := fun _ => fun
  | [d1, d2] => { results := [.lit (.bool false)], args := [d1, d2] }
  | _ => none }
def FnExactStraightenRodWrongFalsely : Prop := fnExactStraightenRodRow.holds Try.pinned (OpenSpec.ofChange fnExactStraightenRodWrong)

/-- 'laws.FnExactStraightenAll': WHATEVER THE INPUT: true; the input reads as it did. -/
def fnExactStraightenAllSpec : ChangeSpec := { name := "fnExactStraightenAll", fn := fun _ => fun
  | [d1, d2] => { results := [.lit (.bool true)], args := [d1, d2] }
  | _ => none }
def fnExactStraightenAllRow : OpenClaim := { program := "ytlhgaihfghobmaa", sum := "50de223ade7d2fba261a7f60850905841e8ed117545daf0655507f500df96609", func := "loop.example/g01253/laws.FnExactStraightenAll", spec := "fnExactStraightenAll", inPlace := ["math.sqrt"], unfollowed := true, recurses := true, apart := false }
def FnExactStraightenAllSaid : Prop := fnExactStraightenAllRow.holds Try.pinned (OpenSpec.ofChange fnExactStraightenAllSpec)

/-- ITS FALSE NEIGHBOUR: 'it returns false'. Refute it at one input. -/
def fnExactStraightenAllWrong : ChangeSpec := { name := "fnExactStraightenAll", fn := fun _ => fun
  | [d1, d2] => { results := [.lit (.bool false)], args := [d1, d2] }
  | _ => none }
def FnExactStraightenAllWrongFalsely : Prop := fnExactStraightenAllRow.holds Try.pinned (OpenSpec.ofChange fnExactStraightenAllWrong)

/-- 'laws.FnExactStraightenShared': WHATEVER THE INPUT: true; the input reads as it did. -/
def fnExactStraightenSharedSpec : ChangeSpec := { name := "fnExactStraightenShared", fn := fun _ => fun
  | [d1, d2] => { results := [.lit (.bool true)], args := [d1, d2] }
  | _ => none }
def fnExactStraightenSharedRow : OpenClaim := { program := "ytlhgaihfghobmaa", sum := "50de223ade7d2fba261a7f60850905841e8ed117545daf0655507f500df96609", func := "loop.example/g01253/laws.FnExactStraightenShared", spec := "fnExactStraightenShared", inPlace := ["math.sqrt"], unfollowed := true, recurses := true, apart := false }
def FnExactStraightenSharedSaid : Prop := fnExactStraightenSharedRow.holds Try.pinned (OpenSpec.ofChange fnExactStraightenSharedSpec)

/-- ITS FALSE NEIGHBOUR: 'it returns false'. Refute it at one input. -/
def fnExactStraightenSharedWrong : ChangeSpec := { name := "fnExactStraightenShared", fn := fun _ => fun
  | [d1, d2] => { results := [.lit (.bool false)], args := [d1, d2] }
  | _ => none }
def FnExactStraightenSharedWrongFalsely : Prop := fnExactStraightenSharedRow.holds Try.pinned (OpenSpec.ofChange fnExactStraightenSharedWrong)

/- THE SECOND FORM. 'bulk': how many values and letters a reading holds, each counted each time it is reached (what is shared counts as often as it is met; a slice's spare places count too). A statement '..UptoSaid' is the law's where the arguments, and the package variables that the reading takes, are together of bulk at most 1048576: NARROWER than '..Said'. Prove '..Said' where nothing that the law and all that it calls make is longer than what came in: it says more and counts as full. Else prove '..UptoSaid'. A law counts once. -/
mutual
def uptoBulk {H : Type} : DataW H → Nat
  | .lit (.string bytes) => bytes.length + 1
  | .lit _ => 1
  | .nil => 1
  | .ptr d => uptoBulk d + 1
  | .slice elems spare => uptoBulkAll elems + uptoBulkAll spare + 1
  | .agg parts => uptoBulkAll parts + 1
  | .iface _ d => uptoBulk d + 1
  | .map entries => uptoBulkEntries entries + 1
  | .held _ => 1
def uptoBulkAll {H : Type} : List (DataW H) → Nat
  | [] => 0
  | d :: r => uptoBulk d + uptoBulkAll r
def uptoBulkEntries {H : Type} : List (Lit × DataW H) → Nat
  | [] => 0
  | x :: r => uptoBulkEntry x + uptoBulkEntries r
def uptoBulkEntry {H : Type} : Lit × DataW H → Nat
  | (.string bytes, d) => bytes.length + uptoBulk d + 1
  | (_, d) => uptoBulk d + 1
 end
def uptoSmall : (H : Type) → List (DataW H) → Bool := fun _ ds => decide (uptoBulkAll ds ≤ 1048576)
def OpenSpec.upto (s : _root_.Go.ChangeSpec) : _root_.Go.OpenSpec := { _root_.Go.OpenSpec.ofChange s with cond := some uptoSmall }

/-- 'laws.FnExactValidChain', WHERE WHAT IT READS IS OF BULK AT MOST 1048576: true; the input reads as it did. -/
def fnExactValidChainUptoRow : OpenClaim := { program := "ytlhgaihfghobmaa", sum := "50de223ade7d2fba261a7f60850905841e8ed117545daf0655507f500df96609", func := "loop.example/g01253/laws.FnExactValidChain", spec := "fnExactValidChain", unfollowed := true, recurses := true, apart := false, narrowed := true }
def FnExactValidChainUptoSaid : Prop := fnExactValidChainUptoRow.holds Try.pinned (OpenSpec.upto fnExactValidChainSpec)

/-- 'laws.FnExactMomentumOf', WHERE WHAT IT READS IS OF BULK AT MOST 1048576: true; the input reads as it did. -/
def fnExactMomentumOfUptoRow : OpenClaim := { program := "ytlhgaihfghobmaa", sum := "50de223ade7d2fba261a7f60850905841e8ed117545daf0655507f500df96609", func := "loop.example/g01253/laws.FnExactMomentumOf", spec := "fnExactMomentumOf", unfollowed := true, recurses := true, apart := false, narrowed := true }
def FnExactMomentumOfUptoSaid : Prop := fnExactMomentumOfUptoRow.holds Try.pinned (OpenSpec.upto fnExactMomentumOfSpec)

/-- 'laws.FnExactCentreOfChain', WHERE WHAT IT READS IS OF BULK AT MOST 1048576: true; the input reads as it did. -/
def fnExactCentreOfChainUptoRow : OpenClaim := { program := "ytlhgaihfghobmaa", sum := "50de223ade7d2fba261a7f60850905841e8ed117545daf0655507f500df96609", func := "loop.example/g01253/laws.FnExactCentreOfChain", spec := "fnExactCentreOfChain", unfollowed := true, recurses := true, apart := false, narrowed := true }
def FnExactCentreOfChainUptoSaid : Prop := fnExactCentreOfChainUptoRow.holds Try.pinned (OpenSpec.upto fnExactCentreOfChainSpec)

/-- 'laws.FnExactEnergyOfChain', WHERE WHAT IT READS IS OF BULK AT MOST 1048576: true; the input reads as it did. -/
def fnExactEnergyOfChainUptoRow : OpenClaim := { program := "ytlhgaihfghobmaa", sum := "50de223ade7d2fba261a7f60850905841e8ed117545daf0655507f500df96609", func := "loop.example/g01253/laws.FnExactEnergyOfChain", spec := "fnExactEnergyOfChain", unfollowed := true, recurses := true, apart := false, narrowed := true }
def FnExactEnergyOfChainUptoSaid : Prop := fnExactEnergyOfChainUptoRow.holds Try.pinned (OpenSpec.upto fnExactEnergyOfChainSpec)

/-- 'laws.FnExactRopeChain', WHERE WHAT IT READS IS OF BULK AT MOST 1048576: true; the input reads as it did. -/
def fnExactRopeChainUptoRow : OpenClaim := { program := "ytlhgaihfghobmaa", sum := "50de223ade7d2fba261a7f60850905841e8ed117545daf0655507f500df96609", func := "loop.example/g01253/laws.FnExactRopeChain", spec := "fnExactRopeChain", unfollowed := true, recurses := true, apart := false, narrowed := true }
def FnExactRopeChainUptoSaid : Prop := fnExactRopeChainUptoRow.holds Try.pinned (OpenSpec.upto fnExactRopeChainSpec)

/-- 'laws.FnExactNetChain', WHERE WHAT IT READS IS OF BULK AT MOST 1048576: true; the input reads as it did. -/
def fnExactNetChainUptoRow : OpenClaim := { program := "ytlhgaihfghobmaa", sum := "50de223ade7d2fba261a7f60850905841e8ed117545daf0655507f500df96609", func := "loop.example/g01253/laws.FnExactNetChain", spec := "fnExactNetChain", unfollowed := true, recurses := true, apart := false, narrowed := true }
def FnExactNetChainUptoSaid : Prop := fnExactNetChainUptoRow.holds Try.pinned (OpenSpec.upto fnExactNetChainSpec)

/-- 'laws.FnExactRodLong', WHERE WHAT IT READS IS OF BULK AT MOST 1048576: true; the input reads as it did. -/
def fnExactRodLongUptoRow : OpenClaim := { program := "ytlhgaihfghobmaa", sum := "50de223ade7d2fba261a7f60850905841e8ed117545daf0655507f500df96609", func := "loop.example/g01253/laws.FnExactRodLong", spec := "fnExactRodLong", inPlace := ["math.sqrt"], unfollowed := true, recurses := true, apart := false, narrowed := true }
def FnExactRodLongUptoSaid : Prop := fnExactRodLongUptoRow.holds Try.pinned (OpenSpec.upto fnExactRodLongSpec)

/-- 'laws.FnExactColoursOfRods', WHERE WHAT IT READS IS OF BULK AT MOST 1048576: true; the input reads as it did. -/
def fnExactColoursOfRodsUptoRow : OpenClaim := { program := "ytlhgaihfghobmaa", sum := "50de223ade7d2fba261a7f60850905841e8ed117545daf0655507f500df96609", func := "loop.example/g01253/laws.FnExactColoursOfRods", spec := "fnExactColoursOfRods", unfollowed := true, recurses := true, apart := false, narrowed := true }
def FnExactColoursOfRodsUptoSaid : Prop := fnExactColoursOfRodsUptoRow.holds Try.pinned (OpenSpec.upto fnExactColoursOfRodsSpec)

/-- 'laws.FnExactWorstRod', WHERE WHAT IT READS IS OF BULK AT MOST 1048576: true; the input reads as it did. -/
def fnExactWorstRodUptoRow : OpenClaim := { program := "ytlhgaihfghobmaa", sum := "50de223ade7d2fba261a7f60850905841e8ed117545daf0655507f500df96609", func := "loop.example/g01253/laws.FnExactWorstRod", spec := "fnExactWorstRod", inPlace := ["math.sqrt", "math.Float32bits", "math.Float32frombits"], unfollowed := true, recurses := true, apart := false, narrowed := true }
def FnExactWorstRodUptoSaid : Prop := fnExactWorstRodUptoRow.holds Try.pinned (OpenSpec.upto fnExactWorstRodSpec)

/-- 'laws.FnExactTurnBack', WHERE WHAT IT READS IS OF BULK AT MOST 1048576: true; the input reads as it did. -/
def fnExactTurnBackUptoRow : OpenClaim := { program := "ytlhgaihfghobmaa", sum := "50de223ade7d2fba261a7f60850905841e8ed117545daf0655507f500df96609", func := "loop.example/g01253/laws.FnExactTurnBack", spec := "fnExactTurnBack", unfollowed := true, recurses := true, apart := false, narrowed := true }
def FnExactTurnBackUptoSaid : Prop := fnExactTurnBackUptoRow.holds Try.pinned (OpenSpec.upto fnExactTurnBackSpec)

/-- 'laws.FnExactHoldWeight', WHERE WHAT IT READS IS OF BULK AT MOST 1048576: true; the input reads as it did. -/
def fnExactHoldWeightUptoRow : OpenClaim := { program := "ytlhgaihfghobmaa", sum := "50de223ade7d2fba261a7f60850905841e8ed117545daf0655507f500df96609", func := "loop.example/g01253/laws.FnExactHoldWeight", spec := "fnExactHoldWeight", unfollowed := true, recurses := true, apart := false, narrowed := true }
def FnExactHoldWeightUptoSaid : Prop := fnExactHoldWeightUptoRow.holds Try.pinned (OpenSpec.upto fnExactHoldWeightSpec)

/-- 'laws.FnExactAddRod', WHERE WHAT IT READS IS OF BULK AT MOST 1048576: true; the input reads as it did. -/
def fnExactAddRodUptoRow : OpenClaim := { program := "ytlhgaihfghobmaa", sum := "50de223ade7d2fba261a7f60850905841e8ed117545daf0655507f500df96609", func := "loop.example/g01253/laws.FnExactAddRod", spec := "fnExactAddRod", unfollowed := true, recurses := true, apart := false, narrowed := true }
def FnExactAddRodUptoSaid : Prop := fnExactAddRodUptoRow.holds Try.pinned (OpenSpec.upto fnExactAddRodSpec)

/-- 'laws.FnExactAddWeight', WHERE WHAT IT READS IS OF BULK AT MOST 1048576: true; the input reads as it did. -/
def fnExactAddWeightUptoRow : OpenClaim := { program := "ytlhgaihfghobmaa", sum := "50de223ade7d2fba261a7f60850905841e8ed117545daf0655507f500df96609", func := "loop.example/g01253/laws.FnExactAddWeight", spec := "fnExactAddWeight", unfollowed := true, recurses := true, apart := false, narrowed := true }
def FnExactAddWeightUptoSaid : Prop := fnExactAddWeightUptoRow.holds Try.pinned (OpenSpec.upto fnExactAddWeightSpec)

/-- 'laws.FnExactMoveChain', WHERE WHAT IT READS IS OF BULK AT MOST 1048576: true; the input reads as it did. -/
def fnExactMoveChainUptoRow : OpenClaim := { program := "ytlhgaihfghobmaa", sum := "50de223ade7d2fba261a7f60850905841e8ed117545daf0655507f500df96609", func := "loop.example/g01253/laws.FnExactMoveChain", spec := "fnExactMoveChain", unfollowed := true, recurses := true, apart := false, narrowed := true }
def FnExactMoveChainUptoSaid : Prop := fnExactMoveChainUptoRow.holds Try.pinned (OpenSpec.upto fnExactMoveChainSpec)

/-- 'laws.FnExactKickChain', WHERE WHAT IT READS IS OF BULK AT MOST 1048576: true; the input reads as it did. -/
def fnExactKickChainUptoRow : OpenClaim := { program := "ytlhgaihfghobmaa", sum := "50de223ade7d2fba261a7f60850905841e8ed117545daf0655507f500df96609", func := "loop.example/g01253/laws.FnExactKickChain", spec := "fnExactKickChain", unfollowed := true, recurses := true, apart := false, narrowed := true }
def FnExactKickChainUptoSaid : Prop := fnExactKickChainUptoRow.holds Try.pinned (OpenSpec.upto fnExactKickChainSpec)

/-- 'laws.FnExactDropRod', WHERE WHAT IT READS IS OF BULK AT MOST 1048576: true; the input reads as it did. -/
def fnExactDropRodUptoRow : OpenClaim := { program := "ytlhgaihfghobmaa", sum := "50de223ade7d2fba261a7f60850905841e8ed117545daf0655507f500df96609", func := "loop.example/g01253/laws.FnExactDropRod", spec := "fnExactDropRod", unfollowed := true, recurses := true, apart := false, narrowed := true }
def FnExactDropRodUptoSaid : Prop := fnExactDropRodUptoRow.holds Try.pinned (OpenSpec.upto fnExactDropRodSpec)

/-- 'laws.FnExactFlyChain', WHERE WHAT IT READS IS OF BULK AT MOST 1048576: true; the input reads as it did. -/
def fnExactFlyChainUptoRow : OpenClaim := { program := "ytlhgaihfghobmaa", sum := "50de223ade7d2fba261a7f60850905841e8ed117545daf0655507f500df96609", func := "loop.example/g01253/laws.FnExactFlyChain", spec := "fnExactFlyChain", unfollowed := true, recurses := true, apart := false, narrowed := true }
def FnExactFlyChainUptoSaid : Prop := fnExactFlyChainUptoRow.holds Try.pinned (OpenSpec.upto fnExactFlyChainSpec)

/-- 'laws.FnExactStraightenRod', WHERE WHAT IT READS IS OF BULK AT MOST 1048576: true; the input reads as it did. -/
def fnExactStraightenRodUptoRow : OpenClaim := { program := "ytlhgaihfghobmaa", sum := "50de223ade7d2fba261a7f60850905841e8ed117545daf0655507f500df96609", func := "loop.example/g01253/laws.FnExactStraightenRod", spec := "fnExactStraightenRod", inPlace := ["math.sqrt"], unfollowed := true, recurses := true, apart := false, narrowed := true }
def FnExactStraightenRodUptoSaid : Prop := fnExactStraightenRodUptoRow.holds Try.pinned (OpenSpec.upto fnExactStraightenRodSpec)

/-- 'laws.FnExactStraightenAll', WHERE WHAT IT READS IS OF BULK AT MOST 1048576: true; the input reads as it did. -/
def fnExactStraightenAllUptoRow : OpenClaim := { program := "ytlhgaihfghobmaa", sum := "50de223ade7d2fba261a7f60850905841e8ed117545daf0655507f500df96609", func := "loop.example/g01253/laws.FnExactStraightenAll", spec := "fnExactStraightenAll", inPlace := ["math.sqrt"], unfollowed := true, recurses := true, apart := false, narrowed := true }
def FnExactStraightenAllUptoSaid : Prop := fnExactStraightenAllUptoRow.holds Try.pinned (OpenSpec.upto fnExactStraightenAllSpec)

/-- 'laws.FnExactStraightenShared', WHERE WHAT IT READS IS OF BULK AT MOST 1048576: true; the input reads as it did. -/
def fnExactStraightenSharedUptoRow : OpenClaim := { program := "ytlhgaihfghobmaa", sum := "50de223ade7d2fba261a7f60850905841e8ed117545daf0655507f500df96609", func := "loop.example/g01253/laws.FnExactStraightenShared", spec := "fnExactStraightenShared", inPlace := ["math.sqrt"], unfollowed := true, recurses := true, apart := false, narrowed := true }
def FnExactStraightenSharedUptoSaid : Prop := fnExactStraightenSharedUptoRow.holds Try.pinned (OpenSpec.upto fnExactStraightenSharedSpec)

end Rows
end Go.Proofs.Ytlhgaihfghobmaa
