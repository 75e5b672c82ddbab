/-
  No cell of these rows narrows 'for every input' (looked for: loops, veiled, ifaces, maps, wideKeys, modest, calm, conditions, laid).
  DERIVED. THE GIVEN ROWS OF THIS SEAT. 13 by the template 'for every input the law returns true; each argument reads behind the call as it read before'; 0 by the template 'total and deterministic' (their statements: YtfdnhamkkcmnfaaTotals.lean).
  GIVEN WITH THE SEED: the statements are not yours to turn. If you find one false, say at which input.
  Laid BY PROGRAM, IN A SANDBOX (cutbox-rows.mjs): the forced cells as the released guide's own fill.sh prints them over the translation 53e257e24031bd2c… (all of the seat's roots in one cut). By AI agents, Wed Nov 11 2026. No macro, syntax, notation, axiom, sorry.
-/
import Derived.Test.YtfdnhamkkcmnfaaChecked
import GoSem.Claim
import GoSem.ClaimJoined
import GoSem.ClaimMapViews
import Derived.JoinedTies
import Derived.KernelRfl
namespace Go.Proofs.Ytfdnhamkkcmnfaa
/- THE CELL 'sum', in the pinned program and in every row, IS THE sha256 OF THE DUMP (.gsa) THAT YtfdnhamkkcmnfaaProg.lean LOADS. Nothing in Lean hashes anything: it is a label: what it is worth is what the hold of that sum in a sandbox is worth. -/
noncomputable def Try.pinned : Pinned := { name := "ytfdnhamkkcmnfaa", sum := "53e257e24031bd2c532a38fedd266d02d935e3bdf8420d84da1fb3fdb34d6d86", checked := Try.checked }
namespace Rows
def none {H : Type} : Left H := { results := [], args := [] }

/-- 'laws.FnExactCapacityOf': WHATEVER THE INPUT: true; the input reads as it did. -/
def fnExactCapacityOfSpec : ChangeSpec := { name := "fnExactCapacityOf", fn := fun _ => fun
  | [d] => { results := [.lit (.bool true)], args := [d] }
  | _ => none }
def fnExactCapacityOfRow : OpenClaim := { program := "ytfdnhamkkcmnfaa", sum := "53e257e24031bd2c532a38fedd266d02d935e3bdf8420d84da1fb3fdb34d6d86", func := "loop.example/g01050/laws.FnExactCapacityOf", spec := "fnExactCapacityOf", apart := false }
def FnExactCapacityOfSaid : Prop := fnExactCapacityOfRow.holds Try.pinned (OpenSpec.ofChange fnExactCapacityOfSpec)

/-- ITS FALSE NEIGHBOUR: 'it returns false'. Refute it at one input. -/
def fnExactCapacityOfWrong : ChangeSpec := { name := "fnExactCapacityOf", fn := fun _ => fun
  | [d] => { results := [.lit (.bool false)], args := [d] }
  | _ => none }
def FnExactCapacityOfWrongFalsely : Prop := fnExactCapacityOfRow.holds Try.pinned (OpenSpec.ofChange fnExactCapacityOfWrong)

/-- 'laws.FnExactIsCrossed': WHATEVER THE INPUT: true; the input reads as it did. -/
def fnExactIsCrossedSpec : ChangeSpec := { name := "fnExactIsCrossed", fn := fun _ => fun
  | [d1, d2, d3, d4] => { results := [.lit (.bool true)], args := [d1, d2, d3, d4] }
  | _ => none }
def fnExactIsCrossedRow : OpenClaim := { program := "ytfdnhamkkcmnfaa", sum := "53e257e24031bd2c532a38fedd266d02d935e3bdf8420d84da1fb3fdb34d6d86", func := "loop.example/g01050/laws.FnExactIsCrossed", spec := "fnExactIsCrossed", apart := false }
def FnExactIsCrossedSaid : Prop := fnExactIsCrossedRow.holds Try.pinned (OpenSpec.ofChange fnExactIsCrossedSpec)

/-- ITS FALSE NEIGHBOUR: 'it returns false'. Refute it at one input. -/
def fnExactIsCrossedWrong : ChangeSpec := { name := "fnExactIsCrossed", fn := fun _ => fun
  | [d1, d2, d3, d4] => { results := [.lit (.bool false)], args := [d1, d2, d3, d4] }
  | _ => none }
def FnExactIsCrossedWrongFalsely : Prop := fnExactIsCrossedRow.holds Try.pinned (OpenSpec.ofChange fnExactIsCrossedWrong)

/-- 'laws.FnExactChainForTrain': WHATEVER THE INPUT: true; the input reads as it did. -/
def fnExactChainForTrainSpec : ChangeSpec := { name := "fnExactChainForTrain", fn := fun _ => fun
  | [d1, d2] => { results := [.lit (.bool true)], args := [d1, d2] }
  | _ => none }
def fnExactChainForTrainRow : OpenClaim := { program := "ytfdnhamkkcmnfaa", sum := "53e257e24031bd2c532a38fedd266d02d935e3bdf8420d84da1fb3fdb34d6d86", func := "loop.example/g01050/laws.FnExactChainForTrain", spec := "fnExactChainForTrain", apart := false }
def FnExactChainForTrainSaid : Prop := fnExactChainForTrainRow.holds Try.pinned (OpenSpec.ofChange fnExactChainForTrainSpec)

/-- ITS FALSE NEIGHBOUR: 'it returns false'. Refute it at one input. -/
def fnExactChainForTrainWrong : ChangeSpec := { name := "fnExactChainForTrain", fn := fun _ => fun
  | [d1, d2] => { results := [.lit (.bool false)], args := [d1, d2] }
  | _ => none }
def FnExactChainForTrainWrongFalsely : Prop := fnExactChainForTrainRow.holds Try.pinned (OpenSpec.ofChange fnExactChainForTrainWrong)

/-- 'laws.FnExactShiftGear': WHATEVER THE INPUT: true; the input reads as it did. -/
def fnExactShiftGearSpec : ChangeSpec := { name := "fnExactShiftGear", fn := fun _ => fun
  | [d1, d2, d3, d4, d5] => { results := [.lit (.bool true)], args := [d1, d2, d3, d4, d5] }
  | _ => none }
def fnExactShiftGearRow : OpenClaim := { program := "ytfdnhamkkcmnfaa", sum := "53e257e24031bd2c532a38fedd266d02d935e3bdf8420d84da1fb3fdb34d6d86", func := "loop.example/g01050/laws.FnExactShiftGear", spec := "fnExactShiftGear", apart := false }
def FnExactShiftGearSaid : Prop := fnExactShiftGearRow.holds Try.pinned (OpenSpec.ofChange fnExactShiftGearSpec)

/-- ITS FALSE NEIGHBOUR: 'it returns false'. Refute it at one input. -/
def fnExactShiftGearWrong : ChangeSpec := { name := "fnExactShiftGear", fn := fun _ => fun
  | [d1, d2, d3, d4, d5] => { results := [.lit (.bool false)], args := [d1, d2, d3, d4, d5] }
  | _ => none }
def FnExactShiftGearWrongFalsely : Prop := fnExactShiftGearRow.holds Try.pinned (OpenSpec.ofChange fnExactShiftGearWrong)

/-- 'laws.FnExactRingShifts': WHATEVER THE INPUT: true; the input reads as it did. -/
def fnExactRingShiftsSpec : ChangeSpec := { name := "fnExactRingShifts", fn := fun _ => fun
  | [d1, d2] => { results := [.lit (.bool true)], args := [d1, d2] }
  | _ => none }
def fnExactRingShiftsRow : OpenClaim := { program := "ytfdnhamkkcmnfaa", sum := "53e257e24031bd2c532a38fedd266d02d935e3bdf8420d84da1fb3fdb34d6d86", func := "loop.example/g01050/laws.FnExactRingShifts", spec := "fnExactRingShifts", apart := false }
def FnExactRingShiftsSaid : Prop := fnExactRingShiftsRow.holds Try.pinned (OpenSpec.ofChange fnExactRingShiftsSpec)

/-- ITS FALSE NEIGHBOUR: 'it returns false'. Refute it at one input. -/
def fnExactRingShiftsWrong : ChangeSpec := { name := "fnExactRingShifts", fn := fun _ => fun
  | [d1, d2] => { results := [.lit (.bool false)], args := [d1, d2] }
  | _ => none }
def FnExactRingShiftsWrongFalsely : Prop := fnExactRingShiftsRow.holds Try.pinned (OpenSpec.ofChange fnExactRingShiftsWrong)

/-- 'laws.FnExactLoosestGear': WHATEVER THE INPUT: true; the input reads as it did. -/
def fnExactLoosestGearSpec : ChangeSpec := { name := "fnExactLoosestGear", fn := fun _ => fun
  | [d1, d2, d3] => { results := [.lit (.bool true)], args := [d1, d2, d3] }
  | _ => none }
def fnExactLoosestGearRow : OpenClaim := { program := "ytfdnhamkkcmnfaa", sum := "53e257e24031bd2c532a38fedd266d02d935e3bdf8420d84da1fb3fdb34d6d86", func := "loop.example/g01050/laws.FnExactLoosestGear", spec := "fnExactLoosestGear", apart := false }
def FnExactLoosestGearSaid : Prop := fnExactLoosestGearRow.holds Try.pinned (OpenSpec.ofChange fnExactLoosestGearSpec)

/-- ITS FALSE NEIGHBOUR: 'it returns false'. Refute it at one input. -/
def fnExactLoosestGearWrong : ChangeSpec := { name := "fnExactLoosestGear", fn := fun _ => fun
  | [d1, d2, d3] => { results := [.lit (.bool false)], args := [d1, d2, d3] }
  | _ => none }
def FnExactLoosestGearWrongFalsely : Prop := fnExactLoosestGearRow.holds Try.pinned (OpenSpec.ofChange fnExactLoosestGearWrong)

/-- 'laws.FnExactSlacksOf': WHATEVER THE INPUT: true; the input reads as it did. -/
def fnExactSlacksOfSpec : ChangeSpec := { name := "fnExactSlacksOf", fn := fun _ => fun
  | [d1, d2, d3] => { results := [.lit (.bool true)], args := [d1, d2, d3] }
  | _ => none }
def fnExactSlacksOfRow : OpenClaim := { program := "ytfdnhamkkcmnfaa", sum := "53e257e24031bd2c532a38fedd266d02d935e3bdf8420d84da1fb3fdb34d6d86", func := "loop.example/g01050/laws.FnExactSlacksOf", spec := "fnExactSlacksOf", apart := false }
def FnExactSlacksOfSaid : Prop := fnExactSlacksOfRow.holds Try.pinned (OpenSpec.ofChange fnExactSlacksOfSpec)

/-- ITS FALSE NEIGHBOUR: 'it returns false'. Refute it at one input. -/
def fnExactSlacksOfWrong : ChangeSpec := { name := "fnExactSlacksOf", fn := fun _ => fun
  | [d1, d2, d3] => { results := [.lit (.bool false)], args := [d1, d2, d3] }
  | _ => none }
def FnExactSlacksOfWrongFalsely : Prop := fnExactSlacksOfRow.holds Try.pinned (OpenSpec.ofChange fnExactSlacksOfWrong)

/-- 'laws.FnExactReachableGears': WHATEVER THE INPUT: true; the input reads as it did. -/
def fnExactReachableGearsSpec : ChangeSpec := { name := "fnExactReachableGears", fn := fun _ => fun
  | [d1, d2, d3, d4] => { results := [.lit (.bool true)], args := [d1, d2, d3, d4] }
  | _ => none }
def fnExactReachableGearsRow : OpenClaim := { program := "ytfdnhamkkcmnfaa", sum := "53e257e24031bd2c532a38fedd266d02d935e3bdf8420d84da1fb3fdb34d6d86", func := "loop.example/g01050/laws.FnExactReachableGears", spec := "fnExactReachableGears", apart := false }
def FnExactReachableGearsSaid : Prop := fnExactReachableGearsRow.holds Try.pinned (OpenSpec.ofChange fnExactReachableGearsSpec)

/-- ITS FALSE NEIGHBOUR: 'it returns false'. Refute it at one input. -/
def fnExactReachableGearsWrong : ChangeSpec := { name := "fnExactReachableGears", fn := fun _ => fun
  | [d1, d2, d3, d4] => { results := [.lit (.bool false)], args := [d1, d2, d3, d4] }
  | _ => none }
def FnExactReachableGearsWrongFalsely : Prop := fnExactReachableGearsRow.holds Try.pinned (OpenSpec.ofChange fnExactReachableGearsWrong)

/-- 'laws.FnExactUsableGears': WHATEVER THE INPUT: true; the input reads as it did. -/
def fnExactUsableGearsSpec : ChangeSpec := { name := "fnExactUsableGears", fn := fun _ => fun
  | [d1, d2] => { results := [.lit (.bool true)], args := [d1, d2] }
  | _ => none }
def fnExactUsableGearsRow : OpenClaim := { program := "ytfdnhamkkcmnfaa", sum := "53e257e24031bd2c532a38fedd266d02d935e3bdf8420d84da1fb3fdb34d6d86", func := "loop.example/g01050/laws.FnExactUsableGears", spec := "fnExactUsableGears", apart := false }
def FnExactUsableGearsSaid : Prop := fnExactUsableGearsRow.holds Try.pinned (OpenSpec.ofChange fnExactUsableGearsSpec)

/-- ITS FALSE NEIGHBOUR: 'it returns false'. Refute it at one input. -/
def fnExactUsableGearsWrong : ChangeSpec := { name := "fnExactUsableGears", fn := fun _ => fun
  | [d1, d2] => { results := [.lit (.bool false)], args := [d1, d2] }
  | _ => none }
def FnExactUsableGearsWrongFalsely : Prop := fnExactUsableGearsRow.holds Try.pinned (OpenSpec.ofChange fnExactUsableGearsWrong)

/-- 'laws.FnExactShortestWay': WHATEVER THE INPUT: true; the input reads as it did. -/
def fnExactShortestWaySpec : ChangeSpec := { name := "fnExactShortestWay", fn := fun _ => fun
  | [d1, d2, d3, d4, d5, d6] => { results := [.lit (.bool true)], args := [d1, d2, d3, d4, d5, d6] }
  | _ => none }
def fnExactShortestWayRow : OpenClaim := { program := "ytfdnhamkkcmnfaa", sum := "53e257e24031bd2c532a38fedd266d02d935e3bdf8420d84da1fb3fdb34d6d86", func := "loop.example/g01050/laws.FnExactShortestWay", spec := "fnExactShortestWay", apart := false }
def FnExactShortestWaySaid : Prop := fnExactShortestWayRow.holds Try.pinned (OpenSpec.ofChange fnExactShortestWaySpec)

/-- ITS FALSE NEIGHBOUR: 'it returns false'. Refute it at one input. -/
def fnExactShortestWayWrong : ChangeSpec := { name := "fnExactShortestWay", fn := fun _ => fun
  | [d1, d2, d3, d4, d5, d6] => { results := [.lit (.bool false)], args := [d1, d2, d3, d4, d5, d6] }
  | _ => none }
def FnExactShortestWayWrongFalsely : Prop := fnExactShortestWayRow.holds Try.pinned (OpenSpec.ofChange fnExactShortestWayWrong)

/-- 'laws.FnSlacks': WHATEVER THE INPUT: true; the input reads as it did. -/
def fnSlacksSpec : ChangeSpec := { name := "fnSlacks", fn := fun _ => fun
  | [d] => { results := [.lit (.bool true)], args := [d] }
  | _ => none }
def fnSlacksRow : OpenClaim := { program := "ytfdnhamkkcmnfaa", sum := "53e257e24031bd2c532a38fedd266d02d935e3bdf8420d84da1fb3fdb34d6d86", func := "loop.example/g01050/laws.FnSlacks", spec := "fnSlacks", apart := false }
def FnSlacksSaid : Prop := fnSlacksRow.holds Try.pinned (OpenSpec.ofChange fnSlacksSpec)

/-- ITS FALSE NEIGHBOUR: 'it returns false'. Refute it at one input. -/
def fnSlacksWrong : ChangeSpec := { name := "fnSlacks", fn := fun _ => fun
  | [d] => { results := [.lit (.bool false)], args := [d] }
  | _ => none }
def FnSlacksWrongFalsely : Prop := fnSlacksRow.holds Try.pinned (OpenSpec.ofChange fnSlacksWrong)

/-- 'laws.FnUsable': WHATEVER THE INPUT: true; the input reads as it did. -/
def fnUsableSpec : ChangeSpec := { name := "fnUsable", fn := fun _ => fun
  | [d] => { results := [.lit (.bool true)], args := [d] }
  | _ => none }
def fnUsableRow : OpenClaim := { program := "ytfdnhamkkcmnfaa", sum := "53e257e24031bd2c532a38fedd266d02d935e3bdf8420d84da1fb3fdb34d6d86", func := "loop.example/g01050/laws.FnUsable", spec := "fnUsable", apart := false }
def FnUsableSaid : Prop := fnUsableRow.holds Try.pinned (OpenSpec.ofChange fnUsableSpec)

/-- ITS FALSE NEIGHBOUR: 'it returns false'. Refute it at one input. -/
def fnUsableWrong : ChangeSpec := { name := "fnUsable", fn := fun _ => fun
  | [d] => { results := [.lit (.bool false)], args := [d] }
  | _ => none }
def FnUsableWrongFalsely : Prop := fnUsableRow.holds Try.pinned (OpenSpec.ofChange fnUsableWrong)

/-- 'laws.FnWays': WHATEVER THE INPUT: true; the input reads as it did. -/
def fnWaysSpec : ChangeSpec := { name := "fnWays", fn := fun _ => fun
  | [d] => { results := [.lit (.bool true)], args := [d] }
  | _ => none }
def fnWaysRow : OpenClaim := { program := "ytfdnhamkkcmnfaa", sum := "53e257e24031bd2c532a38fedd266d02d935e3bdf8420d84da1fb3fdb34d6d86", func := "loop.example/g01050/laws.FnWays", spec := "fnWays", apart := false }
def FnWaysSaid : Prop := fnWaysRow.holds Try.pinned (OpenSpec.ofChange fnWaysSpec)

/-- ITS FALSE NEIGHBOUR: 'it returns false'. Refute it at one input. -/
def fnWaysWrong : ChangeSpec := { name := "fnWays", fn := fun _ => fun
  | [d] => { results := [.lit (.bool false)], args := [d] }
  | _ => none }
def FnWaysWrongFalsely : Prop := fnWaysRow.holds Try.pinned (OpenSpec.ofChange fnWaysWrong)

/- THE SECOND FORM. 'bulk': how many values and letters a reading holds, each counted each time it is reached (what is shared counts as often as it is met; a slice's spare places count too). A statement '..UptoSaid' is the law's where the arguments, and the package variables that the reading takes, are together of bulk at most 1048576: NARROWER than '..Said'. Prove '..Said' where nothing that the law and all that it calls make is longer than what came in: it says more and counts as full. Else prove '..UptoSaid'. A law counts once. -/
mutual
def uptoBulk {H : Type} : DataW H → Nat
  | .lit (.string bytes) => bytes.length + 1
  | .lit _ => 1
  | .nil => 1
  | .ptr d => uptoBulk d + 1
  | .slice elems spare => uptoBulkAll elems + uptoBulkAll spare + 1
  | .agg parts => uptoBulkAll parts + 1
  | .iface _ d => uptoBulk d + 1
  | .map entries => uptoBulkEntries entries + 1
  | .held _ => 1
def uptoBulkAll {H : Type} : List (DataW H) → Nat
  | [] => 0
  | d :: r => uptoBulk d + uptoBulkAll r
def uptoBulkEntries {H : Type} : List (Lit × DataW H) → Nat
  | [] => 0
  | x :: r => uptoBulkEntry x + uptoBulkEntries r
def uptoBulkEntry {H : Type} : Lit × DataW H → Nat
  | (.string bytes, d) => bytes.length + uptoBulk d + 1
  | (_, d) => uptoBulk d + 1
 end
def uptoSmall : (H : Type) → List (DataW H) → Bool := fun _ ds => decide (uptoBulkAll ds ≤ 1048576)
def OpenSpec.upto (s : _root_.Go.ChangeSpec) : _root_.Go.OpenSpec := { _root_.Go.OpenSpec.ofChange s with cond := some uptoSmall }

/-- 'laws.FnExactCapacityOf', WHERE WHAT IT READS IS OF BULK AT MOST 1048576: true; the input reads as it did. -/
def fnExactCapacityOfUptoRow : OpenClaim := { program := "ytfdnhamkkcmnfaa", sum := "53e257e24031bd2c532a38fedd266d02d935e3bdf8420d84da1fb3fdb34d6d86", func := "loop.example/g01050/laws.FnExactCapacityOf", spec := "fnExactCapacityOf", apart := false, narrowed := true }
def FnExactCapacityOfUptoSaid : Prop := fnExactCapacityOfUptoRow.holds Try.pinned (OpenSpec.upto fnExactCapacityOfSpec)

/-- 'laws.FnExactIsCrossed', WHERE WHAT IT READS IS OF BULK AT MOST 1048576: true; the input reads as it did. -/
def fnExactIsCrossedUptoRow : OpenClaim := { program := "ytfdnhamkkcmnfaa", sum := "53e257e24031bd2c532a38fedd266d02d935e3bdf8420d84da1fb3fdb34d6d86", func := "loop.example/g01050/laws.FnExactIsCrossed", spec := "fnExactIsCrossed", apart := false, narrowed := true }
def FnExactIsCrossedUptoSaid : Prop := fnExactIsCrossedUptoRow.holds Try.pinned (OpenSpec.upto fnExactIsCrossedSpec)

/-- 'laws.FnExactChainForTrain', WHERE WHAT IT READS IS OF BULK AT MOST 1048576: true; the input reads as it did. -/
def fnExactChainForTrainUptoRow : OpenClaim := { program := "ytfdnhamkkcmnfaa", sum := "53e257e24031bd2c532a38fedd266d02d935e3bdf8420d84da1fb3fdb34d6d86", func := "loop.example/g01050/laws.FnExactChainForTrain", spec := "fnExactChainForTrain", apart := false, narrowed := true }
def FnExactChainForTrainUptoSaid : Prop := fnExactChainForTrainUptoRow.holds Try.pinned (OpenSpec.upto fnExactChainForTrainSpec)

/-- 'laws.FnExactShiftGear', WHERE WHAT IT READS IS OF BULK AT MOST 1048576: true; the input reads as it did. -/
def fnExactShiftGearUptoRow : OpenClaim := { program := "ytfdnhamkkcmnfaa", sum := "53e257e24031bd2c532a38fedd266d02d935e3bdf8420d84da1fb3fdb34d6d86", func := "loop.example/g01050/laws.FnExactShiftGear", spec := "fnExactShiftGear", apart := false, narrowed := true }
def FnExactShiftGearUptoSaid : Prop := fnExactShiftGearUptoRow.holds Try.pinned (OpenSpec.upto fnExactShiftGearSpec)

/-- 'laws.FnExactRingShifts', WHERE WHAT IT READS IS OF BULK AT MOST 1048576: true; the input reads as it did. -/
def fnExactRingShiftsUptoRow : OpenClaim := { program := "ytfdnhamkkcmnfaa", sum := "53e257e24031bd2c532a38fedd266d02d935e3bdf8420d84da1fb3fdb34d6d86", func := "loop.example/g01050/laws.FnExactRingShifts", spec := "fnExactRingShifts", apart := false, narrowed := true }
def FnExactRingShiftsUptoSaid : Prop := fnExactRingShiftsUptoRow.holds Try.pinned (OpenSpec.upto fnExactRingShiftsSpec)

/-- 'laws.FnExactLoosestGear', WHERE WHAT IT READS IS OF BULK AT MOST 1048576: true; the input reads as it did. -/
def fnExactLoosestGearUptoRow : OpenClaim := { program := "ytfdnhamkkcmnfaa", sum := "53e257e24031bd2c532a38fedd266d02d935e3bdf8420d84da1fb3fdb34d6d86", func := "loop.example/g01050/laws.FnExactLoosestGear", spec := "fnExactLoosestGear", apart := false, narrowed := true }
def FnExactLoosestGearUptoSaid : Prop := fnExactLoosestGearUptoRow.holds Try.pinned (OpenSpec.upto fnExactLoosestGearSpec)

/-- 'laws.FnExactSlacksOf', WHERE WHAT IT READS IS OF BULK AT MOST 1048576: true; the input reads as it did. -/
def fnExactSlacksOfUptoRow : OpenClaim := { program := "ytfdnhamkkcmnfaa", sum := "53e257e24031bd2c532a38fedd266d02d935e3bdf8420d84da1fb3fdb34d6d86", func := "loop.example/g01050/laws.FnExactSlacksOf", spec := "fnExactSlacksOf", apart := false, narrowed := true }
def FnExactSlacksOfUptoSaid : Prop := fnExactSlacksOfUptoRow.holds Try.pinned (OpenSpec.upto fnExactSlacksOfSpec)

/-- 'laws.FnExactReachableGears', WHERE WHAT IT READS IS OF BULK AT MOST 1048576: true; the input reads as it did. -/
def fnExactReachableGearsUptoRow : OpenClaim := { program := "ytfdnhamkkcmnfaa", sum := "53e257e24031bd2c532a38fedd266d02d935e3bdf8420d84da1fb3fdb34d6d86", func := "loop.example/g01050/laws.FnExactReachableGears", spec := "fnExactReachableGears", apart := false, narrowed := true }
def FnExactReachableGearsUptoSaid : Prop := fnExactReachableGearsUptoRow.holds Try.pinned (OpenSpec.upto fnExactReachableGearsSpec)

/-- 'laws.FnExactUsableGears', WHERE WHAT IT READS IS OF BULK AT MOST 1048576: true; the input reads as it did. -/
def fnExactUsableGearsUptoRow : OpenClaim := { program := "ytfdnhamkkcmnfaa", sum := "53e257e24031bd2c532a38fedd266d02d935e3bdf8420d84da1fb3fdb34d6d86", func := "loop.example/g01050/laws.FnExactUsableGears", spec := "fnExactUsableGears", apart := false, narrowed := true }
def FnExactUsableGearsUptoSaid : Prop := fnExactUsableGearsUptoRow.holds Try.pinned (OpenSpec.upto fnExactUsableGearsSpec)

/-- 'laws.FnExactShortestWay', WHERE WHAT IT READS IS OF BULK AT MOST 1048576: true; the input reads as it did. -/
def fnExactShortestWayUptoRow : OpenClaim := { program := "ytfdnhamkkcmnfaa", sum := "53e257e24031bd2c532a38fedd266d02d935e3bdf8420d84da1fb3fdb34d6d86", func := "loop.example/g01050/laws.FnExactShortestWay", spec := "fnExactShortestWay", apart := false, narrowed := true }
def FnExactShortestWayUptoSaid : Prop := fnExactShortestWayUptoRow.holds Try.pinned (OpenSpec.upto fnExactShortestWaySpec)

/-- 'laws.FnSlacks', WHERE WHAT IT READS IS OF BULK AT MOST 1048576: true; the input reads as it did. -/
def fnSlacksUptoRow : OpenClaim := { program := "ytfdnhamkkcmnfaa", sum := "53e257e24031bd2c532a38fedd266d02d935e3bdf8420d84da1fb3fdb34d6d86", func := "loop.example/g01050/laws.FnSlacks", spec := "fnSlacks", apart := false, narrowed := true }
def FnSlacksUptoSaid : Prop := fnSlacksUptoRow.holds Try.pinned (OpenSpec.upto fnSlacksSpec)

/-- 'laws.FnUsable', WHERE WHAT IT READS IS OF BULK AT MOST 1048576: true; the input reads as it did. -/
def fnUsableUptoRow : OpenClaim := { program := "ytfdnhamkkcmnfaa", sum := "53e257e24031bd2c532a38fedd266d02d935e3bdf8420d84da1fb3fdb34d6d86", func := "loop.example/g01050/laws.FnUsable", spec := "fnUsable", apart := false, narrowed := true }
def FnUsableUptoSaid : Prop := fnUsableUptoRow.holds Try.pinned (OpenSpec.upto fnUsableSpec)

/-- 'laws.FnWays', WHERE WHAT IT READS IS OF BULK AT MOST 1048576: true; the input reads as it did. -/
def fnWaysUptoRow : OpenClaim := { program := "ytfdnhamkkcmnfaa", sum := "53e257e24031bd2c532a38fedd266d02d935e3bdf8420d84da1fb3fdb34d6d86", func := "loop.example/g01050/laws.FnWays", spec := "fnWays", apart := false, narrowed := true }
def FnWaysUptoSaid : Prop := fnWaysUptoRow.holds Try.pinned (OpenSpec.upto fnWaysSpec)

end Rows
end Go.Proofs.Ytfdnhamkkcmnfaa
