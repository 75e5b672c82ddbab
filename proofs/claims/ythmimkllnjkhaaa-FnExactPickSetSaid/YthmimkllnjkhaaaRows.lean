/-
  No cell of these rows narrows 'for every input' (looked for: loops, veiled, ifaces, maps, wideKeys, modest, calm, conditions, laid).
  DERIVED. THE GIVEN ROWS OF THIS SEAT. 7 by the template 'for every input the law returns true; each argument reads behind the call as it read before'; 0 by the template 'total and deterministic' (their statements: YthmimkllnjkhaaaTotals.lean).
  GIVEN WITH THE SEED: the statements are not yours to turn. If you find one false, say at which input.
  Laid BY PROGRAM, IN A SANDBOX (cutbox-rows.mjs): the forced cells as the released guide's own fill.sh prints them over the translation d146350443aa893b… (all of the seat's roots in one cut). By AI agents, Wed Nov 11 2026. No macro, syntax, notation, axiom, sorry.
-/
import Derived.Test.YthmimkllnjkhaaaChecked
import GoSem.Claim
import GoSem.ClaimJoined
import GoSem.ClaimMapViews
import Derived.JoinedTies
import Derived.KernelRfl
namespace Go.Proofs.Ythmimkllnjkhaaa
/- THE CELL 'sum', in the pinned program and in every row, IS THE sha256 OF THE DUMP (.gsa) THAT YthmimkllnjkhaaaProg.lean LOADS. Nothing in Lean hashes anything: it is a label: what it is worth is what the hold of that sum in a sandbox is worth. -/
noncomputable def Try.pinned : Pinned := { name := "ythmimkllnjkhaaa", sum := "d146350443aa893bd97f2339497dd31c10c90ebfce1d59328ca6197f7a2eec84", checked := Try.checked }
namespace Rows
def none {H : Type} : Left H := { results := [], args := [] }

/-- 'laws.FnExactIsRace': WHATEVER THE INPUT: true; the input reads as it did. -/
def fnExactIsRaceSpec : ChangeSpec := { name := "fnExactIsRace", fn := fun _ => fun
  | [d] => { results := [.lit (.bool true)], args := [d] }
  | _ => none }
def fnExactIsRaceRow : OpenClaim := { program := "ythmimkllnjkhaaa", sum := "d146350443aa893bd97f2339497dd31c10c90ebfce1d59328ca6197f7a2eec84", func := "loop.example/g01050/laws.FnExactIsRace", spec := "fnExactIsRace", apart := false }
def FnExactIsRaceSaid : Prop := fnExactIsRaceRow.holds Try.pinned (OpenSpec.ofChange fnExactIsRaceSpec)

/-- ITS FALSE NEIGHBOUR: 'it returns false'. Refute it at one input. -/
def fnExactIsRaceWrong : ChangeSpec := { name := "fnExactIsRace", fn := fun _ => fun
  | [d] => { results := [.lit (.bool false)], args := [d] }
  | _ => none }
def FnExactIsRaceWrongFalsely : Prop := fnExactIsRaceRow.holds Try.pinned (OpenSpec.ofChange fnExactIsRaceWrong)

/-- 'laws.FnExactSpreadOfBalls': WHATEVER THE INPUT: true; the input reads as it did. -/
def fnExactSpreadOfBallsSpec : ChangeSpec := { name := "fnExactSpreadOfBalls", fn := fun _ => fun
  | [d] => { results := [.lit (.bool true)], args := [d] }
  | _ => none }
def fnExactSpreadOfBallsRow : OpenClaim := { program := "ythmimkllnjkhaaa", sum := "d146350443aa893bd97f2339497dd31c10c90ebfce1d59328ca6197f7a2eec84", func := "loop.example/g01050/laws.FnExactSpreadOfBalls", spec := "fnExactSpreadOfBalls", apart := false }
def FnExactSpreadOfBallsSaid : Prop := fnExactSpreadOfBallsRow.holds Try.pinned (OpenSpec.ofChange fnExactSpreadOfBallsSpec)

/-- ITS FALSE NEIGHBOUR: 'it returns false'. Refute it at one input. -/
def fnExactSpreadOfBallsWrong : ChangeSpec := { name := "fnExactSpreadOfBalls", fn := fun _ => fun
  | [d] => { results := [.lit (.bool false)], args := [d] }
  | _ => none }
def FnExactSpreadOfBallsWrongFalsely : Prop := fnExactSpreadOfBallsRow.holds Try.pinned (OpenSpec.ofChange fnExactSpreadOfBallsWrong)

/-- 'laws.FnExactNeededTolerance': WHATEVER THE INPUT: true; the input reads as it did. -/
def fnExactNeededToleranceSpec : ChangeSpec := { name := "fnExactNeededTolerance", fn := fun _ => fun
  | [d1, d2] => { results := [.lit (.bool true)], args := [d1, d2] }
  | _ => none }
def fnExactNeededToleranceRow : OpenClaim := { program := "ythmimkllnjkhaaa", sum := "d146350443aa893bd97f2339497dd31c10c90ebfce1d59328ca6197f7a2eec84", func := "loop.example/g01050/laws.FnExactNeededTolerance", spec := "fnExactNeededTolerance", apart := false }
def FnExactNeededToleranceSaid : Prop := fnExactNeededToleranceRow.holds Try.pinned (OpenSpec.ofChange fnExactNeededToleranceSpec)

/-- ITS FALSE NEIGHBOUR: 'it returns false'. Refute it at one input. -/
def fnExactNeededToleranceWrong : ChangeSpec := { name := "fnExactNeededTolerance", fn := fun _ => fun
  | [d1, d2] => { results := [.lit (.bool false)], args := [d1, d2] }
  | _ => none }
def FnExactNeededToleranceWrongFalsely : Prop := fnExactNeededToleranceRow.holds Try.pinned (OpenSpec.ofChange fnExactNeededToleranceWrong)

/-- 'laws.FnExactCountSets': WHATEVER THE INPUT: true; the input reads as it did. -/
def fnExactCountSetsSpec : ChangeSpec := { name := "fnExactCountSets", fn := fun _ => fun
  | [d1, d2, d3] => { results := [.lit (.bool true)], args := [d1, d2, d3] }
  | _ => none }
def fnExactCountSetsRow : OpenClaim := { program := "ythmimkllnjkhaaa", sum := "d146350443aa893bd97f2339497dd31c10c90ebfce1d59328ca6197f7a2eec84", func := "loop.example/g01050/laws.FnExactCountSets", spec := "fnExactCountSets", apart := false }
def FnExactCountSetsSaid : Prop := fnExactCountSetsRow.holds Try.pinned (OpenSpec.ofChange fnExactCountSetsSpec)

/-- ITS FALSE NEIGHBOUR: 'it returns false'. Refute it at one input. -/
def fnExactCountSetsWrong : ChangeSpec := { name := "fnExactCountSets", fn := fun _ => fun
  | [d1, d2, d3] => { results := [.lit (.bool false)], args := [d1, d2, d3] }
  | _ => none }
def FnExactCountSetsWrongFalsely : Prop := fnExactCountSetsRow.holds Try.pinned (OpenSpec.ofChange fnExactCountSetsWrong)

/-- 'laws.FnExactPickSet': WHATEVER THE INPUT: true; the input reads as it did. -/
def fnExactPickSetSpec : ChangeSpec := { name := "fnExactPickSet", fn := fun _ => fun
  | [d1, d2, d3] => { results := [.lit (.bool true)], args := [d1, d2, d3] }
  | _ => none }
def fnExactPickSetRow : OpenClaim := { program := "ythmimkllnjkhaaa", sum := "d146350443aa893bd97f2339497dd31c10c90ebfce1d59328ca6197f7a2eec84", func := "loop.example/g01050/laws.FnExactPickSet", spec := "fnExactPickSet", apart := false }
def FnExactPickSetSaid : Prop := fnExactPickSetRow.holds Try.pinned (OpenSpec.ofChange fnExactPickSetSpec)

/-- ITS FALSE NEIGHBOUR: 'it returns false'. Refute it at one input. -/
def fnExactPickSetWrong : ChangeSpec := { name := "fnExactPickSet", fn := fun _ => fun
  | [d1, d2, d3] => { results := [.lit (.bool false)], args := [d1, d2, d3] }
  | _ => none }
def FnExactPickSetWrongFalsely : Prop := fnExactPickSetRow.holds Try.pinned (OpenSpec.ofChange fnExactPickSetWrong)

/-- 'laws.FnExactChordOf': WHATEVER THE INPUT: true; the input reads as it did. -/
def fnExactChordOfSpec : ChangeSpec := { name := "fnExactChordOf", fn := fun _ => fun
  | [d1, d2] => { results := [.lit (.bool true)], args := [d1, d2] }
  | _ => none }
def fnExactChordOfRow : OpenClaim := { program := "ythmimkllnjkhaaa", sum := "d146350443aa893bd97f2339497dd31c10c90ebfce1d59328ca6197f7a2eec84", func := "loop.example/g01050/laws.FnExactChordOf", spec := "fnExactChordOf", apart := false }
def FnExactChordOfSaid : Prop := fnExactChordOfRow.holds Try.pinned (OpenSpec.ofChange fnExactChordOfSpec)

/-- ITS FALSE NEIGHBOUR: 'it returns false'. Refute it at one input. -/
def fnExactChordOfWrong : ChangeSpec := { name := "fnExactChordOf", fn := fun _ => fun
  | [d1, d2] => { results := [.lit (.bool false)], args := [d1, d2] }
  | _ => none }
def FnExactChordOfWrongFalsely : Prop := fnExactChordOfRow.holds Try.pinned (OpenSpec.ofChange fnExactChordOfWrong)

/-- 'laws.FnExactMostBalls': WHATEVER THE INPUT: true; the input reads as it did. -/
def fnExactMostBallsSpec : ChangeSpec := { name := "fnExactMostBalls", fn := fun _ => fun
  | [d] => { results := [.lit (.bool true)], args := [d] }
  | _ => none }
def fnExactMostBallsRow : OpenClaim := { program := "ythmimkllnjkhaaa", sum := "d146350443aa893bd97f2339497dd31c10c90ebfce1d59328ca6197f7a2eec84", func := "loop.example/g01050/laws.FnExactMostBalls", spec := "fnExactMostBalls", apart := false }
def FnExactMostBallsSaid : Prop := fnExactMostBallsRow.holds Try.pinned (OpenSpec.ofChange fnExactMostBallsSpec)

/-- ITS FALSE NEIGHBOUR: 'it returns false'. Refute it at one input. -/
def fnExactMostBallsWrong : ChangeSpec := { name := "fnExactMostBalls", fn := fun _ => fun
  | [d] => { results := [.lit (.bool false)], args := [d] }
  | _ => none }
def FnExactMostBallsWrongFalsely : Prop := fnExactMostBallsRow.holds Try.pinned (OpenSpec.ofChange fnExactMostBallsWrong)

/- THE SECOND FORM. 'bulk': how many values and letters a reading holds, each counted each time it is reached (what is shared counts as often as it is met; a slice's spare places count too). A statement '..UptoSaid' is the law's where the arguments, and the package variables that the reading takes, are together of bulk at most 1048576: NARROWER than '..Said'. Prove '..Said' where nothing that the law and all that it calls make is longer than what came in: it says more and counts as full. Else prove '..UptoSaid'. A law counts once. -/
mutual
def uptoBulk {H : Type} : DataW H → Nat
  | .lit (.string bytes) => bytes.length + 1
  | .lit _ => 1
  | .nil => 1
  | .ptr d => uptoBulk d + 1
  | .slice elems spare => uptoBulkAll elems + uptoBulkAll spare + 1
  | .agg parts => uptoBulkAll parts + 1
  | .iface _ d => uptoBulk d + 1
  | .map entries => uptoBulkEntries entries + 1
  | .held _ => 1
def uptoBulkAll {H : Type} : List (DataW H) → Nat
  | [] => 0
  | d :: r => uptoBulk d + uptoBulkAll r
def uptoBulkEntries {H : Type} : List (Lit × DataW H) → Nat
  | [] => 0
  | x :: r => uptoBulkEntry x + uptoBulkEntries r
def uptoBulkEntry {H : Type} : Lit × DataW H → Nat
  | (.string bytes, d) => bytes.length + uptoBulk d + 1
  | (_, d) => uptoBulk d + 1
 end
def uptoSmall : (H : Type) → List (DataW H) → Bool := fun _ ds => decide (uptoBulkAll ds ≤ 1048576)
def OpenSpec.upto (s : _root_.Go.ChangeSpec) : _root_.Go.OpenSpec := { _root_.Go.OpenSpec.ofChange s with cond := some uptoSmall }

/-- 'laws.FnExactIsRace', WHERE WHAT IT READS IS OF BULK AT MOST 1048576: true; the input reads as it did. -/
def fnExactIsRaceUptoRow : OpenClaim := { program := "ythmimkllnjkhaaa", sum := "d146350443aa893bd97f2339497dd31c10c90ebfce1d59328ca6197f7a2eec84", func := "loop.example/g01050/laws.FnExactIsRace", spec := "fnExactIsRace", apart := false, narrowed := true }
def FnExactIsRaceUptoSaid : Prop := fnExactIsRaceUptoRow.holds Try.pinned (OpenSpec.upto fnExactIsRaceSpec)

/-- 'laws.FnExactSpreadOfBalls', WHERE WHAT IT READS IS OF BULK AT MOST 1048576: true; the input reads as it did. -/
def fnExactSpreadOfBallsUptoRow : OpenClaim := { program := "ythmimkllnjkhaaa", sum := "d146350443aa893bd97f2339497dd31c10c90ebfce1d59328ca6197f7a2eec84", func := "loop.example/g01050/laws.FnExactSpreadOfBalls", spec := "fnExactSpreadOfBalls", apart := false, narrowed := true }
def FnExactSpreadOfBallsUptoSaid : Prop := fnExactSpreadOfBallsUptoRow.holds Try.pinned (OpenSpec.upto fnExactSpreadOfBallsSpec)

/-- 'laws.FnExactNeededTolerance', WHERE WHAT IT READS IS OF BULK AT MOST 1048576: true; the input reads as it did. -/
def fnExactNeededToleranceUptoRow : OpenClaim := { program := "ythmimkllnjkhaaa", sum := "d146350443aa893bd97f2339497dd31c10c90ebfce1d59328ca6197f7a2eec84", func := "loop.example/g01050/laws.FnExactNeededTolerance", spec := "fnExactNeededTolerance", apart := false, narrowed := true }
def FnExactNeededToleranceUptoSaid : Prop := fnExactNeededToleranceUptoRow.holds Try.pinned (OpenSpec.upto fnExactNeededToleranceSpec)

/-- 'laws.FnExactCountSets', WHERE WHAT IT READS IS OF BULK AT MOST 1048576: true; the input reads as it did. -/
def fnExactCountSetsUptoRow : OpenClaim := { program := "ythmimkllnjkhaaa", sum := "d146350443aa893bd97f2339497dd31c10c90ebfce1d59328ca6197f7a2eec84", func := "loop.example/g01050/laws.FnExactCountSets", spec := "fnExactCountSets", apart := false, narrowed := true }
def FnExactCountSetsUptoSaid : Prop := fnExactCountSetsUptoRow.holds Try.pinned (OpenSpec.upto fnExactCountSetsSpec)

/-- 'laws.FnExactPickSet', WHERE WHAT IT READS IS OF BULK AT MOST 1048576: true; the input reads as it did. -/
def fnExactPickSetUptoRow : OpenClaim := { program := "ythmimkllnjkhaaa", sum := "d146350443aa893bd97f2339497dd31c10c90ebfce1d59328ca6197f7a2eec84", func := "loop.example/g01050/laws.FnExactPickSet", spec := "fnExactPickSet", apart := false, narrowed := true }
def FnExactPickSetUptoSaid : Prop := fnExactPickSetUptoRow.holds Try.pinned (OpenSpec.upto fnExactPickSetSpec)

/-- 'laws.FnExactChordOf', WHERE WHAT IT READS IS OF BULK AT MOST 1048576: true; the input reads as it did. -/
def fnExactChordOfUptoRow : OpenClaim := { program := "ythmimkllnjkhaaa", sum := "d146350443aa893bd97f2339497dd31c10c90ebfce1d59328ca6197f7a2eec84", func := "loop.example/g01050/laws.FnExactChordOf", spec := "fnExactChordOf", apart := false, narrowed := true }
def FnExactChordOfUptoSaid : Prop := fnExactChordOfUptoRow.holds Try.pinned (OpenSpec.upto fnExactChordOfSpec)

/-- 'laws.FnExactMostBalls', WHERE WHAT IT READS IS OF BULK AT MOST 1048576: true; the input reads as it did. -/
def fnExactMostBallsUptoRow : OpenClaim := { program := "ythmimkllnjkhaaa", sum := "d146350443aa893bd97f2339497dd31c10c90ebfce1d59328ca6197f7a2eec84", func := "loop.example/g01050/laws.FnExactMostBalls", spec := "fnExactMostBalls", apart := false, narrowed := true }
def FnExactMostBallsUptoSaid : Prop := fnExactMostBallsUptoRow.holds Try.pinned (OpenSpec.upto fnExactMostBallsSpec)

end Rows
end Go.Proofs.Ythmimkllnjkhaaa
