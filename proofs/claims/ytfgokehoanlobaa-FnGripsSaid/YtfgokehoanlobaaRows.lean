/-
  No cell of these rows narrows 'for every input' (looked for: loops, veiled, ifaces, maps, wideKeys, modest, calm, conditions, laid).
  DERIVED. THE GIVEN ROWS OF THIS SEAT. 11 by the template 'for every input the law returns true; each argument reads behind the call as it read before'; 0 by the template 'total and deterministic' (their statements: YtfgokehoanlobaaTotals.lean).
  GIVEN WITH THE SEED: the statements are not yours to turn. If you find one false, say at which input.
  Laid BY PROGRAM, IN A SANDBOX (cutbox-rows.mjs): the forced cells as the released guide's own fill.sh prints them over the translation 8de8fe8bee36ba64… (all of the seat's roots in one cut). By AI agents, Wed Nov 11 2026. No macro, syntax, notation, axiom, sorry.
-/
import Derived.Test.YtfgokehoanlobaaChecked
import GoSem.Claim
import GoSem.ClaimJoined
import GoSem.ClaimMapViews
import Derived.JoinedTies
import Derived.KernelRfl
namespace Go.Proofs.Ytfgokehoanlobaa
/- THE CELL 'sum', in the pinned program and in every row, IS THE sha256 OF THE DUMP (.gsa) THAT YtfgokehoanlobaaProg.lean LOADS. Nothing in Lean hashes anything: it is a label: what it is worth is what the hold of that sum in a sandbox is worth. -/
noncomputable def Try.pinned : Pinned := { name := "ytfgokehoanlobaa", sum := "8de8fe8bee36ba648d5969d230dafdbaa8257871ce89a785dc654f7d87001f2e", checked := Try.checked }
namespace Rows
def none {H : Type} : Left H := { results := [], args := [] }

/-- 'laws.FnExactIsBrake': WHATEVER THE INPUT: true; the input reads as it did. -/
def fnExactIsBrakeSpec : ChangeSpec := { name := "fnExactIsBrake", fn := fun _ => fun
  | [d] => { results := [.lit (.bool true)], args := [d] }
  | _ => none }
def fnExactIsBrakeRow : OpenClaim := { program := "ytfgokehoanlobaa", sum := "8de8fe8bee36ba648d5969d230dafdbaa8257871ce89a785dc654f7d87001f2e", func := "loop.example/g01050/laws.FnExactIsBrake", spec := "fnExactIsBrake", apart := false }
def FnExactIsBrakeSaid : Prop := fnExactIsBrakeRow.holds Try.pinned (OpenSpec.ofChange fnExactIsBrakeSpec)

/-- ITS FALSE NEIGHBOUR: 'it returns false'. Refute it at one input. -/
def fnExactIsBrakeWrong : ChangeSpec := { name := "fnExactIsBrake", fn := fun _ => fun
  | [d] => { results := [.lit (.bool false)], args := [d] }
  | _ => none }
def FnExactIsBrakeWrongFalsely : Prop := fnExactIsBrakeRow.holds Try.pinned (OpenSpec.ofChange fnExactIsBrakeWrong)

/-- 'laws.FnExactPullOf': WHATEVER THE INPUT: true; the input reads as it did. -/
def fnExactPullOfSpec : ChangeSpec := { name := "fnExactPullOf", fn := fun _ => fun
  | [d1, d2] => { results := [.lit (.bool true)], args := [d1, d2] }
  | _ => none }
def fnExactPullOfRow : OpenClaim := { program := "ytfgokehoanlobaa", sum := "8de8fe8bee36ba648d5969d230dafdbaa8257871ce89a785dc654f7d87001f2e", func := "loop.example/g01050/laws.FnExactPullOf", spec := "fnExactPullOf", apart := false }
def FnExactPullOfSaid : Prop := fnExactPullOfRow.holds Try.pinned (OpenSpec.ofChange fnExactPullOfSpec)

/-- ITS FALSE NEIGHBOUR: 'it returns false'. Refute it at one input. -/
def fnExactPullOfWrong : ChangeSpec := { name := "fnExactPullOf", fn := fun _ => fun
  | [d1, d2] => { results := [.lit (.bool false)], args := [d1, d2] }
  | _ => none }
def FnExactPullOfWrongFalsely : Prop := fnExactPullOfRow.holds Try.pinned (OpenSpec.ofChange fnExactPullOfWrong)

/-- 'laws.FnExactGripOf': WHATEVER THE INPUT: true; the input reads as it did. -/
def fnExactGripOfSpec : ChangeSpec := { name := "fnExactGripOf", fn := fun _ => fun
  | [d1, d2] => { results := [.lit (.bool true)], args := [d1, d2] }
  | _ => none }
def fnExactGripOfRow : OpenClaim := { program := "ytfgokehoanlobaa", sum := "8de8fe8bee36ba648d5969d230dafdbaa8257871ce89a785dc654f7d87001f2e", func := "loop.example/g01050/laws.FnExactGripOf", spec := "fnExactGripOf", apart := false }
def FnExactGripOfSaid : Prop := fnExactGripOfRow.holds Try.pinned (OpenSpec.ofChange fnExactGripOfSpec)

/-- ITS FALSE NEIGHBOUR: 'it returns false'. Refute it at one input. -/
def fnExactGripOfWrong : ChangeSpec := { name := "fnExactGripOf", fn := fun _ => fun
  | [d1, d2] => { results := [.lit (.bool false)], args := [d1, d2] }
  | _ => none }
def FnExactGripOfWrongFalsely : Prop := fnExactGripOfRow.holds Try.pinned (OpenSpec.ofChange fnExactGripOfWrong)

/-- 'laws.FnExactTurnsOfBarrel': WHATEVER THE INPUT: true; the input reads as it did. -/
def fnExactTurnsOfBarrelSpec : ChangeSpec := { name := "fnExactTurnsOfBarrel", fn := fun _ => fun
  | [d1, d2, d3] => { results := [.lit (.bool true)], args := [d1, d2, d3] }
  | _ => none }
def fnExactTurnsOfBarrelRow : OpenClaim := { program := "ytfgokehoanlobaa", sum := "8de8fe8bee36ba648d5969d230dafdbaa8257871ce89a785dc654f7d87001f2e", func := "loop.example/g01050/laws.FnExactTurnsOfBarrel", spec := "fnExactTurnsOfBarrel", apart := false }
def FnExactTurnsOfBarrelSaid : Prop := fnExactTurnsOfBarrelRow.holds Try.pinned (OpenSpec.ofChange fnExactTurnsOfBarrelSpec)

/-- ITS FALSE NEIGHBOUR: 'it returns false'. Refute it at one input. -/
def fnExactTurnsOfBarrelWrong : ChangeSpec := { name := "fnExactTurnsOfBarrel", fn := fun _ => fun
  | [d1, d2, d3] => { results := [.lit (.bool false)], args := [d1, d2, d3] }
  | _ => none }
def FnExactTurnsOfBarrelWrongFalsely : Prop := fnExactTurnsOfBarrelRow.holds Try.pinned (OpenSpec.ofChange fnExactTurnsOfBarrelWrong)

/-- 'laws.FnExactForceFor': WHATEVER THE INPUT: true; the input reads as it did. -/
def fnExactForceForSpec : ChangeSpec := { name := "fnExactForceFor", fn := fun _ => fun
  | [d1, d2] => { results := [.lit (.bool true)], args := [d1, d2] }
  | _ => none }
def fnExactForceForRow : OpenClaim := { program := "ytfgokehoanlobaa", sum := "8de8fe8bee36ba648d5969d230dafdbaa8257871ce89a785dc654f7d87001f2e", func := "loop.example/g01050/laws.FnExactForceFor", spec := "fnExactForceFor", apart := false }
def FnExactForceForSaid : Prop := fnExactForceForRow.holds Try.pinned (OpenSpec.ofChange fnExactForceForSpec)

/-- ITS FALSE NEIGHBOUR: 'it returns false'. Refute it at one input. -/
def fnExactForceForWrong : ChangeSpec := { name := "fnExactForceFor", fn := fun _ => fun
  | [d1, d2] => { results := [.lit (.bool false)], args := [d1, d2] }
  | _ => none }
def FnExactForceForWrongFalsely : Prop := fnExactForceForRow.holds Try.pinned (OpenSpec.ofChange fnExactForceForWrong)

/-- 'laws.FnExactTravelOf': WHATEVER THE INPUT: true; the input reads as it did. -/
def fnExactTravelOfSpec : ChangeSpec := { name := "fnExactTravelOf", fn := fun _ => fun
  | [d1, d2, d3] => { results := [.lit (.bool true)], args := [d1, d2, d3] }
  | _ => none }
def fnExactTravelOfRow : OpenClaim := { program := "ytfgokehoanlobaa", sum := "8de8fe8bee36ba648d5969d230dafdbaa8257871ce89a785dc654f7d87001f2e", func := "loop.example/g01050/laws.FnExactTravelOf", spec := "fnExactTravelOf", apart := false }
def FnExactTravelOfSaid : Prop := fnExactTravelOfRow.holds Try.pinned (OpenSpec.ofChange fnExactTravelOfSpec)

/-- ITS FALSE NEIGHBOUR: 'it returns false'. Refute it at one input. -/
def fnExactTravelOfWrong : ChangeSpec := { name := "fnExactTravelOf", fn := fun _ => fun
  | [d1, d2, d3] => { results := [.lit (.bool false)], args := [d1, d2, d3] }
  | _ => none }
def FnExactTravelOfWrongFalsely : Prop := fnExactTravelOfRow.holds Try.pinned (OpenSpec.ofChange fnExactTravelOfWrong)

/-- 'laws.FnExactCompareBrakes': WHATEVER THE INPUT: true; the input reads as it did. -/
def fnExactCompareBrakesSpec : ChangeSpec := { name := "fnExactCompareBrakes", fn := fun _ => fun
  | [d1, d2, d3] => { results := [.lit (.bool true)], args := [d1, d2, d3] }
  | _ => none }
def fnExactCompareBrakesRow : OpenClaim := { program := "ytfgokehoanlobaa", sum := "8de8fe8bee36ba648d5969d230dafdbaa8257871ce89a785dc654f7d87001f2e", func := "loop.example/g01050/laws.FnExactCompareBrakes", spec := "fnExactCompareBrakes", apart := false }
def FnExactCompareBrakesSaid : Prop := fnExactCompareBrakesRow.holds Try.pinned (OpenSpec.ofChange fnExactCompareBrakesSpec)

/-- ITS FALSE NEIGHBOUR: 'it returns false'. Refute it at one input. -/
def fnExactCompareBrakesWrong : ChangeSpec := { name := "fnExactCompareBrakes", fn := fun _ => fun
  | [d1, d2, d3] => { results := [.lit (.bool false)], args := [d1, d2, d3] }
  | _ => none }
def FnExactCompareBrakesWrongFalsely : Prop := fnExactCompareBrakesRow.holds Try.pinned (OpenSpec.ofChange fnExactCompareBrakesWrong)

/-- 'laws.FnExactStopsWithin': WHATEVER THE INPUT: true; the input reads as it did. -/
def fnExactStopsWithinSpec : ChangeSpec := { name := "fnExactStopsWithin", fn := fun _ => fun
  | [d1, d2, d3, d4, d5] => { results := [.lit (.bool true)], args := [d1, d2, d3, d4, d5] }
  | _ => none }
def fnExactStopsWithinRow : OpenClaim := { program := "ytfgokehoanlobaa", sum := "8de8fe8bee36ba648d5969d230dafdbaa8257871ce89a785dc654f7d87001f2e", func := "loop.example/g01050/laws.FnExactStopsWithin", spec := "fnExactStopsWithin", apart := false }
def FnExactStopsWithinSaid : Prop := fnExactStopsWithinRow.holds Try.pinned (OpenSpec.ofChange fnExactStopsWithinSpec)

/-- ITS FALSE NEIGHBOUR: 'it returns false'. Refute it at one input. -/
def fnExactStopsWithinWrong : ChangeSpec := { name := "fnExactStopsWithin", fn := fun _ => fun
  | [d1, d2, d3, d4, d5] => { results := [.lit (.bool false)], args := [d1, d2, d3, d4, d5] }
  | _ => none }
def FnExactStopsWithinWrongFalsely : Prop := fnExactStopsWithinRow.holds Try.pinned (OpenSpec.ofChange fnExactStopsWithinWrong)

/-- 'laws.FnExactGapFor': WHATEVER THE INPUT: true; the input reads as it did. -/
def fnExactGapForSpec : ChangeSpec := { name := "fnExactGapFor", fn := fun _ => fun
  | [d1, d2, d3] => { results := [.lit (.bool true)], args := [d1, d2, d3] }
  | _ => none }
def fnExactGapForRow : OpenClaim := { program := "ytfgokehoanlobaa", sum := "8de8fe8bee36ba648d5969d230dafdbaa8257871ce89a785dc654f7d87001f2e", func := "loop.example/g01050/laws.FnExactGapFor", spec := "fnExactGapFor", apart := false }
def FnExactGapForSaid : Prop := fnExactGapForRow.holds Try.pinned (OpenSpec.ofChange fnExactGapForSpec)

/-- ITS FALSE NEIGHBOUR: 'it returns false'. Refute it at one input. -/
def fnExactGapForWrong : ChangeSpec := { name := "fnExactGapFor", fn := fun _ => fun
  | [d1, d2, d3] => { results := [.lit (.bool false)], args := [d1, d2, d3] }
  | _ => none }
def FnExactGapForWrongFalsely : Prop := fnExactGapForRow.holds Try.pinned (OpenSpec.ofChange fnExactGapForWrong)

/-- 'laws.FnGrips': WHATEVER THE INPUT: true; the input reads as it did. -/
def fnGripsSpec : ChangeSpec := { name := "fnGrips", fn := fun _ => fun
  | [d] => { results := [.lit (.bool true)], args := [d] }
  | _ => none }
def fnGripsRow : OpenClaim := { program := "ytfgokehoanlobaa", sum := "8de8fe8bee36ba648d5969d230dafdbaa8257871ce89a785dc654f7d87001f2e", func := "loop.example/g01050/laws.FnGrips", spec := "fnGrips", apart := false }
def FnGripsSaid : Prop := fnGripsRow.holds Try.pinned (OpenSpec.ofChange fnGripsSpec)

/-- ITS FALSE NEIGHBOUR: 'it returns false'. Refute it at one input. -/
def fnGripsWrong : ChangeSpec := { name := "fnGrips", fn := fun _ => fun
  | [d] => { results := [.lit (.bool false)], args := [d] }
  | _ => none }
def FnGripsWrongFalsely : Prop := fnGripsRow.holds Try.pinned (OpenSpec.ofChange fnGripsWrong)

/-- 'laws.FnTravels': WHATEVER THE INPUT: true; the input reads as it did. -/
def fnTravelsSpec : ChangeSpec := { name := "fnTravels", fn := fun _ => fun
  | [d] => { results := [.lit (.bool true)], args := [d] }
  | _ => none }
def fnTravelsRow : OpenClaim := { program := "ytfgokehoanlobaa", sum := "8de8fe8bee36ba648d5969d230dafdbaa8257871ce89a785dc654f7d87001f2e", func := "loop.example/g01050/laws.FnTravels", spec := "fnTravels", apart := false }
def FnTravelsSaid : Prop := fnTravelsRow.holds Try.pinned (OpenSpec.ofChange fnTravelsSpec)

/-- ITS FALSE NEIGHBOUR: 'it returns false'. Refute it at one input. -/
def fnTravelsWrong : ChangeSpec := { name := "fnTravels", fn := fun _ => fun
  | [d] => { results := [.lit (.bool false)], args := [d] }
  | _ => none }
def FnTravelsWrongFalsely : Prop := fnTravelsRow.holds Try.pinned (OpenSpec.ofChange fnTravelsWrong)

/- THE SECOND FORM. 'bulk': how many values and letters a reading holds, each counted each time it is reached (what is shared counts as often as it is met; a slice's spare places count too). A statement '..UptoSaid' is the law's where the arguments, and the package variables that the reading takes, are together of bulk at most 1048576: NARROWER than '..Said'. Prove '..Said' where nothing that the law and all that it calls make is longer than what came in: it says more and counts as full. Else prove '..UptoSaid'. A law counts once. -/
mutual
def uptoBulk {H : Type} : DataW H → Nat
  | .lit (.string bytes) => bytes.length + 1
  | .lit _ => 1
  | .nil => 1
  | .ptr d => uptoBulk d + 1
  | .slice elems spare => uptoBulkAll elems + uptoBulkAll spare + 1
  | .agg parts => uptoBulkAll parts + 1
  | .iface _ d => uptoBulk d + 1
  | .map entries => uptoBulkEntries entries + 1
  | .held _ => 1
def uptoBulkAll {H : Type} : List (DataW H) → Nat
  | [] => 0
  | d :: r => uptoBulk d + uptoBulkAll r
def uptoBulkEntries {H : Type} : List (Lit × DataW H) → Nat
  | [] => 0
  | x :: r => uptoBulkEntry x + uptoBulkEntries r
def uptoBulkEntry {H : Type} : Lit × DataW H → Nat
  | (.string bytes, d) => bytes.length + uptoBulk d + 1
  | (_, d) => uptoBulk d + 1
 end
def uptoSmall : (H : Type) → List (DataW H) → Bool := fun _ ds => decide (uptoBulkAll ds ≤ 1048576)
def OpenSpec.upto (s : _root_.Go.ChangeSpec) : _root_.Go.OpenSpec := { _root_.Go.OpenSpec.ofChange s with cond := some uptoSmall }

/-- 'laws.FnExactIsBrake', WHERE WHAT IT READS IS OF BULK AT MOST 1048576: true; the input reads as it did. -/
def fnExactIsBrakeUptoRow : OpenClaim := { program := "ytfgokehoanlobaa", sum := "8de8fe8bee36ba648d5969d230dafdbaa8257871ce89a785dc654f7d87001f2e", func := "loop.example/g01050/laws.FnExactIsBrake", spec := "fnExactIsBrake", apart := false, narrowed := true }
def FnExactIsBrakeUptoSaid : Prop := fnExactIsBrakeUptoRow.holds Try.pinned (OpenSpec.upto fnExactIsBrakeSpec)

/-- 'laws.FnExactPullOf', WHERE WHAT IT READS IS OF BULK AT MOST 1048576: true; the input reads as it did. -/
def fnExactPullOfUptoRow : OpenClaim := { program := "ytfgokehoanlobaa", sum := "8de8fe8bee36ba648d5969d230dafdbaa8257871ce89a785dc654f7d87001f2e", func := "loop.example/g01050/laws.FnExactPullOf", spec := "fnExactPullOf", apart := false, narrowed := true }
def FnExactPullOfUptoSaid : Prop := fnExactPullOfUptoRow.holds Try.pinned (OpenSpec.upto fnExactPullOfSpec)

/-- 'laws.FnExactGripOf', WHERE WHAT IT READS IS OF BULK AT MOST 1048576: true; the input reads as it did. -/
def fnExactGripOfUptoRow : OpenClaim := { program := "ytfgokehoanlobaa", sum := "8de8fe8bee36ba648d5969d230dafdbaa8257871ce89a785dc654f7d87001f2e", func := "loop.example/g01050/laws.FnExactGripOf", spec := "fnExactGripOf", apart := false, narrowed := true }
def FnExactGripOfUptoSaid : Prop := fnExactGripOfUptoRow.holds Try.pinned (OpenSpec.upto fnExactGripOfSpec)

/-- 'laws.FnExactTurnsOfBarrel', WHERE WHAT IT READS IS OF BULK AT MOST 1048576: true; the input reads as it did. -/
def fnExactTurnsOfBarrelUptoRow : OpenClaim := { program := "ytfgokehoanlobaa", sum := "8de8fe8bee36ba648d5969d230dafdbaa8257871ce89a785dc654f7d87001f2e", func := "loop.example/g01050/laws.FnExactTurnsOfBarrel", spec := "fnExactTurnsOfBarrel", apart := false, narrowed := true }
def FnExactTurnsOfBarrelUptoSaid : Prop := fnExactTurnsOfBarrelUptoRow.holds Try.pinned (OpenSpec.upto fnExactTurnsOfBarrelSpec)

/-- 'laws.FnExactForceFor', WHERE WHAT IT READS IS OF BULK AT MOST 1048576: true; the input reads as it did. -/
def fnExactForceForUptoRow : OpenClaim := { program := "ytfgokehoanlobaa", sum := "8de8fe8bee36ba648d5969d230dafdbaa8257871ce89a785dc654f7d87001f2e", func := "loop.example/g01050/laws.FnExactForceFor", spec := "fnExactForceFor", apart := false, narrowed := true }
def FnExactForceForUptoSaid : Prop := fnExactForceForUptoRow.holds Try.pinned (OpenSpec.upto fnExactForceForSpec)

/-- 'laws.FnExactTravelOf', WHERE WHAT IT READS IS OF BULK AT MOST 1048576: true; the input reads as it did. -/
def fnExactTravelOfUptoRow : OpenClaim := { program := "ytfgokehoanlobaa", sum := "8de8fe8bee36ba648d5969d230dafdbaa8257871ce89a785dc654f7d87001f2e", func := "loop.example/g01050/laws.FnExactTravelOf", spec := "fnExactTravelOf", apart := false, narrowed := true }
def FnExactTravelOfUptoSaid : Prop := fnExactTravelOfUptoRow.holds Try.pinned (OpenSpec.upto fnExactTravelOfSpec)

/-- 'laws.FnExactCompareBrakes', WHERE WHAT IT READS IS OF BULK AT MOST 1048576: true; the input reads as it did. -/
def fnExactCompareBrakesUptoRow : OpenClaim := { program := "ytfgokehoanlobaa", sum := "8de8fe8bee36ba648d5969d230dafdbaa8257871ce89a785dc654f7d87001f2e", func := "loop.example/g01050/laws.FnExactCompareBrakes", spec := "fnExactCompareBrakes", apart := false, narrowed := true }
def FnExactCompareBrakesUptoSaid : Prop := fnExactCompareBrakesUptoRow.holds Try.pinned (OpenSpec.upto fnExactCompareBrakesSpec)

/-- 'laws.FnExactStopsWithin', WHERE WHAT IT READS IS OF BULK AT MOST 1048576: true; the input reads as it did. -/
def fnExactStopsWithinUptoRow : OpenClaim := { program := "ytfgokehoanlobaa", sum := "8de8fe8bee36ba648d5969d230dafdbaa8257871ce89a785dc654f7d87001f2e", func := "loop.example/g01050/laws.FnExactStopsWithin", spec := "fnExactStopsWithin", apart := false, narrowed := true }
def FnExactStopsWithinUptoSaid : Prop := fnExactStopsWithinUptoRow.holds Try.pinned (OpenSpec.upto fnExactStopsWithinSpec)

/-- 'laws.FnExactGapFor', WHERE WHAT IT READS IS OF BULK AT MOST 1048576: true; the input reads as it did. -/
def fnExactGapForUptoRow : OpenClaim := { program := "ytfgokehoanlobaa", sum := "8de8fe8bee36ba648d5969d230dafdbaa8257871ce89a785dc654f7d87001f2e", func := "loop.example/g01050/laws.FnExactGapFor", spec := "fnExactGapFor", apart := false, narrowed := true }
def FnExactGapForUptoSaid : Prop := fnExactGapForUptoRow.holds Try.pinned (OpenSpec.upto fnExactGapForSpec)

/-- 'laws.FnGrips', WHERE WHAT IT READS IS OF BULK AT MOST 1048576: true; the input reads as it did. -/
def fnGripsUptoRow : OpenClaim := { program := "ytfgokehoanlobaa", sum := "8de8fe8bee36ba648d5969d230dafdbaa8257871ce89a785dc654f7d87001f2e", func := "loop.example/g01050/laws.FnGrips", spec := "fnGrips", apart := false, narrowed := true }
def FnGripsUptoSaid : Prop := fnGripsUptoRow.holds Try.pinned (OpenSpec.upto fnGripsSpec)

/-- 'laws.FnTravels', WHERE WHAT IT READS IS OF BULK AT MOST 1048576: true; the input reads as it did. -/
def fnTravelsUptoRow : OpenClaim := { program := "ytfgokehoanlobaa", sum := "8de8fe8bee36ba648d5969d230dafdbaa8257871ce89a785dc654f7d87001f2e", func := "loop.example/g01050/laws.FnTravels", spec := "fnTravels", apart := false, narrowed := true }
def FnTravelsUptoSaid : Prop := fnTravelsUptoRow.holds Try.pinned (OpenSpec.upto fnTravelsSpec)

end Rows
end Go.Proofs.Ytfgokehoanlobaa
