/-
  No cell of these rows narrows 'for every input' (looked for: loops, veiled, ifaces, maps, wideKeys, modest, calm, conditions, laid).
  DERIVED. THE GIVEN ROWS OF THIS SEAT. 11 by the template 'for every input the law returns true; each argument reads behind the call as it read before'; 0 by the template 'total and deterministic' (their statements: YthfpikpknojffaaTotals.lean).
  GIVEN WITH THE SEED: the statements are not yours to turn. If you find one false, say at which input.
  Laid BY PROGRAM, IN A SANDBOX (cutbox-rows.mjs): the forced cells as the released guide's own fill.sh prints them over the translation a41385c4fcf8435c… (all of the seat's roots in one cut). By AI agents, Wed Nov 11 2026. No macro, syntax, notation, axiom, sorry.
-/
import Derived.Test.YthfpikpknojffaaChecked
import GoSem.Claim
import GoSem.ClaimJoined
import GoSem.ClaimMapViews
import Derived.JoinedTies
import Derived.KernelRfl
namespace Go.Proofs.Ythfpikpknojffaa
/- THE CELL 'sum', in the pinned program and in every row, IS THE sha256 OF THE DUMP (.gsa) THAT YthfpikpknojffaaProg.lean LOADS. Nothing in Lean hashes anything: it is a label: what it is worth is what the hold of that sum in a sandbox is worth. -/
noncomputable def Try.pinned : Pinned := { name := "ythfpikpknojffaa", sum := "a41385c4fcf8435c8e4d39848f7fe304771fda00d136a2bc0a7d4699938ec14a", checked := Try.checked }
namespace Rows
def none {H : Type} : Left H := { results := [], args := [] }

/-- 'laws.FnExactAreRides': WHATEVER THE INPUT: true; the input reads as it did. -/
def fnExactAreRidesSpec : ChangeSpec := { name := "fnExactAreRides", fn := fun _ => fun
  | [d] => { results := [.lit (.bool true)], args := [d] }
  | _ => none }
def fnExactAreRidesRow : OpenClaim := { program := "ythfpikpknojffaa", sum := "a41385c4fcf8435c8e4d39848f7fe304771fda00d136a2bc0a7d4699938ec14a", func := "loop.example/g01050/laws.FnExactAreRides", spec := "fnExactAreRides", apart := false }
def FnExactAreRidesSaid : Prop := fnExactAreRidesRow.holds Try.pinned (OpenSpec.ofChange fnExactAreRidesSpec)

/-- ITS FALSE NEIGHBOUR: 'it returns false'. Refute it at one input. -/
def fnExactAreRidesWrong : ChangeSpec := { name := "fnExactAreRides", fn := fun _ => fun
  | [d] => { results := [.lit (.bool false)], args := [d] }
  | _ => none }
def FnExactAreRidesWrongFalsely : Prop := fnExactAreRidesRow.holds Try.pinned (OpenSpec.ofChange fnExactAreRidesWrong)

/-- 'laws.FnExactLongestRide': WHATEVER THE INPUT: true; the input reads as it did. -/
def fnExactLongestRideSpec : ChangeSpec := { name := "fnExactLongestRide", fn := fun _ => fun
  | [d] => { results := [.lit (.bool true)], args := [d] }
  | _ => none }
def fnExactLongestRideRow : OpenClaim := { program := "ythfpikpknojffaa", sum := "a41385c4fcf8435c8e4d39848f7fe304771fda00d136a2bc0a7d4699938ec14a", func := "loop.example/g01050/laws.FnExactLongestRide", spec := "fnExactLongestRide", apart := false }
def FnExactLongestRideSaid : Prop := fnExactLongestRideRow.holds Try.pinned (OpenSpec.ofChange fnExactLongestRideSpec)

/-- ITS FALSE NEIGHBOUR: 'it returns false'. Refute it at one input. -/
def fnExactLongestRideWrong : ChangeSpec := { name := "fnExactLongestRide", fn := fun _ => fun
  | [d] => { results := [.lit (.bool false)], args := [d] }
  | _ => none }
def FnExactLongestRideWrongFalsely : Prop := fnExactLongestRideRow.holds Try.pinned (OpenSpec.ofChange fnExactLongestRideWrong)

/-- 'laws.FnExactWetShare': WHATEVER THE INPUT: true; the input reads as it did. -/
def fnExactWetShareSpec : ChangeSpec := { name := "fnExactWetShare", fn := fun _ => fun
  | [d] => { results := [.lit (.bool true)], args := [d] }
  | _ => none }
def fnExactWetShareRow : OpenClaim := { program := "ythfpikpknojffaa", sum := "a41385c4fcf8435c8e4d39848f7fe304771fda00d136a2bc0a7d4699938ec14a", func := "loop.example/g01050/laws.FnExactWetShare", spec := "fnExactWetShare", apart := false }
def FnExactWetShareSaid : Prop := fnExactWetShareRow.holds Try.pinned (OpenSpec.ofChange fnExactWetShareSpec)

/-- ITS FALSE NEIGHBOUR: 'it returns false'. Refute it at one input. -/
def fnExactWetShareWrong : ChangeSpec := { name := "fnExactWetShare", fn := fun _ => fun
  | [d] => { results := [.lit (.bool false)], args := [d] }
  | _ => none }
def FnExactWetShareWrongFalsely : Prop := fnExactWetShareRow.holds Try.pinned (OpenSpec.ofChange fnExactWetShareWrong)

/-- 'laws.FnExactWearOf': WHATEVER THE INPUT: true; the input reads as it did. -/
def fnExactWearOfSpec : ChangeSpec := { name := "fnExactWearOf", fn := fun _ => fun
  | [d] => { results := [.lit (.bool true)], args := [d] }
  | _ => none }
def fnExactWearOfRow : OpenClaim := { program := "ythfpikpknojffaa", sum := "a41385c4fcf8435c8e4d39848f7fe304771fda00d136a2bc0a7d4699938ec14a", func := "loop.example/g01050/laws.FnExactWearOf", spec := "fnExactWearOf", apart := false }
def FnExactWearOfSaid : Prop := fnExactWearOfRow.holds Try.pinned (OpenSpec.ofChange fnExactWearOfSpec)

/-- ITS FALSE NEIGHBOUR: 'it returns false'. Refute it at one input. -/
def fnExactWearOfWrong : ChangeSpec := { name := "fnExactWearOf", fn := fun _ => fun
  | [d] => { results := [.lit (.bool false)], args := [d] }
  | _ => none }
def FnExactWearOfWrongFalsely : Prop := fnExactWearOfRow.holds Try.pinned (OpenSpec.ofChange fnExactWearOfWrong)

/-- 'laws.FnExactAddRide': WHATEVER THE INPUT: true; the input reads as it did. -/
def fnExactAddRideSpec : ChangeSpec := { name := "fnExactAddRide", fn := fun _ => fun
  | [d1, d2] => { results := [.lit (.bool true)], args := [d1, d2] }
  | _ => none }
def fnExactAddRideRow : OpenClaim := { program := "ythfpikpknojffaa", sum := "a41385c4fcf8435c8e4d39848f7fe304771fda00d136a2bc0a7d4699938ec14a", func := "loop.example/g01050/laws.FnExactAddRide", spec := "fnExactAddRide", apart := false }
def FnExactAddRideSaid : Prop := fnExactAddRideRow.holds Try.pinned (OpenSpec.ofChange fnExactAddRideSpec)

/-- ITS FALSE NEIGHBOUR: 'it returns false'. Refute it at one input. -/
def fnExactAddRideWrong : ChangeSpec := { name := "fnExactAddRide", fn := fun _ => fun
  | [d1, d2] => { results := [.lit (.bool false)], args := [d1, d2] }
  | _ => none }
def FnExactAddRideWrongFalsely : Prop := fnExactAddRideRow.holds Try.pinned (OpenSpec.ofChange fnExactAddRideWrong)

/-- 'laws.FnExactWornPercent': WHATEVER THE INPUT: true; the input reads as it did. -/
def fnExactWornPercentSpec : ChangeSpec := { name := "fnExactWornPercent", fn := fun _ => fun
  | [d1, d2] => { results := [.lit (.bool true)], args := [d1, d2] }
  | _ => none }
def fnExactWornPercentRow : OpenClaim := { program := "ythfpikpknojffaa", sum := "a41385c4fcf8435c8e4d39848f7fe304771fda00d136a2bc0a7d4699938ec14a", func := "loop.example/g01050/laws.FnExactWornPercent", spec := "fnExactWornPercent", apart := false }
def FnExactWornPercentSaid : Prop := fnExactWornPercentRow.holds Try.pinned (OpenSpec.ofChange fnExactWornPercentSpec)

/-- ITS FALSE NEIGHBOUR: 'it returns false'. Refute it at one input. -/
def fnExactWornPercentWrong : ChangeSpec := { name := "fnExactWornPercent", fn := fun _ => fun
  | [d1, d2] => { results := [.lit (.bool false)], args := [d1, d2] }
  | _ => none }
def FnExactWornPercentWrongFalsely : Prop := fnExactWornPercentRow.holds Try.pinned (OpenSpec.ofChange fnExactWornPercentWrong)

/-- 'laws.FnExactLifeFor': WHATEVER THE INPUT: true; the input reads as it did. -/
def fnExactLifeForSpec : ChangeSpec := { name := "fnExactLifeFor", fn := fun _ => fun
  | [d1, d2] => { results := [.lit (.bool true)], args := [d1, d2] }
  | _ => none }
def fnExactLifeForRow : OpenClaim := { program := "ythfpikpknojffaa", sum := "a41385c4fcf8435c8e4d39848f7fe304771fda00d136a2bc0a7d4699938ec14a", func := "loop.example/g01050/laws.FnExactLifeFor", spec := "fnExactLifeFor", apart := false }
def FnExactLifeForSaid : Prop := fnExactLifeForRow.holds Try.pinned (OpenSpec.ofChange fnExactLifeForSpec)

/-- ITS FALSE NEIGHBOUR: 'it returns false'. Refute it at one input. -/
def fnExactLifeForWrong : ChangeSpec := { name := "fnExactLifeFor", fn := fun _ => fun
  | [d1, d2] => { results := [.lit (.bool false)], args := [d1, d2] }
  | _ => none }
def FnExactLifeForWrongFalsely : Prop := fnExactLifeForRow.holds Try.pinned (OpenSpec.ofChange fnExactLifeForWrong)

/-- 'laws.FnExactChangedAfter': WHATEVER THE INPUT: true; the input reads as it did. -/
def fnExactChangedAfterSpec : ChangeSpec := { name := "fnExactChangedAfter", fn := fun _ => fun
  | [d1, d2] => { results := [.lit (.bool true)], args := [d1, d2] }
  | _ => none }
def fnExactChangedAfterRow : OpenClaim := { program := "ythfpikpknojffaa", sum := "a41385c4fcf8435c8e4d39848f7fe304771fda00d136a2bc0a7d4699938ec14a", func := "loop.example/g01050/laws.FnExactChangedAfter", spec := "fnExactChangedAfter", apart := false }
def FnExactChangedAfterSaid : Prop := fnExactChangedAfterRow.holds Try.pinned (OpenSpec.ofChange fnExactChangedAfterSpec)

/-- ITS FALSE NEIGHBOUR: 'it returns false'. Refute it at one input. -/
def fnExactChangedAfterWrong : ChangeSpec := { name := "fnExactChangedAfter", fn := fun _ => fun
  | [d1, d2] => { results := [.lit (.bool false)], args := [d1, d2] }
  | _ => none }
def FnExactChangedAfterWrongFalsely : Prop := fnExactChangedAfterRow.holds Try.pinned (OpenSpec.ofChange fnExactChangedAfterWrong)

/-- 'laws.FnExactDayForChange': WHATEVER THE INPUT: true; the input reads as it did. -/
def fnExactDayForChangeSpec : ChangeSpec := { name := "fnExactDayForChange", fn := fun _ => fun
  | [d1, d2] => { results := [.lit (.bool true)], args := [d1, d2] }
  | _ => none }
def fnExactDayForChangeRow : OpenClaim := { program := "ythfpikpknojffaa", sum := "a41385c4fcf8435c8e4d39848f7fe304771fda00d136a2bc0a7d4699938ec14a", func := "loop.example/g01050/laws.FnExactDayForChange", spec := "fnExactDayForChange", apart := false }
def FnExactDayForChangeSaid : Prop := fnExactDayForChangeRow.holds Try.pinned (OpenSpec.ofChange fnExactDayForChangeSpec)

/-- ITS FALSE NEIGHBOUR: 'it returns false'. Refute it at one input. -/
def fnExactDayForChangeWrong : ChangeSpec := { name := "fnExactDayForChange", fn := fun _ => fun
  | [d1, d2] => { results := [.lit (.bool false)], args := [d1, d2] }
  | _ => none }
def FnExactDayForChangeWrongFalsely : Prop := fnExactDayForChangeRow.holds Try.pinned (OpenSpec.ofChange fnExactDayForChangeWrong)

/-- 'laws.FnLives': WHATEVER THE INPUT: true; the input reads as it did. -/
def fnLivesSpec : ChangeSpec := { name := "fnLives", fn := fun _ => fun
  | [d] => { results := [.lit (.bool true)], args := [d] }
  | _ => none }
def fnLivesRow : OpenClaim := { program := "ythfpikpknojffaa", sum := "a41385c4fcf8435c8e4d39848f7fe304771fda00d136a2bc0a7d4699938ec14a", func := "loop.example/g01050/laws.FnLives", spec := "fnLives", apart := false }
def FnLivesSaid : Prop := fnLivesRow.holds Try.pinned (OpenSpec.ofChange fnLivesSpec)

/-- ITS FALSE NEIGHBOUR: 'it returns false'. Refute it at one input. -/
def fnLivesWrong : ChangeSpec := { name := "fnLives", fn := fun _ => fun
  | [d] => { results := [.lit (.bool false)], args := [d] }
  | _ => none }
def FnLivesWrongFalsely : Prop := fnLivesRow.holds Try.pinned (OpenSpec.ofChange fnLivesWrong)

/-- 'laws.FnRides': WHATEVER THE INPUT: true; the input reads as it did. -/
def fnRidesSpec : ChangeSpec := { name := "fnRides", fn := fun _ => fun
  | [d] => { results := [.lit (.bool true)], args := [d] }
  | _ => none }
def fnRidesRow : OpenClaim := { program := "ythfpikpknojffaa", sum := "a41385c4fcf8435c8e4d39848f7fe304771fda00d136a2bc0a7d4699938ec14a", func := "loop.example/g01050/laws.FnRides", spec := "fnRides", apart := false }
def FnRidesSaid : Prop := fnRidesRow.holds Try.pinned (OpenSpec.ofChange fnRidesSpec)

/-- ITS FALSE NEIGHBOUR: 'it returns false'. Refute it at one input. -/
def fnRidesWrong : ChangeSpec := { name := "fnRides", fn := fun _ => fun
  | [d] => { results := [.lit (.bool false)], args := [d] }
  | _ => none }
def FnRidesWrongFalsely : Prop := fnRidesRow.holds Try.pinned (OpenSpec.ofChange fnRidesWrong)

/- THE SECOND FORM. 'bulk': how many values and letters a reading holds, each counted each time it is reached (what is shared counts as often as it is met; a slice's spare places count too). A statement '..UptoSaid' is the law's where the arguments, and the package variables that the reading takes, are together of bulk at most 1048576: NARROWER than '..Said'. Prove '..Said' where nothing that the law and all that it calls make is longer than what came in: it says more and counts as full. Else prove '..UptoSaid'. A law counts once. -/
mutual
def uptoBulk {H : Type} : DataW H → Nat
  | .lit (.string bytes) => bytes.length + 1
  | .lit _ => 1
  | .nil => 1
  | .ptr d => uptoBulk d + 1
  | .slice elems spare => uptoBulkAll elems + uptoBulkAll spare + 1
  | .agg parts => uptoBulkAll parts + 1
  | .iface _ d => uptoBulk d + 1
  | .map entries => uptoBulkEntries entries + 1
  | .held _ => 1
def uptoBulkAll {H : Type} : List (DataW H) → Nat
  | [] => 0
  | d :: r => uptoBulk d + uptoBulkAll r
def uptoBulkEntries {H : Type} : List (Lit × DataW H) → Nat
  | [] => 0
  | x :: r => uptoBulkEntry x + uptoBulkEntries r
def uptoBulkEntry {H : Type} : Lit × DataW H → Nat
  | (.string bytes, d) => bytes.length + uptoBulk d + 1
  | (_, d) => uptoBulk d + 1
 end
def uptoSmall : (H : Type) → List (DataW H) → Bool := fun _ ds => decide (uptoBulkAll ds ≤ 1048576)
def OpenSpec.upto (s : _root_.Go.ChangeSpec) : _root_.Go.OpenSpec := { _root_.Go.OpenSpec.ofChange s with cond := some uptoSmall }

/-- 'laws.FnExactAreRides', WHERE WHAT IT READS IS OF BULK AT MOST 1048576: true; the input reads as it did. -/
def fnExactAreRidesUptoRow : OpenClaim := { program := "ythfpikpknojffaa", sum := "a41385c4fcf8435c8e4d39848f7fe304771fda00d136a2bc0a7d4699938ec14a", func := "loop.example/g01050/laws.FnExactAreRides", spec := "fnExactAreRides", apart := false, narrowed := true }
def FnExactAreRidesUptoSaid : Prop := fnExactAreRidesUptoRow.holds Try.pinned (OpenSpec.upto fnExactAreRidesSpec)

/-- 'laws.FnExactLongestRide', WHERE WHAT IT READS IS OF BULK AT MOST 1048576: true; the input reads as it did. -/
def fnExactLongestRideUptoRow : OpenClaim := { program := "ythfpikpknojffaa", sum := "a41385c4fcf8435c8e4d39848f7fe304771fda00d136a2bc0a7d4699938ec14a", func := "loop.example/g01050/laws.FnExactLongestRide", spec := "fnExactLongestRide", apart := false, narrowed := true }
def FnExactLongestRideUptoSaid : Prop := fnExactLongestRideUptoRow.holds Try.pinned (OpenSpec.upto fnExactLongestRideSpec)

/-- 'laws.FnExactWetShare', WHERE WHAT IT READS IS OF BULK AT MOST 1048576: true; the input reads as it did. -/
def fnExactWetShareUptoRow : OpenClaim := { program := "ythfpikpknojffaa", sum := "a41385c4fcf8435c8e4d39848f7fe304771fda00d136a2bc0a7d4699938ec14a", func := "loop.example/g01050/laws.FnExactWetShare", spec := "fnExactWetShare", apart := false, narrowed := true }
def FnExactWetShareUptoSaid : Prop := fnExactWetShareUptoRow.holds Try.pinned (OpenSpec.upto fnExactWetShareSpec)

/-- 'laws.FnExactWearOf', WHERE WHAT IT READS IS OF BULK AT MOST 1048576: true; the input reads as it did. -/
def fnExactWearOfUptoRow : OpenClaim := { program := "ythfpikpknojffaa", sum := "a41385c4fcf8435c8e4d39848f7fe304771fda00d136a2bc0a7d4699938ec14a", func := "loop.example/g01050/laws.FnExactWearOf", spec := "fnExactWearOf", apart := false, narrowed := true }
def FnExactWearOfUptoSaid : Prop := fnExactWearOfUptoRow.holds Try.pinned (OpenSpec.upto fnExactWearOfSpec)

/-- 'laws.FnExactAddRide', WHERE WHAT IT READS IS OF BULK AT MOST 1048576: true; the input reads as it did. -/
def fnExactAddRideUptoRow : OpenClaim := { program := "ythfpikpknojffaa", sum := "a41385c4fcf8435c8e4d39848f7fe304771fda00d136a2bc0a7d4699938ec14a", func := "loop.example/g01050/laws.FnExactAddRide", spec := "fnExactAddRide", apart := false, narrowed := true }
def FnExactAddRideUptoSaid : Prop := fnExactAddRideUptoRow.holds Try.pinned (OpenSpec.upto fnExactAddRideSpec)

/-- 'laws.FnExactWornPercent', WHERE WHAT IT READS IS OF BULK AT MOST 1048576: true; the input reads as it did. -/
def fnExactWornPercentUptoRow : OpenClaim := { program := "ythfpikpknojffaa", sum := "a41385c4fcf8435c8e4d39848f7fe304771fda00d136a2bc0a7d4699938ec14a", func := "loop.example/g01050/laws.FnExactWornPercent", spec := "fnExactWornPercent", apart := false, narrowed := true }
def FnExactWornPercentUptoSaid : Prop := fnExactWornPercentUptoRow.holds Try.pinned (OpenSpec.upto fnExactWornPercentSpec)

/-- 'laws.FnExactLifeFor', WHERE WHAT IT READS IS OF BULK AT MOST 1048576: true; the input reads as it did. -/
def fnExactLifeForUptoRow : OpenClaim := { program := "ythfpikpknojffaa", sum := "a41385c4fcf8435c8e4d39848f7fe304771fda00d136a2bc0a7d4699938ec14a", func := "loop.example/g01050/laws.FnExactLifeFor", spec := "fnExactLifeFor", apart := false, narrowed := true }
def FnExactLifeForUptoSaid : Prop := fnExactLifeForUptoRow.holds Try.pinned (OpenSpec.upto fnExactLifeForSpec)

/-- 'laws.FnExactChangedAfter', WHERE WHAT IT READS IS OF BULK AT MOST 1048576: true; the input reads as it did. -/
def fnExactChangedAfterUptoRow : OpenClaim := { program := "ythfpikpknojffaa", sum := "a41385c4fcf8435c8e4d39848f7fe304771fda00d136a2bc0a7d4699938ec14a", func := "loop.example/g01050/laws.FnExactChangedAfter", spec := "fnExactChangedAfter", apart := false, narrowed := true }
def FnExactChangedAfterUptoSaid : Prop := fnExactChangedAfterUptoRow.holds Try.pinned (OpenSpec.upto fnExactChangedAfterSpec)

/-- 'laws.FnExactDayForChange', WHERE WHAT IT READS IS OF BULK AT MOST 1048576: true; the input reads as it did. -/
def fnExactDayForChangeUptoRow : OpenClaim := { program := "ythfpikpknojffaa", sum := "a41385c4fcf8435c8e4d39848f7fe304771fda00d136a2bc0a7d4699938ec14a", func := "loop.example/g01050/laws.FnExactDayForChange", spec := "fnExactDayForChange", apart := false, narrowed := true }
def FnExactDayForChangeUptoSaid : Prop := fnExactDayForChangeUptoRow.holds Try.pinned (OpenSpec.upto fnExactDayForChangeSpec)

/-- 'laws.FnLives', WHERE WHAT IT READS IS OF BULK AT MOST 1048576: true; the input reads as it did. -/
def fnLivesUptoRow : OpenClaim := { program := "ythfpikpknojffaa", sum := "a41385c4fcf8435c8e4d39848f7fe304771fda00d136a2bc0a7d4699938ec14a", func := "loop.example/g01050/laws.FnLives", spec := "fnLives", apart := false, narrowed := true }
def FnLivesUptoSaid : Prop := fnLivesUptoRow.holds Try.pinned (OpenSpec.upto fnLivesSpec)

/-- 'laws.FnRides', WHERE WHAT IT READS IS OF BULK AT MOST 1048576: true; the input reads as it did. -/
def fnRidesUptoRow : OpenClaim := { program := "ythfpikpknojffaa", sum := "a41385c4fcf8435c8e4d39848f7fe304771fda00d136a2bc0a7d4699938ec14a", func := "loop.example/g01050/laws.FnRides", spec := "fnRides", apart := false, narrowed := true }
def FnRidesUptoSaid : Prop := fnRidesUptoRow.holds Try.pinned (OpenSpec.upto fnRidesSpec)

end Rows
end Go.Proofs.Ythfpikpknojffaa
