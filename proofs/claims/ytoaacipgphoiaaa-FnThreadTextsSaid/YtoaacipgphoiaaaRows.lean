/-
  No cell of these rows narrows 'for every input' (looked for: loops, veiled, ifaces, maps, wideKeys, modest, calm, conditions, laid).
  DERIVED. THE GIVEN ROWS OF THIS SEAT. 10 by the template 'for every input the law returns true; each argument reads behind the call as it read before'; 0 by the template 'total and deterministic' (their statements: YtoaacipgphoiaaaTotals.lean).
  GIVEN WITH THE SEED: the statements are not yours to turn. If you find one false, say at which input.
  Laid BY PROGRAM, IN A SANDBOX (cutbox-rows.mjs): the forced cells as the released guide's own fill.sh prints them over the translation 6812584b281e192e… (all of the seat's roots in one cut). By AI agents, Wed Nov 11 2026. No macro, syntax, notation, axiom, sorry.
-/
import Derived.Test.YtoaacipgphoiaaaChecked
import GoSem.Claim
import GoSem.ClaimJoined
import GoSem.ClaimMapViews
import Derived.JoinedTies
import Derived.KernelRfl
namespace Go.Proofs.Ytoaacipgphoiaaa
/- THE CELL 'sum', in the pinned program and in every row, IS THE sha256 OF THE DUMP (.gsa) THAT YtoaacipgphoiaaaProg.lean LOADS. Nothing in Lean hashes anything: it is a label: what it is worth is what the hold of that sum in a sandbox is worth. -/
noncomputable def Try.pinned : Pinned := { name := "ytoaacipgphoiaaa", sum := "6812584b281e192ea54bf534847e44948f6b3013b92d73bbcdd0dd87671b2ed3", checked := Try.checked }
namespace Rows
def none {H : Type} : Left H := { results := [], args := [] }

/-- 'laws.FnExactIsThread': WHATEVER THE INPUT: true; the input reads as it did. -/
def fnExactIsThreadSpec : ChangeSpec := { name := "fnExactIsThread", fn := fun _ => fun
  | [d] => { results := [.lit (.bool true)], args := [d] }
  | _ => none }
def fnExactIsThreadRow : OpenClaim := { program := "ytoaacipgphoiaaa", sum := "6812584b281e192ea54bf534847e44948f6b3013b92d73bbcdd0dd87671b2ed3", func := "loop.example/g01050/laws.FnExactIsThread", spec := "fnExactIsThread", apart := false }
def FnExactIsThreadSaid : Prop := fnExactIsThreadRow.holds Try.pinned (OpenSpec.ofChange fnExactIsThreadSpec)

/-- ITS FALSE NEIGHBOUR: 'it returns false'. Refute it at one input. -/
def fnExactIsThreadWrong : ChangeSpec := { name := "fnExactIsThread", fn := fun _ => fun
  | [d] => { results := [.lit (.bool false)], args := [d] }
  | _ => none }
def FnExactIsThreadWrongFalsely : Prop := fnExactIsThreadRow.holds Try.pinned (OpenSpec.ofChange fnExactIsThreadWrong)

/-- 'laws.FnExactDoFit': WHATEVER THE INPUT: true; the input reads as it did. -/
def fnExactDoFitSpec : ChangeSpec := { name := "fnExactDoFit", fn := fun _ => fun
  | [d1, d2] => { results := [.lit (.bool true)], args := [d1, d2] }
  | _ => none }
def fnExactDoFitRow : OpenClaim := { program := "ytoaacipgphoiaaa", sum := "6812584b281e192ea54bf534847e44948f6b3013b92d73bbcdd0dd87671b2ed3", func := "loop.example/g01050/laws.FnExactDoFit", spec := "fnExactDoFit", apart := false }
def FnExactDoFitSaid : Prop := fnExactDoFitRow.holds Try.pinned (OpenSpec.ofChange fnExactDoFitSpec)

/-- ITS FALSE NEIGHBOUR: 'it returns false'. Refute it at one input. -/
def fnExactDoFitWrong : ChangeSpec := { name := "fnExactDoFit", fn := fun _ => fun
  | [d1, d2] => { results := [.lit (.bool false)], args := [d1, d2] }
  | _ => none }
def FnExactDoFitWrongFalsely : Prop := fnExactDoFitRow.holds Try.pinned (OpenSpec.ofChange fnExactDoFitWrong)

/-- 'laws.FnExactQuarterTurns': WHATEVER THE INPUT: true; the input reads as it did. -/
def fnExactQuarterTurnsSpec : ChangeSpec := { name := "fnExactQuarterTurns", fn := fun _ => fun
  | [d1, d2] => { results := [.lit (.bool true)], args := [d1, d2] }
  | _ => none }
def fnExactQuarterTurnsRow : OpenClaim := { program := "ytoaacipgphoiaaa", sum := "6812584b281e192ea54bf534847e44948f6b3013b92d73bbcdd0dd87671b2ed3", func := "loop.example/g01050/laws.FnExactQuarterTurns", spec := "fnExactQuarterTurns", apart := false }
def FnExactQuarterTurnsSaid : Prop := fnExactQuarterTurnsRow.holds Try.pinned (OpenSpec.ofChange fnExactQuarterTurnsSpec)

/-- ITS FALSE NEIGHBOUR: 'it returns false'. Refute it at one input. -/
def fnExactQuarterTurnsWrong : ChangeSpec := { name := "fnExactQuarterTurns", fn := fun _ => fun
  | [d1, d2] => { results := [.lit (.bool false)], args := [d1, d2] }
  | _ => none }
def FnExactQuarterTurnsWrongFalsely : Prop := fnExactQuarterTurnsRow.holds Try.pinned (OpenSpec.ofChange fnExactQuarterTurnsWrong)

/-- 'laws.FnExactPartnerOf': WHATEVER THE INPUT: true; the input reads as it did. -/
def fnExactPartnerOfSpec : ChangeSpec := { name := "fnExactPartnerOf", fn := fun _ => fun
  | [d] => { results := [.lit (.bool true)], args := [d] }
  | _ => none }
def fnExactPartnerOfRow : OpenClaim := { program := "ytoaacipgphoiaaa", sum := "6812584b281e192ea54bf534847e44948f6b3013b92d73bbcdd0dd87671b2ed3", func := "loop.example/g01050/laws.FnExactPartnerOf", spec := "fnExactPartnerOf", apart := false }
def FnExactPartnerOfSaid : Prop := fnExactPartnerOfRow.holds Try.pinned (OpenSpec.ofChange fnExactPartnerOfSpec)

/-- ITS FALSE NEIGHBOUR: 'it returns false'. Refute it at one input. -/
def fnExactPartnerOfWrong : ChangeSpec := { name := "fnExactPartnerOf", fn := fun _ => fun
  | [d] => { results := [.lit (.bool false)], args := [d] }
  | _ => none }
def FnExactPartnerOfWrongFalsely : Prop := fnExactPartnerOfRow.holds Try.pinned (OpenSpec.ofChange fnExactPartnerOfWrong)

/-- 'laws.FnExactFirstReason': WHATEVER THE INPUT: true; the input reads as it did. -/
def fnExactFirstReasonSpec : ChangeSpec := { name := "fnExactFirstReason", fn := fun _ => fun
  | [d1, d2] => { results := [.lit (.bool true)], args := [d1, d2] }
  | _ => none }
def fnExactFirstReasonRow : OpenClaim := { program := "ytoaacipgphoiaaa", sum := "6812584b281e192ea54bf534847e44948f6b3013b92d73bbcdd0dd87671b2ed3", func := "loop.example/g01050/laws.FnExactFirstReason", spec := "fnExactFirstReason", apart := false }
def FnExactFirstReasonSaid : Prop := fnExactFirstReasonRow.holds Try.pinned (OpenSpec.ofChange fnExactFirstReasonSpec)

/-- ITS FALSE NEIGHBOUR: 'it returns false'. Refute it at one input. -/
def fnExactFirstReasonWrong : ChangeSpec := { name := "fnExactFirstReason", fn := fun _ => fun
  | [d1, d2] => { results := [.lit (.bool false)], args := [d1, d2] }
  | _ => none }
def FnExactFirstReasonWrongFalsely : Prop := fnExactFirstReasonRow.holds Try.pinned (OpenSpec.ofChange fnExactFirstReasonWrong)

/-- 'laws.FnExactThreadText': WHATEVER THE INPUT: true; the input reads as it did. -/
def fnExactThreadTextSpec : ChangeSpec := { name := "fnExactThreadText", fn := fun _ => fun
  | [d] => { results := [.lit (.bool true)], args := [d] }
  | _ => none }
def fnExactThreadTextRow : OpenClaim := { program := "ytoaacipgphoiaaa", sum := "6812584b281e192ea54bf534847e44948f6b3013b92d73bbcdd0dd87671b2ed3", func := "loop.example/g01050/laws.FnExactThreadText", spec := "fnExactThreadText", recurses := true, apart := false }
def FnExactThreadTextSaid : Prop := fnExactThreadTextRow.holds Try.pinned (OpenSpec.ofChange fnExactThreadTextSpec)

/-- ITS FALSE NEIGHBOUR: 'it returns false'. Refute it at one input. -/
def fnExactThreadTextWrong : ChangeSpec := { name := "fnExactThreadText", fn := fun _ => fun
  | [d] => { results := [.lit (.bool false)], args := [d] }
  | _ => none }
def FnExactThreadTextWrongFalsely : Prop := fnExactThreadTextRow.holds Try.pinned (OpenSpec.ofChange fnExactThreadTextWrong)

/-- 'laws.FnExactNearestThread': WHATEVER THE INPUT: true; the input reads as it did. -/
def fnExactNearestThreadSpec : ChangeSpec := { name := "fnExactNearestThread", fn := fun _ => fun
  | [d1, d2, d3] => { results := [.lit (.bool true)], args := [d1, d2, d3] }
  | _ => none }
def fnExactNearestThreadRow : OpenClaim := { program := "ytoaacipgphoiaaa", sum := "6812584b281e192ea54bf534847e44948f6b3013b92d73bbcdd0dd87671b2ed3", func := "loop.example/g01050/laws.FnExactNearestThread", spec := "fnExactNearestThread", apart := false }
def FnExactNearestThreadSaid : Prop := fnExactNearestThreadRow.holds Try.pinned (OpenSpec.ofChange fnExactNearestThreadSpec)

/-- ITS FALSE NEIGHBOUR: 'it returns false'. Refute it at one input. -/
def fnExactNearestThreadWrong : ChangeSpec := { name := "fnExactNearestThread", fn := fun _ => fun
  | [d1, d2, d3] => { results := [.lit (.bool false)], args := [d1, d2, d3] }
  | _ => none }
def FnExactNearestThreadWrongFalsely : Prop := fnExactNearestThreadRow.holds Try.pinned (OpenSpec.ofChange fnExactNearestThreadWrong)

/-- 'laws.FnExactReadThread': WHATEVER THE INPUT: true; the input reads as it did. -/
def fnExactReadThreadSpec : ChangeSpec := { name := "fnExactReadThread", fn := fun _ => fun
  | [d] => { results := [.lit (.bool true)], args := [d] }
  | _ => none }
def fnExactReadThreadRow : OpenClaim := { program := "ytoaacipgphoiaaa", sum := "6812584b281e192ea54bf534847e44948f6b3013b92d73bbcdd0dd87671b2ed3", func := "loop.example/g01050/laws.FnExactReadThread", spec := "fnExactReadThread", recurses := true, apart := false }
def FnExactReadThreadSaid : Prop := fnExactReadThreadRow.holds Try.pinned (OpenSpec.ofChange fnExactReadThreadSpec)

/-- ITS FALSE NEIGHBOUR: 'it returns false'. Refute it at one input. -/
def fnExactReadThreadWrong : ChangeSpec := { name := "fnExactReadThread", fn := fun _ => fun
  | [d] => { results := [.lit (.bool false)], args := [d] }
  | _ => none }
def FnExactReadThreadWrongFalsely : Prop := fnExactReadThreadRow.holds Try.pinned (OpenSpec.ofChange fnExactReadThreadWrong)

/-- 'laws.FnThreads': WHATEVER THE INPUT: true; the input reads as it did. -/
def fnThreadsSpec : ChangeSpec := { name := "fnThreads", fn := fun _ => fun
  | [d] => { results := [.lit (.bool true)], args := [d] }
  | _ => none }
def fnThreadsRow : OpenClaim := { program := "ytoaacipgphoiaaa", sum := "6812584b281e192ea54bf534847e44948f6b3013b92d73bbcdd0dd87671b2ed3", func := "loop.example/g01050/laws.FnThreads", spec := "fnThreads", apart := false }
def FnThreadsSaid : Prop := fnThreadsRow.holds Try.pinned (OpenSpec.ofChange fnThreadsSpec)

/-- ITS FALSE NEIGHBOUR: 'it returns false'. Refute it at one input. -/
def fnThreadsWrong : ChangeSpec := { name := "fnThreads", fn := fun _ => fun
  | [d] => { results := [.lit (.bool false)], args := [d] }
  | _ => none }
def FnThreadsWrongFalsely : Prop := fnThreadsRow.holds Try.pinned (OpenSpec.ofChange fnThreadsWrong)

/-- 'laws.FnThreadTexts': WHATEVER THE INPUT: true; the input reads as it did. -/
def fnThreadTextsSpec : ChangeSpec := { name := "fnThreadTexts", fn := fun _ => fun
  | [d] => { results := [.lit (.bool true)], args := [d] }
  | _ => none }
def fnThreadTextsRow : OpenClaim := { program := "ytoaacipgphoiaaa", sum := "6812584b281e192ea54bf534847e44948f6b3013b92d73bbcdd0dd87671b2ed3", func := "loop.example/g01050/laws.FnThreadTexts", spec := "fnThreadTexts", recurses := true, apart := false }
def FnThreadTextsSaid : Prop := fnThreadTextsRow.holds Try.pinned (OpenSpec.ofChange fnThreadTextsSpec)

/-- ITS FALSE NEIGHBOUR: 'it returns false'. Refute it at one input. -/
def fnThreadTextsWrong : ChangeSpec := { name := "fnThreadTexts", fn := fun _ => fun
  | [d] => { results := [.lit (.bool false)], args := [d] }
  | _ => none }
def FnThreadTextsWrongFalsely : Prop := fnThreadTextsRow.holds Try.pinned (OpenSpec.ofChange fnThreadTextsWrong)

/- THE SECOND FORM. 'bulk': how many values and letters a reading holds, each counted each time it is reached (what is shared counts as often as it is met; a slice's spare places count too). A statement '..UptoSaid' is the law's where the arguments, and the package variables that the reading takes, are together of bulk at most 1048576: NARROWER than '..Said'. Prove '..Said' where nothing that the law and all that it calls make is longer than what came in: it says more and counts as full. Else prove '..UptoSaid'. A law counts once. -/
mutual
def uptoBulk {H : Type} : DataW H → Nat
  | .lit (.string bytes) => bytes.length + 1
  | .lit _ => 1
  | .nil => 1
  | .ptr d => uptoBulk d + 1
  | .slice elems spare => uptoBulkAll elems + uptoBulkAll spare + 1
  | .agg parts => uptoBulkAll parts + 1
  | .iface _ d => uptoBulk d + 1
  | .map entries => uptoBulkEntries entries + 1
  | .held _ => 1
def uptoBulkAll {H : Type} : List (DataW H) → Nat
  | [] => 0
  | d :: r => uptoBulk d + uptoBulkAll r
def uptoBulkEntries {H : Type} : List (Lit × DataW H) → Nat
  | [] => 0
  | x :: r => uptoBulkEntry x + uptoBulkEntries r
def uptoBulkEntry {H : Type} : Lit × DataW H → Nat
  | (.string bytes, d) => bytes.length + uptoBulk d + 1
  | (_, d) => uptoBulk d + 1
 end
def uptoSmall : (H : Type) → List (DataW H) → Bool := fun _ ds => decide (uptoBulkAll ds ≤ 1048576)
def OpenSpec.upto (s : _root_.Go.ChangeSpec) : _root_.Go.OpenSpec := { _root_.Go.OpenSpec.ofChange s with cond := some uptoSmall }

/-- 'laws.FnExactIsThread', WHERE WHAT IT READS IS OF BULK AT MOST 1048576: true; the input reads as it did. -/
def fnExactIsThreadUptoRow : OpenClaim := { program := "ytoaacipgphoiaaa", sum := "6812584b281e192ea54bf534847e44948f6b3013b92d73bbcdd0dd87671b2ed3", func := "loop.example/g01050/laws.FnExactIsThread", spec := "fnExactIsThread", apart := false, narrowed := true }
def FnExactIsThreadUptoSaid : Prop := fnExactIsThreadUptoRow.holds Try.pinned (OpenSpec.upto fnExactIsThreadSpec)

/-- 'laws.FnExactDoFit', WHERE WHAT IT READS IS OF BULK AT MOST 1048576: true; the input reads as it did. -/
def fnExactDoFitUptoRow : OpenClaim := { program := "ytoaacipgphoiaaa", sum := "6812584b281e192ea54bf534847e44948f6b3013b92d73bbcdd0dd87671b2ed3", func := "loop.example/g01050/laws.FnExactDoFit", spec := "fnExactDoFit", apart := false, narrowed := true }
def FnExactDoFitUptoSaid : Prop := fnExactDoFitUptoRow.holds Try.pinned (OpenSpec.upto fnExactDoFitSpec)

/-- 'laws.FnExactQuarterTurns', WHERE WHAT IT READS IS OF BULK AT MOST 1048576: true; the input reads as it did. -/
def fnExactQuarterTurnsUptoRow : OpenClaim := { program := "ytoaacipgphoiaaa", sum := "6812584b281e192ea54bf534847e44948f6b3013b92d73bbcdd0dd87671b2ed3", func := "loop.example/g01050/laws.FnExactQuarterTurns", spec := "fnExactQuarterTurns", apart := false, narrowed := true }
def FnExactQuarterTurnsUptoSaid : Prop := fnExactQuarterTurnsUptoRow.holds Try.pinned (OpenSpec.upto fnExactQuarterTurnsSpec)

/-- 'laws.FnExactPartnerOf', WHERE WHAT IT READS IS OF BULK AT MOST 1048576: true; the input reads as it did. -/
def fnExactPartnerOfUptoRow : OpenClaim := { program := "ytoaacipgphoiaaa", sum := "6812584b281e192ea54bf534847e44948f6b3013b92d73bbcdd0dd87671b2ed3", func := "loop.example/g01050/laws.FnExactPartnerOf", spec := "fnExactPartnerOf", apart := false, narrowed := true }
def FnExactPartnerOfUptoSaid : Prop := fnExactPartnerOfUptoRow.holds Try.pinned (OpenSpec.upto fnExactPartnerOfSpec)

/-- 'laws.FnExactFirstReason', WHERE WHAT IT READS IS OF BULK AT MOST 1048576: true; the input reads as it did. -/
def fnExactFirstReasonUptoRow : OpenClaim := { program := "ytoaacipgphoiaaa", sum := "6812584b281e192ea54bf534847e44948f6b3013b92d73bbcdd0dd87671b2ed3", func := "loop.example/g01050/laws.FnExactFirstReason", spec := "fnExactFirstReason", apart := false, narrowed := true }
def FnExactFirstReasonUptoSaid : Prop := fnExactFirstReasonUptoRow.holds Try.pinned (OpenSpec.upto fnExactFirstReasonSpec)

/-- 'laws.FnExactThreadText', WHERE WHAT IT READS IS OF BULK AT MOST 1048576: true; the input reads as it did. -/
def fnExactThreadTextUptoRow : OpenClaim := { program := "ytoaacipgphoiaaa", sum := "6812584b281e192ea54bf534847e44948f6b3013b92d73bbcdd0dd87671b2ed3", func := "loop.example/g01050/laws.FnExactThreadText", spec := "fnExactThreadText", recurses := true, apart := false, narrowed := true }
def FnExactThreadTextUptoSaid : Prop := fnExactThreadTextUptoRow.holds Try.pinned (OpenSpec.upto fnExactThreadTextSpec)

/-- 'laws.FnExactNearestThread', WHERE WHAT IT READS IS OF BULK AT MOST 1048576: true; the input reads as it did. -/
def fnExactNearestThreadUptoRow : OpenClaim := { program := "ytoaacipgphoiaaa", sum := "6812584b281e192ea54bf534847e44948f6b3013b92d73bbcdd0dd87671b2ed3", func := "loop.example/g01050/laws.FnExactNearestThread", spec := "fnExactNearestThread", apart := false, narrowed := true }
def FnExactNearestThreadUptoSaid : Prop := fnExactNearestThreadUptoRow.holds Try.pinned (OpenSpec.upto fnExactNearestThreadSpec)

/-- 'laws.FnExactReadThread', WHERE WHAT IT READS IS OF BULK AT MOST 1048576: true; the input reads as it did. -/
def fnExactReadThreadUptoRow : OpenClaim := { program := "ytoaacipgphoiaaa", sum := "6812584b281e192ea54bf534847e44948f6b3013b92d73bbcdd0dd87671b2ed3", func := "loop.example/g01050/laws.FnExactReadThread", spec := "fnExactReadThread", recurses := true, apart := false, narrowed := true }
def FnExactReadThreadUptoSaid : Prop := fnExactReadThreadUptoRow.holds Try.pinned (OpenSpec.upto fnExactReadThreadSpec)

/-- 'laws.FnThreads', WHERE WHAT IT READS IS OF BULK AT MOST 1048576: true; the input reads as it did. -/
def fnThreadsUptoRow : OpenClaim := { program := "ytoaacipgphoiaaa", sum := "6812584b281e192ea54bf534847e44948f6b3013b92d73bbcdd0dd87671b2ed3", func := "loop.example/g01050/laws.FnThreads", spec := "fnThreads", apart := false, narrowed := true }
def FnThreadsUptoSaid : Prop := fnThreadsUptoRow.holds Try.pinned (OpenSpec.upto fnThreadsSpec)

/-- 'laws.FnThreadTexts', WHERE WHAT IT READS IS OF BULK AT MOST 1048576: true; the input reads as it did. -/
def fnThreadTextsUptoRow : OpenClaim := { program := "ytoaacipgphoiaaa", sum := "6812584b281e192ea54bf534847e44948f6b3013b92d73bbcdd0dd87671b2ed3", func := "loop.example/g01050/laws.FnThreadTexts", spec := "fnThreadTexts", recurses := true, apart := false, narrowed := true }
def FnThreadTextsUptoSaid : Prop := fnThreadTextsUptoRow.holds Try.pinned (OpenSpec.upto fnThreadTextsSpec)

end Rows
end Go.Proofs.Ytoaacipgphoiaaa
