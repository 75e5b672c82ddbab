/-
  No cell of these rows narrows 'for every input' (looked for: loops, veiled, ifaces, maps, wideKeys, modest, calm, conditions, laid).
  DERIVED. THE GIVEN ROWS OF THIS SEAT. 4 by the template 'for every input the law returns true; each argument reads behind the call as it read before'; 0 by the template 'total and deterministic' (their statements: YtalfomdpkljpcaaTotals.lean).
  GIVEN WITH THE SEED: the statements are not yours to turn. If you find one false, say at which input.
  Laid BY PROGRAM, IN A SANDBOX (cutbox-rows.mjs): the forced cells as the released guide's own fill.sh prints them over the translation 34976980841faff3… (all of the seat's roots in one cut). By AI agents, Wed Nov 11 2026. No macro, syntax, notation, axiom, sorry.
-/
import Derived.Test.YtalfomdpkljpcaaChecked
import GoSem.Claim
import GoSem.ClaimJoined
import GoSem.ClaimMapViews
import Derived.JoinedTies
import Derived.KernelRfl
namespace Go.Proofs.Ytalfomdpkljpcaa
/- THE CELL 'sum', in the pinned program and in every row, IS THE sha256 OF THE DUMP (.gsa) THAT YtalfomdpkljpcaaProg.lean LOADS. Nothing in Lean hashes anything: it is a label: what it is worth is what the hold of that sum in a sandbox is worth. -/
noncomputable def Try.pinned : Pinned := { name := "ytalfomdpkljpcaa", sum := "34976980841faff37d7d0a77b7edb0dc5582571c99f283196d781a89ae473264", checked := Try.checked }
namespace Rows
def none {H : Type} : Left H := { results := [], args := [] }

/-- 'laws.FnExactMovesText': WHATEVER THE INPUT: true; the input reads as it did. -/
def fnExactMovesTextSpec : ChangeSpec := { name := "fnExactMovesText", fn := fun _ => fun
  | [d] => { results := [.lit (.bool true)], args := [d] }
  | _ => none }
def fnExactMovesTextRow : OpenClaim := { program := "ytalfomdpkljpcaa", sum := "34976980841faff37d7d0a77b7edb0dc5582571c99f283196d781a89ae473264", func := "loop.example/g01050/laws.FnExactMovesText", spec := "fnExactMovesText", apart := false }
def FnExactMovesTextSaid : Prop := fnExactMovesTextRow.holds Try.pinned (OpenSpec.ofChange fnExactMovesTextSpec)

/-- ITS FALSE NEIGHBOUR: 'it returns false'. Refute it at one input. -/
def fnExactMovesTextWrong : ChangeSpec := { name := "fnExactMovesText", fn := fun _ => fun
  | [d] => { results := [.lit (.bool false)], args := [d] }
  | _ => none }
def FnExactMovesTextWrongFalsely : Prop := fnExactMovesTextRow.holds Try.pinned (OpenSpec.ofChange fnExactMovesTextWrong)

/-- 'laws.FnExactReadMoves': WHATEVER THE INPUT: true; the input reads as it did. -/
def fnExactReadMovesSpec : ChangeSpec := { name := "fnExactReadMoves", fn := fun _ => fun
  | [d] => { results := [.lit (.bool true)], args := [d] }
  | _ => none }
def fnExactReadMovesRow : OpenClaim := { program := "ytalfomdpkljpcaa", sum := "34976980841faff37d7d0a77b7edb0dc5582571c99f283196d781a89ae473264", func := "loop.example/g01050/laws.FnExactReadMoves", spec := "fnExactReadMoves", apart := false }
def FnExactReadMovesSaid : Prop := fnExactReadMovesRow.holds Try.pinned (OpenSpec.ofChange fnExactReadMovesSpec)

/-- ITS FALSE NEIGHBOUR: 'it returns false'. Refute it at one input. -/
def fnExactReadMovesWrong : ChangeSpec := { name := "fnExactReadMoves", fn := fun _ => fun
  | [d] => { results := [.lit (.bool false)], args := [d] }
  | _ => none }
def FnExactReadMovesWrongFalsely : Prop := fnExactReadMovesRow.holds Try.pinned (OpenSpec.ofChange fnExactReadMovesWrong)

/-- 'laws.FnMoveTexts': WHATEVER THE INPUT: true; the input reads as it did. -/
def fnMoveTextsSpec : ChangeSpec := { name := "fnMoveTexts", fn := fun _ => fun
  | [d] => { results := [.lit (.bool true)], args := [d] }
  | _ => none }
def fnMoveTextsRow : OpenClaim := { program := "ytalfomdpkljpcaa", sum := "34976980841faff37d7d0a77b7edb0dc5582571c99f283196d781a89ae473264", func := "loop.example/g01050/laws.FnMoveTexts", spec := "fnMoveTexts", apart := false }
def FnMoveTextsSaid : Prop := fnMoveTextsRow.holds Try.pinned (OpenSpec.ofChange fnMoveTextsSpec)

/-- ITS FALSE NEIGHBOUR: 'it returns false'. Refute it at one input. -/
def fnMoveTextsWrong : ChangeSpec := { name := "fnMoveTexts", fn := fun _ => fun
  | [d] => { results := [.lit (.bool false)], args := [d] }
  | _ => none }
def FnMoveTextsWrongFalsely : Prop := fnMoveTextsRow.holds Try.pinned (OpenSpec.ofChange fnMoveTextsWrong)

/-- 'laws.FnLinks': WHATEVER THE INPUT: true; the input reads as it did. -/
def fnLinksSpec : ChangeSpec := { name := "fnLinks", fn := fun _ => fun
  | [d] => { results := [.lit (.bool true)], args := [d] }
  | _ => none }
def fnLinksRow : OpenClaim := { program := "ytalfomdpkljpcaa", sum := "34976980841faff37d7d0a77b7edb0dc5582571c99f283196d781a89ae473264", func := "loop.example/g01050/laws.FnLinks", spec := "fnLinks", apart := false }
def FnLinksSaid : Prop := fnLinksRow.holds Try.pinned (OpenSpec.ofChange fnLinksSpec)

/-- ITS FALSE NEIGHBOUR: 'it returns false'. Refute it at one input. -/
def fnLinksWrong : ChangeSpec := { name := "fnLinks", fn := fun _ => fun
  | [d] => { results := [.lit (.bool false)], args := [d] }
  | _ => none }
def FnLinksWrongFalsely : Prop := fnLinksRow.holds Try.pinned (OpenSpec.ofChange fnLinksWrong)

/- THE SECOND FORM. 'bulk': how many values and letters a reading holds, each counted each time it is reached (what is shared counts as often as it is met; a slice's spare places count too). A statement '..UptoSaid' is the law's where the arguments, and the package variables that the reading takes, are together of bulk at most 1048576: NARROWER than '..Said'. Prove '..Said' where nothing that the law and all that it calls make is longer than what came in: it says more and counts as full. Else prove '..UptoSaid'. A law counts once. -/
mutual
def uptoBulk {H : Type} : DataW H → Nat
  | .lit (.string bytes) => bytes.length + 1
  | .lit _ => 1
  | .nil => 1
  | .ptr d => uptoBulk d + 1
  | .slice elems spare => uptoBulkAll elems + uptoBulkAll spare + 1
  | .agg parts => uptoBulkAll parts + 1
  | .iface _ d => uptoBulk d + 1
  | .map entries => uptoBulkEntries entries + 1
  | .held _ => 1
def uptoBulkAll {H : Type} : List (DataW H) → Nat
  | [] => 0
  | d :: r => uptoBulk d + uptoBulkAll r
def uptoBulkEntries {H : Type} : List (Lit × DataW H) → Nat
  | [] => 0
  | x :: r => uptoBulkEntry x + uptoBulkEntries r
def uptoBulkEntry {H : Type} : Lit × DataW H → Nat
  | (.string bytes, d) => bytes.length + uptoBulk d + 1
  | (_, d) => uptoBulk d + 1
 end
def uptoSmall : (H : Type) → List (DataW H) → Bool := fun _ ds => decide (uptoBulkAll ds ≤ 1048576)
def OpenSpec.upto (s : _root_.Go.ChangeSpec) : _root_.Go.OpenSpec := { _root_.Go.OpenSpec.ofChange s with cond := some uptoSmall }

/-- 'laws.FnExactMovesText', WHERE WHAT IT READS IS OF BULK AT MOST 1048576: true; the input reads as it did. -/
def fnExactMovesTextUptoRow : OpenClaim := { program := "ytalfomdpkljpcaa", sum := "34976980841faff37d7d0a77b7edb0dc5582571c99f283196d781a89ae473264", func := "loop.example/g01050/laws.FnExactMovesText", spec := "fnExactMovesText", apart := false, narrowed := true }
def FnExactMovesTextUptoSaid : Prop := fnExactMovesTextUptoRow.holds Try.pinned (OpenSpec.upto fnExactMovesTextSpec)

/-- 'laws.FnExactReadMoves', WHERE WHAT IT READS IS OF BULK AT MOST 1048576: true; the input reads as it did. -/
def fnExactReadMovesUptoRow : OpenClaim := { program := "ytalfomdpkljpcaa", sum := "34976980841faff37d7d0a77b7edb0dc5582571c99f283196d781a89ae473264", func := "loop.example/g01050/laws.FnExactReadMoves", spec := "fnExactReadMoves", apart := false, narrowed := true }
def FnExactReadMovesUptoSaid : Prop := fnExactReadMovesUptoRow.holds Try.pinned (OpenSpec.upto fnExactReadMovesSpec)

/-- 'laws.FnMoveTexts', WHERE WHAT IT READS IS OF BULK AT MOST 1048576: true; the input reads as it did. -/
def fnMoveTextsUptoRow : OpenClaim := { program := "ytalfomdpkljpcaa", sum := "34976980841faff37d7d0a77b7edb0dc5582571c99f283196d781a89ae473264", func := "loop.example/g01050/laws.FnMoveTexts", spec := "fnMoveTexts", apart := false, narrowed := true }
def FnMoveTextsUptoSaid : Prop := fnMoveTextsUptoRow.holds Try.pinned (OpenSpec.upto fnMoveTextsSpec)

/-- 'laws.FnLinks', WHERE WHAT IT READS IS OF BULK AT MOST 1048576: true; the input reads as it did. -/
def fnLinksUptoRow : OpenClaim := { program := "ytalfomdpkljpcaa", sum := "34976980841faff37d7d0a77b7edb0dc5582571c99f283196d781a89ae473264", func := "loop.example/g01050/laws.FnLinks", spec := "fnLinks", apart := false, narrowed := true }
def FnLinksUptoSaid : Prop := fnLinksUptoRow.holds Try.pinned (OpenSpec.upto fnLinksSpec)

end Rows
end Go.Proofs.Ytalfomdpkljpcaa
