/- Laws for a source of draws beside a row of the call's own. -/
import Derived.Test.YtfdnhamkkcmnfaaDrwC
set_option linter.unusedSimpArgs false
set_option linter.unusedVariables false
namespace Go.Proofs.Ytfdnhamkkcmnfaa
open Go.RowKit

theorem Src.far {w w' : World} {g : Nat} {a : Option Addr} {n c : Nat} {row : Option Nat} (h : Src w g a n c) (hg : w.grownBy w' row) (hr : ∀ q, row = some q → g < q) : Src w' g a n c := by
  have hl := h.lt
  obtain ⟨p, sd, h1, h2, h3, h4, h5, h6⟩ := h
  have hb : ∀ q, q ≤ g → w'.heap[q]? = w.heap[q]? := fun q hq => hg.block q (by omega) (fun e => by have := hr q e.symm; omega)
  refine ⟨p, sd, (hb g (Nat.le_refl _)).trans h1, h2, h3, h4, h5, h6.keep (Nat.le_refl _) (fun q hq => ?_)⟩
  unfold World.cell?
  rw [hb q.block (by omega)]
theorem drw_far {a w w' : World} {g : Nat} {row : Option Nat} (h : a.grownBy w (some g)) (hg : w.grownBy w' row) (hr : ∀ q, row = some q → a.heap.size ≤ q) : a.grownBy w' (some g) :=
  ⟨hg.os.trans h.os, hg.tape.trans h.tape, hg.output.trans h.output, Nat.le_trans h.size hg.size, fun i hi hne => (hg.block i (Nat.lt_of_lt_of_le hi h.size) (fun e => by have := hr i e.symm; omega)).trans (h.block i hi hne)⟩
def lenV : Value → Nat
  | .slice _ n _ => n
  | _ => 0
end Go.Proofs.Ytfdnhamkkcmnfaa
