/- A part of an argument that is a slice of int64, opened: it reads as a list, of a length that is borne. -/
import Derived.Test.YtfdnhamkkcmnfaaIntsA
import Derived.ProofKit
set_option linter.unusedSimpArgs false
set_option linter.unusedVariables false
namespace Go.Proofs.Ytfdnhamkkcmnfaa
open Go.RowKit

section
variable {H : Type} {enc : TypeId × Value → H} {w : World}
theorem openI_len {fuel : Nat} {v : Value} {x : DataW H × List MemPlace} (h : DataW.trod enc Try.prog w 0 (fun _ => true) true fuel 22 [v] = some x) :
    ∃ xs, RdI w v xs ∧ xs.length ≤ maxLen := by
  rcases Go.ChangeShapes.open_ints Try.underlying22 Try.underlying2 (by kernel_rfl) h with ⟨hcs, hx⟩ | ⟨a, len, cap, zs, hcs, _, hl, hm, hz, hx, hcell, hwz⟩
  · simp at hcs
    subst hcs
    exact ⟨[], RdI.nil _, by simp⟩
  · simp at hcs
    subst hcs
    simp only [if_true] at hz
    have hln : (zs.take len).length = len := by rw [List.length_take]; omega
    refine ⟨zs.take len, ⟨some a, cap, by rw [hln], fun i hi => ?_⟩, by rw [hln]; omega⟩
    rw [hln] at hi
    obtain ⟨b, off, rfl, hc⟩ := ints_at hcell (by omega)
    refine ⟨b, off, rfl, ?_⟩
    rw [hc i (by omega)]
    simp [List.getD_eq_getElem?_getD, List.getElem?_take, hi]
end

end Go.Proofs.Ytfdnhamkkcmnfaa
