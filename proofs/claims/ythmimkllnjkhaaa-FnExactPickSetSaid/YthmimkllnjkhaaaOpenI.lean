/- An argument that is a slice of int64, opened: it reads as a list. -/
import Derived.Test.YthmimkllnjkhaaaIntsA
import Derived.ProofKit
set_option linter.unusedSimpArgs false
set_option linter.unusedVariables false
namespace Go.Proofs.Ythmimkllnjkhaaa
open Go.RowKit

section
variable {H : Type} {enc : TypeId × Value → H} {w : World}
theorem openI_cells {fuel : Nat} {v : Value} {x : DataW H × List MemPlace} (h : DataW.trod enc Try.prog w 0 (fun _ => true) true fuel 28 [v] = some x) :
    ∃ xs, RdI w v xs ∧ ∀ n ∈ xs, (Lit.int .i64 n).wf = true := by
  rcases Go.ChangeShapes.open_ints Try.underlying28 Try.underlying2 (by kernel_rfl) h with ⟨hcs, hx⟩ | ⟨a, len, cap, zs, hcs, _, hl, hm, hz, hx, hcell, hwz⟩
  · simp at hcs
    subst hcs
    exact ⟨[], RdI.nil _, fun n hn => by simp at hn⟩
  · simp at hcs
    subst hcs
    simp only [if_true] at hz
    have hln : (zs.take len).length = len := by rw [List.length_take]; omega
    refine ⟨zs.take len, ⟨some a, cap, by rw [hln], fun i hi => ?_⟩, fun n hn => hwz n (List.mem_of_mem_take hn)⟩
    rw [hln] at hi
    obtain ⟨b, off, rfl, hc⟩ := ints_at hcell (by omega)
    refine ⟨b, off, rfl, ?_⟩
    rw [hc i (by omega)]
    simp [List.getD_eq_getElem?_getD, List.getElem?_take, hi]
theorem openI {v : Value} {d : DataW H} {p : List MemPlace} (h : DataW.Trod enc Try.prog w 0 (fun _ => true) true 28 v d p) (hv : ∃ a l c, v = .slice a l c) : ∃ xs, RdI w v xs ∧ ∀ n ∈ xs, (Lit.int .i64 n).wf = true := by
  obtain ⟨a, l, c, rfl⟩ := hv
  obtain ⟨fuel, hf⟩ := h
  exact openI_cells (by simpa [Value.cells] using hf)
end

end Go.Proofs.Ythmimkllnjkhaaa
