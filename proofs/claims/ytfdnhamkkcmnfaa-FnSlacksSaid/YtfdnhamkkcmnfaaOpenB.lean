/- An argument that is a slice of bytes, opened; the law's own bound on its length. -/
import Derived.Test.YtfdnhamkkcmnfaaDrwA
import Derived.Test.YtfdnhamkkcmnfaaIntsA
import Derived.ProofKit
set_option linter.unusedSimpArgs false
set_option linter.unusedVariables false
namespace Go.Proofs.Ytfdnhamkkcmnfaa
open Go.RowKit

section
variable {H : Type} {enc : TypeId × Value → H} {w : World}
theorem openB_cells {fuel : Nat} {v : Value} {x : DataW H × List MemPlace} (h : DataW.trod enc Try.prog w 0 (fun _ => true) true fuel 55 [v] = some x) :
    ∃ a n c, v = .slice a n c ∧ RdB w w.heap.size a n := by
  rcases Go.ChangeShapes.open_ints Try.underlying55 Try.underlying5 (by kernel_rfl) h with ⟨hcs, hx⟩ | ⟨a, len, cap, zs, hcs, _, hl, hm, hz, hx, hcell, hwz⟩
  · simp at hcs
    exact ⟨none, 0, 0, hcs, fun i hi => by omega⟩
  · simp at hcs
    simp only [if_true] at hz
    refine ⟨some a, len, cap, hcs, fun i hi => ?_⟩
    obtain ⟨b, off, rfl, hc⟩ := ints_at hcell (by omega)
    have hci := hc i (by omega)
    have hm : zs.getD i 0 ∈ zs := by
      have h1 : i < zs.length := by omega
      simp [List.getD_eq_getElem?_getD, List.getElem?_eq_getElem h1]
    have hw : (0 : Int) ≤ zs.getD i 0 ∧ zs.getD i 0 ≤ 255 := by
      have h1 := hwz _ hm
      simp only [Lit.wf, Bool.and_eq_true, decide_eq_true_eq] at h1
      exact h1
    refine ⟨b, off, rfl, ?_, zs.getD i 0, hci, hw.1, hw.2⟩
    rcases Nat.lt_or_ge b w.heap.size with h1 | h1
    · exact h1
    · rw [World.cell?, Array.getElem?_eq_none h1] at hci
      cases hci
theorem openB {v : Value} {d : DataW H} {p : List MemPlace} (h : DataW.Trod enc Try.prog w 0 (fun _ => true) true 55 v d p) (hv : ∃ a l c, v = .slice a l c) : ∃ a n c, v = .slice a n c ∧ RdB w w.heap.size a n := by
  obtain ⟨a, l, c, rfl⟩ := hv
  obtain ⟨fuel, hf⟩ := h
  exact openB_cells (by simpa [Value.cells] using hf)
end
set_option maxHeartbeats 800000 in
theorem big_any (a : Option Addr) (n c : Nat) (w : World) : Calls Try.prog 46 #[.slice a n c] w fun e w' => e = .returned (.bool (decide (4096 < n))) ∧ w = w' := by
  by_cases h : 4096 < n
  · have hi : (4096 : Int) < (n : Int) := by omega
    go_enter Try.func46, Try.ntmps46
    go_wp2
    go_ret
    exact ⟨ret_bool (by simp [h]), rfl⟩
  · have hi : ¬ (4096 : Int) < (n : Int) := by omega
    go_enter Try.func46, Try.ntmps46
    go_wp2
    go_ret
    exact ⟨ret_bool (by simp [h]), rfl⟩
end Go.Proofs.Ytfdnhamkkcmnfaa
