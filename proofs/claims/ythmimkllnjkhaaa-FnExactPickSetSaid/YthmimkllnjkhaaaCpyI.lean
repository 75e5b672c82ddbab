/- Contract of the program's copyList. -/
import Derived.Test.YthmimkllnjkhaaaIntsC
set_option linter.unusedSimpArgs false
set_option linter.unusedVariables false
namespace Go.Proofs.Ythmimkllnjkhaaa
open Go.RowKit

set_option maxHeartbeats 800000 in
theorem copyList_any (u : Value) (xs : List Int) (w : World) (hr : RdI w u xs) (hn : xs.length ≤ 1048576) :
    Calls Try.prog 43 #[u] w fun e w' => ∃ v, e = .returned v ∧ OwI w' w.heap.size v xs ∧ Below w.heap.size w w' := by
  have HR := Lib.hid (hr.below ((Below.refl _ _).alloc (Nat.le_refl _) (.cells #[] 2)))
  have HO := Lib.hid (OwI.lit0 w)
  obtain ⟨a, c, rfl, -⟩ := hr
  go_enter Try.func43, Try.ntmps43
  go_wp2_with (at_builtin; refine wpList_appI _ rfl _ _ rfl w.heap.size _ _ [] xs rfl rfl HO.out HR.out (by simp; omega) (by simp) ?_; intro v' w1 hown hgrow)
  have HO1 := Lib.hid hown
  have HG := Lib.hid hgrow
  clear hown hgrow
  go_ret
  exact ⟨_, rfl, by simpa using HO1.out, OwI.grown HO.out ((Below.refl _ _).alloc (Nat.le_refl _) _) (by simp) HG.out⟩

end Go.Proofs.Ythmimkllnjkhaaa
