/- The law on slacks: for every code it returns true, and its argument reads as before. Conditions: none beyond the row's own. -/
import Derived.Test.YtfdnhamkkcmnfaaSlkL
import Derived.Test.YtfdnhamkkcmnfaaOpenB
import Derived.Test.YtfdnhamkkcmnfaaLaw
import Derived.ProofKit
import Derived.Lib.SmallJoins
set_option linter.unusedSimpArgs false
set_option linter.unusedVariables false
namespace Go.Proofs.Ytfdnhamkkcmnfaa
open Go.ChangeShapes Go.WideShapes Go.ChangeAt Go.RowKit

theorem all_params_ok_FnSlacks : ∀ t ∈ (#[55] : Array TypeId).toList, Try.prog.readableRec t = true ∧ t < Try.prog.types.size := by
  intro t ht
  simp only [List.mem_cons, List.not_mem_nil, or_false] at ht
  subst ht
  exact ⟨by kernel_rfl, of_decide_eq_true (by kernel_rfl)⟩

set_option maxRecDepth 100000 in
set_option maxHeartbeats 800000 in
theorem FnSlacks_lifted (os : Os) (started : os.Started) (H : Type) (enc : TypeId × Value → H) :
    ReturnsInHanded {} Try.checked os 13 .any (Rows.fnSlacksSpec.pre6 enc Try.prog Try.f13 Rows.fnSlacksRow.domain false) (Rows.fnSlacksSpec.post enc Try.prog Try.f13 false true false false) := by
  refine returnsInHanded_of_change (C := Try.checked) Try.own started (by kernel_rfl) Try.func13
    (ChangeSpec.witness6 (enc := enc) (C := Try.checked) false ⟨#[], #[.slice none 0 0], []⟩ 8 (by kernel_rfl) (by kernel_rfl) (by kernel_rfl) (by kernel_rfl)) ?_
  intro W base args ds gs before hval0 hW hcnd _
  have hval : ∀ (j : Nat) t v, Try.f13.params[j]? = some t → args[j]? = some v → Value.okWide Try.prog W .any base t v := hval0
  have hW' := hW
  obtain ⟨p, q, hA0, hV, rfl, hfz, hnd⟩ := hW
  have hA : DataW.TrodAll enc Try.prog W 0 (fun _ => true) true Try.f13.params.toList args.toList ds p := hA0
  rw [Try.params13] at hA hval
  obtain ⟨v0, d0, rfl, rfl, h0⟩ := trodAll_one hA
  obtain ⟨rfl, rfl⟩ := trodVars_none hV
  obtain ⟨ax0, nx0, cx0, ex0, hr_b⟩ := openB h0 (okWide_slice Try.underlying55 (hval 0 55 v0 rfl rfl))
  subst ex0
  clear hA0 hval0
  simp only [List.append_nil] at hW'
  refine (FnSlacks_walk ax0 nx0 cx0 W hr_b).mono fun e W' ⟨he, hb⟩ => ?_
  subst he
  exact ⟨_, rfl, law_post (tb := 4) Try.laidOut hW' rfl (by kernel_rfl) Try.underlying4 (by rw [Try.params13]; exact all_params_ok_FnSlacks) rfl hb⟩

theorem FnSlacks_holds : Rows.FnSlacksSaid :=
  OpenClaim.holds_of_wide 13 Try.f13 rfl rfl rfl rfl rfl rfl rfl ⟨rfl, rfl, rfl, rfl, rfl⟩ rfl rfl rfl rfl rfl (by kernel_rfl) Try.func13 (by kernel_rfl)
    (of_decide_eq_true (by kernel_rfl)) (by unfold Func.isWrapper; first | (rw [if_pos (by decide +kernel)]; kernel_rfl) | (rw [if_neg (by decide +kernel)]; exact ⟨rfl, rfl⟩))
    (fun os started H enc _ => FnSlacks_lifted os started H enc)

end Go.Proofs.Ytfdnhamkkcmnfaa
