/- The exact law on AddRide: for every input it returns true, and its arguments read as before. Conditions: none beyond the row's own. -/
import Derived.Test.YthfpikpknojffaaWeaK
import Derived.Test.YthfpikpknojffaaOpenRid
import Derived.Test.YthfpikpknojffaaLaw
import Derived.ProofKit
import Derived.Lib.SmallJoins
set_option linter.unusedSimpArgs false
set_option linter.unusedVariables false
namespace Go.Proofs.Ythfpikpknojffaa
open Go.ChangeShapes Go.WideShapes Go.ChangeAt Go.RowKit

theorem all_params_ok_FnExactAddRide : ∀ t ∈ (#[22, 32] : Array TypeId).toList, Try.prog.readableRec t = true ∧ t < Try.prog.types.size := by
  intro t ht
  simp only [List.mem_cons, List.not_mem_nil, or_false] at ht
  rcases ht with rfl | rfl
  · exact ⟨by kernel_rfl, of_decide_eq_true (by kernel_rfl)⟩
  · exact ⟨by kernel_rfl, of_decide_eq_true (by kernel_rfl)⟩

set_option maxRecDepth 100000 in
set_option maxHeartbeats 800000 in
theorem FnExactAddRide_lifted (os : Os) (started : os.Started) (H : Type) (enc : TypeId × Value → H) :
    ReturnsInHanded {} Try.checked os 7 .any (Rows.fnExactAddRideSpec.pre6 enc Try.prog Try.f7 Rows.fnExactAddRideRow.domain false) (Rows.fnExactAddRideSpec.post enc Try.prog Try.f7 false true false false) := by
  refine returnsInHanded_of_change (C := Try.checked) Try.own started (by kernel_rfl) Try.func7
    (ChangeSpec.witness6 (enc := enc) (C := Try.checked) false ⟨#[], #[.slice none 0 0, .agg #[.int .i64 0, .int .i64 0, .bool false]], []⟩ 8 (by kernel_rfl) (by kernel_rfl) (by kernel_rfl) (by kernel_rfl)) ?_
  intro W base args ds gs before hval0 hW hcnd _
  have hval : ∀ (j : Nat) t v, Try.f7.params[j]? = some t → args[j]? = some v → Value.okWide Try.prog W .any base t v := hval0
  have hW' := hW
  obtain ⟨p, q, hA0, hV, rfl, hfz, hnd⟩ := hW
  have hA : DataW.TrodAll enc Try.prog W 0 (fun _ => true) true Try.f7.params.toList args.toList ds p := hA0
  rw [Try.params7] at hA hval
  obtain ⟨v0, v1, d0, d1, p0, p1, rfl, rfl, rfl, h0, h1⟩ := trodAll_two hA
  obtain ⟨rfl, rfl⟩ := trodVars_none hV
  obtain ⟨ax0, lx0, cx0, ex0⟩ := okWide_slice Try.underlying22 (hval 0 22 v0 rfl rfl)
  obtain ⟨rs, hr_rs, hm_rs⟩ := openRid h0 ⟨_, _, _, ex0⟩
  obtain ⟨c1_0, c1_1, c1_2, y1_0, y1_1, y1_2, m1, rfl, rfl, rfl, hy1_0, hy1_1, hy1_2⟩ := Joins.open_agg3 Try.underlying32 (by kernel_rfl) (by kernel_rfl) (hval 1 32 v1 rfl rfl) h1
  obtain ⟨d, e1_0, rfl, wf_d⟩ := DataW.trod_int Try.underlying2 hy1_0
  obtain ⟨t, e1_1, rfl, wf_t⟩ := DataW.trod_int Try.underlying2 hy1_1
  obtain ⟨wt, e1_2, rfl⟩ := DataW.trod_bool Try.underlying4 hy1_2
  simp at e1_0 e1_1 e1_2
  subst e1_0 e1_1 e1_2
  clear hA0 hval0
  simp only [List.append_nil] at hW'
  refine (FnExactAddRide_walk v0 rs d t wt W hr_rs hm_rs).mono fun e W' ⟨he, hb⟩ => ?_
  subst he
  exact ⟨_, rfl, law_post (tb := 4) Try.laidOut hW' rfl (by kernel_rfl) Try.underlying4 (by rw [Try.params7]; exact all_params_ok_FnExactAddRide) rfl hb⟩

theorem FnExactAddRide_holds : Rows.FnExactAddRideSaid :=
  OpenClaim.holds_of_wide 7 Try.f7 rfl rfl rfl rfl rfl rfl rfl ⟨rfl, rfl, rfl, rfl, rfl⟩ rfl rfl rfl rfl rfl (by kernel_rfl) Try.func7 (by kernel_rfl)
    (of_decide_eq_true (by kernel_rfl)) (by unfold Func.isWrapper; first | (rw [if_pos (by decide +kernel)]; kernel_rfl) | (rw [if_neg (by decide +kernel)]; exact ⟨rfl, rfl⟩))
    (fun os started H enc _ => FnExactAddRide_lifted os started H enc)

end Go.Proofs.Ythfpikpknojffaa
