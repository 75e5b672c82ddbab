/- Contract of the reference's DoFit. -/
import Derived.Test.YtoaacipgphoiaaaThrB
import Derived.Laws.StructEq
set_option linter.unusedSimpArgs false
set_option linter.unusedVariables false
namespace Go.Proofs.Ytoaacipgphoiaaa
open Go.RowKit

theorem thr_eql (d p : Int) (lf inn : Bool) (d' p' : Int) (lf' inn' : Bool) (w : World) : (binOp .eql 25 (.agg #[.int .i64 d, .int .i64 p, .bool lf, .bool inn]) (.agg #[.int .i64 d', .int .i64 p', .bool lf', .bool inn'])).run Try.prog w = .ok (.bool (decide (d = d') && (decide (p = p') && ((lf == lf') && (inn == inn'))))) w := by
  by_cases hd : d = d' <;> by_cases hp : p = p' <;> by_cases hl : lf = lf' <;> by_cases hi : inn = inn' <;> simp [go_sem, hd, hp, hl, hi]

theorem fitR_end {d p : Int} {lf inn : Bool} {d' p' : Int} {lf' inn' bb : Bool} (hT : isThr d p = true) (hT' : isThr d' p' = true) (h : decide (misfitT d p lf inn d' p' lf' inn' = ⟨#[]⟩) = bb) :
    Ending.returned (.tuple #[.bool bb, .int .i64 0]) = .returned (.tuple #[.bool (fitR d p lf inn d' p' lf' inn').1, .int .i64 (fitR d p lf inn d' p' lf' inn').2]) := by
  unfold fitR; rw [if_pos hT, if_pos hT', h]

set_option maxHeartbeats 800000 in
theorem sDoFit_any (d p : Int) (lf inn : Bool) (d' p' : Int) (lf' inn' : Bool) (w : World) :
    Calls Try.prog 16 #[.agg #[.int .i64 d, .int .i64 p, .bool lf, .bool inn], .agg #[.int .i64 d', .int .i64 p', .bool lf', .bool inn']] w fun e w' => e = .returned (.tuple #[.bool (fitR d p lf inn d' p' lf' inn').1, .int .i64 (fitR d p lf inn d' p' lf' inn').2]) ∧ Below w.heap.size w w' := by
  cases hT : isThr d p
  · skip
    go_enter Try.func16, Try.ntmps16
    go_wp2_with (first | (go_at_call 13; (with_reducible refine (sIsThread_any _ _ _ _ _).mono ?_); rintro e w' ⟨rfl, hb⟩; obtain ⟨hc, hf⟩ := bcell hb; have hz := hb.size; (try simp only [World.size_alloc, World.size_drew] at hz); (try have hz0 : w.heap.size < w'.heap.size := by omega); (try have hz1 : w.heap.size + 1 < w'.heap.size := by omega)))
    go_ret2
    exact ⟨by simp [fitR, hT], (by repeat (first | (with_reducible assumption) | (with_reducible exact Below.refl _ _) | (with_reducible refine Below.drew ?_) | (with_reducible refine blw_al ?_ _) | (with_reducible refine blw_stp (by with_reducible assumption) ?_) | (with_reducible refine blw_set ?_ (by dsimp only; omega) _)))⟩
  cases hT' : isThr d' p'
  · skip
    go_enter Try.func16, Try.ntmps16
    go_wp2_with (first | (go_at_call 13; (with_reducible refine (sIsThread_any _ _ _ _ _).mono ?_); rintro e w' ⟨rfl, hb⟩; obtain ⟨hc, hf⟩ := bcell hb; have hz := hb.size; (try simp only [World.size_alloc, World.size_drew] at hz); (try have hz0 : w.heap.size < w'.heap.size := by omega); (try have hz1 : w.heap.size + 1 < w'.heap.size := by omega)))
    go_ret2
    exact ⟨by simp [fitR, hT, hT'], (by repeat (first | (with_reducible assumption) | (with_reducible exact Below.refl _ _) | (with_reducible refine Below.drew ?_) | (with_reducible refine blw_al ?_ _) | (with_reducible refine blw_stp (by with_reducible assumption) ?_) | (with_reducible refine blw_set ?_ (by dsimp only; omega) _)))⟩
  have he := thr_eql d p lf (!inn) d' p' lf' inn'
  have hv : decide (misfitT d p lf inn d' p' lf' inn' = ⟨#[]⟩) = (decide (d = d') && (decide (p = p') && ((lf == lf') && ((!inn) == inn')))) := by
    by_cases hd : d = d' <;> by_cases hp : p = p' <;> by_cases hl : lf = lf' <;> by_cases hi : inn = inn' <;> simp [misfitT, hd, hp, hl, hi]
    all_goals (cases inn <;> cases inn' <;> simp_all)
  have HV := Lib.hid hv
  clear hv
  generalize (decide (d = d') && (decide (p = p') && ((lf == lf') && ((!inn) == inn')))) = bb at *
  go_enter Try.func16, Try.ntmps16
  go_wp2_with (first | (go_at_call 13; (with_reducible refine (sIsThread_any _ _ _ _ _).mono ?_); rintro e w' ⟨rfl, hb⟩; obtain ⟨hc, hf⟩ := bcell hb; have hz := hb.size; (try simp only [World.size_alloc, World.size_drew] at hz); (try have hz0 : w.heap.size < w'.heap.size := by omega); (try have hz1 : w.heap.size + 1 < w'.heap.size := by omega)))
  go_region_held3 (fun w' => w'.cell? ⟨w.heap.size, 0, none⟩ = some (.int .i64 d) ∧ w'.cell? ⟨w.heap.size, 1, none⟩ = some (.int .i64 p) ∧ w'.cell? ⟨w.heap.size, 2, none⟩ = some (.bool lf) ∧ w'.cell? ⟨w.heap.size, 3, none⟩ = some (.bool inn) ∧ w'.cell? ⟨w.heap.size + 1, 0, none⟩ = some (.int .i64 d') ∧ w'.cell? ⟨w.heap.size + 1, 1, none⟩ = some (.int .i64 p') ∧ w'.cell? ⟨w.heap.size + 1, 2, none⟩ = some (.bool lf') ∧ w'.cell? ⟨w.heap.size + 1, 3, none⟩ = some (.bool inn') ∧ Below w.heap.size w w')
    (first | exact ⟨by simp [*, go_sem], by simp [*, go_sem], by simp [*, go_sem], by simp [*, go_sem], by simp [*, go_sem], by simp [*, go_sem], by simp [*, go_sem], by simp [*, go_sem], (by repeat (first | (with_reducible assumption) | (with_reducible exact Below.refl _ _) | (with_reducible refine Below.drew ?_) | (with_reducible refine blw_al ?_ _) | (with_reducible refine blw_stp (by with_reducible assumption) ?_) | (with_reducible refine blw_set ?_ (by dsimp only; omega) _)))⟩ | exact keep8 (by assumption) (by assumption) | assumption)
    (first | (go_at_call 43; (with_reducible refine (l14Partner_any _ _ _ _ _).mono ?_); rintro e w' ⟨rfl, hb⟩))
  all_goals
    rename_i hH
    obtain ⟨-, -, -, -, -, -, -, -, hBw⟩ := hH
    go_wp2
    go_ret2
    exact ⟨fitR_end hT hT' HV.out, hBw⟩

end Go.Proofs.Ytoaacipgphoiaaa
