/- The walks of the exact laws on threads without text: each returns true and leaves the memory as it was. -/
import Derived.Test.YtoaacipgphoiaaaThrC
set_option linter.unusedSimpArgs false
set_option linter.unusedVariables false
namespace Go.Proofs.Ytoaacipgphoiaaa
open Go.RowKit

set_option maxHeartbeats 800000 in
theorem FnExactIsThread_walk (d : Int) (p : Int) (lf : Bool) (inn : Bool) (w : World) :
    Calls Try.prog 3 #[.agg #[.int .i64 d, .int .i64 p, .bool lf, .bool inn]] w fun e w' => e = .returned (.bool true) ∧ Below w.heap.size w w' := by
  go_enter Try.func3, Try.ntmps3
  go_wp2_with (first | (go_at_call 14; (with_reducible refine (toThread_any _ _ _ _ _).mono ?_); rintro e w' ⟨rfl, hb⟩; obtain ⟨hc, hf⟩ := bcell hb; have hz := hb.size; (try simp only [World.size_alloc, World.size_drew] at hz); (try have hz0 : w.heap.size < w'.heap.size := by omega); (try have hz1 : w.heap.size + 1 < w'.heap.size := by omega)) | (go_at_call 15; (with_reducible refine (IsThread_any _ _ _ _ _).mono ?_); rintro e w' ⟨rfl, hb⟩; obtain ⟨hc, hf⟩ := bcell hb; have hz := hb.size; (try simp only [World.size_alloc, World.size_drew] at hz); (try have hz0 : w.heap.size < w'.heap.size := by omega); (try have hz1 : w.heap.size + 1 < w'.heap.size := by omega)) | (go_at_call 13; (with_reducible refine (sIsThread_any _ _ _ _ _).mono ?_); rintro e w' ⟨rfl, hb⟩; obtain ⟨hc, hf⟩ := bcell hb; have hz := hb.size; (try simp only [World.size_alloc, World.size_drew] at hz); (try have hz0 : w.heap.size < w'.heap.size := by omega); (try have hz1 : w.heap.size + 1 < w'.heap.size := by omega)))
  go_ret
  exact ⟨rfl, (by repeat (first | (with_reducible assumption) | (with_reducible exact Below.refl _ _) | (with_reducible refine Below.drew ?_) | (with_reducible refine blw_al ?_ _) | (with_reducible refine blw_stp (by with_reducible assumption) ?_) | (with_reducible refine blw_set ?_ (by dsimp only; omega) _)))⟩

set_option maxHeartbeats 800000 in
theorem FnExactQuarterTurns_walk (d : Int) (p : Int) (lf : Bool) (inn : Bool) (n : Int) (w : World) :
    Calls Try.prog 5 #[.agg #[.int .i64 d, .int .i64 p, .bool lf, .bool inn], .int .i64 n] w fun e w' => e = .returned (.bool true) ∧ Below w.heap.size w w' := by
  go_enter Try.func5, Try.ntmps5
  go_wp2_with (first | (go_at_call 14; (with_reducible refine (toThread_any _ _ _ _ _).mono ?_); rintro e w' ⟨rfl, hb⟩; obtain ⟨hc, hf⟩ := bcell hb; have hz := hb.size; (try simp only [World.size_alloc, World.size_drew] at hz); (try have hz0 : w.heap.size < w'.heap.size := by omega); (try have hz1 : w.heap.size + 1 < w'.heap.size := by omega)) | (go_at_call 19; (with_reducible refine (QuarterTurns_any _ _ _ _ _ _).mono ?_); rintro e w' ⟨rfl, hb⟩; obtain ⟨hc, hf⟩ := bcell hb; have hz := hb.size; (try simp only [World.size_alloc, World.size_drew] at hz); (try have hz0 : w.heap.size < w'.heap.size := by omega); (try have hz1 : w.heap.size + 1 < w'.heap.size := by omega)) | (go_at_call 18; (with_reducible refine (sQuarterTurns_any _ _ _ _ _ _).mono ?_); rintro e w' ⟨rfl, hb⟩; obtain ⟨hc, hf⟩ := bcell hb; have hz := hb.size; (try simp only [World.size_alloc, World.size_drew] at hz); (try have hz0 : w.heap.size < w'.heap.size := by omega); (try have hz1 : w.heap.size + 1 < w'.heap.size := by omega)))
  go_ret
  exact ⟨rfl, (by repeat (first | (with_reducible assumption) | (with_reducible exact Below.refl _ _) | (with_reducible refine Below.drew ?_) | (with_reducible refine blw_al ?_ _) | (with_reducible refine blw_stp (by with_reducible assumption) ?_) | (with_reducible refine blw_set ?_ (by dsimp only; omega) _)))⟩

set_option maxHeartbeats 800000 in
theorem FnExactPartnerOf_walk (d : Int) (p : Int) (lf : Bool) (inn : Bool) (w : World) :
    Calls Try.prog 6 #[.agg #[.int .i64 d, .int .i64 p, .bool lf, .bool inn]] w fun e w' => e = .returned (.bool true) ∧ Below w.heap.size w w' := by
  cases hT : isThr d p
  · skip
    go_enter Try.func6, Try.ntmps6
    go_wp2_with fail
    (with_reducible refine (toThread_any _ _ _ _ _).mono ?_)
    rintro e w1 ⟨rfl, hb1⟩
    obtain ⟨hc1, hf1⟩ := bcell hb1
    have hz1 := hb1.size
    (try simp only [World.size_alloc, World.size_drew, World.size_setCell] at hz1)
    have hy1_0 : w.heap.size < w1.heap.size := by omega
    go_wp2_with fail
    (with_reducible refine (sPartnerOf_no _ _ _ _ _ hT).mono ?_)
    rintro e w2 ⟨rfl, hb2⟩
    obtain ⟨hc2, hf2⟩ := bcell hb2
    have hz2 := hb2.size
    (try simp only [World.size_alloc, World.size_drew, World.size_setCell] at hz2)
    have hy2_0 : w.heap.size < w2.heap.size := by omega
    go_wp2_with fail
    (with_reducible refine (toThread_any _ _ _ _ _).mono ?_)
    rintro e w3 ⟨rfl, hb3⟩
    obtain ⟨hc3, hf3⟩ := bcell hb3
    have hz3 := hb3.size
    (try simp only [World.size_alloc, World.size_drew, World.size_setCell] at hz3)
    have hy3_0 : w.heap.size < w3.heap.size := by omega
    have hy3_1 : w2.heap.size < w3.heap.size := by omega
    go_wp2_with fail
    (with_reducible refine (PartnerOf_no _ _ _ _ _ hT).mono ?_)
    rintro e w4 ⟨rfl, hb4⟩
    obtain ⟨hc4, hf4⟩ := bcell hb4
    have hz4 := hb4.size
    (try simp only [World.size_alloc, World.size_drew, World.size_setCell] at hz4)
    have hy4_0 : w.heap.size < w4.heap.size := by omega
    have hy4_1 : w2.heap.size < w4.heap.size := by omega
    go_wp2_with fail
    (with_reducible refine (eqThread_same _ _ _ _ _).mono ?_)
    rintro e w5 ⟨rfl, hb5⟩
    obtain ⟨hc5, hf5⟩ := bcell hb5
    have hz5 := hb5.size
    (try simp only [World.size_alloc, World.size_drew, World.size_setCell] at hz5)
    have hy5_0 : w.heap.size < w5.heap.size := by omega
    have hy5_1 : w2.heap.size < w5.heap.size := by omega
    have hy5_2 : w4.heap.size < w5.heap.size := by omega
    go_wp2
    go_ret
    exact ⟨rfl, (by repeat (first | (with_reducible assumption) | (with_reducible exact Below.refl _ _) | (with_reducible refine Below.drew ?_) | (with_reducible refine blw_al ?_ _) | (with_reducible refine blw_stp (by with_reducible assumption) ?_) | (with_reducible refine blw_set ?_ (by dsimp only; omega) _)))⟩
  · skip
    go_enter Try.func6, Try.ntmps6
    go_wp2_with fail
    (with_reducible refine (toThread_any _ _ _ _ _).mono ?_)
    rintro e w1 ⟨rfl, hb1⟩
    obtain ⟨hc1, hf1⟩ := bcell hb1
    have hz1 := hb1.size
    (try simp only [World.size_alloc, World.size_drew, World.size_setCell] at hz1)
    have hy1_0 : w.heap.size < w1.heap.size := by omega
    go_wp2_with fail
    (with_reducible refine (sPartnerOf_yes _ _ _ _ _ hT).mono ?_)
    rintro e w2 ⟨rfl, hb2⟩
    obtain ⟨hc2, hf2⟩ := bcell hb2
    have hz2 := hb2.size
    (try simp only [World.size_alloc, World.size_drew, World.size_setCell] at hz2)
    have hy2_0 : w.heap.size < w2.heap.size := by omega
    go_wp2_with fail
    (with_reducible refine (toThread_any _ _ _ _ _).mono ?_)
    rintro e w3 ⟨rfl, hb3⟩
    obtain ⟨hc3, hf3⟩ := bcell hb3
    have hz3 := hb3.size
    (try simp only [World.size_alloc, World.size_drew, World.size_setCell] at hz3)
    have hy3_0 : w.heap.size < w3.heap.size := by omega
    have hy3_1 : w2.heap.size < w3.heap.size := by omega
    go_wp2_with fail
    (with_reducible refine (PartnerOf_yes _ _ _ _ _ hT).mono ?_)
    rintro e w4 ⟨rfl, hb4⟩
    obtain ⟨hc4, hf4⟩ := bcell hb4
    have hz4 := hb4.size
    (try simp only [World.size_alloc, World.size_drew, World.size_setCell] at hz4)
    have hy4_0 : w.heap.size < w4.heap.size := by omega
    have hy4_1 : w2.heap.size < w4.heap.size := by omega
    go_wp2_with fail
    (with_reducible refine (eqThread_same _ _ _ _ _).mono ?_)
    rintro e w5 ⟨rfl, hb5⟩
    obtain ⟨hc5, hf5⟩ := bcell hb5
    have hz5 := hb5.size
    (try simp only [World.size_alloc, World.size_drew, World.size_setCell] at hz5)
    have hy5_0 : w.heap.size < w5.heap.size := by omega
    have hy5_1 : w2.heap.size < w5.heap.size := by omega
    have hy5_2 : w4.heap.size < w5.heap.size := by omega
    go_wp2
    go_ret
    exact ⟨rfl, (by repeat (first | (with_reducible assumption) | (with_reducible exact Below.refl _ _) | (with_reducible refine Below.drew ?_) | (with_reducible refine blw_al ?_ _) | (with_reducible refine blw_stp (by with_reducible assumption) ?_) | (with_reducible refine blw_set ?_ (by dsimp only; omega) _)))⟩

set_option maxHeartbeats 800000 in
theorem FnExactDoFit_walk (d : Int) (p : Int) (lf : Bool) (inn : Bool) (d' : Int) (p' : Int) (lf' : Bool) (inn' : Bool) (w : World) :
    Calls Try.prog 4 #[.agg #[.int .i64 d, .int .i64 p, .bool lf, .bool inn], .agg #[.int .i64 d', .int .i64 p', .bool lf', .bool inn']] w fun e w' => e = .returned (.bool true) ∧ Below w.heap.size w w' := by
  go_enter Try.func4, Try.ntmps4
  go_wp2_with fail
  go_region_held3 (fun w' => w'.cell? ⟨w.heap.size, 0, none⟩ = some (.int .i64 d) ∧ w'.cell? ⟨w.heap.size, 1, none⟩ = some (.int .i64 p) ∧ w'.cell? ⟨w.heap.size, 2, none⟩ = some (.bool lf) ∧ w'.cell? ⟨w.heap.size, 3, none⟩ = some (.bool inn) ∧ w'.cell? ⟨w.heap.size + 1, 0, none⟩ = some (.int .i64 d') ∧ w'.cell? ⟨w.heap.size + 1, 1, none⟩ = some (.int .i64 p') ∧ w'.cell? ⟨w.heap.size + 1, 2, none⟩ = some (.bool lf') ∧ w'.cell? ⟨w.heap.size + 1, 3, none⟩ = some (.bool inn') ∧ Below w.heap.size w w')
    (first | exact ⟨by simp [go_sem], by simp [go_sem], by simp [go_sem], by simp [go_sem], by simp [go_sem], by simp [go_sem], by simp [go_sem], by simp [go_sem], (by repeat (first | (with_reducible assumption) | (with_reducible exact Below.refl _ _) | (with_reducible refine Below.drew ?_) | (with_reducible refine blw_al ?_ _) | (with_reducible refine blw_stp (by with_reducible assumption) ?_) | (with_reducible refine blw_set ?_ (by dsimp only; omega) _)))⟩ | exact keep8 (by assumption) (by assumption) | assumption)
    (first | (go_at_call 14; (with_reducible refine (toThread_any _ _ _ _ _).mono ?_); rintro e w' ⟨rfl, hb⟩) | (go_at_call 17; (with_reducible refine (DoFit_any _ _ _ _ _ _ _ _ _).mono ?_); rintro e w' ⟨rfl, hb⟩) | (go_at_call 16; (with_reducible refine (sDoFit_any _ _ _ _ _ _ _ _ _).mono ?_); rintro e w' ⟨rfl, hb⟩))
  all_goals
    rename_i hH
    go_wp2_with fail
    go_region_held3 (fun w' => w'.cell? ⟨w.heap.size, 0, none⟩ = some (.int .i64 d) ∧ w'.cell? ⟨w.heap.size, 1, none⟩ = some (.int .i64 p) ∧ w'.cell? ⟨w.heap.size, 2, none⟩ = some (.bool lf) ∧ w'.cell? ⟨w.heap.size, 3, none⟩ = some (.bool inn) ∧ w'.cell? ⟨w.heap.size + 1, 0, none⟩ = some (.int .i64 d') ∧ w'.cell? ⟨w.heap.size + 1, 1, none⟩ = some (.int .i64 p') ∧ w'.cell? ⟨w.heap.size + 1, 2, none⟩ = some (.bool lf') ∧ w'.cell? ⟨w.heap.size + 1, 3, none⟩ = some (.bool inn') ∧ Below w.heap.size w w')
      (first | exact keep8 (by assumption) (by assumption) | exact keep8_drew (by assumption) | assumption)
      (first | (go_at_call 14; (with_reducible refine (toThread_any _ _ _ _ _).mono ?_); rintro e w' ⟨rfl, hb⟩) | (go_at_call 17; (with_reducible refine (DoFit_any _ _ _ _ _ _ _ _ _).mono ?_); rintro e w' ⟨rfl, hb⟩) | (go_at_call 16; (with_reducible refine (sDoFit_any _ _ _ _ _ _ _ _ _).mono ?_); rintro e w' ⟨rfl, hb⟩))
  all_goals
    rename_i hH2
    obtain ⟨-, -, -, -, -, -, -, -, hBw⟩ := hH2
    go_wp2
    go_ret
    exact ⟨rfl, hBw⟩

set_option maxHeartbeats 800000 in
theorem FnExactFirstReason_walk (d : Int) (p : Int) (lf : Bool) (inn : Bool) (d' : Int) (p' : Int) (lf' : Bool) (inn' : Bool) (w : World) :
    Calls Try.prog 7 #[.agg #[.int .i64 d, .int .i64 p, .bool lf, .bool inn], .agg #[.int .i64 d', .int .i64 p', .bool lf', .bool inn']] w fun e w' => e = .returned (.bool true) ∧ Below w.heap.size w w' := by
  go_enter Try.func7, Try.ntmps7
  go_wp2_with fail
  go_region_held3 (fun w' => w'.cell? ⟨w.heap.size, 0, none⟩ = some (.int .i64 d) ∧ w'.cell? ⟨w.heap.size, 1, none⟩ = some (.int .i64 p) ∧ w'.cell? ⟨w.heap.size, 2, none⟩ = some (.bool lf) ∧ w'.cell? ⟨w.heap.size, 3, none⟩ = some (.bool inn) ∧ w'.cell? ⟨w.heap.size + 1, 0, none⟩ = some (.int .i64 d') ∧ w'.cell? ⟨w.heap.size + 1, 1, none⟩ = some (.int .i64 p') ∧ w'.cell? ⟨w.heap.size + 1, 2, none⟩ = some (.bool lf') ∧ w'.cell? ⟨w.heap.size + 1, 3, none⟩ = some (.bool inn') ∧ Below w.heap.size w w')
    (first | exact ⟨by simp [go_sem], by simp [go_sem], by simp [go_sem], by simp [go_sem], by simp [go_sem], by simp [go_sem], by simp [go_sem], by simp [go_sem], (by repeat (first | (with_reducible assumption) | (with_reducible exact Below.refl _ _) | (with_reducible refine Below.drew ?_) | (with_reducible refine blw_al ?_ _) | (with_reducible refine blw_stp (by with_reducible assumption) ?_) | (with_reducible refine blw_set ?_ (by dsimp only; omega) _)))⟩ | exact keep8 (by assumption) (by assumption) | assumption)
    (first | (go_at_call 14; (with_reducible refine (toThread_any _ _ _ _ _).mono ?_); rintro e w' ⟨rfl, hb⟩) | (go_at_call 24; (with_reducible refine (FirstReason_any _ _ _ _ _ _ _ _ _).mono ?_); rintro e w' ⟨rfl, hb⟩) | (go_at_call 23; (with_reducible refine (sFirstReason_any _ _ _ _ _ _ _ _ _).mono ?_); rintro e w' ⟨rfl, hb⟩))
  all_goals
    rename_i hH
    go_wp2_with fail
    go_region_held3 (fun w' => w'.cell? ⟨w.heap.size, 0, none⟩ = some (.int .i64 d) ∧ w'.cell? ⟨w.heap.size, 1, none⟩ = some (.int .i64 p) ∧ w'.cell? ⟨w.heap.size, 2, none⟩ = some (.bool lf) ∧ w'.cell? ⟨w.heap.size, 3, none⟩ = some (.bool inn) ∧ w'.cell? ⟨w.heap.size + 1, 0, none⟩ = some (.int .i64 d') ∧ w'.cell? ⟨w.heap.size + 1, 1, none⟩ = some (.int .i64 p') ∧ w'.cell? ⟨w.heap.size + 1, 2, none⟩ = some (.bool lf') ∧ w'.cell? ⟨w.heap.size + 1, 3, none⟩ = some (.bool inn') ∧ Below w.heap.size w w')
      (first | exact keep8 (by assumption) (by assumption) | exact keep8_drew (by assumption) | assumption)
      (first | (go_at_call 14; (with_reducible refine (toThread_any _ _ _ _ _).mono ?_); rintro e w' ⟨rfl, hb⟩) | (go_at_call 24; (with_reducible refine (FirstReason_any _ _ _ _ _ _ _ _ _).mono ?_); rintro e w' ⟨rfl, hb⟩) | (go_at_call 23; (with_reducible refine (sFirstReason_any _ _ _ _ _ _ _ _ _).mono ?_); rintro e w' ⟨rfl, hb⟩))
  all_goals
    rename_i hH2
    obtain ⟨-, -, -, -, -, -, -, -, hBw⟩ := hH2
    go_wp2
    go_ret
    exact ⟨rfl, hBw⟩

end Go.Proofs.Ytoaacipgphoiaaa
