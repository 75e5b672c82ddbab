/- Contracts of IsRace, of the program and of the reference; the walk of its exact law. -/
import Derived.Test.YthmimkllnjkhaaaNum
import Derived.Handy
import Derived.Deep.QuietTactic
import Derived.BigQuiet
import Derived.Deep.RegionHeld3
set_option linter.unusedSimpArgs false
set_option linter.unusedVariables false
namespace Go.Proofs.Ythmimkllnjkhaaa
open Go.RowKit

def isRace (d b : Int) : Bool := inR d 50 2000 && (inR b 10 200 && decide (b < d))
theorem isRace_bd {d b : Int} (h : isRace d b = true) : 50 ≤ d ∧ d ≤ 2000 ∧ 10 ≤ b ∧ b ≤ 200 ∧ b < d := by
  simp only [isRace, Bool.and_eq_true, inR_iff, decide_eq_true_eq] at h
  omega
theorem rquiet_eq {P : Program} {f : FuncId} {args : Array Value} {w : World} {n : Nat} {v : Value} (h : Calls P f args (w.drewN n) fun e w' => e = .returned v ∧ w.drewN n = w') :
    Calls P f args (w.drewN n) fun e w'' => e = .returned v ∧ ∃ m, w'' = w.drewN m := h.mono fun _ _ ⟨he, hm⟩ => ⟨he, n, hm.symm⟩
theorem rblw_drewN {B : Nat} {a w : World} (h : Below B a w) (n : Nat) : Below B a (w.drewN n) := ⟨h.os, h.tape, h.output, h.size, h.block⟩
set_option maxHeartbeats 800000 in
theorem IsRace_any (d b : Int) (w : World) :
    Calls Try.prog 12 #[.agg #[.int .i64 d, .int .i64 b]] w fun e w' => e = .returned (.bool (isRace d b)) ∧ Below w.heap.size w w' := by
  cases hD : inR d 50 2000
  · skip
    go_enter Try.func12, Try.ntmps12
    go_wp2_with (go_at_call 30; (with_reducible refine (within_any _ _ _ _).mono ?_); rintro e w' ⟨rfl, rfl⟩)
    go_ret
    exact ⟨ret_bool (by simp [isRace, hD]), (by repeat (first | (with_reducible assumption) | (with_reducible exact Below.refl _ _) | (with_reducible refine Below.drew ?_) | (with_reducible refine blw_al ?_ _) | (with_reducible refine blw_stp (by with_reducible assumption) ?_) | (with_reducible refine blw_set ?_ (by dsimp only; omega) _)))⟩
  cases hB : inR b 10 200
  · skip
    go_enter Try.func12, Try.ntmps12
    go_wp2_with (go_at_call 30; (with_reducible refine (within_any _ _ _ _).mono ?_); rintro e w' ⟨rfl, rfl⟩)
    go_ret
    exact ⟨ret_bool (by simp [isRace, hD, hB]), (by repeat (first | (with_reducible assumption) | (with_reducible exact Below.refl _ _) | (with_reducible refine Below.drew ?_) | (with_reducible refine blw_al ?_ _) | (with_reducible refine blw_stp (by with_reducible assumption) ?_) | (with_reducible refine blw_set ?_ (by dsimp only; omega) _)))⟩
  by_cases hl : b < d
  · have hd : decide (b < d) = true := by simpa using hl
    go_enter Try.func12, Try.ntmps12
    go_wp2_with (go_at_call 30; (with_reducible refine (within_any _ _ _ _).mono ?_); rintro e w' ⟨rfl, rfl⟩)
    go_ret
    exact ⟨ret_bool (by simp [isRace, hD, hB, hd]), (by repeat (first | (with_reducible assumption) | (with_reducible exact Below.refl _ _) | (with_reducible refine Below.drew ?_) | (with_reducible refine blw_al ?_ _) | (with_reducible refine blw_stp (by with_reducible assumption) ?_) | (with_reducible refine blw_set ?_ (by dsimp only; omega) _)))⟩
  · have hd : decide (b < d) = false := by simpa using hl
    go_enter Try.func12, Try.ntmps12
    go_wp2_with (go_at_call 30; (with_reducible refine (within_any _ _ _ _).mono ?_); rintro e w' ⟨rfl, rfl⟩)
    go_ret
    exact ⟨ret_bool (by simp [isRace, hD, hB, hd]), (by repeat (first | (with_reducible assumption) | (with_reducible exact Below.refl _ _) | (with_reducible refine Below.drew ?_) | (with_reducible refine blw_al ?_ _) | (with_reducible refine blw_stp (by with_reducible assumption) ?_) | (with_reducible refine blw_set ?_ (by dsimp only; omega) _)))⟩

set_option maxHeartbeats 800000 in
theorem sIsRace_any (d b : Int) (w : World) :
    Calls Try.prog 10 #[.agg #[.int .i64 d, .int .i64 b]] w fun e w' => e = .returned (.bool (isRace d b)) ∧ Below w.heap.size w w' := by
  cases hD : inR d 50 2000
  · skip
    go_enter Try.func10, Try.ntmps10
    go_wp2_with (go_at_call 29; (with_reducible refine (l01In_any _ _ _ _).mono ?_); rintro e w' ⟨rfl, rfl⟩)
    go_ret
    exact ⟨ret_bool (by simp [isRace, hD]), (by repeat (first | (with_reducible assumption) | (with_reducible exact Below.refl _ _) | (with_reducible refine Below.drew ?_) | (with_reducible refine blw_al ?_ _) | (with_reducible refine blw_stp (by with_reducible assumption) ?_) | (with_reducible refine blw_set ?_ (by dsimp only; omega) _)))⟩
  cases hB : inR b 10 200
  · skip
    go_enter Try.func10, Try.ntmps10
    go_wp2_with (go_at_call 29; (with_reducible refine (l01In_any _ _ _ _).mono ?_); rintro e w' ⟨rfl, rfl⟩)
    go_ret
    exact ⟨ret_bool (by simp [isRace, hD, hB]), (by repeat (first | (with_reducible assumption) | (with_reducible exact Below.refl _ _) | (with_reducible refine Below.drew ?_) | (with_reducible refine blw_al ?_ _) | (with_reducible refine blw_stp (by with_reducible assumption) ?_) | (with_reducible refine blw_set ?_ (by dsimp only; omega) _)))⟩
  by_cases hl : b < d
  · have hd : decide (b < d) = true := by simpa using hl
    go_enter Try.func10, Try.ntmps10
    go_wp2_with (go_at_call 29; (with_reducible refine (l01In_any _ _ _ _).mono ?_); rintro e w' ⟨rfl, rfl⟩)
    go_ret
    exact ⟨ret_bool (by simp [isRace, hD, hB, hd]), (by repeat (first | (with_reducible assumption) | (with_reducible exact Below.refl _ _) | (with_reducible refine Below.drew ?_) | (with_reducible refine blw_al ?_ _) | (with_reducible refine blw_stp (by with_reducible assumption) ?_) | (with_reducible refine blw_set ?_ (by dsimp only; omega) _)))⟩
  · have hd : decide (b < d) = false := by simpa using hl
    go_enter Try.func10, Try.ntmps10
    go_wp2_with (go_at_call 29; (with_reducible refine (l01In_any _ _ _ _).mono ?_); rintro e w' ⟨rfl, rfl⟩)
    go_ret
    exact ⟨ret_bool (by simp [isRace, hD, hB, hd]), (by repeat (first | (with_reducible assumption) | (with_reducible exact Below.refl _ _) | (with_reducible refine Below.drew ?_) | (with_reducible refine blw_al ?_ _) | (with_reducible refine blw_stp (by with_reducible assumption) ?_) | (with_reducible refine blw_set ?_ (by dsimp only; omega) _)))⟩

set_option maxHeartbeats 800000 in
theorem toRace_any (d b : Int) (w : World) :
    Calls Try.prog 11 #[.agg #[.int .i64 d, .int .i64 b]] w fun e w' => e = .returned (.agg #[.int .i64 d, .int .i64 b]) ∧ Below w.heap.size w w' := by
  go_enter Try.func11, Try.ntmps11
  go_wp2
  refine bodyPost_ret (v := .agg #[.int .i64 d, .int .i64 b]) (by simp [results, Try.results11, go_sem]) rfl ⟨rfl, ?_⟩
  go_grown
set_option maxHeartbeats 800000 in
theorem FnExactIsRace_walk (d b : Int) (w : World) :
    Calls Try.prog 3 #[.agg #[.int .i64 d, .int .i64 b]] w fun e w' => e = .returned (.bool true) ∧ Below w.heap.size w w' := by
  go_enter Try.func3, Try.ntmps3
  go_wp2_with (first | (go_at_call 11; (with_reducible refine (toRace_any _ _ _).mono ?_); rintro e w' ⟨rfl, hb⟩; obtain ⟨hc, hf⟩ := bcell hb; have hz := hb.size; (try simp only [World.size_alloc, World.size_drew] at hz); (try have hz0 : w.heap.size < w'.heap.size := by omega); (try have hz1 : w.heap.size + 1 < w'.heap.size := by omega)) | (go_at_call 12; (with_reducible refine (IsRace_any _ _ _).mono ?_); rintro e w' ⟨rfl, hb⟩; obtain ⟨hc, hf⟩ := bcell hb; have hz := hb.size; (try simp only [World.size_alloc, World.size_drew] at hz); (try have hz0 : w.heap.size < w'.heap.size := by omega); (try have hz1 : w.heap.size + 1 < w'.heap.size := by omega)) | (go_at_call 10; (with_reducible refine (sIsRace_any _ _ _).mono ?_); rintro e w' ⟨rfl, hb⟩; obtain ⟨hc, hf⟩ := bcell hb; have hz := hb.size; (try simp only [World.size_alloc, World.size_drew] at hz); (try have hz0 : w.heap.size < w'.heap.size := by omega); (try have hz1 : w.heap.size + 1 < w'.heap.size := by omega)))
  go_ret
  exact ⟨rfl, (by repeat (first | (with_reducible assumption) | (with_reducible exact Below.refl _ _) | (with_reducible refine Below.drew ?_) | (with_reducible refine blw_al ?_ _) | (with_reducible refine blw_stp (by with_reducible assumption) ?_) | (with_reducible refine blw_set ?_ (by dsimp only; omega) _)))⟩

end Go.Proofs.Ythmimkllnjkhaaa
