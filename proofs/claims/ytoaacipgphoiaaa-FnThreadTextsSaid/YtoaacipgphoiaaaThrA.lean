/- Contracts of the small functions on threads, of the program and of the reference. -/
import Derived.Test.YtoaacipgphoiaaaCeil
import Derived.Handy
import Derived.Deep.QuietTactic
import Derived.BigQuiet
import Derived.Deep.RegionHeld3
set_option linter.unusedSimpArgs false
set_option linter.unusedVariables false
namespace Go.Proofs.Ytoaacipgphoiaaa
open Go.RowKit

def isThr (d p : Int) : Bool := inR d 10 1000 && inR p 20 500
theorem isThr_bd {d p : Int} (h : isThr d p = true) : 10 ≤ d ∧ d ≤ 1000 ∧ 20 ≤ p ∧ p ≤ 500 := by
  simp only [isThr, Bool.and_eq_true, inR_iff] at h
  omega
/-- The first reason for which two threads do not fit. -/
def misfitT (d p : Int) (lf inn : Bool) (d' p' : Int) (lf' inn' : Bool) : ByteArray :=
  if d = d' then (if p = p' then (if lf = lf' then (if inn = inn' then ⟨#[115, 105, 100, 101]⟩ else ⟨#[]⟩) else ⟨#[104, 97, 110, 100]⟩) else ⟨#[112, 105, 116, 99, 104]⟩) else ⟨#[100, 105, 97, 109, 101, 116, 101, 114]⟩

set_option maxHeartbeats 800000 in
theorem isThreadDiameter_any (n : Int) (w : World) :
    Calls Try.prog 41 #[.int .i64 n] w fun e w' => e = .returned (.bool (inR n 10 1000)) ∧ w = w' := by
  go_enter Try.func41, Try.ntmps41
  go_wp2_with (first | (go_at_call 46; (with_reducible refine (within_any _ _ _ _).mono ?_); rintro e w' ⟨rfl, rfl⟩))
  go_ret
  exact ⟨rfl, rfl⟩

set_option maxHeartbeats 800000 in
theorem isThreadPitch_any (n : Int) (w : World) :
    Calls Try.prog 42 #[.int .i64 n] w fun e w' => e = .returned (.bool (inR n 20 500)) ∧ w = w' := by
  go_enter Try.func42, Try.ntmps42
  go_wp2_with (first | (go_at_call 46; (with_reducible refine (within_any _ _ _ _).mono ?_); rintro e w' ⟨rfl, rfl⟩))
  go_ret
  exact ⟨rfl, rfl⟩

set_option maxHeartbeats 800000 in
theorem IsThread_any (d p : Int) (lf inn : Bool) (w : World) :
    Calls Try.prog 15 #[.agg #[.int .i64 d, .int .i64 p, .bool lf, .bool inn]] w fun e w' => e = .returned (.bool (isThr d p)) ∧ Below w.heap.size w w' := by
  go_enter Try.func15, Try.ntmps15
  go_wp2_with (first | (go_at_call 41; (with_reducible refine (isThreadDiameter_any _ _).mono ?_); rintro e w' ⟨rfl, rfl⟩) | (go_at_call 42; (with_reducible refine (isThreadPitch_any _ _).mono ?_); rintro e w' ⟨rfl, rfl⟩))
  all_goals
    go_ret
    exact ⟨ret_bool (by simp [isThr, *]), (by repeat (first | (with_reducible assumption) | (with_reducible exact Below.refl _ _) | (with_reducible refine Below.drew ?_) | (with_reducible refine blw_al ?_ _) | (with_reducible refine blw_stp (by with_reducible assumption) ?_) | (with_reducible refine blw_set ?_ (by dsimp only; omega) _)))⟩

set_option maxHeartbeats 800000 in
theorem sIsThread_any (d p : Int) (lf inn : Bool) (w : World) :
    Calls Try.prog 13 #[.agg #[.int .i64 d, .int .i64 p, .bool lf, .bool inn]] w fun e w' => e = .returned (.bool (isThr d p)) ∧ Below w.heap.size w w' := by
  go_enter Try.func13, Try.ntmps13
  go_wp2_with (first | (go_at_call 40; (with_reducible refine (l01In_any _ _ _ _).mono ?_); rintro e w' ⟨rfl, rfl⟩))
  all_goals
    go_ret
    exact ⟨ret_bool (by simp [isThr, *]), (by repeat (first | (with_reducible assumption) | (with_reducible exact Below.refl _ _) | (with_reducible refine Below.drew ?_) | (with_reducible refine blw_al ?_ _) | (with_reducible refine blw_stp (by with_reducible assumption) ?_) | (with_reducible refine blw_set ?_ (by dsimp only; omega) _)))⟩

set_option maxHeartbeats 800000 in
theorem toThread_any (d p : Int) (lf inn : Bool) (w : World) :
    Calls Try.prog 14 #[.agg #[.int .i64 d, .int .i64 p, .bool lf, .bool inn]] w fun e w' => e = .returned (.agg #[.int .i64 d, .int .i64 p, .bool lf, .bool inn]) ∧ Below w.heap.size w w' := by
  go_enter Try.func14, Try.ntmps14
  go_wp2
  refine bodyPost_ret (v := .agg #[.int .i64 d, .int .i64 p, .bool lf, .bool inn]) (by simp [results, Try.results14, go_sem]) rfl ⟨rfl, ?_⟩
  go_grown

set_option maxHeartbeats 800000 in
theorem l14Partner_any (d p : Int) (lf inn : Bool) (w : World) :
    Calls Try.prog 43 #[.agg #[.int .i64 d, .int .i64 p, .bool lf, .bool inn]] w fun e w' => e = .returned (.agg #[.int .i64 d, .int .i64 p, .bool lf, .bool (!inn)]) ∧ Below w.heap.size w w' := by
  go_enter Try.func43, Try.ntmps43
  go_wp2
  refine bodyPost_ret (v := .agg #[.int .i64 d, .int .i64 p, .bool lf, .bool (!inn)]) (by simp [results, Try.results43, go_sem]) rfl ⟨rfl, ?_⟩
  go_grown

set_option maxHeartbeats 800000 in
theorem misfit_any (d p : Int) (lf inn : Bool) (d' p' : Int) (lf' inn' : Bool) (w : World) :
    Calls Try.prog 44 #[.agg #[.int .i64 d, .int .i64 p, .bool lf, .bool inn], .agg #[.int .i64 d', .int .i64 p', .bool lf', .bool inn']] w fun e w' => e = .returned (.string (misfitT d p lf inn d' p' lf' inn')) ∧ Below w.heap.size w w' := by
  by_cases hd : d = d'
  · subst hd
    by_cases hp : p = p'
    · subst hp
      by_cases hl : lf = lf'
      · subst hl
        by_cases hi : inn = inn'
        · subst hi
          go_enter Try.func44, Try.ntmps44
          go_wp2
          go_ret
          exact ⟨by simp [misfitT], (by repeat (first | (with_reducible assumption) | (with_reducible exact Below.refl _ _) | (with_reducible refine Below.drew ?_) | (with_reducible refine blw_al ?_ _) | (with_reducible refine blw_stp (by with_reducible assumption) ?_) | (with_reducible refine blw_set ?_ (by dsimp only; omega) _)))⟩
        · skip
          have n1_hi : (inn == inn') = false := by simpa using hi
          have n2_hi : (inn != inn') = true := by simpa using hi
          go_enter Try.func44, Try.ntmps44
          go_wp2
          go_ret
          exact ⟨by simp [misfitT, hi], (by repeat (first | (with_reducible assumption) | (with_reducible exact Below.refl _ _) | (with_reducible refine Below.drew ?_) | (with_reducible refine blw_al ?_ _) | (with_reducible refine blw_stp (by with_reducible assumption) ?_) | (with_reducible refine blw_set ?_ (by dsimp only; omega) _)))⟩
      · skip
        have n1_hl : (lf == lf') = false := by simpa using hl
        have n2_hl : (lf != lf') = true := by simpa using hl
        go_enter Try.func44, Try.ntmps44
        go_wp2
        go_ret
        exact ⟨by simp [misfitT, hl], (by repeat (first | (with_reducible assumption) | (with_reducible exact Below.refl _ _) | (with_reducible refine Below.drew ?_) | (with_reducible refine blw_al ?_ _) | (with_reducible refine blw_stp (by with_reducible assumption) ?_) | (with_reducible refine blw_set ?_ (by dsimp only; omega) _)))⟩
    · skip
      have n1_hp : (p == p') = false := by simpa using hp
      have n2_hp : (p != p') = true := by simpa using hp
      go_enter Try.func44, Try.ntmps44
      go_wp2
      go_ret
      exact ⟨by simp [misfitT, hp], (by repeat (first | (with_reducible assumption) | (with_reducible exact Below.refl _ _) | (with_reducible refine Below.drew ?_) | (with_reducible refine blw_al ?_ _) | (with_reducible refine blw_stp (by with_reducible assumption) ?_) | (with_reducible refine blw_set ?_ (by dsimp only; omega) _)))⟩
  · skip
    have n1_hd : (d == d') = false := by simpa using hd
    have n2_hd : (d != d') = true := by simpa using hd
    go_enter Try.func44, Try.ntmps44
    go_wp2
    go_ret
    exact ⟨by simp [misfitT, hd], (by repeat (first | (with_reducible assumption) | (with_reducible exact Below.refl _ _) | (with_reducible refine Below.drew ?_) | (with_reducible refine blw_al ?_ _) | (with_reducible refine blw_stp (by with_reducible assumption) ?_) | (with_reducible refine blw_set ?_ (by dsimp only; omega) _)))⟩

set_option maxHeartbeats 800000 in
theorem eqThread_same (d p : Int) (lf inn : Bool) (w : World) :
    Calls Try.prog 22 #[.agg #[.int .i64 d, .int .i64 p, .bool lf, .bool inn], .agg #[.int .i64 d, .int .i64 p, .bool lf, .bool inn]] w fun e w' => e = .returned (.bool true) ∧ Below w.heap.size w w' := by
  go_enter Try.func22, Try.ntmps22
  go_wp2
  go_ret
  exact ⟨rfl, (by repeat (first | (with_reducible assumption) | (with_reducible exact Below.refl _ _) | (with_reducible refine Below.drew ?_) | (with_reducible refine blw_al ?_ _) | (with_reducible refine blw_stp (by with_reducible assumption) ?_) | (with_reducible refine blw_set ?_ (by dsimp only; omega) _)))⟩

end Go.Proofs.Ytoaacipgphoiaaa
