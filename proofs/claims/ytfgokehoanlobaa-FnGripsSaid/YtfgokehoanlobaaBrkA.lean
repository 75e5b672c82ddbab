/- Contracts of the functions on brakes, of the program and of the reference, below the exported ones. -/
import Derived.Test.YtfgokehoanlobaaBrkPlain
import Derived.Handy
import Derived.Deep.QuietTactic
import Derived.BigQuiet
import Derived.Deep.RegionHeld3
namespace Go.Proofs.Ytfgokehoanlobaa
open Go.RowKit

set_option maxHeartbeats 400000 in
theorem isForce_any (n : Int) (w : World) :
    Calls Try.prog 45 #[.int .i64 n] w fun e w' => e = .returned (.bool (inR n 0 1000)) ∧ w = w' := by
  go_enter Try.func45, Try.ntmps45
  go_wp2_with (go_at_call 42; refine (within_any _ _ _ _).mono ?_; rintro e w' ⟨rfl, rfl⟩)
  go_ret
  exact ⟨rfl, rfl⟩
set_option maxHeartbeats 400000 in
theorem isGap_any (n : Int) (w : World) :
    Calls Try.prog 50 #[.int .i64 n] w fun e w' => e = .returned (.bool (inR n 0 5000)) ∧ w = w' := by
  go_enter Try.func50, Try.ntmps50
  go_wp2_with (go_at_call 42; refine (within_any _ _ _ _).mono ?_; rintro e w' ⟨rfl, rfl⟩)
  go_ret
  exact ⟨rfl, rfl⟩
set_option maxHeartbeats 400000 in
theorem isGrip_any (n : Int) (w : World) :
    Calls Try.prog 52 #[.int .i64 n] w fun e w' => e = .returned (.bool (inR n 0 100000)) ∧ w = w' := by
  go_enter Try.func52, Try.ntmps52
  go_wp2_with (go_at_call 42; refine (within_any _ _ _ _).mono ?_; rintro e w' ⟨rfl, rfl⟩)
  go_ret
  exact ⟨rfl, rfl⟩
set_option maxHeartbeats 400000 in
theorem isTravel_any (n : Int) (w : World) :
    Calls Try.prog 55 #[.int .i64 n] w fun e w' => e = .returned (.bool (inR n 0 1000000)) ∧ w = w' := by
  go_enter Try.func55, Try.ntmps55
  go_wp2_with (go_at_call 42; refine (within_any _ _ _ _).mono ?_; rintro e w' ⟨rfl, rfl⟩)
  go_ret
  exact ⟨rfl, rfl⟩

set_option maxHeartbeats 800000 in
theorem IsBrake_any (l a t s : Int) (w : World) :
    Calls Try.prog 16 #[.agg #[.int .i64 l, .int .i64 a, .int .i64 t, .int .i64 s]] w fun e w' => e = .returned (.bool (isBrk l a t s)) ∧ Below w.heap.size w w' := by
  go_enter Try.func16, Try.ntmps16
  go_wp2_with (go_at_call 42; refine (within_any _ _ _ _).mono ?_; rintro e w' ⟨rfl, rfl⟩)
  all_goals
    go_ret
    exact ⟨ret_bool (by simp [isBrk, *]), (Below.refl _ _).alloc (Nat.le_refl _) _⟩

set_option maxHeartbeats 800000 in
theorem sIsBrake_any (l a t s : Int) (w : World) :
    Calls Try.prog 14 #[.agg #[.int .i64 l, .int .i64 a, .int .i64 t, .int .i64 s]] w fun e w' => e = .returned (.bool (isBrk l a t s)) ∧ Below w.heap.size w w' := by
  go_enter Try.func14, Try.ntmps14
  go_wp2_with (go_at_call 41; refine (l01In_any _ _ _ _).mono ?_; rintro e w' ⟨rfl, rfl⟩)
  all_goals
    go_ret
    exact ⟨ret_bool (by simp [isBrk, *]), (Below.refl _ _).alloc (Nat.le_refl _) _⟩

set_option maxHeartbeats 400000 in
theorem toBrake_any (l a t s : Int) (w : World) :
    Calls Try.prog 15 #[.agg #[.int .i64 l, .int .i64 a, .int .i64 t, .int .i64 s]] w fun e w' => e = .returned (.agg #[.int .i64 l, .int .i64 a, .int .i64 t, .int .i64 s]) ∧ Below w.heap.size w w' := by
  go_enter Try.func15, Try.ntmps15
  go_wp2
  refine bodyPost_ret (v := .agg #[.int .i64 l, .int .i64 a, .int .i64 t, .int .i64 s]) (by simp [results, Try.results15, go_sem]) rfl ⟨rfl, ?_⟩
  go_grown

set_option maxHeartbeats 400000 in
theorem pullOf_any (l a t s f : Int) (w : World) (h1 : 100 ≤ l) (h2 : l ≤ 1000) (h3 : 0 ≤ f) (h4 : f ≤ 1000) :
    Calls Try.prog 46 #[.agg #[.int .i64 l, .int .i64 a, .int .i64 t, .int .i64 s], .int .i64 f] w fun e w' => e = .returned (.int .i64 (pull l f)) ∧ Below w.heap.size w w' := by
  obtain ⟨b1, b2⟩ := mul_bd 1000000 h3 h4 (by omega : 0 ≤ l) h2 (by decide)
  go_enter Try.func46, Try.ntmps46
  go_wp2
  go_ret
  exact ⟨ret_int (by unfold pull; rfl), (Below.refl _ _).alloc (Nat.le_refl _) _⟩
set_option maxHeartbeats 400000 in
theorem l13Pull_any (l a t s f : Int) (w : World) (h1 : 100 ≤ l) (h2 : l ≤ 1000) (h3 : 0 ≤ f) (h4 : f ≤ 1000) :
    Calls Try.prog 44 #[.agg #[.int .i64 l, .int .i64 a, .int .i64 t, .int .i64 s], .int .i64 f] w fun e w' => e = .returned (.int .i64 (pull l f)) ∧ Below w.heap.size w w' := by
  obtain ⟨b1, b2⟩ := mul_bd 1000000 h3 h4 (by omega : 0 ≤ l) h2 (by decide)
  go_enter Try.func44, Try.ntmps44
  go_wp2
  go_ret
  exact ⟨ret_int (by unfold pull; rfl), (Below.refl _ _).alloc (Nat.le_refl _) _⟩
end Go.Proofs.Ytfgokehoanlobaa
