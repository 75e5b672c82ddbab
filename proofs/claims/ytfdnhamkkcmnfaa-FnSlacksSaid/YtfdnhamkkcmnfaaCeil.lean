/- Contracts of ceilDiv, l01Floor, l01Ceil where the numerator is at least 0 and the divisor at least 1, both at most 10^15. -/
import Derived.Test.YtfdnhamkkcmnfaaNum
namespace Go.Proofs.Ytfdnhamkkcmnfaa
open Go.RowKit

/-- a divided by b, rounded up. -/
def cdiv (a b : Int) : Int := (a + b - 1) / b

set_option maxHeartbeats 400000 in
theorem ceilDiv_any (a b : Int) (w : World) (ha : 0 ≤ a) (hb : 1 ≤ b) (ha' : a ≤ 1000000000000000) (hb' : b ≤ 1000000000000000) :
    Calls Try.prog 112 #[.int .i64 a, .int .i64 b] w fun e w' => e = .returned (.int .i64 (cdiv a b)) ∧ w = w' := by
  go_enter Try.func112, Try.ntmps112
  go_wp2
  go_ret
  exact ⟨ret_int (by unfold cdiv; rfl), rfl⟩

set_option maxHeartbeats 400000 in
theorem l01Floor_any (a b : Int) (w : World) (ha : -1000000000000000 ≤ a) (hb : 1 ≤ b) (ha' : a ≤ 1000000000000000) (hb' : b ≤ 1000000000000000) :
    Calls Try.prog 113 #[.int .i64 a, .int .i64 b] w fun e w' => e = .returned (.int .i64 (a / b)) ∧ w = w' := by
  have hq : -1000000000000000 ≤ a.tdiv b ∧ a.tdiv b ≤ 1000000000000000 := by
    have h1 := Int.natAbs_tdiv_le_natAbs a b
    omega
  by_cases h : a.tmod b < 0
  · go_enter Try.func113, Try.ntmps113
    go_wp2
    go_ret
    exact ⟨ret_int (tdiv_floor_neg (by omega) h), rfl⟩
  · go_enter Try.func113, Try.ntmps113
    go_wp2
    go_ret
    exact ⟨ret_int (tdiv_floor_pos (by omega) (by omega)), rfl⟩

set_option maxHeartbeats 400000 in
theorem l01Ceil_any (a b : Int) (w : World) (ha : 0 ≤ a) (hb : 1 ≤ b) (ha' : a ≤ 1000000000000000) (hb' : b ≤ 1000000000000000) :
    Calls Try.prog 111 #[.int .i64 a, .int .i64 b] w fun e w' => e = .returned (.int .i64 (cdiv a b)) ∧ w = w' := by
  have hq : -1000000000000000 ≤ -a / b ∧ -a / b ≤ 0 := by
    have h2 := Int.ediv_mul_le (-a) (Int.ne_of_gt (show 0 < b by omega))
    constructor
    · exact (Int.le_ediv_iff_mul_le (by omega)).2 (by omega)
    · have := (Int.ediv_lt_iff_lt_mul (a := -a) (b := 1) (show 0 < b by omega)).2 (by omega)
      omega
  obtain ⟨hq1, hq2⟩ := hq
  go_enter Try.func111, Try.ntmps111
  go_wp2_with fail
  refine (l01Floor_any _ _ _ (by omega) (by omega) (by omega) (by omega)).mono ?_
  rintro e w' ⟨rfl, rfl⟩
  go_wp2_with fail
  go_ret
  exact ⟨ret_int (neg_floor_neg (by omega)), rfl⟩
end Go.Proofs.Ytfdnhamkkcmnfaa
