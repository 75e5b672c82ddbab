/- The walks of the exact laws on SpreadOfBalls, NeededTolerance and CountSets. -/
import Derived.Test.YthmimkllnjkhaaaBalC
import Derived.Test.YthmimkllnjkhaaaIntsB
import Derived.Test.YthmimkllnjkhaaaIntsT
set_option linter.unusedSimpArgs false
set_option linter.unusedVariables false
namespace Go.Proofs.Ythmimkllnjkhaaa
open Go.RowKit

set_option maxHeartbeats 800000 in
theorem FnExactSpreadOfBalls_walk (v : Value) (xs : List Int)  (w : World) (hr : RdI w v xs) :
    Calls Try.prog 4 #[v] w fun e w' => e = .returned (.bool true) ∧ Below w.heap.size w w' := by
  by_cases hn : xs.length ≤ 1048576
  · obtain ⟨a, c, rfl, hr2⟩ := hr.shape
    have HRa := Lib.hid hr2
    clear hr2
    have hn' : ¬ (1048576 : Int) < (xs.length : Int) := by omega
    go_enter Try.func4, Try.ntmps4
    have T0 := Below.refl w.heap.size w
    have hz0 : w.heap.size ≤ w.heap.size := Nat.le_refl _
    go_wp2_with fail
    (with_reducible refine (toInt64S_any _ xs _ HRa.out hn).mono ?_)
    rintro e w1 ⟨rfl, ho1, hb1⟩
    have T1 := T0.trans (hb1.mono T0.size)
    have hz1 := hb1.size
    have Ra_1 := Lib.hid (HRa.out.below hb1)
    have Rs_1 := Lib.hid (ho1.rd)
    go_wp2_with fail
    (with_reducible refine (sSpread_any _ xs _ Rs_1.out hn).mono ?_)
    rintro e w2 ⟨rfl, hb2⟩
    have T2 := T1.trans (hb2.mono T1.size)
    have hz2 := hb2.size
    have Ra_2 := Lib.hid (Ra_1.out.below hb2)
    clear Ra_1 Rs_1
    go_wp2_with fail
    (with_reducible refine (toInt64S_any _ xs _ Ra_2.out hn).mono ?_)
    rintro e w3 ⟨rfl, ho3, hb3⟩
    have T3 := T2.trans (hb3.mono T2.size)
    have hz3 := hb3.size
    have Ra_3 := Lib.hid (Ra_2.out.below hb3)
    clear Ra_2
    have Rx_3 := Lib.hid (ho3.rd)
    go_wp2_with fail
    (with_reducible refine (Spread_any _ xs _ Rx_3.out hn).mono ?_)
    rintro e w4 ⟨rfl, hb4⟩
    have T4 := T3.trans (hb4.mono T3.size)
    have hz4 := hb4.size
    have Ra_4 := Lib.hid (Ra_3.out.below hb4)
    have Rx_4 := Lib.hid (Rx_3.out.below hb4)
    clear Ra_3
    go_wp2_with fail
    (with_reducible refine (toInt64S_any _ xs _ Ra_4.out hn).mono ?_)
    rintro e w5 ⟨rfl, ho5, hb5⟩
    have T5 := T4.trans (hb5.mono T4.size)
    have hz5 := hb5.size
    have Ra_5 := Lib.hid (Ra_4.out.below hb5)
    have Rx_5 := Lib.hid (Rx_4.out.below hb5)
    clear Ra_4 Rx_4
    have Ry_5 := Lib.hid (ho5.rd)
    go_wp2_with fail
    (with_reducible refine (eqInt64S_same _ _ xs _ Rx_5.out Ry_5.out hn).mono ?_)
    rintro e w6 ⟨rfl, hb6⟩
    have T6 := T5.trans (hb6.mono T5.size)
    have hz6 := hb6.size
    clear Ra_5 Rx_5 Ry_5
    go_wp2
    go_ret
    exact ⟨rfl, T6⟩
  · obtain ⟨a, c, rfl, _⟩ := hr
    have hn' : 1048576 < xs.length := by omega
    go_enter Try.func4, Try.ntmps4
    go_wp2
    go_ret
    exact ⟨rfl, Below.refl _ _⟩

set_option maxHeartbeats 800000 in
theorem FnExactNeededTolerance_walk (v : Value) (xs : List Int) (n : Int) (w : World) (hr : RdI w v xs) :
    Calls Try.prog 5 #[v, .int .i64 n] w fun e w' => e = .returned (.bool true) ∧ Below w.heap.size w w' := by
  by_cases hn : xs.length ≤ 1048576
  · obtain ⟨a, c, rfl, hr2⟩ := hr.shape
    have HRa := Lib.hid hr2
    clear hr2
    have hn' : ¬ (1048576 : Int) < (xs.length : Int) := by omega
    go_enter Try.func5, Try.ntmps5
    have T0 := Below.refl w.heap.size w
    have hz0 : w.heap.size ≤ w.heap.size := Nat.le_refl _
    go_wp2_with fail
    (with_reducible refine (toInt64S_any _ xs _ HRa.out hn).mono ?_)
    rintro e w1 ⟨rfl, ho1, hb1⟩
    have T1 := T0.trans (hb1.mono T0.size)
    have hz1 := hb1.size
    have Ra_1 := Lib.hid (HRa.out.below hb1)
    have Rs_1 := Lib.hid (ho1.rd)
    go_wp2_with fail
    (with_reducible refine (sNeed_any _ xs _ _ Rs_1.out hn).mono ?_)
    rintro e w2 ⟨rfl, hb2⟩
    have T2 := T1.trans (hb2.mono T1.size)
    have hz2 := hb2.size
    have Ra_2 := Lib.hid (Ra_1.out.below hb2)
    clear Ra_1 Rs_1
    go_wp2_with fail
    (with_reducible refine (toInt64S_any _ xs _ Ra_2.out hn).mono ?_)
    rintro e w3 ⟨rfl, ho3, hb3⟩
    have T3 := T2.trans (hb3.mono T2.size)
    have hz3 := hb3.size
    have Ra_3 := Lib.hid (Ra_2.out.below hb3)
    clear Ra_2
    have Rx_3 := Lib.hid (ho3.rd)
    go_wp2_with fail
    (with_reducible refine (Need_any _ xs _ _ Rx_3.out hn).mono ?_)
    rintro e w4 ⟨rfl, hb4⟩
    have T4 := T3.trans (hb4.mono T3.size)
    have hz4 := hb4.size
    have Ra_4 := Lib.hid (Ra_3.out.below hb4)
    have Rx_4 := Lib.hid (Rx_3.out.below hb4)
    clear Ra_3
    go_wp2_with fail
    (with_reducible refine (toInt64S_any _ xs _ Ra_4.out hn).mono ?_)
    rintro e w5 ⟨rfl, ho5, hb5⟩
    have T5 := T4.trans (hb5.mono T4.size)
    have hz5 := hb5.size
    have Ra_5 := Lib.hid (Ra_4.out.below hb5)
    have Rx_5 := Lib.hid (Rx_4.out.below hb5)
    clear Ra_4 Rx_4
    have Ry_5 := Lib.hid (ho5.rd)
    go_wp2_with fail
    (with_reducible refine (eqInt64S_same _ _ xs _ Rx_5.out Ry_5.out hn).mono ?_)
    rintro e w6 ⟨rfl, hb6⟩
    have T6 := T5.trans (hb6.mono T5.size)
    have hz6 := hb6.size
    clear Ra_5 Rx_5 Ry_5
    go_wp2
    go_ret
    exact ⟨rfl, T6⟩
  · obtain ⟨a, c, rfl, _⟩ := hr
    have hn' : 1048576 < xs.length := by omega
    go_enter Try.func5, Try.ntmps5
    go_wp2
    go_ret
    exact ⟨rfl, Below.refl _ _⟩

set_option maxHeartbeats 800000 in
theorem FnExactCountSets_walk (v : Value) (xs : List Int) (n tol : Int) (w : World) (hr : RdI w v xs) :
    Calls Try.prog 6 #[v, .int .i64 n, .int .i64 tol] w fun e w' => e = .returned (.bool true) ∧ Below w.heap.size w w' := by
  by_cases hn : xs.length ≤ 1048576
  · obtain ⟨a, c, rfl, hr2⟩ := hr.shape
    have HRa := Lib.hid hr2
    clear hr2
    have hn' : ¬ (1048576 : Int) < (xs.length : Int) := by omega
    go_enter Try.func6, Try.ntmps6
    have T0 := Below.refl w.heap.size w
    have hz0 : w.heap.size ≤ w.heap.size := Nat.le_refl _
    go_wp2_with fail
    (with_reducible refine (toInt64S_any _ xs _ HRa.out hn).mono ?_)
    rintro e w1 ⟨rfl, ho1, hb1⟩
    have T1 := T0.trans (hb1.mono T0.size)
    have hz1 := hb1.size
    have Ra_1 := Lib.hid (HRa.out.below hb1)
    have Rs_1 := Lib.hid (ho1.rd)
    go_wp2_with fail
    (with_reducible refine (sCount_any _ xs _ _ _ Rs_1.out hn).mono ?_)
    rintro e w2 ⟨rfl, hb2⟩
    have T2 := T1.trans (hb2.mono T1.size)
    have hz2 := hb2.size
    have Ra_2 := Lib.hid (Ra_1.out.below hb2)
    clear Ra_1 Rs_1
    go_wp2_with fail
    (with_reducible refine (toInt64S_any _ xs _ Ra_2.out hn).mono ?_)
    rintro e w3 ⟨rfl, ho3, hb3⟩
    have T3 := T2.trans (hb3.mono T2.size)
    have hz3 := hb3.size
    have Ra_3 := Lib.hid (Ra_2.out.below hb3)
    clear Ra_2
    have Rx_3 := Lib.hid (ho3.rd)
    go_wp2_with fail
    (with_reducible refine (Count_any _ xs _ _ _ Rx_3.out hn).mono ?_)
    rintro e w4 ⟨rfl, hb4⟩
    have T4 := T3.trans (hb4.mono T3.size)
    have hz4 := hb4.size
    have Ra_4 := Lib.hid (Ra_3.out.below hb4)
    have Rx_4 := Lib.hid (Rx_3.out.below hb4)
    clear Ra_3
    go_wp2_with fail
    (with_reducible refine (toInt64S_any _ xs _ Ra_4.out hn).mono ?_)
    rintro e w5 ⟨rfl, ho5, hb5⟩
    have T5 := T4.trans (hb5.mono T4.size)
    have hz5 := hb5.size
    have Ra_5 := Lib.hid (Ra_4.out.below hb5)
    have Rx_5 := Lib.hid (Rx_4.out.below hb5)
    clear Ra_4 Rx_4
    have Ry_5 := Lib.hid (ho5.rd)
    go_wp2_with fail
    (with_reducible refine (eqInt64S_same _ _ xs _ Rx_5.out Ry_5.out hn).mono ?_)
    rintro e w6 ⟨rfl, hb6⟩
    have T6 := T5.trans (hb6.mono T5.size)
    have hz6 := hb6.size
    clear Ra_5 Rx_5 Ry_5
    go_wp2
    go_ret
    exact ⟨rfl, T6⟩
  · obtain ⟨a, c, rfl, _⟩ := hr
    have hn' : 1048576 < xs.length := by omega
    go_enter Try.func6, Try.ntmps6
    go_wp2
    go_ret
    exact ⟨rfl, Below.refl _ _⟩

end Go.Proofs.Ythmimkllnjkhaaa
