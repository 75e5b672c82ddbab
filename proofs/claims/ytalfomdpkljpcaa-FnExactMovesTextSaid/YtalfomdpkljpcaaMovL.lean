/- The walk of the exact law on MovesText. -/
import Derived.Test.YtalfomdpkljpcaaMovA
set_option linter.unusedSimpArgs false
set_option linter.unusedVariables false
namespace Go.Proofs.Ytalfomdpkljpcaa
open Go.RowKit

set_option maxHeartbeats 800000 in
theorem FnExactMovesText_walk (v : Value) (xs : List Int) (w : World) (hr : RdI w v xs) :
    Calls Try.prog 3 #[v] w fun e w' => e = .returned (.bool true) ∧ Below w.heap.size w w' := by
  by_cases hn : xs.length ≤ 1048576
  · obtain ⟨a, c, rfl, hr2⟩ := hr.shape
    have HRa := Lib.hid hr2
    clear hr2
    have hn' : ¬ (1048576 : Int) < (xs.length : Int) := by omega
    go_enter Try.func3, Try.ntmps3
    go_wp2_with fail
    (with_reducible refine (toInt64S_any _ xs _ HRa.out hn).mono ?_)
    rintro e w1 ⟨rfl, ho1, hb1⟩
    have Ha_1 := Lib.hid (HRa.out.below hb1)
    have Hs_1 := Lib.hid (ho1.rd)
    clear HRa
    go_wp2_with fail
    (with_reducible refine (sMovesText_any _ xs _ Hs_1.out hn).mono ?_)
    rintro e w2 ⟨rfl, hb2⟩
    have Ha_2 := Lib.hid (Ha_1.out.below hb2)
    clear Ha_1 Hs_1
    go_wp2_with fail
    (with_reducible refine (toInt64S_any _ xs _ Ha_2.out hn).mono ?_)
    rintro e w3 ⟨rfl, ho3, hb3⟩
    have Ha_3 := Lib.hid (Ha_2.out.below hb3)
    have Hx_3 := Lib.hid (ho3.rd)
    clear Ha_2
    go_wp2_with fail
    (with_reducible refine (MovesText_any _ xs _ Hx_3.out hn).mono ?_)
    rintro e w4 ⟨rfl, hb4⟩
    have Ha_4 := Lib.hid (Ha_3.out.below hb4)
    have Hx_4 := Lib.hid (Hx_3.out.below hb4)
    clear Ha_3 Hx_3
    go_wp2_with fail
    (with_reducible refine (toInt64S_any _ xs _ Ha_4.out hn).mono ?_)
    rintro e w5 ⟨rfl, ho5, hb5⟩
    have Ha_5 := Lib.hid (Ha_4.out.below hb5)
    have Hx_5 := Lib.hid (Hx_4.out.below hb5)
    have Hy_5 := Lib.hid (ho5.rd)
    clear Ha_4 Hx_4
    go_wp2_with fail
    (with_reducible refine (eqInt64S_same _ _ xs _ Hx_5.out Hy_5.out hn).mono ?_)
    rintro e w6 ⟨rfl, hb6⟩
    clear Ha_5 Hx_5 Hy_5
    go_wp2
    go_ret
    exact ⟨rfl, (by repeat (first | (with_reducible assumption) | (with_reducible exact Below.refl _ _) | (with_reducible refine Below.drew ?_) | (with_reducible refine blw_al ?_ _) | (with_reducible refine blw_stp (by with_reducible assumption) ?_) | (with_reducible refine blw_set ?_ (by dsimp only; omega) _)))⟩
  · obtain ⟨a, c, rfl, _⟩ := hr
    have hn' : 1048576 < xs.length := by omega
    go_enter Try.func3, Try.ntmps3
    go_wp2
    go_ret
    exact ⟨rfl, Below.refl _ _⟩

end Go.Proofs.Ytalfomdpkljpcaa
