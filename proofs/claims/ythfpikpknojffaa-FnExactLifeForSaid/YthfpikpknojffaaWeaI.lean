/- The walk of the exact law on LifeFor. -/
import Derived.Test.YthfpikpknojffaaWeaH
set_option linter.unusedSimpArgs false
set_option linter.unusedVariables false
namespace Go.Proofs.Ythfpikpknojffaa
open Go.RowKit

set_option maxHeartbeats 800000 in
theorem FnExactLifeFor_walk (v : Value) (rs : List Rid) (life : Int) (w : World) (hr : RdRid w v rs) (hm : rs.length ≤ maxLen) :
    Calls Try.prog 9 #[v, .int .i64 life] w fun e w' => e = .returned (.bool true) ∧ Below w.heap.size w w' := by
  obtain ⟨a, c, rfl, hr2⟩ := hr.shape
  clear hr
  by_cases hn : rs.length ≤ 1048576
  · skip
    have HRa := Lib.hid hr2
    clear hr2
    have hn' : (rs.length : Int) ≤ 1048576 := by omega
    have hp' : ¬ (1048576 - (rs.length : Int)) < 0 := by omega
    go_enter Try.func9, Try.ntmps9
    have T0 := Below.refl w.heap.size w
    have hz0 : w.heap.size ≤ w.heap.size := Nat.le_refl _
    go_wp2_with fail
    (with_reducible refine (szRideS_yes _ _ _ _ _ hn' (by omega)).mono ?_)
    rintro e _ ⟨rfl, rfl⟩
    go_wp2_with fail
    (with_reducible refine (toRideS_any _ rs _ HRa.out hn).mono ?_)
    rintro e w1 ⟨rfl, ho1, hb1⟩
    have T1 := T0.trans (hb1.mono T0.size)
    have hz1 := hb1.size
    have Ra_1 := Lib.hid (HRa.out.below hb1)
    have Rs_1 := Lib.hid (ho1.rd)
    go_wp2_with fail
    (with_reducible refine (sLifeFor_any _ rs _ _ Rs_1.out hn).mono ?_)
    rintro e w2 ⟨rfl, hb2⟩
    have T2 := T1.trans (hb2.mono T1.size)
    have hz2 := hb2.size
    have Ra_2 := Lib.hid (Ra_1.out.below hb2)
    clear Ra_1 Rs_1
    go_wp2_with fail
    (with_reducible refine (toRideS_any _ rs _ Ra_2.out hn).mono ?_)
    rintro e w3 ⟨rfl, ho3, hb3⟩
    have T3 := T2.trans (hb3.mono T2.size)
    have hz3 := hb3.size
    have Ra_3 := Lib.hid (Ra_2.out.below hb3)
    clear Ra_2
    have Rx_3 := Lib.hid (ho3.rd)
    go_wp2_with fail
    (with_reducible refine (LifeFor_any _ rs _ _ Rx_3.out hn).mono ?_)
    rintro e w4 ⟨rfl, hb4⟩
    have T4 := T3.trans (hb4.mono T3.size)
    have hz4 := hb4.size
    have Ra_4 := Lib.hid (Ra_3.out.below hb4)
    have Rx_4 := Lib.hid (Rx_3.out.below hb4)
    clear Ra_3
    go_wp2_with fail
    (with_reducible refine (toRideS_any _ rs _ Ra_4.out hn).mono ?_)
    rintro e w5 ⟨rfl, ho5, hb5⟩
    have T5 := T4.trans (hb5.mono T4.size)
    have hz5 := hb5.size
    have Ra_5 := Lib.hid (Ra_4.out.below hb5)
    have Rx_5 := Lib.hid (Rx_4.out.below hb5)
    clear Ra_4 Rx_4
    have Ry_5 := Lib.hid (ho5.rd)
    go_wp2_with fail
    (with_reducible refine (eqRideS_same _ _ rs _ Rx_5.out Ry_5.out hn).mono ?_)
    rintro e w6 ⟨rfl, hb6⟩
    have T6 := T5.trans (hb6.mono T5.size)
    have hz6 := hb6.size
    clear Ra_5 Rx_5 Ry_5
    go_wp2
    go_ret
    exact ⟨rfl, T6⟩
  · have hn' : 1048576 < rs.length := by omega
    go_enter Try.func9, Try.ntmps9
    go_wp2_with fail
    (with_reducible refine (szRideS_no _ _ _ _ _ (by omega) (by omega) (by omega) hm).mono ?_)
    rintro e w1 ⟨rfl, rfl⟩
    go_wp2
    go_ret
    exact ⟨rfl, Below.refl _ _⟩

end Go.Proofs.Ythfpikpknojffaa
