/- The walk of the exact law on ReadMoves. -/
import Derived.Test.YtalfomdpkljpcaaMovC
set_option linter.unusedSimpArgs false
set_option linter.unusedVariables false
namespace Go.Proofs.Ytalfomdpkljpcaa
open Go.RowKit

theorem rmR_len (l : List UInt8) : (rmR l).1.length ≤ 1048576 := by
  unfold rmR
  split
  · simp
  · split
    · split
      · simp; omega
      · simp
    · simp
theorem sReadMoves_r (s : ByteArray) (w : World) (hs : s.size ≤ 1048576) (r : List Int × Int) (hr : r = rmR s.data.toList) : Calls Try.prog 11 #[.string s] w (RetI w r) := by rw [hr]; exact sReadMoves_any s w hs
theorem ReadMoves_r (s : ByteArray) (w : World) (hs : s.size ≤ 1048576) (r : List Int × Int) (hr : r = rmR s.data.toList) : Calls Try.prog 12 #[.string s] w (RetI w r) := by rw [hr]; exact ReadMoves_any s w hs

set_option maxHeartbeats 800000 in
theorem FnExactReadMoves_walk (s : ByteArray) (w : World) :
    Calls Try.prog 4 #[.string s] w fun e w' => e = .returned (.bool true) ∧ Below w.heap.size w w' := by
  by_cases hn : s.size ≤ 1048576
  · skip
    have hn' : ¬ (1048576 : Int) < (s.size : Int) := by omega
    have hl := rmR_len s.data.toList
    obtain ⟨r, hr⟩ : ∃ r, r = rmR s.data.toList := ⟨_, rfl⟩
    rw [← hr] at hl
    have HE := Lib.hid hr
    clear hr
    go_enter Try.func4, Try.ntmps4
    have T0 := Below.refl w.heap.size w
    have hz0 : w.heap.size ≤ w.heap.size := Nat.le_refl _
    go_wp2_with fail
    (with_reducible refine (sReadMoves_r s _ hn r HE.out).mono ?_)
    rintro e w1 ⟨v1, rfl, ho1, hb1⟩
    have T1 := T0.trans (hb1.mono T0.size)
    have hz1 := hb1.size
    have Ow_1 := Lib.hid (ho1)
    have Rw_1 := Lib.hid (ho1.rd)
    go_wp2_with fail
    (with_reducible refine (ReadMoves_r s _ hn r HE.out).mono ?_)
    rintro e w2 ⟨v2, rfl, ho2, hb2⟩
    have T2 := T1.trans (hb2.mono T1.size)
    have hz2 := hb2.size
    have Rw_2 := Lib.hid (Rw_1.out.below hb2)
    have Ow_2 := Lib.hid (Ow_1.out.below hb2)
    clear Ow_1
    have Og_2 := Lib.hid (ho2)
    have Rg_2 := Lib.hid (ho2.rd)
    go_wp2_with fail
    (with_reducible refine (eqInt64S_same _ _ r.1 _ Rg_2.out Rw_2.out hl).mono ?_)
    rintro e w3 ⟨rfl, hb3⟩
    have T3 := T2.trans (hb3.mono T2.size)
    have hz3 := hb3.size
    have Rw_3 := Lib.hid (Rw_2.out.below hb3)
    have Rg_3 := Lib.hid (Rg_2.out.below hb3)
    have Ow_3 := Lib.hid (Ow_2.out.below hb3)
    have Og_3 := Lib.hid (Og_2.out.below hb3)
    clear Rw_2 Ow_2 Og_2
    go_wp2_with fail
    (with_reducible refine (markInt64S_any _ r.1 1 _ _ Og_3.out hl (by omega) (by omega)).mono ?_)
    rintro e w4 ⟨rfl, ho4, hg4⟩
    have hw4 : ∀ q, _ = some q → _ := fun q hq => (World.ownsRow.lt Og_3.out q hq).1
    have T4 := T3.grown hg4 T3.size (fun q hq => by have := hw4 q hq; omega)
    have hz4 := hg4.size
    have HW4 := Lib.hid hw4
    clear hw4
    have Rw_4 := Lib.hid (RdI.farB Rw_3.out Rw_1.out hg4 (fun q hq => by have := HW4.out q hq; omega))
    clear Rw_3 Ow_3
    clear Og_3 Rg_3
    have Og_4 := Lib.hid (ho4)
    have Rg_4 := Lib.hid (ho4.rd)
    have hm0 : ¬ (1 + (r.1.length : Int)) < 0 := by omega
    go_wp2_with fail
    (with_reducible refine (heldInt64S_any _ r.1.length 1 _ Rg_4.out hl (by omega) (by omega)).mono ?_)
    rintro e _ ⟨rfl, rfl⟩
    go_wp2_with fail
    (with_reducible refine (ReadMoves_r s _ hn r HE.out).mono ?_)
    rintro e w5 ⟨v5, rfl, ho5, hb5⟩
    have T5 := T4.trans (hb5.mono T4.size)
    have hz5 := hb5.size
    have Rw_5 := Lib.hid (Rw_4.out.below hb5)
    have Rg_5 := Lib.hid (Rg_4.out.below hb5)
    have Og_5 := Lib.hid (Og_4.out.below hb5)
    clear Rw_4 Og_4
    have Oh_5 := Lib.hid (ho5)
    have Rh_5 := Lib.hid (ho5.rd)
    go_wp2_with fail
    (with_reducible refine (eqInt64S_same _ _ r.1 _ Rh_5.out Rw_5.out hl).mono ?_)
    rintro e w6 ⟨rfl, hb6⟩
    have T6 := T5.trans (hb6.mono T5.size)
    have hz6 := hb6.size
    have Rw_6 := Lib.hid (Rw_5.out.below hb6)
    have Rg_6 := Lib.hid (Rg_5.out.below hb6)
    have Rh_6 := Lib.hid (Rh_5.out.below hb6)
    have Og_6 := Lib.hid (Og_5.out.below hb6)
    have Oh_6 := Lib.hid (Oh_5.out.below hb6)
    clear Rw_5 Rg_5 Og_5 Oh_5
    go_wp2_with fail
    (with_reducible refine (heldInt64S_any _ r.1.length 1 _ Rg_6.out hl (by omega) (by omega)).mono ?_)
    rintro e _ ⟨rfl, rfl⟩
    go_wp2
    go_ret
    exact ⟨rfl, T6⟩
  · have hn' : 1048576 < s.size := by omega
    go_enter Try.func4, Try.ntmps4
    go_wp2
    go_ret
    exact ⟨rfl, Below.refl _ _⟩

end Go.Proofs.Ytalfomdpkljpcaa
