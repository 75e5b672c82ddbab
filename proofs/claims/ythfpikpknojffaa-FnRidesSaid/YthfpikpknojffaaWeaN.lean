/- The walk of the exact law on ChangedAfter. -/
import Derived.Test.YthfpikpknojffaaWeaE
import Derived.Test.YthfpikpknojffaaIntsB
import Derived.Test.YthfpikpknojffaaRidM
set_option linter.unusedSimpArgs false
set_option linter.unusedVariables false
namespace Go.Proofs.Ythfpikpknojffaa
open Go.RowKit

theorem chAR_len (rs : List Rid) (life : Int) : (chAR rs life).1.length ≤ 1048576 := by
  unfold chAR
  split
  · rename_i h
    split
    · have h1 := (chK_bd h life rs.length (Nat.le_refl _)).2.2
      have h2 := (areR_at h).1
      simp only
      omega
    · simp
  · simp
theorem sChangedAfter_r (v : Value) (rs : List Rid) (life : Int) (w : World) (hr : RdRid w v rs) (hn : rs.length ≤ 1048576) (r : List Int × Int) (he : r = chAR rs life) : Calls Try.prog 34 #[v, .int .i64 life] w (RetI w r) := by rw [he]; exact sChangedAfter_any v rs life w hr hn
theorem ChangedAfter_r (v : Value) (rs : List Rid) (life : Int) (w : World) (hr : RdRid w v rs) (hn : rs.length ≤ 1048576) (r : List Int × Int) (he : r = chAR rs life) : Calls Try.prog 35 #[v, .int .i64 life] w (RetI w r) := by rw [he]; exact ChangedAfter_any v rs life w hr hn

set_option maxHeartbeats 800000 in
theorem FnExactChangedAfter_walk (v : Value) (rs : List Rid) (life : Int) (w : World) (hr : RdRid w v rs) (hm : rs.length ≤ maxLen) :
    Calls Try.prog 10 #[v, .int .i64 life] w fun e w' => e = .returned (.bool true) ∧ Below w.heap.size w w' := by
  obtain ⟨a, c, rfl, hr2⟩ := hr.shape
  clear hr
  by_cases hn : rs.length ≤ 1048576
  · skip
    have HRa := Lib.hid hr2
    clear hr2
    have hn' : (rs.length : Int) ≤ 1048576 := by omega
    have hp' : ¬ (1048576 - (rs.length : Int)) < 0 := by omega
    have hl := chAR_len rs life
    obtain ⟨r, hr⟩ : ∃ r, r = chAR rs life := ⟨_, rfl⟩
    rw [← hr] at hl
    have HE := Lib.hid hr
    clear hr
    go_enter Try.func10, Try.ntmps10
    have T0 := Below.refl w.heap.size w
    have hz0 : w.heap.size ≤ w.heap.size := Nat.le_refl _
    go_wp2_with fail
    (with_reducible refine (szRideS_yes _ _ _ _ _ hn' (by omega)).mono ?_)
    rintro e _ ⟨rfl, rfl⟩
    go_wp2_with fail
    (with_reducible refine (toRideS_any _ rs _ HRa.out hn).mono ?_)
    rintro e w1 ⟨rfl, ho1, hb1⟩
    have T1 := T0.trans (hb1.mono T0.size)
    have hz1 := hb1.size
    have Ra_1 := Lib.hid (HRa.out.below hb1)
    have Rs_1 := Lib.hid (ho1.rd)
    go_wp2_with fail
    (with_reducible refine (sChangedAfter_r _ rs _ _ Rs_1.out hn r HE.out).mono ?_)
    rintro e w2 ⟨v2, rfl, ho2, hb2⟩
    have T2 := T1.trans (hb2.mono T1.size)
    have hz2 := hb2.size
    have Ra_2 := Lib.hid (Ra_1.out.below hb2)
    clear Ra_1 Rs_1
    have Ow_2 := Lib.hid (ho2)
    have Rw_2 := Lib.hid (ho2.rd)
    go_wp2_with fail
    (with_reducible refine (toRideS_any _ rs _ Ra_2.out hn).mono ?_)
    rintro e w3 ⟨rfl, ho3, hb3⟩
    have T3 := T2.trans (hb3.mono T2.size)
    have hz3 := hb3.size
    have Ra_3 := Lib.hid (Ra_2.out.below hb3)
    have Rw_3 := Lib.hid (Rw_2.out.below hb3)
    have Ow_3 := Lib.hid (Ow_2.out.below hb3)
    clear Ra_2
    have Ox_3 := Lib.hid (ho3)
    have Rx_3 := Lib.hid (ho3.rd)
    go_wp2_with fail
    (with_reducible refine (ChangedAfter_r _ rs _ _ Rx_3.out hn r HE.out).mono ?_)
    rintro e w4 ⟨v4, rfl, ho4, hb4⟩
    have T4 := T3.trans (hb4.mono T3.size)
    have hz4 := hb4.size
    have Ra_4 := Lib.hid (Ra_3.out.below hb4)
    have Rw_4 := Lib.hid (Rw_3.out.below hb4)
    have Rx_4 := Lib.hid (Rx_3.out.below hb4)
    have Ow_4 := Lib.hid (Ow_3.out.below hb4)
    have Ox_4 := Lib.hid (Ox_3.out.below hb4)
    clear Ra_3 Rw_3 Ow_3
    have Og_4 := Lib.hid (ho4)
    have Rg_4 := Lib.hid (ho4.rd)
    go_wp2_with fail
    (with_reducible refine (eqInt64S_same _ _ r.1 _ Rg_4.out Rw_4.out hl).mono ?_)
    rintro e w5 ⟨rfl, hb5⟩
    have T5 := T4.trans (hb5.mono T4.size)
    have hz5 := hb5.size
    have Ra_5 := Lib.hid (Ra_4.out.below hb5)
    have Rw_5 := Lib.hid (Rw_4.out.below hb5)
    have Rx_5 := Lib.hid (Rx_4.out.below hb5)
    have Rg_5 := Lib.hid (Rg_4.out.below hb5)
    have Ow_5 := Lib.hid (Ow_4.out.below hb5)
    have Ox_5 := Lib.hid (Ox_4.out.below hb5)
    have Og_5 := Lib.hid (Og_4.out.below hb5)
    clear Ra_4 Rw_4 Rx_4 Ow_4 Ox_4
    go_wp2_with fail
    (with_reducible refine (toRideS_any _ rs _ Ra_5.out hn).mono ?_)
    rintro e w6 ⟨rfl, ho6, hb6⟩
    have T6 := T5.trans (hb6.mono T5.size)
    have hz6 := hb6.size
    have Ra_6 := Lib.hid (Ra_5.out.below hb6)
    have Rw_6 := Lib.hid (Rw_5.out.below hb6)
    have Rx_6 := Lib.hid (Rx_5.out.below hb6)
    have Rg_6 := Lib.hid (Rg_5.out.below hb6)
    have Ow_6 := Lib.hid (Ow_5.out.below hb6)
    have Ox_6 := Lib.hid (Ox_5.out.below hb6)
    have Og_6 := Lib.hid (Og_5.out.below hb6)
    clear Ra_5 Rw_5 Rx_5 Rg_5 Ow_5 Ox_5 Og_5
    have Ry_6 := Lib.hid (ho6.rd)
    go_wp2_with fail
    (with_reducible refine (eqRideS_same _ _ rs _ Rx_6.out Ry_6.out hn).mono ?_)
    rintro e w7 ⟨rfl, hb7⟩
    have T7 := T6.trans (hb7.mono T6.size)
    have hz7 := hb7.size
    have Ra_7 := Lib.hid (Ra_6.out.below hb7)
    have Rw_7 := Lib.hid (Rw_6.out.below hb7)
    have Rx_7 := Lib.hid (Rx_6.out.below hb7)
    have Rg_7 := Lib.hid (Rg_6.out.below hb7)
    have Ow_7 := Lib.hid (Ow_6.out.below hb7)
    have Ox_7 := Lib.hid (Ox_6.out.below hb7)
    have Og_7 := Lib.hid (Og_6.out.below hb7)
    clear Ra_6 Rw_6 Rx_6 Rg_6 Ry_6 Ow_6 Ox_6 Og_6
    go_wp2_with fail
    (with_reducible refine (markRideS_any _ rs 1 _ _ Ox_7.out (by omega) (by omega) (by omega)).mono ?_)
    rintro e w8 ⟨rfl, ho8, hg8⟩
    have HW8 := Lib.hid (fun (q : Nat) (hq : Value.ownBlock _ = some q) => (World.ownsRow.lt Ox_7.out q hq).1)
    have HU8 := Lib.hid (fun (q : Nat) (hq : Value.ownBlock _ = some q) => (World.ownsRow.lt Ox_3.out q hq).2)
    have T8 := T7.grown hg8 T7.size (fun q hq => by have := HW8.out q hq; omega)
    have hz8 := hg8.size
    have Ra_8 := Lib.hid (RdRid.farB Ra_7.out HRa.out hg8 (fun q hq => by have := HW8.out q hq; omega))
    have Rw_8 := Lib.hid (RdI.farB Rw_7.out Rw_2.out hg8 (fun q hq => by have := HW8.out q hq; omega))
    have Og_8 := Lib.hid (OwI.farLt Og_7.out hg8 (fun q hq => by have := HU8.out q hq; omega))
    clear Ra_7 Rw_7 Ow_7 Og_7
    have Rg_8 := Lib.hid (Og_8.out.rd)
    clear Rg_7
    clear Ox_7 Ox_3 Rx_7 Rx_3
    have hk0 : ¬ (1 + 3 * (rs.length : Int)) < 0 := by omega
    go_wp2_with fail
    (with_reducible refine (eqInt64S_same _ _ r.1 _ Rg_8.out Rw_8.out hl).mono ?_)
    rintro e w9 ⟨rfl, hb9⟩
    have T9 := T8.trans (hb9.mono T8.size)
    have hz9 := hb9.size
    have Ra_9 := Lib.hid (Ra_8.out.below hb9)
    have Rw_9 := Lib.hid (Rw_8.out.below hb9)
    have Rg_9 := Lib.hid (Rg_8.out.below hb9)
    have Og_9 := Lib.hid (Og_8.out.below hb9)
    clear Ra_8 Rw_8 Rg_8 Og_8
    go_wp2_with fail
    (with_reducible refine (markInt64S_any _ r.1 1 _ _ Og_9.out hl (by omega) (by omega)).mono ?_)
    rintro e w10 ⟨rfl, ho10, hg10⟩
    have HW10 := Lib.hid (fun (q : Nat) (hq : Value.ownBlock _ = some q) => (World.ownsRow.lt Og_9.out q hq).1)
    have T10 := T9.grown hg10 T9.size (fun q hq => by have := HW10.out q hq; omega)
    have hz10 := hg10.size
    have Ra_10 := Lib.hid (RdRid.farB Ra_9.out HRa.out hg10 (fun q hq => by have := HW10.out q hq; omega))
    have Rw_10 := Lib.hid (RdI.farB Rw_9.out Rw_2.out hg10 (fun q hq => by have := HW10.out q hq; omega))
    clear Ra_9 Rw_9
    clear Og_9 Og_4 Rg_9 Rg_4
    have Og_10 := Lib.hid (ho10)
    have Rg_10 := Lib.hid (ho10.rd)
    have hm0 : ¬ (1 + (r.1.length : Int)) < 0 := by omega
    go_wp2_with fail
    (with_reducible refine (heldInt64S_any _ r.1.length 1 _ Rg_10.out hl (by omega) (by omega)).mono ?_)
    rintro e _ ⟨rfl, rfl⟩
    go_wp2_with fail
    (with_reducible refine (toRideS_any _ rs _ Ra_10.out hn).mono ?_)
    rintro e w11 ⟨rfl, ho11, hb11⟩
    have T11 := T10.trans (hb11.mono T10.size)
    have hz11 := hb11.size
    have Rw_11 := Lib.hid (Rw_10.out.below hb11)
    have Rg_11 := Lib.hid (Rg_10.out.below hb11)
    have Og_11 := Lib.hid (Og_10.out.below hb11)
    clear Ra_10 Rw_10
    have Ry_11 := Lib.hid (ho11.rd)
    go_wp2_with fail
    (with_reducible refine (ChangedAfter_r _ rs _ _ Ry_11.out hn r HE.out).mono ?_)
    rintro e w12 ⟨v12, rfl, ho12, hb12⟩
    have T12 := T11.trans (hb12.mono T11.size)
    have hz12 := hb12.size
    have Rw_12 := Lib.hid (Rw_11.out.below hb12)
    have Rg_12 := Lib.hid (Rg_11.out.below hb12)
    have Og_12 := Lib.hid (Og_11.out.below hb12)
    clear Rw_11 Rg_11 Ry_11 Og_11
    have Oh_12 := Lib.hid (ho12)
    have Rh_12 := Lib.hid (ho12.rd)
    go_wp2_with fail
    (with_reducible refine (eqInt64S_same _ _ r.1 _ Rh_12.out Rw_12.out hl).mono ?_)
    rintro e w13 ⟨rfl, hb13⟩
    have T13 := T12.trans (hb13.mono T12.size)
    have hz13 := hb13.size
    have Rw_13 := Lib.hid (Rw_12.out.below hb13)
    have Rg_13 := Lib.hid (Rg_12.out.below hb13)
    have Rh_13 := Lib.hid (Rh_12.out.below hb13)
    have Og_13 := Lib.hid (Og_12.out.below hb13)
    have Oh_13 := Lib.hid (Oh_12.out.below hb13)
    clear Rw_12 Rg_12 Og_12
    go_wp2_with fail
    (with_reducible refine (heldInt64S_any _ r.1.length 1 _ Rg_13.out hl (by omega) (by omega)).mono ?_)
    rintro e _ ⟨rfl, rfl⟩
    go_wp2
    go_ret
    exact ⟨rfl, T13⟩
  · have hn' : 1048576 < rs.length := by omega
    go_enter Try.func10, Try.ntmps10
    go_wp2_with fail
    (with_reducible refine (szRideS_no _ _ _ _ _ (by omega) (by omega) (by omega) hm).mono ?_)
    rintro e w1 ⟨rfl, rfl⟩
    go_wp2
    go_ret
    exact ⟨rfl, Below.refl _ _⟩

end Go.Proofs.Ythfpikpknojffaa
