/- The walk of the exact law on AddRide. -/
import Derived.Test.YthfpikpknojffaaWeaJ
import Derived.Test.YthfpikpknojffaaRidB
import Derived.Test.YthfpikpknojffaaRidM
set_option linter.unusedSimpArgs false
set_option linter.unusedVariables false
namespace Go.Proofs.Ythfpikpknojffaa
open Go.RowKit

theorem addR_len (rs : List Rid) (r : Rid) : (addR rs r).1.length ≤ 1048576 := by
  unfold addR
  split
  · rename_i h
    have h2 := (areR_at h).1
    split
    · simp
    · split
      · simp; omega
      · simp
  · simp
theorem sAddRide_r (v : Value) (rs : List Rid) (d t : Int) (wt : Bool) (w : World) (hr : RdRid w v rs) (hn : rs.length ≤ 1048576) (r : List Rid × Int) (he : r = addR rs (d, t, wt)) : Calls Try.prog 25 #[v, .agg #[.int .i64 d, .int .i64 t, .bool wt]] w (RetRid w r) := by rw [he]; exact sAddRide_any v rs d t wt w hr hn
theorem AddRide_r (v : Value) (rs : List Rid) (d t : Int) (wt : Bool) (w : World) (hr : RdRid w v rs) (hn : rs.length ≤ 1048576) (r : List Rid × Int) (he : r = addR rs (d, t, wt)) : Calls Try.prog 27 #[v, .agg #[.int .i64 d, .int .i64 t, .bool wt]] w (RetRid w r) := by rw [he]; exact AddRide_any v rs d t wt w hr hn

set_option maxHeartbeats 800000 in
theorem FnExactAddRide_walk (v : Value) (rs : List Rid) (d t : Int) (wt : Bool) (wa : World) (hr : RdRid wa v rs) (hm : rs.length ≤ maxLen) :
    Calls Try.prog 7 #[v, .agg #[.int .i64 d, .int .i64 t, .bool wt]] wa fun e w' => e = .returned (.bool true) ∧ Below wa.heap.size wa w' := by
  obtain ⟨a, c, rfl, hr2⟩ := hr.shape
  clear hr
  by_cases hn : rs.length ≤ 1048576
  · skip
    have hn' : (rs.length : Int) ≤ 1048576 := by omega
    have hp' : ¬ (1048576 - (rs.length : Int)) < 0 := by omega
    have hl := addR_len rs (d, t, wt)
    obtain ⟨r, hr⟩ : ∃ r, r = addR rs (d, t, wt) := ⟨_, rfl⟩
    rw [← hr] at hl
    have HE := Lib.hid hr
    clear hr
    go_enter Try.func7, Try.ntmps7
    go_wp2_with fail
    generalize hw : wa.alloc (.cells #[.int .i64 d, .int .i64 t, .bool wt] 32) = w
    have HRa := Lib.hid (show RdRid w (.slice a rs.length c) rs by rw [← hw]; exact hr2.alloc _)
    have HBX : Hid (w.cell? ⟨wa.heap.size, 0, none⟩ = some (.int .i64 d) ∧ w.cell? ⟨wa.heap.size, 1, none⟩ = some (.int .i64 t) ∧ w.cell? ⟨wa.heap.size, 2, none⟩ = some (.bool wt)) := by
      show _ ∧ _ ∧ _
      rw [← hw]
      exact ⟨by simp [go_sem], by simp [go_sem], by simp [go_sem]⟩
    have hbx : wa.heap.size < w.heap.size := by rw [← hw]; simp
    have HTW : Hid (Below wa.heap.size wa w) := by
      show Below _ _ _
      rw [← hw]; exact (Below.refl _ _).alloc (Nat.le_refl _) _
    clear hw hr2
    have T0 := Below.refl w.heap.size w
    have hz0 : w.heap.size ≤ w.heap.size := Nat.le_refl _
    have KP : Hid (∀ W W' : World, (W.cell? ⟨wa.heap.size, 0, none⟩ = some (.int .i64 d) ∧ W.cell? ⟨wa.heap.size, 1, none⟩ = some (.int .i64 t) ∧ W.cell? ⟨wa.heap.size, 2, none⟩ = some (.bool wt) ∧ wa.heap.size < W.heap.size) → Below W.heap.size W W' → (W'.cell? ⟨wa.heap.size, 0, none⟩ = some (.int .i64 d) ∧ W'.cell? ⟨wa.heap.size, 1, none⟩ = some (.int .i64 t) ∧ W'.cell? ⟨wa.heap.size, 2, none⟩ = some (.bool wt) ∧ wa.heap.size < W'.heap.size)) := by
      show ∀ W W' : World, _
      rintro W W' ⟨h0, h1, h2, h3⟩ hb
      exact ⟨(hb.cell (p := ⟨wa.heap.size, 0, none⟩) h3).trans h0, (hb.cell (p := ⟨wa.heap.size, 1, none⟩) h3).trans h1, (hb.cell (p := ⟨wa.heap.size, 2, none⟩) h3).trans h2, Nat.lt_of_lt_of_le h3 hb.size⟩
    go_wp2_with fail
    (with_reducible refine (szRideS_yes _ _ _ _ _ hn' (by omega)).mono ?_)
    rintro e _ ⟨rfl, rfl⟩
    go_wp2_with fail
    have bx : w.cell? ⟨wa.heap.size, 0, none⟩ = some (.int .i64 d) ∧ w.cell? ⟨wa.heap.size, 1, none⟩ = some (.int .i64 t) ∧ w.cell? ⟨wa.heap.size, 2, none⟩ = some (.bool wt) ∧ wa.heap.size < w.heap.size := KP.out _ _ ⟨HBX.out.1, HBX.out.2.1, HBX.out.2.2, hbx⟩ T0
    obtain ⟨bx0, bx1, bx2, bx3⟩ := bx
    go_region_held3 (fun W' => W'.cell? ⟨wa.heap.size, 0, none⟩ = some (.int .i64 d) ∧ W'.cell? ⟨wa.heap.size, 1, none⟩ = some (.int .i64 t) ∧ W'.cell? ⟨wa.heap.size, 2, none⟩ = some (.bool wt) ∧ wa.heap.size < W'.heap.size)
      (first | exact ⟨bx0, bx1, bx2, bx3⟩ | exact KP.out _ _ ⟨bx0, bx1, bx2, bx3⟩ (((hb1).trans (hb2.mono (hb1).size)).trans (hb3.mono ((hb1).trans (hb2.mono (hb1).size)).size)) | exact KP.out _ _ ⟨bx0, bx1, bx2, bx3⟩ ((hb1).trans (hb2.mono (hb1).size)) | exact KP.out _ _ ⟨bx0, bx1, bx2, bx3⟩ (hb1))
      ((first
       | (go_at_call 16
          refine (toRideS_any _ rs _ ?_ hn).mono ?_
          · first | exact HRa.out | exact (HRa.out).drew
          rintro e w1 ⟨rfl, ho1, hbx1⟩
          have hb1 : Below w.heap.size w w1 := by first | exact hbx1 | exact blw_ofDrewR hbx1
          clear hbx1)
       | (go_at_call 26
          (with_reducible refine (toRide_one _ _ _ _).mono ?_)
          rintro e w2 ⟨rfl, hbx2⟩
          have hb2 : Below w1.heap.size w1 w2 := by first | exact hbx2 | exact blw_ofDrewR hbx2
          clear hbx2)
       | (go_at_call 25
          refine (sAddRide_r _ rs _ _ _ _ ?_ hn r HE.out).mono ?_
          · first | exact ho1.rd.below hb2 | exact (ho1.rd.below hb2).drew
          rintro e w3 ⟨v3, rfl, ho3, hbx3⟩
          have hb3 : Below w2.heap.size w2 w3 := by first | exact hbx3 | exact blw_ofDrewR hbx3
          clear hbx3)
       | fail))
    clear bx0 bx1 bx2 bx3
    have T1 := T0.trans (hb1.mono T0.size)
    have hz1 := hb1.size
    have Ra_1 := Lib.hid (HRa.out.below hb1)
    have T2 := T1.trans (hb2.mono T1.size)
    have hz2 := hb2.size
    have Ra_2 := Lib.hid (Ra_1.out.below hb2)
    clear Ra_1
    have T3 := T2.trans (hb3.mono T2.size)
    have hz3 := hb3.size
    have Ra_3 := Lib.hid (Ra_2.out.below hb3)
    clear Ra_2
    have Ow_3 := Lib.hid (ho3)
    have Rw_3 := Lib.hid (ho3.rd)
    go_wp2_with fail
    (with_reducible refine (toRideS_any _ rs _ Ra_3.out hn).mono ?_)
    rintro e w4 ⟨rfl, ho4, hb4⟩
    have T4 := T3.trans (hb4.mono T3.size)
    have hz4 := hb4.size
    have Ra_4 := Lib.hid (Ra_3.out.below hb4)
    have Rw_4 := Lib.hid (Rw_3.out.below hb4)
    have Ow_4 := Lib.hid (Ow_3.out.below hb4)
    clear Ra_3
    have Ox_4 := Lib.hid (ho4)
    have Rx_4 := Lib.hid (ho4.rd)
    have bx : w4.cell? ⟨wa.heap.size, 0, none⟩ = some (.int .i64 d) ∧ w4.cell? ⟨wa.heap.size, 1, none⟩ = some (.int .i64 t) ∧ w4.cell? ⟨wa.heap.size, 2, none⟩ = some (.bool wt) ∧ wa.heap.size < w4.heap.size := KP.out _ _ ⟨HBX.out.1, HBX.out.2.1, HBX.out.2.2, hbx⟩ T4
    obtain ⟨bx0, bx1, bx2, bx3⟩ := bx
    go_wp2_with fail
    (with_reducible refine (toRide_one _ _ _ _).mono ?_)
    rintro e w5 ⟨rfl, hb5⟩
    have T5 := T4.trans (hb5.mono T4.size)
    have hz5 := hb5.size
    have Ra_5 := Lib.hid (Ra_4.out.below hb5)
    have Rw_5 := Lib.hid (Rw_4.out.below hb5)
    have Rx_5 := Lib.hid (Rx_4.out.below hb5)
    have Ow_5 := Lib.hid (Ow_4.out.below hb5)
    have Ox_5 := Lib.hid (Ox_4.out.below hb5)
    clear Ra_4 Rw_4 Ow_4
    clear bx0 bx1 bx2 bx3
    go_wp2_with fail
    (with_reducible refine (AddRide_r _ rs _ _ _ _ Rx_5.out hn r HE.out).mono ?_)
    rintro e w6 ⟨v6, rfl, ho6, hb6⟩
    have T6 := T5.trans (hb6.mono T5.size)
    have hz6 := hb6.size
    have Ra_6 := Lib.hid (Ra_5.out.below hb6)
    have Rw_6 := Lib.hid (Rw_5.out.below hb6)
    have Rx_6 := Lib.hid (Rx_5.out.below hb6)
    have Ow_6 := Lib.hid (Ow_5.out.below hb6)
    have Ox_6 := Lib.hid (Ox_5.out.below hb6)
    clear Ra_5 Rw_5 Rx_5 Ow_5 Ox_5
    have Og_6 := Lib.hid (ho6)
    have Rg_6 := Lib.hid (ho6.rd)
    go_wp2_with fail
    (with_reducible refine (eqRideS_same _ _ r.1 _ Rg_6.out Rw_6.out hl).mono ?_)
    rintro e w7 ⟨rfl, hb7⟩
    have T7 := T6.trans (hb7.mono T6.size)
    have hz7 := hb7.size
    have Ra_7 := Lib.hid (Ra_6.out.below hb7)
    have Rw_7 := Lib.hid (Rw_6.out.below hb7)
    have Rx_7 := Lib.hid (Rx_6.out.below hb7)
    have Rg_7 := Lib.hid (Rg_6.out.below hb7)
    have Ow_7 := Lib.hid (Ow_6.out.below hb7)
    have Ox_7 := Lib.hid (Ox_6.out.below hb7)
    have Og_7 := Lib.hid (Og_6.out.below hb7)
    clear Ra_6 Rw_6 Rx_6 Ow_6 Ox_6
    go_wp2_with fail
    (with_reducible refine (toRideS_any _ rs _ Ra_7.out hn).mono ?_)
    rintro e w8 ⟨rfl, ho8, hb8⟩
    have T8 := T7.trans (hb8.mono T7.size)
    have hz8 := hb8.size
    have Ra_8 := Lib.hid (Ra_7.out.below hb8)
    have Rw_8 := Lib.hid (Rw_7.out.below hb8)
    have Rx_8 := Lib.hid (Rx_7.out.below hb8)
    have Rg_8 := Lib.hid (Rg_7.out.below hb8)
    have Ow_8 := Lib.hid (Ow_7.out.below hb8)
    have Ox_8 := Lib.hid (Ox_7.out.below hb8)
    have Og_8 := Lib.hid (Og_7.out.below hb8)
    clear Ra_7 Rw_7 Rx_7 Rg_7 Ow_7 Ox_7 Og_7
    have Ry_8 := Lib.hid (ho8.rd)
    go_wp2_with fail
    (with_reducible refine (eqRideS_same _ _ rs _ Rx_8.out Ry_8.out hn).mono ?_)
    rintro e w9 ⟨rfl, hb9⟩
    have T9 := T8.trans (hb9.mono T8.size)
    have hz9 := hb9.size
    have Ra_9 := Lib.hid (Ra_8.out.below hb9)
    have Rw_9 := Lib.hid (Rw_8.out.below hb9)
    have Rx_9 := Lib.hid (Rx_8.out.below hb9)
    have Rg_9 := Lib.hid (Rg_8.out.below hb9)
    have Ow_9 := Lib.hid (Ow_8.out.below hb9)
    have Ox_9 := Lib.hid (Ox_8.out.below hb9)
    have Og_9 := Lib.hid (Og_8.out.below hb9)
    clear Ra_8 Rw_8 Rx_8 Rg_8 Ry_8 Ow_8 Ox_8 Og_8
    go_wp2_with fail
    (with_reducible refine (markRideS_any _ rs 1 _ _ Ox_9.out (by omega) (by omega) (by omega)).mono ?_)
    rintro e w10 ⟨rfl, ho10, hg10⟩
    have HW10 := Lib.hid (fun (q : Nat) (hq : Value.ownBlock _ = some q) => (World.ownsRow.lt Ox_9.out q hq).1)
    have HU10 := Lib.hid (fun (q : Nat) (hq : Value.ownBlock _ = some q) => (World.ownsRow.lt Ox_4.out q hq).2)
    have T10 := T9.grown hg10 T9.size (fun q hq => by have := HW10.out q hq; omega)
    have hz10 := hg10.size
    have Ra_10 := Lib.hid (RdRid.farB Ra_9.out HRa.out hg10 (fun q hq => by have := HW10.out q hq; omega))
    have Rw_10 := Lib.hid (RdRid.farB Rw_9.out Rw_3.out hg10 (fun q hq => by have := HW10.out q hq; omega))
    have Og_10 := Lib.hid (OwRid.farLt Og_9.out hg10 (fun q hq => by have := HU10.out q hq; omega))
    clear Ra_9 Rw_9 Ow_9 Og_9
    have Rg_10 := Lib.hid (Og_10.out.rd)
    clear Rg_9
    clear Ox_9 Ox_4 Rx_9 Rx_4
    have hk0 : ¬ (1 + 3 * (rs.length : Int)) < 0 := by omega
    go_wp2_with fail
    (with_reducible refine (eqRideS_same _ _ r.1 _ Rg_10.out Rw_10.out hl).mono ?_)
    rintro e w11 ⟨rfl, hb11⟩
    have T11 := T10.trans (hb11.mono T10.size)
    have hz11 := hb11.size
    have Ra_11 := Lib.hid (Ra_10.out.below hb11)
    have Rw_11 := Lib.hid (Rw_10.out.below hb11)
    have Rg_11 := Lib.hid (Rg_10.out.below hb11)
    have Og_11 := Lib.hid (Og_10.out.below hb11)
    clear Ra_10 Rw_10 Rg_10 Og_10
    go_wp2_with fail
    (with_reducible refine (markRideS_any _ r.1 1 _ _ Og_11.out (by omega) (by omega) (by omega)).mono ?_)
    rintro e w12 ⟨rfl, ho12, hg12⟩
    have HW12 := Lib.hid (fun (q : Nat) (hq : Value.ownBlock _ = some q) => (World.ownsRow.lt Og_11.out q hq).1)
    have T12 := T11.grown hg12 T11.size (fun q hq => by have := HW12.out q hq; omega)
    have hz12 := hg12.size
    have Ra_12 := Lib.hid (RdRid.farB Ra_11.out HRa.out hg12 (fun q hq => by have := HW12.out q hq; omega))
    have Rw_12 := Lib.hid (RdRid.farB Rw_11.out Rw_3.out hg12 (fun q hq => by have := HW12.out q hq; omega))
    clear Ra_11 Rw_11
    clear Og_11 Og_6 Rg_11 Rg_6
    have Og_12 := Lib.hid (ho12)
    have Rg_12 := Lib.hid (ho12.rd)
    have hm0 : ¬ (1 + 3 * (r.1.length : Int)) < 0 := by omega
    go_wp2_with fail
    (with_reducible refine (heldRideS_any _ r.1.length 1 _ Rg_12.out (by omega) (by omega) (by omega)).mono ?_)
    rintro e _ ⟨rfl, rfl⟩
    go_wp2_with fail
    have bx : w12.cell? ⟨wa.heap.size, 0, none⟩ = some (.int .i64 d) ∧ w12.cell? ⟨wa.heap.size, 1, none⟩ = some (.int .i64 t) ∧ w12.cell? ⟨wa.heap.size, 2, none⟩ = some (.bool wt) ∧ wa.heap.size < w12.heap.size := KP.out _ _ ⟨HBX.out.1, HBX.out.2.1, HBX.out.2.2, hbx⟩ T12
    obtain ⟨bx0, bx1, bx2, bx3⟩ := bx
    go_region_held3 (fun W' => W'.cell? ⟨wa.heap.size, 0, none⟩ = some (.int .i64 d) ∧ W'.cell? ⟨wa.heap.size, 1, none⟩ = some (.int .i64 t) ∧ W'.cell? ⟨wa.heap.size, 2, none⟩ = some (.bool wt) ∧ wa.heap.size < W'.heap.size)
      (first | exact ⟨bx0, bx1, bx2, bx3⟩ | exact KP.out _ _ ⟨bx0, bx1, bx2, bx3⟩ (((hb13).trans (hb14.mono (hb13).size)).trans (hb15.mono ((hb13).trans (hb14.mono (hb13).size)).size)) | exact KP.out _ _ ⟨bx0, bx1, bx2, bx3⟩ ((hb13).trans (hb14.mono (hb13).size)) | exact KP.out _ _ ⟨bx0, bx1, bx2, bx3⟩ (hb13))
      ((first
       | (go_at_call 16
          refine (toRideS_any _ rs _ ?_ hn).mono ?_
          · first | exact Ra_12.out | exact (Ra_12.out).drew
          rintro e w13 ⟨rfl, ho13, hbx13⟩
          have hb13 : Below w12.heap.size w12 w13 := by first | exact hbx13 | exact blw_ofDrewR hbx13
          clear hbx13)
       | (go_at_call 26
          (with_reducible refine (toRide_one _ _ _ _).mono ?_)
          rintro e w14 ⟨rfl, hbx14⟩
          have hb14 : Below w13.heap.size w13 w14 := by first | exact hbx14 | exact blw_ofDrewR hbx14
          clear hbx14)
       | (go_at_call 27
          refine (AddRide_r _ rs _ _ _ _ ?_ hn r HE.out).mono ?_
          · first | exact ho13.rd.below hb14 | exact (ho13.rd.below hb14).drew
          rintro e w15 ⟨v15, rfl, ho15, hbx15⟩
          have hb15 : Below w14.heap.size w14 w15 := by first | exact hbx15 | exact blw_ofDrewR hbx15
          clear hbx15)
       | fail))
    clear bx0 bx1 bx2 bx3
    have T13 := T12.trans (hb13.mono T12.size)
    have hz13 := hb13.size
    have Ra_13 := Lib.hid (Ra_12.out.below hb13)
    have Rw_13 := Lib.hid (Rw_12.out.below hb13)
    have Rg_13 := Lib.hid (Rg_12.out.below hb13)
    have Og_13 := Lib.hid (Og_12.out.below hb13)
    clear Ra_12 Rw_12
    have T14 := T13.trans (hb14.mono T13.size)
    have hz14 := hb14.size
    have Ra_14 := Lib.hid (Ra_13.out.below hb14)
    have Rw_14 := Lib.hid (Rw_13.out.below hb14)
    have Rg_14 := Lib.hid (Rg_13.out.below hb14)
    have Og_14 := Lib.hid (Og_13.out.below hb14)
    clear Ra_13 Rw_13 Rg_13 Og_13
    have T15 := T14.trans (hb15.mono T14.size)
    have hz15 := hb15.size
    have Ra_15 := Lib.hid (Ra_14.out.below hb15)
    have Rw_15 := Lib.hid (Rw_14.out.below hb15)
    have Rg_15 := Lib.hid (Rg_14.out.below hb15)
    have Og_15 := Lib.hid (Og_14.out.below hb15)
    clear Ra_14 Rw_14 Rg_14 Og_14
    have Oh_15 := Lib.hid (ho15)
    have Rh_15 := Lib.hid (ho15.rd)
    go_wp2_with fail
    (with_reducible refine (eqRideS_same _ _ r.1 _ Rh_15.out Rw_15.out hl).mono ?_)
    rintro e w16 ⟨rfl, hb16⟩
    have T16 := T15.trans (hb16.mono T15.size)
    have hz16 := hb16.size
    have Ra_16 := Lib.hid (Ra_15.out.below hb16)
    have Rw_16 := Lib.hid (Rw_15.out.below hb16)
    have Rg_16 := Lib.hid (Rg_15.out.below hb16)
    have Rh_16 := Lib.hid (Rh_15.out.below hb16)
    have Og_16 := Lib.hid (Og_15.out.below hb16)
    have Oh_16 := Lib.hid (Oh_15.out.below hb16)
    clear Ra_15 Rw_15 Rg_15 Og_15
    go_wp2_with fail
    (with_reducible refine (heldRideS_any _ r.1.length 1 _ Rg_16.out (by omega) (by omega) (by omega)).mono ?_)
    rintro e _ ⟨rfl, rfl⟩
    go_wp2
    go_ret
    exact ⟨rfl, HTW.out.trans (T16.mono (Nat.le_of_lt hbx))⟩
  · have hn' : 1048576 < rs.length := by omega
    go_enter Try.func7, Try.ntmps7
    go_wp2_with fail
    (with_reducible refine (szRideS_no _ _ _ _ _ (by omega) (by omega) (by omega) hm).mono ?_)
    rintro e w1 ⟨rfl, rfl⟩
    go_wp2
    go_ret
    exact ⟨rfl, (Below.refl _ _).alloc (Nat.le_refl _) _⟩

end Go.Proofs.Ythfpikpknojffaa
