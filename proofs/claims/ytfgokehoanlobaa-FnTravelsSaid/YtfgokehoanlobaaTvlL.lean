/- The walk of the law on travels. -/
import Derived.Test.YtfgokehoanlobaaGrpP
import Derived.Test.YtfgokehoanlobaaDrwQ
import Derived.Test.YtfgokehoanlobaaOpenB
set_option linter.unusedSimpArgs false
set_option linter.unusedVariables false
namespace Go.Proofs.Ytfgokehoanlobaa
open Go.RowKit

theorem blw_ofDrewX {B : Nat} {w w' : World} (h : Below B w.drew w') : Below B w w' := ⟨h.os, h.tape, h.output, h.size, h.block⟩
set_option maxRecDepth 100000 in
set_option maxHeartbeats 32000000 in
theorem FnTravels_walk (a : Option Addr) (n c : Nat) (w : World) (h : RdB w w.heap.size a n) :
    Calls Try.prog 13 #[.slice a n c] w fun e w' => e = .returned (.bool true) ∧ Below w.heap.size w w' := by
  by_cases hn : n ≤ 4096
  · have HN : Hid (decide (4096 < n) = false) := by show _ = _; simp; omega
    have HB0 := Lib.hid h
    have T0 := Below.refl w.heap.size w
    clear h
    go_enter Try.func13, Try.ntmps13
    go_wp2_with fail
    (with_reducible refine (big_any _ _ _ _).mono ?_)
    rintro e _ ⟨rfl, rfl⟩
    rw [HN.out]
    go_wp2_with fail
    (with_reducible refine (DrawGapFor_any a n c _ HB0.out hn).mono ?_)
    rintro e w1 ⟨b0, b1, b2, b3, fo, tr, rfl, hb1⟩
    have T1 : Below w.heap.size w w1 := T0.trans (hb1.mono T0.size)
    have HB1 := Lib.hid ((HB0.out.below hb1).keep hb1.size (fun _ _ => rfl))
    clear HB0
    go_wp2_with fail
    generalize hw : w1.alloc (Obj.cells #[.int .i64 b0, .int .i64 b1, .int .i64 b2, .int .i64 b3] 25) = w2
    have hb2 : Below w1.heap.size w1 w2 := by
      rw [← hw]
      exact (Below.refl _ _).alloc (by simp) _
    have Kb_2 : Hid (w2.heap[w1.heap.size]? = some (.cells #[.int .i64 b0, .int .i64 b1, .int .i64 b2, .int .i64 b3] 25 (0, 0))) := by
      show _ = _
      rw [← hw]
      exact (heap_alloc_new _ _)
    clear hw
    have T2 : Below w.heap.size w w2 := T1.trans (hb2.mono T1.size)
    have HB2 := Lib.hid ((HB1.out.below hb2).keep hb2.size (fun _ _ => rfl))
    clear HB1
    obtain ⟨⟨g, bad⟩, hF⟩ : ∃ rr__, rr__ = gapR b0 b1 b2 b3 fo tr := ⟨_, rfl⟩
    have HhF := Lib.hid hF
    have cb0 : w2.cell? ⟨w1.heap.size, 0, none⟩ = some (.int .i64 b0) := hk_cell (i := 0) Kb_2.out rfl
    have cb1 : w2.cell? ⟨w1.heap.size, 1, none⟩ = some (.int .i64 b1) := hk_cell (i := 1) Kb_2.out rfl
    have cb2 : w2.cell? ⟨w1.heap.size, 2, none⟩ = some (.int .i64 b2) := hk_cell (i := 2) Kb_2.out rfl
    have cb3 : w2.cell? ⟨w1.heap.size, 3, none⟩ = some (.int .i64 b3) := hk_cell (i := 3) Kb_2.out rfl
    go_wp2_with fail
    (with_reducible refine (GapFor_r _ _ _ _ _ _ _ _ _ HhF.out).mono ?_)
    rintro e w3 ⟨rfl, hb3⟩
    clear cb0 cb1 cb2 cb3
    have T3 : Below w.heap.size w w3 := T2.trans (hb3.mono T2.size)
    have HB3 := Lib.hid ((HB2.out.below hb3).keep hb3.size (fun _ _ => rfl))
    have Kb_3 : Hid (w3.heap[w1.heap.size]? = some (.cells #[.int .i64 b0, .int .i64 b1, .int .i64 b2, .int .i64 b3] 25 (0, 0))) := hk_below Kb_2.out hb3
    clear HB2 Kb_2
    have cb0 : w3.cell? ⟨w1.heap.size, 0, none⟩ = some (.int .i64 b0) := hk_cell (i := 0) Kb_3.out rfl
    have cb1 : w3.cell? ⟨w1.heap.size, 1, none⟩ = some (.int .i64 b1) := hk_cell (i := 1) Kb_3.out rfl
    have cb2 : w3.cell? ⟨w1.heap.size, 2, none⟩ = some (.int .i64 b2) := hk_cell (i := 2) Kb_3.out rfl
    have cb3 : w3.cell? ⟨w1.heap.size, 3, none⟩ = some (.int .i64 b3) := hk_cell (i := 3) Kb_3.out rfl
    go_wp2_with fail
    (with_reducible refine (sGapFor_r _ _ _ _ _ _ _ _ _ HhF.out).mono ?_)
    rintro e w4 ⟨rfl, hb4⟩
    clear cb0 cb1 cb2 cb3
    have T4 : Below w.heap.size w w4 := T3.trans (hb4.mono T3.size)
    have HB4 := Lib.hid ((HB3.out.below hb4).keep hb4.size (fun _ _ => rfl))
    have Kb_4 : Hid (w4.heap[w1.heap.size]? = some (.cells #[.int .i64 b0, .int .i64 b1, .int .i64 b2, .int .i64 b3] 25 (0, 0))) := hk_below Kb_3.out hb4
    clear HB3 Kb_3
    have hFL := Lib.hid (gapR_law hF)
    clear hF HhF
    go_wp2_with fail
    (with_reducible refine (DrawTravelOf_any a n c _ HB4.out hn).mono ?_)
    rintro e w5 ⟨x0, x1, x2, x3, f1, n1, rfl, hb5⟩
    have T5 : Below w.heap.size w w5 := T4.trans (hb5.mono T4.size)
    have HB5 := Lib.hid ((HB4.out.below hb5).keep hb5.size (fun _ _ => rfl))
    have Kb_5 : Hid (w5.heap[w1.heap.size]? = some (.cells #[.int .i64 b0, .int .i64 b1, .int .i64 b2, .int .i64 b3] 25 (0, 0))) := hk_below Kb_4.out hb5
    clear HB4 Kb_4
    go_wp2_with fail
    generalize hw : w5.alloc (Obj.cells #[.int .i64 x0, .int .i64 x1, .int .i64 x2, .int .i64 x3] 25) = w6
    have hb6 : Below w5.heap.size w5 w6 := by
      rw [← hw]
      exact (Below.refl _ _).alloc (by simp) _
    have Kx_6 : Hid (w6.heap[w5.heap.size]? = some (.cells #[.int .i64 x0, .int .i64 x1, .int .i64 x2, .int .i64 x3] 25 (0, 0))) := by
      show _ = _
      rw [← hw]
      exact (heap_alloc_new _ _)
    clear hw
    have T6 : Below w.heap.size w w6 := T5.trans (hb6.mono T5.size)
    have HB6 := Lib.hid ((HB5.out.below hb6).keep hb6.size (fun _ _ => rfl))
    have Kb_6 : Hid (w6.heap[w1.heap.size]? = some (.cells #[.int .i64 b0, .int .i64 b1, .int .i64 b2, .int .i64 b3] 25 (0, 0))) := hk_below Kb_5.out hb6
    clear HB5 Kb_5
    obtain ⟨⟨tv, one⟩, hG⟩ : ∃ rr__, rr__ = travelR x0 x1 x2 x3 f1 n1 := ⟨_, rfl⟩
    have HhG := Lib.hid hG
    have cx0 : w6.cell? ⟨w5.heap.size, 0, none⟩ = some (.int .i64 x0) := hk_cell (i := 0) Kx_6.out rfl
    have cx1 : w6.cell? ⟨w5.heap.size, 1, none⟩ = some (.int .i64 x1) := hk_cell (i := 1) Kx_6.out rfl
    have cx2 : w6.cell? ⟨w5.heap.size, 2, none⟩ = some (.int .i64 x2) := hk_cell (i := 2) Kx_6.out rfl
    have cx3 : w6.cell? ⟨w5.heap.size, 3, none⟩ = some (.int .i64 x3) := hk_cell (i := 3) Kx_6.out rfl
    go_wp2_with fail
    (with_reducible refine (TravelOf_r _ _ _ _ _ _ _ _ _ HhG.out).mono ?_)
    rintro e w7 ⟨rfl, hb7⟩
    clear cx0 cx1 cx2 cx3
    have T7 : Below w.heap.size w w7 := T6.trans (hb7.mono T6.size)
    have HB7 := Lib.hid ((HB6.out.below hb7).keep hb7.size (fun _ _ => rfl))
    have Kb_7 : Hid (w7.heap[w1.heap.size]? = some (.cells #[.int .i64 b0, .int .i64 b1, .int .i64 b2, .int .i64 b3] 25 (0, 0))) := hk_below Kb_6.out hb7
    have Kx_7 : Hid (w7.heap[w5.heap.size]? = some (.cells #[.int .i64 x0, .int .i64 x1, .int .i64 x2, .int .i64 x3] 25 (0, 0))) := hk_below Kx_6.out hb7
    clear HB6 Kb_6 Kx_6
    have cx0 : w7.cell? ⟨w5.heap.size, 0, none⟩ = some (.int .i64 x0) := hk_cell (i := 0) Kx_7.out rfl
    have cx1 : w7.cell? ⟨w5.heap.size, 1, none⟩ = some (.int .i64 x1) := hk_cell (i := 1) Kx_7.out rfl
    have cx2 : w7.cell? ⟨w5.heap.size, 2, none⟩ = some (.int .i64 x2) := hk_cell (i := 2) Kx_7.out rfl
    have cx3 : w7.cell? ⟨w5.heap.size, 3, none⟩ = some (.int .i64 x3) := hk_cell (i := 3) Kx_7.out rfl
    go_wp2_with fail
    (with_reducible refine (sTravelOf_r _ _ _ _ _ _ _ _ _ HhG.out).mono ?_)
    rintro e w8 ⟨rfl, hb8⟩
    clear cx0 cx1 cx2 cx3
    have T8 : Below w.heap.size w w8 := T7.trans (hb8.mono T7.size)
    have HB8 := Lib.hid ((HB7.out.below hb8).keep hb8.size (fun _ _ => rfl))
    have Kb_8 : Hid (w8.heap[w1.heap.size]? = some (.cells #[.int .i64 b0, .int .i64 b1, .int .i64 b2, .int .i64 b3] 25 (0, 0))) := hk_below Kb_7.out hb8
    have Kx_8 : Hid (w8.heap[w5.heap.size]? = some (.cells #[.int .i64 x0, .int .i64 x1, .int .i64 x2, .int .i64 x3] 25 (0, 0))) := hk_below Kx_7.out hb8
    clear HB7 Kb_7 Kx_7
    clear hG HhG
    go_wp2_with fail
    (with_reducible refine (DrawStopsWithin_any a n c _ HB8.out hn).mono ?_)
    rintro e w9 ⟨y0, y1, y2, y3, p, q, mo, le, rfl, hb9⟩
    have T9 : Below w.heap.size w w9 := T8.trans (hb9.mono T8.size)
    have HB9 := Lib.hid ((HB8.out.below hb9).keep hb9.size (fun _ _ => rfl))
    have Kb_9 : Hid (w9.heap[w1.heap.size]? = some (.cells #[.int .i64 b0, .int .i64 b1, .int .i64 b2, .int .i64 b3] 25 (0, 0))) := hk_below Kb_8.out hb9
    clear HB8 Kb_8
    go_wp2_with fail
    generalize hw : w9.alloc (Obj.cells #[.int .i64 y0, .int .i64 y1, .int .i64 y2, .int .i64 y3] 25) = w10
    have hb10 : Below w9.heap.size w9 w10 := by
      rw [← hw]
      exact (Below.refl _ _).alloc (by simp) _
    have Ky_10 : Hid (w10.heap[w9.heap.size]? = some (.cells #[.int .i64 y0, .int .i64 y1, .int .i64 y2, .int .i64 y3] 25 (0, 0))) := by
      show _ = _
      rw [← hw]
      exact (heap_alloc_new _ _)
    clear hw
    have T10 : Below w.heap.size w w10 := T9.trans (hb10.mono T9.size)
    have HB10 := Lib.hid ((HB9.out.below hb10).keep hb10.size (fun _ _ => rfl))
    have Kb_10 : Hid (w10.heap[w1.heap.size]? = some (.cells #[.int .i64 b0, .int .i64 b1, .int .i64 b2, .int .i64 b3] 25 (0, 0))) := hk_below Kb_9.out hb10
    clear HB9 Kb_9
    obtain ⟨⟨sb, three⟩, hP⟩ : ∃ rr__, rr__ = stopsR y0 y1 y2 y3 p q mo le := ⟨_, rfl⟩
    have HhP := Lib.hid hP
    have cy0 : w10.cell? ⟨w9.heap.size, 0, none⟩ = some (.int .i64 y0) := hk_cell (i := 0) Ky_10.out rfl
    have cy1 : w10.cell? ⟨w9.heap.size, 1, none⟩ = some (.int .i64 y1) := hk_cell (i := 1) Ky_10.out rfl
    have cy2 : w10.cell? ⟨w9.heap.size, 2, none⟩ = some (.int .i64 y2) := hk_cell (i := 2) Ky_10.out rfl
    have cy3 : w10.cell? ⟨w9.heap.size, 3, none⟩ = some (.int .i64 y3) := hk_cell (i := 3) Ky_10.out rfl
    go_wp2_with fail
    (with_reducible refine (StopsWithin_r _ _ _ _ _ _ _ _ _ _ _ HhP.out).mono ?_)
    rintro e w11 ⟨rfl, hb11⟩
    clear cy0 cy1 cy2 cy3
    have T11 : Below w.heap.size w w11 := T10.trans (hb11.mono T10.size)
    have HB11 := Lib.hid ((HB10.out.below hb11).keep hb11.size (fun _ _ => rfl))
    have Kb_11 : Hid (w11.heap[w1.heap.size]? = some (.cells #[.int .i64 b0, .int .i64 b1, .int .i64 b2, .int .i64 b3] 25 (0, 0))) := hk_below Kb_10.out hb11
    have Ky_11 : Hid (w11.heap[w9.heap.size]? = some (.cells #[.int .i64 y0, .int .i64 y1, .int .i64 y2, .int .i64 y3] 25 (0, 0))) := hk_below Ky_10.out hb11
    clear HB10 Kb_10 Ky_10
    have cy0 : w11.cell? ⟨w9.heap.size, 0, none⟩ = some (.int .i64 y0) := hk_cell (i := 0) Ky_11.out rfl
    have cy1 : w11.cell? ⟨w9.heap.size, 1, none⟩ = some (.int .i64 y1) := hk_cell (i := 1) Ky_11.out rfl
    have cy2 : w11.cell? ⟨w9.heap.size, 2, none⟩ = some (.int .i64 y2) := hk_cell (i := 2) Ky_11.out rfl
    have cy3 : w11.cell? ⟨w9.heap.size, 3, none⟩ = some (.int .i64 y3) := hk_cell (i := 3) Ky_11.out rfl
    go_wp2_with fail
    (with_reducible refine (sStopsWithin_r _ _ _ _ _ _ _ _ _ _ _ HhP.out).mono ?_)
    rintro e w12 ⟨rfl, hb12⟩
    clear cy0 cy1 cy2 cy3
    have T12 : Below w.heap.size w w12 := T11.trans (hb12.mono T11.size)
    have HB12 := Lib.hid ((HB11.out.below hb12).keep hb12.size (fun _ _ => rfl))
    have Kb_12 : Hid (w12.heap[w1.heap.size]? = some (.cells #[.int .i64 b0, .int .i64 b1, .int .i64 b2, .int .i64 b3] 25 (0, 0))) := hk_below Kb_11.out hb12
    have Ky_12 : Hid (w12.heap[w9.heap.size]? = some (.cells #[.int .i64 y0, .int .i64 y1, .int .i64 y2, .int .i64 y3] 25 (0, 0))) := hk_below Ky_11.out hb12
    clear HB11 Kb_11 Ky_11
    have hPL := Lib.hid (stopsR_law hP)
    clear hP HhP
    go_wp2_with fail
    (with_reducible refine (DrawTurnsOfBarrel_any a n c _ HB12.out hn).mono ?_)
    rintro e w13 ⟨z0, z1, z2, z3, wi, wa, rfl, hb13⟩
    have T13 : Below w.heap.size w w13 := T12.trans (hb13.mono T12.size)
    have HB13 := Lib.hid ((HB12.out.below hb13).keep hb13.size (fun _ _ => rfl))
    have Kb_13 : Hid (w13.heap[w1.heap.size]? = some (.cells #[.int .i64 b0, .int .i64 b1, .int .i64 b2, .int .i64 b3] 25 (0, 0))) := hk_below Kb_12.out hb13
    have Ky_13 : Hid (w13.heap[w9.heap.size]? = some (.cells #[.int .i64 y0, .int .i64 y1, .int .i64 y2, .int .i64 y3] 25 (0, 0))) := hk_below Ky_12.out hb13
    clear HB12 Kb_12 Ky_12
    go_wp2_with fail
    generalize hw : w13.alloc (Obj.cells #[.int .i64 z0, .int .i64 z1, .int .i64 z2, .int .i64 z3] 25) = w14
    have hb14 : Below w13.heap.size w13 w14 := by
      rw [← hw]
      exact (Below.refl _ _).alloc (by simp) _
    have Kz_14 : Hid (w14.heap[w13.heap.size]? = some (.cells #[.int .i64 z0, .int .i64 z1, .int .i64 z2, .int .i64 z3] 25 (0, 0))) := by
      show _ = _
      rw [← hw]
      exact (heap_alloc_new _ _)
    clear hw
    have T14 : Below w.heap.size w w14 := T13.trans (hb14.mono T13.size)
    have HB14 := Lib.hid ((HB13.out.below hb14).keep hb14.size (fun _ _ => rfl))
    have Kb_14 : Hid (w14.heap[w1.heap.size]? = some (.cells #[.int .i64 b0, .int .i64 b1, .int .i64 b2, .int .i64 b3] 25 (0, 0))) := hk_below Kb_13.out hb14
    have Ky_14 : Hid (w14.heap[w9.heap.size]? = some (.cells #[.int .i64 y0, .int .i64 y1, .int .i64 y2, .int .i64 y3] 25 (0, 0))) := hk_below Ky_13.out hb14
    clear HB13 Kb_13 Ky_13
    obtain ⟨⟨k, five⟩, hC⟩ : ∃ rr__, rr__ = turnsR z0 z1 z2 z3 wi wa := ⟨_, rfl⟩
    have HhC := Lib.hid hC
    have cz0 : w14.cell? ⟨w13.heap.size, 0, none⟩ = some (.int .i64 z0) := hk_cell (i := 0) Kz_14.out rfl
    have cz1 : w14.cell? ⟨w13.heap.size, 1, none⟩ = some (.int .i64 z1) := hk_cell (i := 1) Kz_14.out rfl
    have cz2 : w14.cell? ⟨w13.heap.size, 2, none⟩ = some (.int .i64 z2) := hk_cell (i := 2) Kz_14.out rfl
    have cz3 : w14.cell? ⟨w13.heap.size, 3, none⟩ = some (.int .i64 z3) := hk_cell (i := 3) Kz_14.out rfl
    go_wp2_with fail
    (with_reducible refine (TurnsOfBarrel_r _ _ _ _ _ _ _ _ _ HhC.out).mono ?_)
    rintro e w15 ⟨rfl, hb15⟩
    clear cz0 cz1 cz2 cz3
    have T15 : Below w.heap.size w w15 := T14.trans (hb15.mono T14.size)
    have HB15 := Lib.hid ((HB14.out.below hb15).keep hb15.size (fun _ _ => rfl))
    have Kb_15 : Hid (w15.heap[w1.heap.size]? = some (.cells #[.int .i64 b0, .int .i64 b1, .int .i64 b2, .int .i64 b3] 25 (0, 0))) := hk_below Kb_14.out hb15
    have Ky_15 : Hid (w15.heap[w9.heap.size]? = some (.cells #[.int .i64 y0, .int .i64 y1, .int .i64 y2, .int .i64 y3] 25 (0, 0))) := hk_below Ky_14.out hb15
    have Kz_15 : Hid (w15.heap[w13.heap.size]? = some (.cells #[.int .i64 z0, .int .i64 z1, .int .i64 z2, .int .i64 z3] 25 (0, 0))) := hk_below Kz_14.out hb15
    clear HB14 Kb_14 Ky_14 Kz_14
    have cz0 : w15.cell? ⟨w13.heap.size, 0, none⟩ = some (.int .i64 z0) := hk_cell (i := 0) Kz_15.out rfl
    have cz1 : w15.cell? ⟨w13.heap.size, 1, none⟩ = some (.int .i64 z1) := hk_cell (i := 1) Kz_15.out rfl
    have cz2 : w15.cell? ⟨w13.heap.size, 2, none⟩ = some (.int .i64 z2) := hk_cell (i := 2) Kz_15.out rfl
    have cz3 : w15.cell? ⟨w13.heap.size, 3, none⟩ = some (.int .i64 z3) := hk_cell (i := 3) Kz_15.out rfl
    go_wp2_with fail
    (with_reducible refine (sTurnsOfBarrel_r _ _ _ _ _ _ _ _ _ HhC.out).mono ?_)
    rintro e w16 ⟨rfl, hb16⟩
    clear cz0 cz1 cz2 cz3
    have T16 : Below w.heap.size w w16 := T15.trans (hb16.mono T15.size)
    have HB16 := Lib.hid ((HB15.out.below hb16).keep hb16.size (fun _ _ => rfl))
    have Kb_16 : Hid (w16.heap[w1.heap.size]? = some (.cells #[.int .i64 b0, .int .i64 b1, .int .i64 b2, .int .i64 b3] 25 (0, 0))) := hk_below Kb_15.out hb16
    have Ky_16 : Hid (w16.heap[w9.heap.size]? = some (.cells #[.int .i64 y0, .int .i64 y1, .int .i64 y2, .int .i64 y3] 25 (0, 0))) := hk_below Ky_15.out hb16
    have Kz_16 : Hid (w16.heap[w13.heap.size]? = some (.cells #[.int .i64 z0, .int .i64 z1, .int .i64 z2, .int .i64 z3] 25 (0, 0))) := hk_below Kz_15.out hb16
    clear HB15 Kb_15 Ky_15 Kz_15
    have hCL := Lib.hid (turnsR_law hC)
    clear hC HhC
    by_cases hfive : five = 0
    · obtain ⟨a1, a2, w1', w2', k0, k5, kw, kp, kd⟩ := hCL.out hfive
      clear hCL
      subst hfive
      have hdv : (25000 : Int).tdiv z1 = 25000 / z1 := Int.tdiv_eq_ediv_of_nonneg (by omega)
      obtain ⟨dd0, dd1⟩ := turn_bd a1 a2
      have hz1 : ¬ z1 = 0 := by omega
      have hz2 : (z1 == 0) = false := by rw [beq_eq_false_iff_ne]; exact hz1
      generalize 25000 / z1 = dd at *
      have e1 : (k - 1) * dd = k * dd - dd := by rw [Int.sub_mul]; omega
      have kk0 : 0 ≤ k * dd := Int.mul_nonneg k0 (by omega)
      rw [e1] at kp
      have wa1 : IntKind.i64.wrap dd = dd := IntWalk.i64_in _ (by omega)
      have wa2 : IntKind.i64.wrap (k - 1) = k - 1 := IntWalk.i64_in _ (by omega)
      generalize hkd : k * dd = kdd at *
      have wa3 : IntKind.i64.wrap kdd = kdd := IntWalk.i64_in _ (by omega)
      have wa4 : IntKind.i64.wrap ((k - 1) * dd) = kdd - dd := by rw [e1]; exact IntWalk.i64_in _ (by omega)
      have wa5 : IntKind.i64.wrap (wi - kdd) = wi - kdd := IntWalk.i64_in _ (by omega)
      have wa6 : IntKind.i64.wrap (wi - (kdd - dd)) = wi - (kdd - dd) := IntWalk.i64_in _ (by omega)
      clear e1
      have hd3 : decide (k < 0) = false := by simpa using k0
      have hd4 : decide (wa < wi - kdd) = false := by simp; omega
      clear kd
      by_cases hk0 : 0 < k
      · have kp' := kp hk0
        clear kp
        have hd5 : decide (0 < k) = true := by simpa using hk0
        have hd6 : decide (wi - (kdd - dd) ≤ wa) = false := by simp; omega
        by_cases hthree : three = 0
        · obtain ⟨xv, yv, hxv, hyv, hsb⟩ := hPL.out hthree
          clear hPL
          subst hthree
          have HSB := Lib.hid hsb
          clear hsb
          have H3 := Lib.hid hxv
          have H4 := Lib.hid hyv
          clear hxv hyv
          have cy0 : w16.cell? ⟨w9.heap.size, 0, none⟩ = some (.int .i64 y0) := hk_cell (i := 0) Ky_16.out rfl
          have cy1 : w16.cell? ⟨w9.heap.size, 1, none⟩ = some (.int .i64 y1) := hk_cell (i := 1) Ky_16.out rfl
          have cy2 : w16.cell? ⟨w9.heap.size, 2, none⟩ = some (.int .i64 y2) := hk_cell (i := 2) Ky_16.out rfl
          have cy3 : w16.cell? ⟨w9.heap.size, 3, none⟩ = some (.int .i64 y3) := hk_cell (i := 3) Ky_16.out rfl
          have cz0 : w16.cell? ⟨w13.heap.size, 0, none⟩ = some (.int .i64 z0) := hk_cell (i := 0) Kz_16.out rfl
          have cz1 : w16.cell? ⟨w13.heap.size, 1, none⟩ = some (.int .i64 z1) := hk_cell (i := 1) Kz_16.out rfl
          have cz2 : w16.cell? ⟨w13.heap.size, 2, none⟩ = some (.int .i64 z2) := hk_cell (i := 2) Kz_16.out rfl
          have cz3 : w16.cell? ⟨w13.heap.size, 3, none⟩ = some (.int .i64 z3) := hk_cell (i := 3) Kz_16.out rfl
          go_wp2_with fail
          (with_reducible refine (TravelOf_r _ _ _ _ _ _ _ _ _ H3.out).mono ?_)
          rintro e w17 ⟨rfl, hb17⟩
          clear cy0 cy1 cy2 cy3 cz0 cz1 cz2 cz3
          have T17 : Below w.heap.size w w17 := T16.trans (hb17.mono T16.size)
          have HB17 := Lib.hid ((HB16.out.below hb17).keep hb17.size (fun _ _ => rfl))
          have Kb_17 : Hid (w17.heap[w1.heap.size]? = some (.cells #[.int .i64 b0, .int .i64 b1, .int .i64 b2, .int .i64 b3] 25 (0, 0))) := hk_below Kb_16.out hb17
          have Ky_17 : Hid (w17.heap[w9.heap.size]? = some (.cells #[.int .i64 y0, .int .i64 y1, .int .i64 y2, .int .i64 y3] 25 (0, 0))) := hk_below Ky_16.out hb17
          have Kz_17 : Hid (w17.heap[w13.heap.size]? = some (.cells #[.int .i64 z0, .int .i64 z1, .int .i64 z2, .int .i64 z3] 25 (0, 0))) := hk_below Kz_16.out hb17
          clear HB16 Kb_16 Ky_16 Kz_16
          have cy0 : w17.cell? ⟨w9.heap.size, 0, none⟩ = some (.int .i64 y0) := hk_cell (i := 0) Ky_17.out rfl
          have cy1 : w17.cell? ⟨w9.heap.size, 1, none⟩ = some (.int .i64 y1) := hk_cell (i := 1) Ky_17.out rfl
          have cy2 : w17.cell? ⟨w9.heap.size, 2, none⟩ = some (.int .i64 y2) := hk_cell (i := 2) Ky_17.out rfl
          have cy3 : w17.cell? ⟨w9.heap.size, 3, none⟩ = some (.int .i64 y3) := hk_cell (i := 3) Ky_17.out rfl
          go_wp2_with fail
          (with_reducible refine (GripOf_r _ _ _ _ _ _ _ _ H4.out).mono ?_)
          rintro e w18 ⟨rfl, hb18⟩
          clear cy0 cy1 cy2 cy3
          have T18 : Below w.heap.size w w18 := T17.trans (hb18.mono T17.size)
          have HB18 := Lib.hid ((HB17.out.below hb18).keep hb18.size (fun _ _ => rfl))
          have Kb_18 : Hid (w18.heap[w1.heap.size]? = some (.cells #[.int .i64 b0, .int .i64 b1, .int .i64 b2, .int .i64 b3] 25 (0, 0))) := hk_below Kb_17.out hb18
          have Ky_18 : Hid (w18.heap[w9.heap.size]? = some (.cells #[.int .i64 y0, .int .i64 y1, .int .i64 y2, .int .i64 y3] 25 (0, 0))) := hk_below Ky_17.out hb18
          have Kz_18 : Hid (w18.heap[w13.heap.size]? = some (.cells #[.int .i64 z0, .int .i64 z1, .int .i64 z2, .int .i64 z3] 25 (0, 0))) := hk_below Kz_17.out hb18
          clear HB17 Kb_17 Ky_17 Kz_17
          by_cases hx1 : xv ≤ mo
          · by_cases hx2 : le ≤ yv
            · have hsv : sb = true := by rw [HSB.out]; simp [hx1, hx2]
              clear HSB
              subst hsv
              have hd1 : decide (xv ≤ mo) = true := by simpa using hx1
              have hd2 : decide (le ≤ yv) = true := by simpa using hx2
              by_cases hbad : bad = 0
              · obtain ⟨g0, g1, ⟨gv, hgv, hge⟩, hless⟩ := hFL.out hbad
                clear hFL
                subst hbad
                have H1 := Lib.hid hgv
                clear hgv
                have cb0 : w18.cell? ⟨w1.heap.size, 0, none⟩ = some (.int .i64 b0) := hk_cell (i := 0) Kb_18.out rfl
                have cb1 : w18.cell? ⟨w1.heap.size, 1, none⟩ = some (.int .i64 b1) := hk_cell (i := 1) Kb_18.out rfl
                have cb2 : w18.cell? ⟨w1.heap.size, 2, none⟩ = some (.int .i64 b2) := hk_cell (i := 2) Kb_18.out rfl
                have cb3 : w18.cell? ⟨w1.heap.size, 3, none⟩ = some (.int .i64 b3) := hk_cell (i := 3) Kb_18.out rfl
                go_wp2_with fail
                (with_reducible refine (TravelOf_r _ _ _ _ _ _ _ _ _ H1.out).mono ?_)
                rintro e w19 ⟨rfl, hb19⟩
                clear cb0 cb1 cb2 cb3
                have T19 : Below w.heap.size w w19 := T18.trans (hb19.mono T18.size)
                have HB19 := Lib.hid ((HB18.out.below hb19).keep hb19.size (fun _ _ => rfl))
                have Kb_19 : Hid (w19.heap[w1.heap.size]? = some (.cells #[.int .i64 b0, .int .i64 b1, .int .i64 b2, .int .i64 b3] 25 (0, 0))) := hk_below Kb_18.out hb19
                have Ky_19 : Hid (w19.heap[w9.heap.size]? = some (.cells #[.int .i64 y0, .int .i64 y1, .int .i64 y2, .int .i64 y3] 25 (0, 0))) := hk_below Ky_18.out hb19
                have Kz_19 : Hid (w19.heap[w13.heap.size]? = some (.cells #[.int .i64 z0, .int .i64 z1, .int .i64 z2, .int .i64 z3] 25 (0, 0))) := hk_below Kz_18.out hb19
                clear HB18 Kb_18 Ky_18 Kz_18
                by_cases hf0 : g = 5000
                · subst hf0
                  clear hless
                  go_wp2
                  go_ret
                  exact ⟨rfl, T19⟩
                · obtain ⟨lv, hlv, hlt⟩ := hless hf0
                  clear hless
                  have hfq : (g == 5000) = false := by rw [beq_eq_false_iff_ne]; exact hf0
                  have hf1 : IntKind.i64.wrap (g + 1) = g + 1 := IntWalk.i64_in _ (by omega)
                  have H2 := Lib.hid hlv
                  clear hlv
                  have cb0 : w19.cell? ⟨w1.heap.size, 0, none⟩ = some (.int .i64 b0) := hk_cell (i := 0) Kb_19.out rfl
                  have cb1 : w19.cell? ⟨w1.heap.size, 1, none⟩ = some (.int .i64 b1) := hk_cell (i := 1) Kb_19.out rfl
                  have cb2 : w19.cell? ⟨w1.heap.size, 2, none⟩ = some (.int .i64 b2) := hk_cell (i := 2) Kb_19.out rfl
                  have cb3 : w19.cell? ⟨w1.heap.size, 3, none⟩ = some (.int .i64 b3) := hk_cell (i := 3) Kb_19.out rfl
                  go_wp2_with fail
                  (with_reducible refine (TravelOf_r _ _ _ _ _ _ _ _ _ H2.out).mono ?_)
                  rintro e w20 ⟨rfl, hb20⟩
                  clear cb0 cb1 cb2 cb3
                  have T20 : Below w.heap.size w w20 := T19.trans (hb20.mono T19.size)
                  have HB20 := Lib.hid ((HB19.out.below hb20).keep hb20.size (fun _ _ => rfl))
                  have Kb_20 : Hid (w20.heap[w1.heap.size]? = some (.cells #[.int .i64 b0, .int .i64 b1, .int .i64 b2, .int .i64 b3] 25 (0, 0))) := hk_below Kb_19.out hb20
                  have Ky_20 : Hid (w20.heap[w9.heap.size]? = some (.cells #[.int .i64 y0, .int .i64 y1, .int .i64 y2, .int .i64 y3] 25 (0, 0))) := hk_below Ky_19.out hb20
                  have Kz_20 : Hid (w20.heap[w13.heap.size]? = some (.cells #[.int .i64 z0, .int .i64 z1, .int .i64 z2, .int .i64 z3] 25 (0, 0))) := hk_below Kz_19.out hb20
                  clear HB19 Kb_19 Ky_19 Kz_19
                  go_wp2
                  go_ret
                  exact ⟨rfl, T20⟩
              · clear hFL
                have hbq : (bad == 0) = false := by rw [beq_eq_false_iff_ne]; exact hbad
                go_wp2
                go_ret
                exact ⟨rfl, T18⟩
            · have hsv : sb = false := by rw [HSB.out]; simp [hx1, hx2]
              clear HSB
              subst hsv
              have hd1 : decide (xv ≤ mo) = true := by simpa using hx1
              have hd2 : decide (le ≤ yv) = false := by simpa using hx2
              by_cases hbad : bad = 0
              · obtain ⟨g0, g1, ⟨gv, hgv, hge⟩, hless⟩ := hFL.out hbad
                clear hFL
                subst hbad
                have H1 := Lib.hid hgv
                clear hgv
                have cb0 : w18.cell? ⟨w1.heap.size, 0, none⟩ = some (.int .i64 b0) := hk_cell (i := 0) Kb_18.out rfl
                have cb1 : w18.cell? ⟨w1.heap.size, 1, none⟩ = some (.int .i64 b1) := hk_cell (i := 1) Kb_18.out rfl
                have cb2 : w18.cell? ⟨w1.heap.size, 2, none⟩ = some (.int .i64 b2) := hk_cell (i := 2) Kb_18.out rfl
                have cb3 : w18.cell? ⟨w1.heap.size, 3, none⟩ = some (.int .i64 b3) := hk_cell (i := 3) Kb_18.out rfl
                go_wp2_with fail
                (with_reducible refine (TravelOf_r _ _ _ _ _ _ _ _ _ H1.out).mono ?_)
                rintro e w19 ⟨rfl, hb19⟩
                clear cb0 cb1 cb2 cb3
                have T19 : Below w.heap.size w w19 := T18.trans (hb19.mono T18.size)
                have HB19 := Lib.hid ((HB18.out.below hb19).keep hb19.size (fun _ _ => rfl))
                have Kb_19 : Hid (w19.heap[w1.heap.size]? = some (.cells #[.int .i64 b0, .int .i64 b1, .int .i64 b2, .int .i64 b3] 25 (0, 0))) := hk_below Kb_18.out hb19
                have Ky_19 : Hid (w19.heap[w9.heap.size]? = some (.cells #[.int .i64 y0, .int .i64 y1, .int .i64 y2, .int .i64 y3] 25 (0, 0))) := hk_below Ky_18.out hb19
                have Kz_19 : Hid (w19.heap[w13.heap.size]? = some (.cells #[.int .i64 z0, .int .i64 z1, .int .i64 z2, .int .i64 z3] 25 (0, 0))) := hk_below Kz_18.out hb19
                clear HB18 Kb_18 Ky_18 Kz_18
                by_cases hf0 : g = 5000
                · subst hf0
                  clear hless
                  go_wp2
                  go_ret
                  exact ⟨rfl, T19⟩
                · obtain ⟨lv, hlv, hlt⟩ := hless hf0
                  clear hless
                  have hfq : (g == 5000) = false := by rw [beq_eq_false_iff_ne]; exact hf0
                  have hf1 : IntKind.i64.wrap (g + 1) = g + 1 := IntWalk.i64_in _ (by omega)
                  have H2 := Lib.hid hlv
                  clear hlv
                  have cb0 : w19.cell? ⟨w1.heap.size, 0, none⟩ = some (.int .i64 b0) := hk_cell (i := 0) Kb_19.out rfl
                  have cb1 : w19.cell? ⟨w1.heap.size, 1, none⟩ = some (.int .i64 b1) := hk_cell (i := 1) Kb_19.out rfl
                  have cb2 : w19.cell? ⟨w1.heap.size, 2, none⟩ = some (.int .i64 b2) := hk_cell (i := 2) Kb_19.out rfl
                  have cb3 : w19.cell? ⟨w1.heap.size, 3, none⟩ = some (.int .i64 b3) := hk_cell (i := 3) Kb_19.out rfl
                  go_wp2_with fail
                  (with_reducible refine (TravelOf_r _ _ _ _ _ _ _ _ _ H2.out).mono ?_)
                  rintro e w20 ⟨rfl, hb20⟩
                  clear cb0 cb1 cb2 cb3
                  have T20 : Below w.heap.size w w20 := T19.trans (hb20.mono T19.size)
                  have HB20 := Lib.hid ((HB19.out.below hb20).keep hb20.size (fun _ _ => rfl))
                  have Kb_20 : Hid (w20.heap[w1.heap.size]? = some (.cells #[.int .i64 b0, .int .i64 b1, .int .i64 b2, .int .i64 b3] 25 (0, 0))) := hk_below Kb_19.out hb20
                  have Ky_20 : Hid (w20.heap[w9.heap.size]? = some (.cells #[.int .i64 y0, .int .i64 y1, .int .i64 y2, .int .i64 y3] 25 (0, 0))) := hk_below Ky_19.out hb20
                  have Kz_20 : Hid (w20.heap[w13.heap.size]? = some (.cells #[.int .i64 z0, .int .i64 z1, .int .i64 z2, .int .i64 z3] 25 (0, 0))) := hk_below Kz_19.out hb20
                  clear HB19 Kb_19 Ky_19 Kz_19
                  go_wp2
                  go_ret
                  exact ⟨rfl, T20⟩
              · clear hFL
                have hbq : (bad == 0) = false := by rw [beq_eq_false_iff_ne]; exact hbad
                go_wp2
                go_ret
                exact ⟨rfl, T18⟩
          · by_cases hx2 : le ≤ yv
            · have hsv : sb = false := by rw [HSB.out]; simp [hx1, hx2]
              clear HSB
              subst hsv
              have hd1 : decide (xv ≤ mo) = false := by simpa using hx1
              have hd2 : decide (le ≤ yv) = true := by simpa using hx2
              by_cases hbad : bad = 0
              · obtain ⟨g0, g1, ⟨gv, hgv, hge⟩, hless⟩ := hFL.out hbad
                clear hFL
                subst hbad
                have H1 := Lib.hid hgv
                clear hgv
                have cb0 : w18.cell? ⟨w1.heap.size, 0, none⟩ = some (.int .i64 b0) := hk_cell (i := 0) Kb_18.out rfl
                have cb1 : w18.cell? ⟨w1.heap.size, 1, none⟩ = some (.int .i64 b1) := hk_cell (i := 1) Kb_18.out rfl
                have cb2 : w18.cell? ⟨w1.heap.size, 2, none⟩ = some (.int .i64 b2) := hk_cell (i := 2) Kb_18.out rfl
                have cb3 : w18.cell? ⟨w1.heap.size, 3, none⟩ = some (.int .i64 b3) := hk_cell (i := 3) Kb_18.out rfl
                go_wp2_with fail
                (with_reducible refine (TravelOf_r _ _ _ _ _ _ _ _ _ H1.out).mono ?_)
                rintro e w19 ⟨rfl, hb19⟩
                clear cb0 cb1 cb2 cb3
                have T19 : Below w.heap.size w w19 := T18.trans (hb19.mono T18.size)
                have HB19 := Lib.hid ((HB18.out.below hb19).keep hb19.size (fun _ _ => rfl))
                have Kb_19 : Hid (w19.heap[w1.heap.size]? = some (.cells #[.int .i64 b0, .int .i64 b1, .int .i64 b2, .int .i64 b3] 25 (0, 0))) := hk_below Kb_18.out hb19
                have Ky_19 : Hid (w19.heap[w9.heap.size]? = some (.cells #[.int .i64 y0, .int .i64 y1, .int .i64 y2, .int .i64 y3] 25 (0, 0))) := hk_below Ky_18.out hb19
                have Kz_19 : Hid (w19.heap[w13.heap.size]? = some (.cells #[.int .i64 z0, .int .i64 z1, .int .i64 z2, .int .i64 z3] 25 (0, 0))) := hk_below Kz_18.out hb19
                clear HB18 Kb_18 Ky_18 Kz_18
                by_cases hf0 : g = 5000
                · subst hf0
                  clear hless
                  go_wp2
                  go_ret
                  exact ⟨rfl, T19⟩
                · obtain ⟨lv, hlv, hlt⟩ := hless hf0
                  clear hless
                  have hfq : (g == 5000) = false := by rw [beq_eq_false_iff_ne]; exact hf0
                  have hf1 : IntKind.i64.wrap (g + 1) = g + 1 := IntWalk.i64_in _ (by omega)
                  have H2 := Lib.hid hlv
                  clear hlv
                  have cb0 : w19.cell? ⟨w1.heap.size, 0, none⟩ = some (.int .i64 b0) := hk_cell (i := 0) Kb_19.out rfl
                  have cb1 : w19.cell? ⟨w1.heap.size, 1, none⟩ = some (.int .i64 b1) := hk_cell (i := 1) Kb_19.out rfl
                  have cb2 : w19.cell? ⟨w1.heap.size, 2, none⟩ = some (.int .i64 b2) := hk_cell (i := 2) Kb_19.out rfl
                  have cb3 : w19.cell? ⟨w1.heap.size, 3, none⟩ = some (.int .i64 b3) := hk_cell (i := 3) Kb_19.out rfl
                  go_wp2_with fail
                  (with_reducible refine (TravelOf_r _ _ _ _ _ _ _ _ _ H2.out).mono ?_)
                  rintro e w20 ⟨rfl, hb20⟩
                  clear cb0 cb1 cb2 cb3
                  have T20 : Below w.heap.size w w20 := T19.trans (hb20.mono T19.size)
                  have HB20 := Lib.hid ((HB19.out.below hb20).keep hb20.size (fun _ _ => rfl))
                  have Kb_20 : Hid (w20.heap[w1.heap.size]? = some (.cells #[.int .i64 b0, .int .i64 b1, .int .i64 b2, .int .i64 b3] 25 (0, 0))) := hk_below Kb_19.out hb20
                  have Ky_20 : Hid (w20.heap[w9.heap.size]? = some (.cells #[.int .i64 y0, .int .i64 y1, .int .i64 y2, .int .i64 y3] 25 (0, 0))) := hk_below Ky_19.out hb20
                  have Kz_20 : Hid (w20.heap[w13.heap.size]? = some (.cells #[.int .i64 z0, .int .i64 z1, .int .i64 z2, .int .i64 z3] 25 (0, 0))) := hk_below Kz_19.out hb20
                  clear HB19 Kb_19 Ky_19 Kz_19
                  go_wp2
                  go_ret
                  exact ⟨rfl, T20⟩
              · clear hFL
                have hbq : (bad == 0) = false := by rw [beq_eq_false_iff_ne]; exact hbad
                go_wp2
                go_ret
                exact ⟨rfl, T18⟩
            · have hsv : sb = false := by rw [HSB.out]; simp [hx1, hx2]
              clear HSB
              subst hsv
              have hd1 : decide (xv ≤ mo) = false := by simpa using hx1
              have hd2 : decide (le ≤ yv) = false := by simpa using hx2
              by_cases hbad : bad = 0
              · obtain ⟨g0, g1, ⟨gv, hgv, hge⟩, hless⟩ := hFL.out hbad
                clear hFL
                subst hbad
                have H1 := Lib.hid hgv
                clear hgv
                have cb0 : w18.cell? ⟨w1.heap.size, 0, none⟩ = some (.int .i64 b0) := hk_cell (i := 0) Kb_18.out rfl
                have cb1 : w18.cell? ⟨w1.heap.size, 1, none⟩ = some (.int .i64 b1) := hk_cell (i := 1) Kb_18.out rfl
                have cb2 : w18.cell? ⟨w1.heap.size, 2, none⟩ = some (.int .i64 b2) := hk_cell (i := 2) Kb_18.out rfl
                have cb3 : w18.cell? ⟨w1.heap.size, 3, none⟩ = some (.int .i64 b3) := hk_cell (i := 3) Kb_18.out rfl
                go_wp2_with fail
                (with_reducible refine (TravelOf_r _ _ _ _ _ _ _ _ _ H1.out).mono ?_)
                rintro e w19 ⟨rfl, hb19⟩
                clear cb0 cb1 cb2 cb3
                have T19 : Below w.heap.size w w19 := T18.trans (hb19.mono T18.size)
                have HB19 := Lib.hid ((HB18.out.below hb19).keep hb19.size (fun _ _ => rfl))
                have Kb_19 : Hid (w19.heap[w1.heap.size]? = some (.cells #[.int .i64 b0, .int .i64 b1, .int .i64 b2, .int .i64 b3] 25 (0, 0))) := hk_below Kb_18.out hb19
                have Ky_19 : Hid (w19.heap[w9.heap.size]? = some (.cells #[.int .i64 y0, .int .i64 y1, .int .i64 y2, .int .i64 y3] 25 (0, 0))) := hk_below Ky_18.out hb19
                have Kz_19 : Hid (w19.heap[w13.heap.size]? = some (.cells #[.int .i64 z0, .int .i64 z1, .int .i64 z2, .int .i64 z3] 25 (0, 0))) := hk_below Kz_18.out hb19
                clear HB18 Kb_18 Ky_18 Kz_18
                by_cases hf0 : g = 5000
                · subst hf0
                  clear hless
                  go_wp2
                  go_ret
                  exact ⟨rfl, T19⟩
                · obtain ⟨lv, hlv, hlt⟩ := hless hf0
                  clear hless
                  have hfq : (g == 5000) = false := by rw [beq_eq_false_iff_ne]; exact hf0
                  have hf1 : IntKind.i64.wrap (g + 1) = g + 1 := IntWalk.i64_in _ (by omega)
                  have H2 := Lib.hid hlv
                  clear hlv
                  have cb0 : w19.cell? ⟨w1.heap.size, 0, none⟩ = some (.int .i64 b0) := hk_cell (i := 0) Kb_19.out rfl
                  have cb1 : w19.cell? ⟨w1.heap.size, 1, none⟩ = some (.int .i64 b1) := hk_cell (i := 1) Kb_19.out rfl
                  have cb2 : w19.cell? ⟨w1.heap.size, 2, none⟩ = some (.int .i64 b2) := hk_cell (i := 2) Kb_19.out rfl
                  have cb3 : w19.cell? ⟨w1.heap.size, 3, none⟩ = some (.int .i64 b3) := hk_cell (i := 3) Kb_19.out rfl
                  go_wp2_with fail
                  (with_reducible refine (TravelOf_r _ _ _ _ _ _ _ _ _ H2.out).mono ?_)
                  rintro e w20 ⟨rfl, hb20⟩
                  clear cb0 cb1 cb2 cb3
                  have T20 : Below w.heap.size w w20 := T19.trans (hb20.mono T19.size)
                  have HB20 := Lib.hid ((HB19.out.below hb20).keep hb20.size (fun _ _ => rfl))
                  have Kb_20 : Hid (w20.heap[w1.heap.size]? = some (.cells #[.int .i64 b0, .int .i64 b1, .int .i64 b2, .int .i64 b3] 25 (0, 0))) := hk_below Kb_19.out hb20
                  have Ky_20 : Hid (w20.heap[w9.heap.size]? = some (.cells #[.int .i64 y0, .int .i64 y1, .int .i64 y2, .int .i64 y3] 25 (0, 0))) := hk_below Ky_19.out hb20
                  have Kz_20 : Hid (w20.heap[w13.heap.size]? = some (.cells #[.int .i64 z0, .int .i64 z1, .int .i64 z2, .int .i64 z3] 25 (0, 0))) := hk_below Kz_19.out hb20
                  clear HB19 Kb_19 Ky_19 Kz_19
                  go_wp2
                  go_ret
                  exact ⟨rfl, T20⟩
              · clear hFL
                have hbq : (bad == 0) = false := by rw [beq_eq_false_iff_ne]; exact hbad
                go_wp2
                go_ret
                exact ⟨rfl, T18⟩
        · clear hPL
          have htq : (three == 0) = false := by rw [beq_eq_false_iff_ne]; exact hthree
          have cz0 : w16.cell? ⟨w13.heap.size, 0, none⟩ = some (.int .i64 z0) := hk_cell (i := 0) Kz_16.out rfl
          have cz1 : w16.cell? ⟨w13.heap.size, 1, none⟩ = some (.int .i64 z1) := hk_cell (i := 1) Kz_16.out rfl
          have cz2 : w16.cell? ⟨w13.heap.size, 2, none⟩ = some (.int .i64 z2) := hk_cell (i := 2) Kz_16.out rfl
          have cz3 : w16.cell? ⟨w13.heap.size, 3, none⟩ = some (.int .i64 z3) := hk_cell (i := 3) Kz_16.out rfl
          by_cases hbad : bad = 0
          · obtain ⟨g0, g1, ⟨gv, hgv, hge⟩, hless⟩ := hFL.out hbad
            clear hFL
            subst hbad
            have H1 := Lib.hid hgv
            clear hgv
            have cb0 : w16.cell? ⟨w1.heap.size, 0, none⟩ = some (.int .i64 b0) := hk_cell (i := 0) Kb_16.out rfl
            have cb1 : w16.cell? ⟨w1.heap.size, 1, none⟩ = some (.int .i64 b1) := hk_cell (i := 1) Kb_16.out rfl
            have cb2 : w16.cell? ⟨w1.heap.size, 2, none⟩ = some (.int .i64 b2) := hk_cell (i := 2) Kb_16.out rfl
            have cb3 : w16.cell? ⟨w1.heap.size, 3, none⟩ = some (.int .i64 b3) := hk_cell (i := 3) Kb_16.out rfl
            go_wp2_with fail
            (with_reducible refine (TravelOf_r _ _ _ _ _ _ _ _ _ H1.out).mono ?_)
            rintro e w17 ⟨rfl, hb17⟩
            clear cb0 cb1 cb2 cb3
            have T17 : Below w.heap.size w w17 := T16.trans (hb17.mono T16.size)
            have HB17 := Lib.hid ((HB16.out.below hb17).keep hb17.size (fun _ _ => rfl))
            have Kb_17 : Hid (w17.heap[w1.heap.size]? = some (.cells #[.int .i64 b0, .int .i64 b1, .int .i64 b2, .int .i64 b3] 25 (0, 0))) := hk_below Kb_16.out hb17
            have Ky_17 : Hid (w17.heap[w9.heap.size]? = some (.cells #[.int .i64 y0, .int .i64 y1, .int .i64 y2, .int .i64 y3] 25 (0, 0))) := hk_below Ky_16.out hb17
            have Kz_17 : Hid (w17.heap[w13.heap.size]? = some (.cells #[.int .i64 z0, .int .i64 z1, .int .i64 z2, .int .i64 z3] 25 (0, 0))) := hk_below Kz_16.out hb17
            clear HB16 Kb_16 Ky_16 Kz_16
            by_cases hf0 : g = 5000
            · subst hf0
              clear hless
              go_wp2
              go_ret
              exact ⟨rfl, T17⟩
            · obtain ⟨lv, hlv, hlt⟩ := hless hf0
              clear hless
              have hfq : (g == 5000) = false := by rw [beq_eq_false_iff_ne]; exact hf0
              have hf1 : IntKind.i64.wrap (g + 1) = g + 1 := IntWalk.i64_in _ (by omega)
              have H2 := Lib.hid hlv
              clear hlv
              have cb0 : w17.cell? ⟨w1.heap.size, 0, none⟩ = some (.int .i64 b0) := hk_cell (i := 0) Kb_17.out rfl
              have cb1 : w17.cell? ⟨w1.heap.size, 1, none⟩ = some (.int .i64 b1) := hk_cell (i := 1) Kb_17.out rfl
              have cb2 : w17.cell? ⟨w1.heap.size, 2, none⟩ = some (.int .i64 b2) := hk_cell (i := 2) Kb_17.out rfl
              have cb3 : w17.cell? ⟨w1.heap.size, 3, none⟩ = some (.int .i64 b3) := hk_cell (i := 3) Kb_17.out rfl
              go_wp2_with fail
              (with_reducible refine (TravelOf_r _ _ _ _ _ _ _ _ _ H2.out).mono ?_)
              rintro e w18 ⟨rfl, hb18⟩
              clear cb0 cb1 cb2 cb3
              have T18 : Below w.heap.size w w18 := T17.trans (hb18.mono T17.size)
              have HB18 := Lib.hid ((HB17.out.below hb18).keep hb18.size (fun _ _ => rfl))
              have Kb_18 : Hid (w18.heap[w1.heap.size]? = some (.cells #[.int .i64 b0, .int .i64 b1, .int .i64 b2, .int .i64 b3] 25 (0, 0))) := hk_below Kb_17.out hb18
              have Ky_18 : Hid (w18.heap[w9.heap.size]? = some (.cells #[.int .i64 y0, .int .i64 y1, .int .i64 y2, .int .i64 y3] 25 (0, 0))) := hk_below Ky_17.out hb18
              have Kz_18 : Hid (w18.heap[w13.heap.size]? = some (.cells #[.int .i64 z0, .int .i64 z1, .int .i64 z2, .int .i64 z3] 25 (0, 0))) := hk_below Kz_17.out hb18
              clear HB17 Kb_17 Ky_17 Kz_17
              go_wp2
              go_ret
              exact ⟨rfl, T18⟩
          · clear hFL
            have hbq : (bad == 0) = false := by rw [beq_eq_false_iff_ne]; exact hbad
            go_wp2
            go_ret
            exact ⟨rfl, T16⟩
      · clear kp
        have hd5 : decide (0 < k) = false := by simpa using hk0
        by_cases hthree : three = 0
        · obtain ⟨xv, yv, hxv, hyv, hsb⟩ := hPL.out hthree
          clear hPL
          subst hthree
          have HSB := Lib.hid hsb
          clear hsb
          have H3 := Lib.hid hxv
          have H4 := Lib.hid hyv
          clear hxv hyv
          have cy0 : w16.cell? ⟨w9.heap.size, 0, none⟩ = some (.int .i64 y0) := hk_cell (i := 0) Ky_16.out rfl
          have cy1 : w16.cell? ⟨w9.heap.size, 1, none⟩ = some (.int .i64 y1) := hk_cell (i := 1) Ky_16.out rfl
          have cy2 : w16.cell? ⟨w9.heap.size, 2, none⟩ = some (.int .i64 y2) := hk_cell (i := 2) Ky_16.out rfl
          have cy3 : w16.cell? ⟨w9.heap.size, 3, none⟩ = some (.int .i64 y3) := hk_cell (i := 3) Ky_16.out rfl
          have cz0 : w16.cell? ⟨w13.heap.size, 0, none⟩ = some (.int .i64 z0) := hk_cell (i := 0) Kz_16.out rfl
          have cz1 : w16.cell? ⟨w13.heap.size, 1, none⟩ = some (.int .i64 z1) := hk_cell (i := 1) Kz_16.out rfl
          have cz2 : w16.cell? ⟨w13.heap.size, 2, none⟩ = some (.int .i64 z2) := hk_cell (i := 2) Kz_16.out rfl
          have cz3 : w16.cell? ⟨w13.heap.size, 3, none⟩ = some (.int .i64 z3) := hk_cell (i := 3) Kz_16.out rfl
          go_wp2_with fail
          (with_reducible refine (TravelOf_r _ _ _ _ _ _ _ _ _ H3.out).mono ?_)
          rintro e w17 ⟨rfl, hb17⟩
          clear cy0 cy1 cy2 cy3 cz0 cz1 cz2 cz3
          have T17 : Below w.heap.size w w17 := T16.trans (hb17.mono T16.size)
          have HB17 := Lib.hid ((HB16.out.below hb17).keep hb17.size (fun _ _ => rfl))
          have Kb_17 : Hid (w17.heap[w1.heap.size]? = some (.cells #[.int .i64 b0, .int .i64 b1, .int .i64 b2, .int .i64 b3] 25 (0, 0))) := hk_below Kb_16.out hb17
          have Ky_17 : Hid (w17.heap[w9.heap.size]? = some (.cells #[.int .i64 y0, .int .i64 y1, .int .i64 y2, .int .i64 y3] 25 (0, 0))) := hk_below Ky_16.out hb17
          have Kz_17 : Hid (w17.heap[w13.heap.size]? = some (.cells #[.int .i64 z0, .int .i64 z1, .int .i64 z2, .int .i64 z3] 25 (0, 0))) := hk_below Kz_16.out hb17
          clear HB16 Kb_16 Ky_16 Kz_16
          have cy0 : w17.cell? ⟨w9.heap.size, 0, none⟩ = some (.int .i64 y0) := hk_cell (i := 0) Ky_17.out rfl
          have cy1 : w17.cell? ⟨w9.heap.size, 1, none⟩ = some (.int .i64 y1) := hk_cell (i := 1) Ky_17.out rfl
          have cy2 : w17.cell? ⟨w9.heap.size, 2, none⟩ = some (.int .i64 y2) := hk_cell (i := 2) Ky_17.out rfl
          have cy3 : w17.cell? ⟨w9.heap.size, 3, none⟩ = some (.int .i64 y3) := hk_cell (i := 3) Ky_17.out rfl
          go_wp2_with fail
          (with_reducible refine (GripOf_r _ _ _ _ _ _ _ _ H4.out).mono ?_)
          rintro e w18 ⟨rfl, hb18⟩
          clear cy0 cy1 cy2 cy3
          have T18 : Below w.heap.size w w18 := T17.trans (hb18.mono T17.size)
          have HB18 := Lib.hid ((HB17.out.below hb18).keep hb18.size (fun _ _ => rfl))
          have Kb_18 : Hid (w18.heap[w1.heap.size]? = some (.cells #[.int .i64 b0, .int .i64 b1, .int .i64 b2, .int .i64 b3] 25 (0, 0))) := hk_below Kb_17.out hb18
          have Ky_18 : Hid (w18.heap[w9.heap.size]? = some (.cells #[.int .i64 y0, .int .i64 y1, .int .i64 y2, .int .i64 y3] 25 (0, 0))) := hk_below Ky_17.out hb18
          have Kz_18 : Hid (w18.heap[w13.heap.size]? = some (.cells #[.int .i64 z0, .int .i64 z1, .int .i64 z2, .int .i64 z3] 25 (0, 0))) := hk_below Kz_17.out hb18
          clear HB17 Kb_17 Ky_17 Kz_17
          by_cases hx1 : xv ≤ mo
          · by_cases hx2 : le ≤ yv
            · have hsv : sb = true := by rw [HSB.out]; simp [hx1, hx2]
              clear HSB
              subst hsv
              have hd1 : decide (xv ≤ mo) = true := by simpa using hx1
              have hd2 : decide (le ≤ yv) = true := by simpa using hx2
              by_cases hbad : bad = 0
              · obtain ⟨g0, g1, ⟨gv, hgv, hge⟩, hless⟩ := hFL.out hbad
                clear hFL
                subst hbad
                have H1 := Lib.hid hgv
                clear hgv
                have cb0 : w18.cell? ⟨w1.heap.size, 0, none⟩ = some (.int .i64 b0) := hk_cell (i := 0) Kb_18.out rfl
                have cb1 : w18.cell? ⟨w1.heap.size, 1, none⟩ = some (.int .i64 b1) := hk_cell (i := 1) Kb_18.out rfl
                have cb2 : w18.cell? ⟨w1.heap.size, 2, none⟩ = some (.int .i64 b2) := hk_cell (i := 2) Kb_18.out rfl
                have cb3 : w18.cell? ⟨w1.heap.size, 3, none⟩ = some (.int .i64 b3) := hk_cell (i := 3) Kb_18.out rfl
                go_wp2_with fail
                (with_reducible refine (TravelOf_r _ _ _ _ _ _ _ _ _ H1.out).mono ?_)
                rintro e w19 ⟨rfl, hb19⟩
                clear cb0 cb1 cb2 cb3
                have T19 : Below w.heap.size w w19 := T18.trans (hb19.mono T18.size)
                have HB19 := Lib.hid ((HB18.out.below hb19).keep hb19.size (fun _ _ => rfl))
                have Kb_19 : Hid (w19.heap[w1.heap.size]? = some (.cells #[.int .i64 b0, .int .i64 b1, .int .i64 b2, .int .i64 b3] 25 (0, 0))) := hk_below Kb_18.out hb19
                have Ky_19 : Hid (w19.heap[w9.heap.size]? = some (.cells #[.int .i64 y0, .int .i64 y1, .int .i64 y2, .int .i64 y3] 25 (0, 0))) := hk_below Ky_18.out hb19
                have Kz_19 : Hid (w19.heap[w13.heap.size]? = some (.cells #[.int .i64 z0, .int .i64 z1, .int .i64 z2, .int .i64 z3] 25 (0, 0))) := hk_below Kz_18.out hb19
                clear HB18 Kb_18 Ky_18 Kz_18
                by_cases hf0 : g = 5000
                · subst hf0
                  clear hless
                  go_wp2
                  go_ret
                  exact ⟨rfl, T19⟩
                · obtain ⟨lv, hlv, hlt⟩ := hless hf0
                  clear hless
                  have hfq : (g == 5000) = false := by rw [beq_eq_false_iff_ne]; exact hf0
                  have hf1 : IntKind.i64.wrap (g + 1) = g + 1 := IntWalk.i64_in _ (by omega)
                  have H2 := Lib.hid hlv
                  clear hlv
                  have cb0 : w19.cell? ⟨w1.heap.size, 0, none⟩ = some (.int .i64 b0) := hk_cell (i := 0) Kb_19.out rfl
                  have cb1 : w19.cell? ⟨w1.heap.size, 1, none⟩ = some (.int .i64 b1) := hk_cell (i := 1) Kb_19.out rfl
                  have cb2 : w19.cell? ⟨w1.heap.size, 2, none⟩ = some (.int .i64 b2) := hk_cell (i := 2) Kb_19.out rfl
                  have cb3 : w19.cell? ⟨w1.heap.size, 3, none⟩ = some (.int .i64 b3) := hk_cell (i := 3) Kb_19.out rfl
                  go_wp2_with fail
                  (with_reducible refine (TravelOf_r _ _ _ _ _ _ _ _ _ H2.out).mono ?_)
                  rintro e w20 ⟨rfl, hb20⟩
                  clear cb0 cb1 cb2 cb3
                  have T20 : Below w.heap.size w w20 := T19.trans (hb20.mono T19.size)
                  have HB20 := Lib.hid ((HB19.out.below hb20).keep hb20.size (fun _ _ => rfl))
                  have Kb_20 : Hid (w20.heap[w1.heap.size]? = some (.cells #[.int .i64 b0, .int .i64 b1, .int .i64 b2, .int .i64 b3] 25 (0, 0))) := hk_below Kb_19.out hb20
                  have Ky_20 : Hid (w20.heap[w9.heap.size]? = some (.cells #[.int .i64 y0, .int .i64 y1, .int .i64 y2, .int .i64 y3] 25 (0, 0))) := hk_below Ky_19.out hb20
                  have Kz_20 : Hid (w20.heap[w13.heap.size]? = some (.cells #[.int .i64 z0, .int .i64 z1, .int .i64 z2, .int .i64 z3] 25 (0, 0))) := hk_below Kz_19.out hb20
                  clear HB19 Kb_19 Ky_19 Kz_19
                  go_wp2
                  go_ret
                  exact ⟨rfl, T20⟩
              · clear hFL
                have hbq : (bad == 0) = false := by rw [beq_eq_false_iff_ne]; exact hbad
                go_wp2
                go_ret
                exact ⟨rfl, T18⟩
            · have hsv : sb = false := by rw [HSB.out]; simp [hx1, hx2]
              clear HSB
              subst hsv
              have hd1 : decide (xv ≤ mo) = true := by simpa using hx1
              have hd2 : decide (le ≤ yv) = false := by simpa using hx2
              by_cases hbad : bad = 0
              · obtain ⟨g0, g1, ⟨gv, hgv, hge⟩, hless⟩ := hFL.out hbad
                clear hFL
                subst hbad
                have H1 := Lib.hid hgv
                clear hgv
                have cb0 : w18.cell? ⟨w1.heap.size, 0, none⟩ = some (.int .i64 b0) := hk_cell (i := 0) Kb_18.out rfl
                have cb1 : w18.cell? ⟨w1.heap.size, 1, none⟩ = some (.int .i64 b1) := hk_cell (i := 1) Kb_18.out rfl
                have cb2 : w18.cell? ⟨w1.heap.size, 2, none⟩ = some (.int .i64 b2) := hk_cell (i := 2) Kb_18.out rfl
                have cb3 : w18.cell? ⟨w1.heap.size, 3, none⟩ = some (.int .i64 b3) := hk_cell (i := 3) Kb_18.out rfl
                go_wp2_with fail
                (with_reducible refine (TravelOf_r _ _ _ _ _ _ _ _ _ H1.out).mono ?_)
                rintro e w19 ⟨rfl, hb19⟩
                clear cb0 cb1 cb2 cb3
                have T19 : Below w.heap.size w w19 := T18.trans (hb19.mono T18.size)
                have HB19 := Lib.hid ((HB18.out.below hb19).keep hb19.size (fun _ _ => rfl))
                have Kb_19 : Hid (w19.heap[w1.heap.size]? = some (.cells #[.int .i64 b0, .int .i64 b1, .int .i64 b2, .int .i64 b3] 25 (0, 0))) := hk_below Kb_18.out hb19
                have Ky_19 : Hid (w19.heap[w9.heap.size]? = some (.cells #[.int .i64 y0, .int .i64 y1, .int .i64 y2, .int .i64 y3] 25 (0, 0))) := hk_below Ky_18.out hb19
                have Kz_19 : Hid (w19.heap[w13.heap.size]? = some (.cells #[.int .i64 z0, .int .i64 z1, .int .i64 z2, .int .i64 z3] 25 (0, 0))) := hk_below Kz_18.out hb19
                clear HB18 Kb_18 Ky_18 Kz_18
                by_cases hf0 : g = 5000
                · subst hf0
                  clear hless
                  go_wp2
                  go_ret
                  exact ⟨rfl, T19⟩
                · obtain ⟨lv, hlv, hlt⟩ := hless hf0
                  clear hless
                  have hfq : (g == 5000) = false := by rw [beq_eq_false_iff_ne]; exact hf0
                  have hf1 : IntKind.i64.wrap (g + 1) = g + 1 := IntWalk.i64_in _ (by omega)
                  have H2 := Lib.hid hlv
                  clear hlv
                  have cb0 : w19.cell? ⟨w1.heap.size, 0, none⟩ = some (.int .i64 b0) := hk_cell (i := 0) Kb_19.out rfl
                  have cb1 : w19.cell? ⟨w1.heap.size, 1, none⟩ = some (.int .i64 b1) := hk_cell (i := 1) Kb_19.out rfl
                  have cb2 : w19.cell? ⟨w1.heap.size, 2, none⟩ = some (.int .i64 b2) := hk_cell (i := 2) Kb_19.out rfl
                  have cb3 : w19.cell? ⟨w1.heap.size, 3, none⟩ = some (.int .i64 b3) := hk_cell (i := 3) Kb_19.out rfl
                  go_wp2_with fail
                  (with_reducible refine (TravelOf_r _ _ _ _ _ _ _ _ _ H2.out).mono ?_)
                  rintro e w20 ⟨rfl, hb20⟩
                  clear cb0 cb1 cb2 cb3
                  have T20 : Below w.heap.size w w20 := T19.trans (hb20.mono T19.size)
                  have HB20 := Lib.hid ((HB19.out.below hb20).keep hb20.size (fun _ _ => rfl))
                  have Kb_20 : Hid (w20.heap[w1.heap.size]? = some (.cells #[.int .i64 b0, .int .i64 b1, .int .i64 b2, .int .i64 b3] 25 (0, 0))) := hk_below Kb_19.out hb20
                  have Ky_20 : Hid (w20.heap[w9.heap.size]? = some (.cells #[.int .i64 y0, .int .i64 y1, .int .i64 y2, .int .i64 y3] 25 (0, 0))) := hk_below Ky_19.out hb20
                  have Kz_20 : Hid (w20.heap[w13.heap.size]? = some (.cells #[.int .i64 z0, .int .i64 z1, .int .i64 z2, .int .i64 z3] 25 (0, 0))) := hk_below Kz_19.out hb20
                  clear HB19 Kb_19 Ky_19 Kz_19
                  go_wp2
                  go_ret
                  exact ⟨rfl, T20⟩
              · clear hFL
                have hbq : (bad == 0) = false := by rw [beq_eq_false_iff_ne]; exact hbad
                go_wp2
                go_ret
                exact ⟨rfl, T18⟩
          · by_cases hx2 : le ≤ yv
            · have hsv : sb = false := by rw [HSB.out]; simp [hx1, hx2]
              clear HSB
              subst hsv
              have hd1 : decide (xv ≤ mo) = false := by simpa using hx1
              have hd2 : decide (le ≤ yv) = true := by simpa using hx2
              by_cases hbad : bad = 0
              · obtain ⟨g0, g1, ⟨gv, hgv, hge⟩, hless⟩ := hFL.out hbad
                clear hFL
                subst hbad
                have H1 := Lib.hid hgv
                clear hgv
                have cb0 : w18.cell? ⟨w1.heap.size, 0, none⟩ = some (.int .i64 b0) := hk_cell (i := 0) Kb_18.out rfl
                have cb1 : w18.cell? ⟨w1.heap.size, 1, none⟩ = some (.int .i64 b1) := hk_cell (i := 1) Kb_18.out rfl
                have cb2 : w18.cell? ⟨w1.heap.size, 2, none⟩ = some (.int .i64 b2) := hk_cell (i := 2) Kb_18.out rfl
                have cb3 : w18.cell? ⟨w1.heap.size, 3, none⟩ = some (.int .i64 b3) := hk_cell (i := 3) Kb_18.out rfl
                go_wp2_with fail
                (with_reducible refine (TravelOf_r _ _ _ _ _ _ _ _ _ H1.out).mono ?_)
                rintro e w19 ⟨rfl, hb19⟩
                clear cb0 cb1 cb2 cb3
                have T19 : Below w.heap.size w w19 := T18.trans (hb19.mono T18.size)
                have HB19 := Lib.hid ((HB18.out.below hb19).keep hb19.size (fun _ _ => rfl))
                have Kb_19 : Hid (w19.heap[w1.heap.size]? = some (.cells #[.int .i64 b0, .int .i64 b1, .int .i64 b2, .int .i64 b3] 25 (0, 0))) := hk_below Kb_18.out hb19
                have Ky_19 : Hid (w19.heap[w9.heap.size]? = some (.cells #[.int .i64 y0, .int .i64 y1, .int .i64 y2, .int .i64 y3] 25 (0, 0))) := hk_below Ky_18.out hb19
                have Kz_19 : Hid (w19.heap[w13.heap.size]? = some (.cells #[.int .i64 z0, .int .i64 z1, .int .i64 z2, .int .i64 z3] 25 (0, 0))) := hk_below Kz_18.out hb19
                clear HB18 Kb_18 Ky_18 Kz_18
                by_cases hf0 : g = 5000
                · subst hf0
                  clear hless
                  go_wp2
                  go_ret
                  exact ⟨rfl, T19⟩
                · obtain ⟨lv, hlv, hlt⟩ := hless hf0
                  clear hless
                  have hfq : (g == 5000) = false := by rw [beq_eq_false_iff_ne]; exact hf0
                  have hf1 : IntKind.i64.wrap (g + 1) = g + 1 := IntWalk.i64_in _ (by omega)
                  have H2 := Lib.hid hlv
                  clear hlv
                  have cb0 : w19.cell? ⟨w1.heap.size, 0, none⟩ = some (.int .i64 b0) := hk_cell (i := 0) Kb_19.out rfl
                  have cb1 : w19.cell? ⟨w1.heap.size, 1, none⟩ = some (.int .i64 b1) := hk_cell (i := 1) Kb_19.out rfl
                  have cb2 : w19.cell? ⟨w1.heap.size, 2, none⟩ = some (.int .i64 b2) := hk_cell (i := 2) Kb_19.out rfl
                  have cb3 : w19.cell? ⟨w1.heap.size, 3, none⟩ = some (.int .i64 b3) := hk_cell (i := 3) Kb_19.out rfl
                  go_wp2_with fail
                  (with_reducible refine (TravelOf_r _ _ _ _ _ _ _ _ _ H2.out).mono ?_)
                  rintro e w20 ⟨rfl, hb20⟩
                  clear cb0 cb1 cb2 cb3
                  have T20 : Below w.heap.size w w20 := T19.trans (hb20.mono T19.size)
                  have HB20 := Lib.hid ((HB19.out.below hb20).keep hb20.size (fun _ _ => rfl))
                  have Kb_20 : Hid (w20.heap[w1.heap.size]? = some (.cells #[.int .i64 b0, .int .i64 b1, .int .i64 b2, .int .i64 b3] 25 (0, 0))) := hk_below Kb_19.out hb20
                  have Ky_20 : Hid (w20.heap[w9.heap.size]? = some (.cells #[.int .i64 y0, .int .i64 y1, .int .i64 y2, .int .i64 y3] 25 (0, 0))) := hk_below Ky_19.out hb20
                  have Kz_20 : Hid (w20.heap[w13.heap.size]? = some (.cells #[.int .i64 z0, .int .i64 z1, .int .i64 z2, .int .i64 z3] 25 (0, 0))) := hk_below Kz_19.out hb20
                  clear HB19 Kb_19 Ky_19 Kz_19
                  go_wp2
                  go_ret
                  exact ⟨rfl, T20⟩
              · clear hFL
                have hbq : (bad == 0) = false := by rw [beq_eq_false_iff_ne]; exact hbad
                go_wp2
                go_ret
                exact ⟨rfl, T18⟩
            · have hsv : sb = false := by rw [HSB.out]; simp [hx1, hx2]
              clear HSB
              subst hsv
              have hd1 : decide (xv ≤ mo) = false := by simpa using hx1
              have hd2 : decide (le ≤ yv) = false := by simpa using hx2
              by_cases hbad : bad = 0
              · obtain ⟨g0, g1, ⟨gv, hgv, hge⟩, hless⟩ := hFL.out hbad
                clear hFL
                subst hbad
                have H1 := Lib.hid hgv
                clear hgv
                have cb0 : w18.cell? ⟨w1.heap.size, 0, none⟩ = some (.int .i64 b0) := hk_cell (i := 0) Kb_18.out rfl
                have cb1 : w18.cell? ⟨w1.heap.size, 1, none⟩ = some (.int .i64 b1) := hk_cell (i := 1) Kb_18.out rfl
                have cb2 : w18.cell? ⟨w1.heap.size, 2, none⟩ = some (.int .i64 b2) := hk_cell (i := 2) Kb_18.out rfl
                have cb3 : w18.cell? ⟨w1.heap.size, 3, none⟩ = some (.int .i64 b3) := hk_cell (i := 3) Kb_18.out rfl
                go_wp2_with fail
                (with_reducible refine (TravelOf_r _ _ _ _ _ _ _ _ _ H1.out).mono ?_)
                rintro e w19 ⟨rfl, hb19⟩
                clear cb0 cb1 cb2 cb3
                have T19 : Below w.heap.size w w19 := T18.trans (hb19.mono T18.size)
                have HB19 := Lib.hid ((HB18.out.below hb19).keep hb19.size (fun _ _ => rfl))
                have Kb_19 : Hid (w19.heap[w1.heap.size]? = some (.cells #[.int .i64 b0, .int .i64 b1, .int .i64 b2, .int .i64 b3] 25 (0, 0))) := hk_below Kb_18.out hb19
                have Ky_19 : Hid (w19.heap[w9.heap.size]? = some (.cells #[.int .i64 y0, .int .i64 y1, .int .i64 y2, .int .i64 y3] 25 (0, 0))) := hk_below Ky_18.out hb19
                have Kz_19 : Hid (w19.heap[w13.heap.size]? = some (.cells #[.int .i64 z0, .int .i64 z1, .int .i64 z2, .int .i64 z3] 25 (0, 0))) := hk_below Kz_18.out hb19
                clear HB18 Kb_18 Ky_18 Kz_18
                by_cases hf0 : g = 5000
                · subst hf0
                  clear hless
                  go_wp2
                  go_ret
                  exact ⟨rfl, T19⟩
                · obtain ⟨lv, hlv, hlt⟩ := hless hf0
                  clear hless
                  have hfq : (g == 5000) = false := by rw [beq_eq_false_iff_ne]; exact hf0
                  have hf1 : IntKind.i64.wrap (g + 1) = g + 1 := IntWalk.i64_in _ (by omega)
                  have H2 := Lib.hid hlv
                  clear hlv
                  have cb0 : w19.cell? ⟨w1.heap.size, 0, none⟩ = some (.int .i64 b0) := hk_cell (i := 0) Kb_19.out rfl
                  have cb1 : w19.cell? ⟨w1.heap.size, 1, none⟩ = some (.int .i64 b1) := hk_cell (i := 1) Kb_19.out rfl
                  have cb2 : w19.cell? ⟨w1.heap.size, 2, none⟩ = some (.int .i64 b2) := hk_cell (i := 2) Kb_19.out rfl
                  have cb3 : w19.cell? ⟨w1.heap.size, 3, none⟩ = some (.int .i64 b3) := hk_cell (i := 3) Kb_19.out rfl
                  go_wp2_with fail
                  (with_reducible refine (TravelOf_r _ _ _ _ _ _ _ _ _ H2.out).mono ?_)
                  rintro e w20 ⟨rfl, hb20⟩
                  clear cb0 cb1 cb2 cb3
                  have T20 : Below w.heap.size w w20 := T19.trans (hb20.mono T19.size)
                  have HB20 := Lib.hid ((HB19.out.below hb20).keep hb20.size (fun _ _ => rfl))
                  have Kb_20 : Hid (w20.heap[w1.heap.size]? = some (.cells #[.int .i64 b0, .int .i64 b1, .int .i64 b2, .int .i64 b3] 25 (0, 0))) := hk_below Kb_19.out hb20
                  have Ky_20 : Hid (w20.heap[w9.heap.size]? = some (.cells #[.int .i64 y0, .int .i64 y1, .int .i64 y2, .int .i64 y3] 25 (0, 0))) := hk_below Ky_19.out hb20
                  have Kz_20 : Hid (w20.heap[w13.heap.size]? = some (.cells #[.int .i64 z0, .int .i64 z1, .int .i64 z2, .int .i64 z3] 25 (0, 0))) := hk_below Kz_19.out hb20
                  clear HB19 Kb_19 Ky_19 Kz_19
                  go_wp2
                  go_ret
                  exact ⟨rfl, T20⟩
              · clear hFL
                have hbq : (bad == 0) = false := by rw [beq_eq_false_iff_ne]; exact hbad
                go_wp2
                go_ret
                exact ⟨rfl, T18⟩
        · clear hPL
          have htq : (three == 0) = false := by rw [beq_eq_false_iff_ne]; exact hthree
          have cz0 : w16.cell? ⟨w13.heap.size, 0, none⟩ = some (.int .i64 z0) := hk_cell (i := 0) Kz_16.out rfl
          have cz1 : w16.cell? ⟨w13.heap.size, 1, none⟩ = some (.int .i64 z1) := hk_cell (i := 1) Kz_16.out rfl
          have cz2 : w16.cell? ⟨w13.heap.size, 2, none⟩ = some (.int .i64 z2) := hk_cell (i := 2) Kz_16.out rfl
          have cz3 : w16.cell? ⟨w13.heap.size, 3, none⟩ = some (.int .i64 z3) := hk_cell (i := 3) Kz_16.out rfl
          by_cases hbad : bad = 0
          · obtain ⟨g0, g1, ⟨gv, hgv, hge⟩, hless⟩ := hFL.out hbad
            clear hFL
            subst hbad
            have H1 := Lib.hid hgv
            clear hgv
            have cb0 : w16.cell? ⟨w1.heap.size, 0, none⟩ = some (.int .i64 b0) := hk_cell (i := 0) Kb_16.out rfl
            have cb1 : w16.cell? ⟨w1.heap.size, 1, none⟩ = some (.int .i64 b1) := hk_cell (i := 1) Kb_16.out rfl
            have cb2 : w16.cell? ⟨w1.heap.size, 2, none⟩ = some (.int .i64 b2) := hk_cell (i := 2) Kb_16.out rfl
            have cb3 : w16.cell? ⟨w1.heap.size, 3, none⟩ = some (.int .i64 b3) := hk_cell (i := 3) Kb_16.out rfl
            go_wp2_with fail
            (with_reducible refine (TravelOf_r _ _ _ _ _ _ _ _ _ H1.out).mono ?_)
            rintro e w17 ⟨rfl, hb17⟩
            clear cb0 cb1 cb2 cb3
            have T17 : Below w.heap.size w w17 := T16.trans (hb17.mono T16.size)
            have HB17 := Lib.hid ((HB16.out.below hb17).keep hb17.size (fun _ _ => rfl))
            have Kb_17 : Hid (w17.heap[w1.heap.size]? = some (.cells #[.int .i64 b0, .int .i64 b1, .int .i64 b2, .int .i64 b3] 25 (0, 0))) := hk_below Kb_16.out hb17
            have Ky_17 : Hid (w17.heap[w9.heap.size]? = some (.cells #[.int .i64 y0, .int .i64 y1, .int .i64 y2, .int .i64 y3] 25 (0, 0))) := hk_below Ky_16.out hb17
            have Kz_17 : Hid (w17.heap[w13.heap.size]? = some (.cells #[.int .i64 z0, .int .i64 z1, .int .i64 z2, .int .i64 z3] 25 (0, 0))) := hk_below Kz_16.out hb17
            clear HB16 Kb_16 Ky_16 Kz_16
            by_cases hf0 : g = 5000
            · subst hf0
              clear hless
              go_wp2
              go_ret
              exact ⟨rfl, T17⟩
            · obtain ⟨lv, hlv, hlt⟩ := hless hf0
              clear hless
              have hfq : (g == 5000) = false := by rw [beq_eq_false_iff_ne]; exact hf0
              have hf1 : IntKind.i64.wrap (g + 1) = g + 1 := IntWalk.i64_in _ (by omega)
              have H2 := Lib.hid hlv
              clear hlv
              have cb0 : w17.cell? ⟨w1.heap.size, 0, none⟩ = some (.int .i64 b0) := hk_cell (i := 0) Kb_17.out rfl
              have cb1 : w17.cell? ⟨w1.heap.size, 1, none⟩ = some (.int .i64 b1) := hk_cell (i := 1) Kb_17.out rfl
              have cb2 : w17.cell? ⟨w1.heap.size, 2, none⟩ = some (.int .i64 b2) := hk_cell (i := 2) Kb_17.out rfl
              have cb3 : w17.cell? ⟨w1.heap.size, 3, none⟩ = some (.int .i64 b3) := hk_cell (i := 3) Kb_17.out rfl
              go_wp2_with fail
              (with_reducible refine (TravelOf_r _ _ _ _ _ _ _ _ _ H2.out).mono ?_)
              rintro e w18 ⟨rfl, hb18⟩
              clear cb0 cb1 cb2 cb3
              have T18 : Below w.heap.size w w18 := T17.trans (hb18.mono T17.size)
              have HB18 := Lib.hid ((HB17.out.below hb18).keep hb18.size (fun _ _ => rfl))
              have Kb_18 : Hid (w18.heap[w1.heap.size]? = some (.cells #[.int .i64 b0, .int .i64 b1, .int .i64 b2, .int .i64 b3] 25 (0, 0))) := hk_below Kb_17.out hb18
              have Ky_18 : Hid (w18.heap[w9.heap.size]? = some (.cells #[.int .i64 y0, .int .i64 y1, .int .i64 y2, .int .i64 y3] 25 (0, 0))) := hk_below Ky_17.out hb18
              have Kz_18 : Hid (w18.heap[w13.heap.size]? = some (.cells #[.int .i64 z0, .int .i64 z1, .int .i64 z2, .int .i64 z3] 25 (0, 0))) := hk_below Kz_17.out hb18
              clear HB17 Kb_17 Ky_17 Kz_17
              go_wp2
              go_ret
              exact ⟨rfl, T18⟩
          · clear hFL
            have hbq : (bad == 0) = false := by rw [beq_eq_false_iff_ne]; exact hbad
            go_wp2
            go_ret
            exact ⟨rfl, T16⟩
    · clear hCL
      have hfq5 : (five == 0) = false := by rw [beq_eq_false_iff_ne]; exact hfive
      by_cases hthree : three = 0
      · obtain ⟨xv, yv, hxv, hyv, hsb⟩ := hPL.out hthree
        clear hPL
        subst hthree
        have HSB := Lib.hid hsb
        clear hsb
        have H3 := Lib.hid hxv
        have H4 := Lib.hid hyv
        clear hxv hyv
        have cy0 : w16.cell? ⟨w9.heap.size, 0, none⟩ = some (.int .i64 y0) := hk_cell (i := 0) Ky_16.out rfl
        have cy1 : w16.cell? ⟨w9.heap.size, 1, none⟩ = some (.int .i64 y1) := hk_cell (i := 1) Ky_16.out rfl
        have cy2 : w16.cell? ⟨w9.heap.size, 2, none⟩ = some (.int .i64 y2) := hk_cell (i := 2) Ky_16.out rfl
        have cy3 : w16.cell? ⟨w9.heap.size, 3, none⟩ = some (.int .i64 y3) := hk_cell (i := 3) Ky_16.out rfl
        go_wp2_with fail
        (with_reducible refine (TravelOf_r _ _ _ _ _ _ _ _ _ H3.out).mono ?_)
        rintro e w17 ⟨rfl, hb17⟩
        clear cy0 cy1 cy2 cy3
        have T17 : Below w.heap.size w w17 := T16.trans (hb17.mono T16.size)
        have HB17 := Lib.hid ((HB16.out.below hb17).keep hb17.size (fun _ _ => rfl))
        have Kb_17 : Hid (w17.heap[w1.heap.size]? = some (.cells #[.int .i64 b0, .int .i64 b1, .int .i64 b2, .int .i64 b3] 25 (0, 0))) := hk_below Kb_16.out hb17
        have Ky_17 : Hid (w17.heap[w9.heap.size]? = some (.cells #[.int .i64 y0, .int .i64 y1, .int .i64 y2, .int .i64 y3] 25 (0, 0))) := hk_below Ky_16.out hb17
        have Kz_17 : Hid (w17.heap[w13.heap.size]? = some (.cells #[.int .i64 z0, .int .i64 z1, .int .i64 z2, .int .i64 z3] 25 (0, 0))) := hk_below Kz_16.out hb17
        clear HB16 Kb_16 Ky_16 Kz_16
        have cy0 : w17.cell? ⟨w9.heap.size, 0, none⟩ = some (.int .i64 y0) := hk_cell (i := 0) Ky_17.out rfl
        have cy1 : w17.cell? ⟨w9.heap.size, 1, none⟩ = some (.int .i64 y1) := hk_cell (i := 1) Ky_17.out rfl
        have cy2 : w17.cell? ⟨w9.heap.size, 2, none⟩ = some (.int .i64 y2) := hk_cell (i := 2) Ky_17.out rfl
        have cy3 : w17.cell? ⟨w9.heap.size, 3, none⟩ = some (.int .i64 y3) := hk_cell (i := 3) Ky_17.out rfl
        go_wp2_with fail
        (with_reducible refine (GripOf_r _ _ _ _ _ _ _ _ H4.out).mono ?_)
        rintro e w18 ⟨rfl, hb18⟩
        clear cy0 cy1 cy2 cy3
        have T18 : Below w.heap.size w w18 := T17.trans (hb18.mono T17.size)
        have HB18 := Lib.hid ((HB17.out.below hb18).keep hb18.size (fun _ _ => rfl))
        have Kb_18 : Hid (w18.heap[w1.heap.size]? = some (.cells #[.int .i64 b0, .int .i64 b1, .int .i64 b2, .int .i64 b3] 25 (0, 0))) := hk_below Kb_17.out hb18
        have Ky_18 : Hid (w18.heap[w9.heap.size]? = some (.cells #[.int .i64 y0, .int .i64 y1, .int .i64 y2, .int .i64 y3] 25 (0, 0))) := hk_below Ky_17.out hb18
        have Kz_18 : Hid (w18.heap[w13.heap.size]? = some (.cells #[.int .i64 z0, .int .i64 z1, .int .i64 z2, .int .i64 z3] 25 (0, 0))) := hk_below Kz_17.out hb18
        clear HB17 Kb_17 Ky_17 Kz_17
        by_cases hx1 : xv ≤ mo
        · by_cases hx2 : le ≤ yv
          · have hsv : sb = true := by rw [HSB.out]; simp [hx1, hx2]
            clear HSB
            subst hsv
            have hd1 : decide (xv ≤ mo) = true := by simpa using hx1
            have hd2 : decide (le ≤ yv) = true := by simpa using hx2
            by_cases hbad : bad = 0
            · obtain ⟨g0, g1, ⟨gv, hgv, hge⟩, hless⟩ := hFL.out hbad
              clear hFL
              subst hbad
              have H1 := Lib.hid hgv
              clear hgv
              have cb0 : w18.cell? ⟨w1.heap.size, 0, none⟩ = some (.int .i64 b0) := hk_cell (i := 0) Kb_18.out rfl
              have cb1 : w18.cell? ⟨w1.heap.size, 1, none⟩ = some (.int .i64 b1) := hk_cell (i := 1) Kb_18.out rfl
              have cb2 : w18.cell? ⟨w1.heap.size, 2, none⟩ = some (.int .i64 b2) := hk_cell (i := 2) Kb_18.out rfl
              have cb3 : w18.cell? ⟨w1.heap.size, 3, none⟩ = some (.int .i64 b3) := hk_cell (i := 3) Kb_18.out rfl
              go_wp2_with fail
              (with_reducible refine (TravelOf_r _ _ _ _ _ _ _ _ _ H1.out).mono ?_)
              rintro e w19 ⟨rfl, hb19⟩
              clear cb0 cb1 cb2 cb3
              have T19 : Below w.heap.size w w19 := T18.trans (hb19.mono T18.size)
              have HB19 := Lib.hid ((HB18.out.below hb19).keep hb19.size (fun _ _ => rfl))
              have Kb_19 : Hid (w19.heap[w1.heap.size]? = some (.cells #[.int .i64 b0, .int .i64 b1, .int .i64 b2, .int .i64 b3] 25 (0, 0))) := hk_below Kb_18.out hb19
              have Ky_19 : Hid (w19.heap[w9.heap.size]? = some (.cells #[.int .i64 y0, .int .i64 y1, .int .i64 y2, .int .i64 y3] 25 (0, 0))) := hk_below Ky_18.out hb19
              have Kz_19 : Hid (w19.heap[w13.heap.size]? = some (.cells #[.int .i64 z0, .int .i64 z1, .int .i64 z2, .int .i64 z3] 25 (0, 0))) := hk_below Kz_18.out hb19
              clear HB18 Kb_18 Ky_18 Kz_18
              by_cases hf0 : g = 5000
              · subst hf0
                clear hless
                go_wp2
                go_ret
                exact ⟨rfl, T19⟩
              · obtain ⟨lv, hlv, hlt⟩ := hless hf0
                clear hless
                have hfq : (g == 5000) = false := by rw [beq_eq_false_iff_ne]; exact hf0
                have hf1 : IntKind.i64.wrap (g + 1) = g + 1 := IntWalk.i64_in _ (by omega)
                have H2 := Lib.hid hlv
                clear hlv
                have cb0 : w19.cell? ⟨w1.heap.size, 0, none⟩ = some (.int .i64 b0) := hk_cell (i := 0) Kb_19.out rfl
                have cb1 : w19.cell? ⟨w1.heap.size, 1, none⟩ = some (.int .i64 b1) := hk_cell (i := 1) Kb_19.out rfl
                have cb2 : w19.cell? ⟨w1.heap.size, 2, none⟩ = some (.int .i64 b2) := hk_cell (i := 2) Kb_19.out rfl
                have cb3 : w19.cell? ⟨w1.heap.size, 3, none⟩ = some (.int .i64 b3) := hk_cell (i := 3) Kb_19.out rfl
                go_wp2_with fail
                (with_reducible refine (TravelOf_r _ _ _ _ _ _ _ _ _ H2.out).mono ?_)
                rintro e w20 ⟨rfl, hb20⟩
                clear cb0 cb1 cb2 cb3
                have T20 : Below w.heap.size w w20 := T19.trans (hb20.mono T19.size)
                have HB20 := Lib.hid ((HB19.out.below hb20).keep hb20.size (fun _ _ => rfl))
                have Kb_20 : Hid (w20.heap[w1.heap.size]? = some (.cells #[.int .i64 b0, .int .i64 b1, .int .i64 b2, .int .i64 b3] 25 (0, 0))) := hk_below Kb_19.out hb20
                have Ky_20 : Hid (w20.heap[w9.heap.size]? = some (.cells #[.int .i64 y0, .int .i64 y1, .int .i64 y2, .int .i64 y3] 25 (0, 0))) := hk_below Ky_19.out hb20
                have Kz_20 : Hid (w20.heap[w13.heap.size]? = some (.cells #[.int .i64 z0, .int .i64 z1, .int .i64 z2, .int .i64 z3] 25 (0, 0))) := hk_below Kz_19.out hb20
                clear HB19 Kb_19 Ky_19 Kz_19
                go_wp2
                go_ret
                exact ⟨rfl, T20⟩
            · clear hFL
              have hbq : (bad == 0) = false := by rw [beq_eq_false_iff_ne]; exact hbad
              go_wp2
              go_ret
              exact ⟨rfl, T18⟩
          · have hsv : sb = false := by rw [HSB.out]; simp [hx1, hx2]
            clear HSB
            subst hsv
            have hd1 : decide (xv ≤ mo) = true := by simpa using hx1
            have hd2 : decide (le ≤ yv) = false := by simpa using hx2
            by_cases hbad : bad = 0
            · obtain ⟨g0, g1, ⟨gv, hgv, hge⟩, hless⟩ := hFL.out hbad
              clear hFL
              subst hbad
              have H1 := Lib.hid hgv
              clear hgv
              have cb0 : w18.cell? ⟨w1.heap.size, 0, none⟩ = some (.int .i64 b0) := hk_cell (i := 0) Kb_18.out rfl
              have cb1 : w18.cell? ⟨w1.heap.size, 1, none⟩ = some (.int .i64 b1) := hk_cell (i := 1) Kb_18.out rfl
              have cb2 : w18.cell? ⟨w1.heap.size, 2, none⟩ = some (.int .i64 b2) := hk_cell (i := 2) Kb_18.out rfl
              have cb3 : w18.cell? ⟨w1.heap.size, 3, none⟩ = some (.int .i64 b3) := hk_cell (i := 3) Kb_18.out rfl
              go_wp2_with fail
              (with_reducible refine (TravelOf_r _ _ _ _ _ _ _ _ _ H1.out).mono ?_)
              rintro e w19 ⟨rfl, hb19⟩
              clear cb0 cb1 cb2 cb3
              have T19 : Below w.heap.size w w19 := T18.trans (hb19.mono T18.size)
              have HB19 := Lib.hid ((HB18.out.below hb19).keep hb19.size (fun _ _ => rfl))
              have Kb_19 : Hid (w19.heap[w1.heap.size]? = some (.cells #[.int .i64 b0, .int .i64 b1, .int .i64 b2, .int .i64 b3] 25 (0, 0))) := hk_below Kb_18.out hb19
              have Ky_19 : Hid (w19.heap[w9.heap.size]? = some (.cells #[.int .i64 y0, .int .i64 y1, .int .i64 y2, .int .i64 y3] 25 (0, 0))) := hk_below Ky_18.out hb19
              have Kz_19 : Hid (w19.heap[w13.heap.size]? = some (.cells #[.int .i64 z0, .int .i64 z1, .int .i64 z2, .int .i64 z3] 25 (0, 0))) := hk_below Kz_18.out hb19
              clear HB18 Kb_18 Ky_18 Kz_18
              by_cases hf0 : g = 5000
              · subst hf0
                clear hless
                go_wp2
                go_ret
                exact ⟨rfl, T19⟩
              · obtain ⟨lv, hlv, hlt⟩ := hless hf0
                clear hless
                have hfq : (g == 5000) = false := by rw [beq_eq_false_iff_ne]; exact hf0
                have hf1 : IntKind.i64.wrap (g + 1) = g + 1 := IntWalk.i64_in _ (by omega)
                have H2 := Lib.hid hlv
                clear hlv
                have cb0 : w19.cell? ⟨w1.heap.size, 0, none⟩ = some (.int .i64 b0) := hk_cell (i := 0) Kb_19.out rfl
                have cb1 : w19.cell? ⟨w1.heap.size, 1, none⟩ = some (.int .i64 b1) := hk_cell (i := 1) Kb_19.out rfl
                have cb2 : w19.cell? ⟨w1.heap.size, 2, none⟩ = some (.int .i64 b2) := hk_cell (i := 2) Kb_19.out rfl
                have cb3 : w19.cell? ⟨w1.heap.size, 3, none⟩ = some (.int .i64 b3) := hk_cell (i := 3) Kb_19.out rfl
                go_wp2_with fail
                (with_reducible refine (TravelOf_r _ _ _ _ _ _ _ _ _ H2.out).mono ?_)
                rintro e w20 ⟨rfl, hb20⟩
                clear cb0 cb1 cb2 cb3
                have T20 : Below w.heap.size w w20 := T19.trans (hb20.mono T19.size)
                have HB20 := Lib.hid ((HB19.out.below hb20).keep hb20.size (fun _ _ => rfl))
                have Kb_20 : Hid (w20.heap[w1.heap.size]? = some (.cells #[.int .i64 b0, .int .i64 b1, .int .i64 b2, .int .i64 b3] 25 (0, 0))) := hk_below Kb_19.out hb20
                have Ky_20 : Hid (w20.heap[w9.heap.size]? = some (.cells #[.int .i64 y0, .int .i64 y1, .int .i64 y2, .int .i64 y3] 25 (0, 0))) := hk_below Ky_19.out hb20
                have Kz_20 : Hid (w20.heap[w13.heap.size]? = some (.cells #[.int .i64 z0, .int .i64 z1, .int .i64 z2, .int .i64 z3] 25 (0, 0))) := hk_below Kz_19.out hb20
                clear HB19 Kb_19 Ky_19 Kz_19
                go_wp2
                go_ret
                exact ⟨rfl, T20⟩
            · clear hFL
              have hbq : (bad == 0) = false := by rw [beq_eq_false_iff_ne]; exact hbad
              go_wp2
              go_ret
              exact ⟨rfl, T18⟩
        · by_cases hx2 : le ≤ yv
          · have hsv : sb = false := by rw [HSB.out]; simp [hx1, hx2]
            clear HSB
            subst hsv
            have hd1 : decide (xv ≤ mo) = false := by simpa using hx1
            have hd2 : decide (le ≤ yv) = true := by simpa using hx2
            by_cases hbad : bad = 0
            · obtain ⟨g0, g1, ⟨gv, hgv, hge⟩, hless⟩ := hFL.out hbad
              clear hFL
              subst hbad
              have H1 := Lib.hid hgv
              clear hgv
              have cb0 : w18.cell? ⟨w1.heap.size, 0, none⟩ = some (.int .i64 b0) := hk_cell (i := 0) Kb_18.out rfl
              have cb1 : w18.cell? ⟨w1.heap.size, 1, none⟩ = some (.int .i64 b1) := hk_cell (i := 1) Kb_18.out rfl
              have cb2 : w18.cell? ⟨w1.heap.size, 2, none⟩ = some (.int .i64 b2) := hk_cell (i := 2) Kb_18.out rfl
              have cb3 : w18.cell? ⟨w1.heap.size, 3, none⟩ = some (.int .i64 b3) := hk_cell (i := 3) Kb_18.out rfl
              go_wp2_with fail
              (with_reducible refine (TravelOf_r _ _ _ _ _ _ _ _ _ H1.out).mono ?_)
              rintro e w19 ⟨rfl, hb19⟩
              clear cb0 cb1 cb2 cb3
              have T19 : Below w.heap.size w w19 := T18.trans (hb19.mono T18.size)
              have HB19 := Lib.hid ((HB18.out.below hb19).keep hb19.size (fun _ _ => rfl))
              have Kb_19 : Hid (w19.heap[w1.heap.size]? = some (.cells #[.int .i64 b0, .int .i64 b1, .int .i64 b2, .int .i64 b3] 25 (0, 0))) := hk_below Kb_18.out hb19
              have Ky_19 : Hid (w19.heap[w9.heap.size]? = some (.cells #[.int .i64 y0, .int .i64 y1, .int .i64 y2, .int .i64 y3] 25 (0, 0))) := hk_below Ky_18.out hb19
              have Kz_19 : Hid (w19.heap[w13.heap.size]? = some (.cells #[.int .i64 z0, .int .i64 z1, .int .i64 z2, .int .i64 z3] 25 (0, 0))) := hk_below Kz_18.out hb19
              clear HB18 Kb_18 Ky_18 Kz_18
              by_cases hf0 : g = 5000
              · subst hf0
                clear hless
                go_wp2
                go_ret
                exact ⟨rfl, T19⟩
              · obtain ⟨lv, hlv, hlt⟩ := hless hf0
                clear hless
                have hfq : (g == 5000) = false := by rw [beq_eq_false_iff_ne]; exact hf0
                have hf1 : IntKind.i64.wrap (g + 1) = g + 1 := IntWalk.i64_in _ (by omega)
                have H2 := Lib.hid hlv
                clear hlv
                have cb0 : w19.cell? ⟨w1.heap.size, 0, none⟩ = some (.int .i64 b0) := hk_cell (i := 0) Kb_19.out rfl
                have cb1 : w19.cell? ⟨w1.heap.size, 1, none⟩ = some (.int .i64 b1) := hk_cell (i := 1) Kb_19.out rfl
                have cb2 : w19.cell? ⟨w1.heap.size, 2, none⟩ = some (.int .i64 b2) := hk_cell (i := 2) Kb_19.out rfl
                have cb3 : w19.cell? ⟨w1.heap.size, 3, none⟩ = some (.int .i64 b3) := hk_cell (i := 3) Kb_19.out rfl
                go_wp2_with fail
                (with_reducible refine (TravelOf_r _ _ _ _ _ _ _ _ _ H2.out).mono ?_)
                rintro e w20 ⟨rfl, hb20⟩
                clear cb0 cb1 cb2 cb3
                have T20 : Below w.heap.size w w20 := T19.trans (hb20.mono T19.size)
                have HB20 := Lib.hid ((HB19.out.below hb20).keep hb20.size (fun _ _ => rfl))
                have Kb_20 : Hid (w20.heap[w1.heap.size]? = some (.cells #[.int .i64 b0, .int .i64 b1, .int .i64 b2, .int .i64 b3] 25 (0, 0))) := hk_below Kb_19.out hb20
                have Ky_20 : Hid (w20.heap[w9.heap.size]? = some (.cells #[.int .i64 y0, .int .i64 y1, .int .i64 y2, .int .i64 y3] 25 (0, 0))) := hk_below Ky_19.out hb20
                have Kz_20 : Hid (w20.heap[w13.heap.size]? = some (.cells #[.int .i64 z0, .int .i64 z1, .int .i64 z2, .int .i64 z3] 25 (0, 0))) := hk_below Kz_19.out hb20
                clear HB19 Kb_19 Ky_19 Kz_19
                go_wp2
                go_ret
                exact ⟨rfl, T20⟩
            · clear hFL
              have hbq : (bad == 0) = false := by rw [beq_eq_false_iff_ne]; exact hbad
              go_wp2
              go_ret
              exact ⟨rfl, T18⟩
          · have hsv : sb = false := by rw [HSB.out]; simp [hx1, hx2]
            clear HSB
            subst hsv
            have hd1 : decide (xv ≤ mo) = false := by simpa using hx1
            have hd2 : decide (le ≤ yv) = false := by simpa using hx2
            by_cases hbad : bad = 0
            · obtain ⟨g0, g1, ⟨gv, hgv, hge⟩, hless⟩ := hFL.out hbad
              clear hFL
              subst hbad
              have H1 := Lib.hid hgv
              clear hgv
              have cb0 : w18.cell? ⟨w1.heap.size, 0, none⟩ = some (.int .i64 b0) := hk_cell (i := 0) Kb_18.out rfl
              have cb1 : w18.cell? ⟨w1.heap.size, 1, none⟩ = some (.int .i64 b1) := hk_cell (i := 1) Kb_18.out rfl
              have cb2 : w18.cell? ⟨w1.heap.size, 2, none⟩ = some (.int .i64 b2) := hk_cell (i := 2) Kb_18.out rfl
              have cb3 : w18.cell? ⟨w1.heap.size, 3, none⟩ = some (.int .i64 b3) := hk_cell (i := 3) Kb_18.out rfl
              go_wp2_with fail
              (with_reducible refine (TravelOf_r _ _ _ _ _ _ _ _ _ H1.out).mono ?_)
              rintro e w19 ⟨rfl, hb19⟩
              clear cb0 cb1 cb2 cb3
              have T19 : Below w.heap.size w w19 := T18.trans (hb19.mono T18.size)
              have HB19 := Lib.hid ((HB18.out.below hb19).keep hb19.size (fun _ _ => rfl))
              have Kb_19 : Hid (w19.heap[w1.heap.size]? = some (.cells #[.int .i64 b0, .int .i64 b1, .int .i64 b2, .int .i64 b3] 25 (0, 0))) := hk_below Kb_18.out hb19
              have Ky_19 : Hid (w19.heap[w9.heap.size]? = some (.cells #[.int .i64 y0, .int .i64 y1, .int .i64 y2, .int .i64 y3] 25 (0, 0))) := hk_below Ky_18.out hb19
              have Kz_19 : Hid (w19.heap[w13.heap.size]? = some (.cells #[.int .i64 z0, .int .i64 z1, .int .i64 z2, .int .i64 z3] 25 (0, 0))) := hk_below Kz_18.out hb19
              clear HB18 Kb_18 Ky_18 Kz_18
              by_cases hf0 : g = 5000
              · subst hf0
                clear hless
                go_wp2
                go_ret
                exact ⟨rfl, T19⟩
              · obtain ⟨lv, hlv, hlt⟩ := hless hf0
                clear hless
                have hfq : (g == 5000) = false := by rw [beq_eq_false_iff_ne]; exact hf0
                have hf1 : IntKind.i64.wrap (g + 1) = g + 1 := IntWalk.i64_in _ (by omega)
                have H2 := Lib.hid hlv
                clear hlv
                have cb0 : w19.cell? ⟨w1.heap.size, 0, none⟩ = some (.int .i64 b0) := hk_cell (i := 0) Kb_19.out rfl
                have cb1 : w19.cell? ⟨w1.heap.size, 1, none⟩ = some (.int .i64 b1) := hk_cell (i := 1) Kb_19.out rfl
                have cb2 : w19.cell? ⟨w1.heap.size, 2, none⟩ = some (.int .i64 b2) := hk_cell (i := 2) Kb_19.out rfl
                have cb3 : w19.cell? ⟨w1.heap.size, 3, none⟩ = some (.int .i64 b3) := hk_cell (i := 3) Kb_19.out rfl
                go_wp2_with fail
                (with_reducible refine (TravelOf_r _ _ _ _ _ _ _ _ _ H2.out).mono ?_)
                rintro e w20 ⟨rfl, hb20⟩
                clear cb0 cb1 cb2 cb3
                have T20 : Below w.heap.size w w20 := T19.trans (hb20.mono T19.size)
                have HB20 := Lib.hid ((HB19.out.below hb20).keep hb20.size (fun _ _ => rfl))
                have Kb_20 : Hid (w20.heap[w1.heap.size]? = some (.cells #[.int .i64 b0, .int .i64 b1, .int .i64 b2, .int .i64 b3] 25 (0, 0))) := hk_below Kb_19.out hb20
                have Ky_20 : Hid (w20.heap[w9.heap.size]? = some (.cells #[.int .i64 y0, .int .i64 y1, .int .i64 y2, .int .i64 y3] 25 (0, 0))) := hk_below Ky_19.out hb20
                have Kz_20 : Hid (w20.heap[w13.heap.size]? = some (.cells #[.int .i64 z0, .int .i64 z1, .int .i64 z2, .int .i64 z3] 25 (0, 0))) := hk_below Kz_19.out hb20
                clear HB19 Kb_19 Ky_19 Kz_19
                go_wp2
                go_ret
                exact ⟨rfl, T20⟩
            · clear hFL
              have hbq : (bad == 0) = false := by rw [beq_eq_false_iff_ne]; exact hbad
              go_wp2
              go_ret
              exact ⟨rfl, T18⟩
      · clear hPL
        have htq : (three == 0) = false := by rw [beq_eq_false_iff_ne]; exact hthree
        by_cases hbad : bad = 0
        · obtain ⟨g0, g1, ⟨gv, hgv, hge⟩, hless⟩ := hFL.out hbad
          clear hFL
          subst hbad
          have H1 := Lib.hid hgv
          clear hgv
          have cb0 : w16.cell? ⟨w1.heap.size, 0, none⟩ = some (.int .i64 b0) := hk_cell (i := 0) Kb_16.out rfl
          have cb1 : w16.cell? ⟨w1.heap.size, 1, none⟩ = some (.int .i64 b1) := hk_cell (i := 1) Kb_16.out rfl
          have cb2 : w16.cell? ⟨w1.heap.size, 2, none⟩ = some (.int .i64 b2) := hk_cell (i := 2) Kb_16.out rfl
          have cb3 : w16.cell? ⟨w1.heap.size, 3, none⟩ = some (.int .i64 b3) := hk_cell (i := 3) Kb_16.out rfl
          go_wp2_with fail
          (with_reducible refine (TravelOf_r _ _ _ _ _ _ _ _ _ H1.out).mono ?_)
          rintro e w17 ⟨rfl, hb17⟩
          clear cb0 cb1 cb2 cb3
          have T17 : Below w.heap.size w w17 := T16.trans (hb17.mono T16.size)
          have HB17 := Lib.hid ((HB16.out.below hb17).keep hb17.size (fun _ _ => rfl))
          have Kb_17 : Hid (w17.heap[w1.heap.size]? = some (.cells #[.int .i64 b0, .int .i64 b1, .int .i64 b2, .int .i64 b3] 25 (0, 0))) := hk_below Kb_16.out hb17
          have Ky_17 : Hid (w17.heap[w9.heap.size]? = some (.cells #[.int .i64 y0, .int .i64 y1, .int .i64 y2, .int .i64 y3] 25 (0, 0))) := hk_below Ky_16.out hb17
          have Kz_17 : Hid (w17.heap[w13.heap.size]? = some (.cells #[.int .i64 z0, .int .i64 z1, .int .i64 z2, .int .i64 z3] 25 (0, 0))) := hk_below Kz_16.out hb17
          clear HB16 Kb_16 Ky_16 Kz_16
          by_cases hf0 : g = 5000
          · subst hf0
            clear hless
            go_wp2
            go_ret
            exact ⟨rfl, T17⟩
          · obtain ⟨lv, hlv, hlt⟩ := hless hf0
            clear hless
            have hfq : (g == 5000) = false := by rw [beq_eq_false_iff_ne]; exact hf0
            have hf1 : IntKind.i64.wrap (g + 1) = g + 1 := IntWalk.i64_in _ (by omega)
            have H2 := Lib.hid hlv
            clear hlv
            have cb0 : w17.cell? ⟨w1.heap.size, 0, none⟩ = some (.int .i64 b0) := hk_cell (i := 0) Kb_17.out rfl
            have cb1 : w17.cell? ⟨w1.heap.size, 1, none⟩ = some (.int .i64 b1) := hk_cell (i := 1) Kb_17.out rfl
            have cb2 : w17.cell? ⟨w1.heap.size, 2, none⟩ = some (.int .i64 b2) := hk_cell (i := 2) Kb_17.out rfl
            have cb3 : w17.cell? ⟨w1.heap.size, 3, none⟩ = some (.int .i64 b3) := hk_cell (i := 3) Kb_17.out rfl
            go_wp2_with fail
            (with_reducible refine (TravelOf_r _ _ _ _ _ _ _ _ _ H2.out).mono ?_)
            rintro e w18 ⟨rfl, hb18⟩
            clear cb0 cb1 cb2 cb3
            have T18 : Below w.heap.size w w18 := T17.trans (hb18.mono T17.size)
            have HB18 := Lib.hid ((HB17.out.below hb18).keep hb18.size (fun _ _ => rfl))
            have Kb_18 : Hid (w18.heap[w1.heap.size]? = some (.cells #[.int .i64 b0, .int .i64 b1, .int .i64 b2, .int .i64 b3] 25 (0, 0))) := hk_below Kb_17.out hb18
            have Ky_18 : Hid (w18.heap[w9.heap.size]? = some (.cells #[.int .i64 y0, .int .i64 y1, .int .i64 y2, .int .i64 y3] 25 (0, 0))) := hk_below Ky_17.out hb18
            have Kz_18 : Hid (w18.heap[w13.heap.size]? = some (.cells #[.int .i64 z0, .int .i64 z1, .int .i64 z2, .int .i64 z3] 25 (0, 0))) := hk_below Kz_17.out hb18
            clear HB17 Kb_17 Ky_17 Kz_17
            go_wp2
            go_ret
            exact ⟨rfl, T18⟩
        · clear hFL
          have hbq : (bad == 0) = false := by rw [beq_eq_false_iff_ne]; exact hbad
          go_wp2
          go_ret
          exact ⟨rfl, T16⟩
  · have HN : Hid (decide (4096 < n) = true) := by show _ = _; simp; omega
    go_enter Try.func13, Try.ntmps13
    go_wp2_with fail
    (with_reducible refine (big_any _ _ _ _).mono ?_)
    rintro e _ ⟨rfl, rfl⟩
    rw [HN.out]
    go_wp2
    go_ret
    exact ⟨rfl, Below.refl _ _⟩
end Go.Proofs.Ytfgokehoanlobaa
