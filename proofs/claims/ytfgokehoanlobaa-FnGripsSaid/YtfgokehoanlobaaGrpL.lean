/- The walk of the law on grips. -/
import Derived.Test.YtfgokehoanlobaaGrpP
import Derived.Test.YtfgokehoanlobaaDrwO
import Derived.Test.YtfgokehoanlobaaOpenB
set_option linter.unusedSimpArgs false
set_option linter.unusedVariables false
namespace Go.Proofs.Ytfgokehoanlobaa
open Go.RowKit

theorem blw_ofDrewX {B : Nat} {w w' : World} (h : Below B w.drew w') : Below B w w' := ⟨h.os, h.tape, h.output, h.size, h.block⟩
set_option maxRecDepth 100000 in
set_option maxHeartbeats 16000000 in
theorem FnGrips_walk (a : Option Addr) (n c : Nat) (w : World) (h : RdB w w.heap.size a n) :
    Calls Try.prog 12 #[.slice a n c] w fun e w' => e = .returned (.bool true) ∧ Below w.heap.size w w' := by
  by_cases hn : n ≤ 4096
  · have HN : Hid (decide (4096 < n) = false) := by show _ = _; simp; omega
    have HB0 := Lib.hid h
    have T0 := Below.refl w.heap.size w
    clear h
    go_enter Try.func12, Try.ntmps12
    go_wp2_with fail
    (with_reducible refine (big_any _ _ _ _).mono ?_)
    rintro e _ ⟨rfl, rfl⟩
    rw [HN.out]
    go_wp2_with fail
    (with_reducible refine (DrawForceFor_any a n c _ HB0.out hn).mono ?_)
    rintro e w1 ⟨b0, b1, b2, b3, q, rfl, hb1⟩
    have T1 : Below w.heap.size w w1 := T0.trans (hb1.mono T0.size)
    have HB1 := Lib.hid ((HB0.out.below hb1).keep hb1.size (fun _ _ => rfl))
    clear HB0
    go_wp2_with fail
    generalize hw : w1.alloc (Obj.cells #[.int .i64 b0, .int .i64 b1, .int .i64 b2, .int .i64 b3] 25) = w2
    have hb2 : Below w1.heap.size w1 w2 := by
      rw [← hw]
      exact (Below.refl _ _).alloc (by simp) _
    have Kb_2 : Hid (w2.heap[w1.heap.size]? = some (.cells #[.int .i64 b0, .int .i64 b1, .int .i64 b2, .int .i64 b3] 25 (0, 0))) := by
      show _ = _
      rw [← hw]
      exact (heap_alloc_new _ _)
    clear hw
    have T2 : Below w.heap.size w w2 := T1.trans (hb2.mono T1.size)
    have HB2 := Lib.hid ((HB1.out.below hb2).keep hb2.size (fun _ _ => rfl))
    clear HB1
    obtain ⟨⟨f, bad⟩, hF⟩ : ∃ rr__, rr__ = forceR b0 b1 b2 b3 q := ⟨_, rfl⟩
    have HhF := Lib.hid hF
    have cb0 : w2.cell? ⟨w1.heap.size, 0, none⟩ = some (.int .i64 b0) := hk_cell (i := 0) Kb_2.out rfl
    have cb1 : w2.cell? ⟨w1.heap.size, 1, none⟩ = some (.int .i64 b1) := hk_cell (i := 1) Kb_2.out rfl
    have cb2 : w2.cell? ⟨w1.heap.size, 2, none⟩ = some (.int .i64 b2) := hk_cell (i := 2) Kb_2.out rfl
    have cb3 : w2.cell? ⟨w1.heap.size, 3, none⟩ = some (.int .i64 b3) := hk_cell (i := 3) Kb_2.out rfl
    go_wp2_with fail
    (with_reducible refine (ForceFor_r _ _ _ _ _ _ _ _ HhF.out).mono ?_)
    rintro e w3 ⟨rfl, hb3⟩
    clear cb0 cb1 cb2 cb3
    have T3 : Below w.heap.size w w3 := T2.trans (hb3.mono T2.size)
    have HB3 := Lib.hid ((HB2.out.below hb3).keep hb3.size (fun _ _ => rfl))
    have Kb_3 : Hid (w3.heap[w1.heap.size]? = some (.cells #[.int .i64 b0, .int .i64 b1, .int .i64 b2, .int .i64 b3] 25 (0, 0))) := hk_below Kb_2.out hb3
    clear HB2 Kb_2
    have cb0 : w3.cell? ⟨w1.heap.size, 0, none⟩ = some (.int .i64 b0) := hk_cell (i := 0) Kb_3.out rfl
    have cb1 : w3.cell? ⟨w1.heap.size, 1, none⟩ = some (.int .i64 b1) := hk_cell (i := 1) Kb_3.out rfl
    have cb2 : w3.cell? ⟨w1.heap.size, 2, none⟩ = some (.int .i64 b2) := hk_cell (i := 2) Kb_3.out rfl
    have cb3 : w3.cell? ⟨w1.heap.size, 3, none⟩ = some (.int .i64 b3) := hk_cell (i := 3) Kb_3.out rfl
    go_wp2_with fail
    (with_reducible refine (sForceFor_r _ _ _ _ _ _ _ _ HhF.out).mono ?_)
    rintro e w4 ⟨rfl, hb4⟩
    clear cb0 cb1 cb2 cb3
    have T4 : Below w.heap.size w w4 := T3.trans (hb4.mono T3.size)
    have HB4 := Lib.hid ((HB3.out.below hb4).keep hb4.size (fun _ _ => rfl))
    have Kb_4 : Hid (w4.heap[w1.heap.size]? = some (.cells #[.int .i64 b0, .int .i64 b1, .int .i64 b2, .int .i64 b3] 25 (0, 0))) := hk_below Kb_3.out hb4
    clear HB3 Kb_3
    have hFL := Lib.hid (forceR_law hF)
    clear hF
    go_wp2_with fail
    (with_reducible refine (DrawGripOf_any a n c _ HB4.out hn).mono ?_)
    rintro e w5 ⟨x0, x1, x2, x3, n1, rfl, hb5⟩
    have T5 : Below w.heap.size w w5 := T4.trans (hb5.mono T4.size)
    have HB5 := Lib.hid ((HB4.out.below hb5).keep hb5.size (fun _ _ => rfl))
    have Kb_5 : Hid (w5.heap[w1.heap.size]? = some (.cells #[.int .i64 b0, .int .i64 b1, .int .i64 b2, .int .i64 b3] 25 (0, 0))) := hk_below Kb_4.out hb5
    clear HB4 Kb_4
    go_wp2_with fail
    generalize hw : w5.alloc (Obj.cells #[.int .i64 x0, .int .i64 x1, .int .i64 x2, .int .i64 x3] 25) = w6
    have hb6 : Below w5.heap.size w5 w6 := by
      rw [← hw]
      exact (Below.refl _ _).alloc (by simp) _
    have Kx_6 : Hid (w6.heap[w5.heap.size]? = some (.cells #[.int .i64 x0, .int .i64 x1, .int .i64 x2, .int .i64 x3] 25 (0, 0))) := by
      show _ = _
      rw [← hw]
      exact (heap_alloc_new _ _)
    clear hw
    have T6 : Below w.heap.size w w6 := T5.trans (hb6.mono T5.size)
    have HB6 := Lib.hid ((HB5.out.below hb6).keep hb6.size (fun _ _ => rfl))
    have Kb_6 : Hid (w6.heap[w1.heap.size]? = some (.cells #[.int .i64 b0, .int .i64 b1, .int .i64 b2, .int .i64 b3] 25 (0, 0))) := hk_below Kb_5.out hb6
    clear HB5 Kb_5
    obtain ⟨⟨g, one⟩, hG⟩ : ∃ rr__, rr__ = gripR x0 x1 x2 x3 n1 := ⟨_, rfl⟩
    have HhG := Lib.hid hG
    have cx0 : w6.cell? ⟨w5.heap.size, 0, none⟩ = some (.int .i64 x0) := hk_cell (i := 0) Kx_6.out rfl
    have cx1 : w6.cell? ⟨w5.heap.size, 1, none⟩ = some (.int .i64 x1) := hk_cell (i := 1) Kx_6.out rfl
    have cx2 : w6.cell? ⟨w5.heap.size, 2, none⟩ = some (.int .i64 x2) := hk_cell (i := 2) Kx_6.out rfl
    have cx3 : w6.cell? ⟨w5.heap.size, 3, none⟩ = some (.int .i64 x3) := hk_cell (i := 3) Kx_6.out rfl
    go_wp2_with fail
    (with_reducible refine (GripOf_r _ _ _ _ _ _ _ _ HhG.out).mono ?_)
    rintro e w7 ⟨rfl, hb7⟩
    clear cx0 cx1 cx2 cx3
    have T7 : Below w.heap.size w w7 := T6.trans (hb7.mono T6.size)
    have HB7 := Lib.hid ((HB6.out.below hb7).keep hb7.size (fun _ _ => rfl))
    have Kb_7 : Hid (w7.heap[w1.heap.size]? = some (.cells #[.int .i64 b0, .int .i64 b1, .int .i64 b2, .int .i64 b3] 25 (0, 0))) := hk_below Kb_6.out hb7
    have Kx_7 : Hid (w7.heap[w5.heap.size]? = some (.cells #[.int .i64 x0, .int .i64 x1, .int .i64 x2, .int .i64 x3] 25 (0, 0))) := hk_below Kx_6.out hb7
    clear HB6 Kb_6 Kx_6
    have cx0 : w7.cell? ⟨w5.heap.size, 0, none⟩ = some (.int .i64 x0) := hk_cell (i := 0) Kx_7.out rfl
    have cx1 : w7.cell? ⟨w5.heap.size, 1, none⟩ = some (.int .i64 x1) := hk_cell (i := 1) Kx_7.out rfl
    have cx2 : w7.cell? ⟨w5.heap.size, 2, none⟩ = some (.int .i64 x2) := hk_cell (i := 2) Kx_7.out rfl
    have cx3 : w7.cell? ⟨w5.heap.size, 3, none⟩ = some (.int .i64 x3) := hk_cell (i := 3) Kx_7.out rfl
    go_wp2_with fail
    (with_reducible refine (sGripOf_r _ _ _ _ _ _ _ _ HhG.out).mono ?_)
    rintro e w8 ⟨rfl, hb8⟩
    clear cx0 cx1 cx2 cx3
    have T8 : Below w.heap.size w w8 := T7.trans (hb8.mono T7.size)
    have HB8 := Lib.hid ((HB7.out.below hb8).keep hb8.size (fun _ _ => rfl))
    have Kb_8 : Hid (w8.heap[w1.heap.size]? = some (.cells #[.int .i64 b0, .int .i64 b1, .int .i64 b2, .int .i64 b3] 25 (0, 0))) := hk_below Kb_7.out hb8
    have Kx_8 : Hid (w8.heap[w5.heap.size]? = some (.cells #[.int .i64 x0, .int .i64 x1, .int .i64 x2, .int .i64 x3] 25 (0, 0))) := hk_below Kx_7.out hb8
    clear HB7 Kb_7 Kx_7
    have hGL := Lib.hid (gripR_law hG)
    have hGB := Lib.hid (gripR_in hG)
    clear hG
    obtain ⟨⟨p, three⟩, hP⟩ : ∃ rr__, rr__ = pullR x0 x1 x2 x3 n1 := ⟨_, rfl⟩
    have HhP := Lib.hid hP
    have cx0 : w8.cell? ⟨w5.heap.size, 0, none⟩ = some (.int .i64 x0) := hk_cell (i := 0) Kx_8.out rfl
    have cx1 : w8.cell? ⟨w5.heap.size, 1, none⟩ = some (.int .i64 x1) := hk_cell (i := 1) Kx_8.out rfl
    have cx2 : w8.cell? ⟨w5.heap.size, 2, none⟩ = some (.int .i64 x2) := hk_cell (i := 2) Kx_8.out rfl
    have cx3 : w8.cell? ⟨w5.heap.size, 3, none⟩ = some (.int .i64 x3) := hk_cell (i := 3) Kx_8.out rfl
    go_wp2_with fail
    (with_reducible refine (PullOf_r _ _ _ _ _ _ _ _ HhP.out).mono ?_)
    rintro e w9 ⟨rfl, hb9⟩
    clear cx0 cx1 cx2 cx3
    have T9 : Below w.heap.size w w9 := T8.trans (hb9.mono T8.size)
    have HB9 := Lib.hid ((HB8.out.below hb9).keep hb9.size (fun _ _ => rfl))
    have Kb_9 : Hid (w9.heap[w1.heap.size]? = some (.cells #[.int .i64 b0, .int .i64 b1, .int .i64 b2, .int .i64 b3] 25 (0, 0))) := hk_below Kb_8.out hb9
    have Kx_9 : Hid (w9.heap[w5.heap.size]? = some (.cells #[.int .i64 x0, .int .i64 x1, .int .i64 x2, .int .i64 x3] 25 (0, 0))) := hk_below Kx_8.out hb9
    clear HB8 Kb_8 Kx_8
    have cx0 : w9.cell? ⟨w5.heap.size, 0, none⟩ = some (.int .i64 x0) := hk_cell (i := 0) Kx_9.out rfl
    have cx1 : w9.cell? ⟨w5.heap.size, 1, none⟩ = some (.int .i64 x1) := hk_cell (i := 1) Kx_9.out rfl
    have cx2 : w9.cell? ⟨w5.heap.size, 2, none⟩ = some (.int .i64 x2) := hk_cell (i := 2) Kx_9.out rfl
    have cx3 : w9.cell? ⟨w5.heap.size, 3, none⟩ = some (.int .i64 x3) := hk_cell (i := 3) Kx_9.out rfl
    go_wp2_with fail
    (with_reducible refine (sPullOf_r _ _ _ _ _ _ _ _ HhP.out).mono ?_)
    rintro e w10 ⟨rfl, hb10⟩
    clear cx0 cx1 cx2 cx3
    have T10 : Below w.heap.size w w10 := T9.trans (hb10.mono T9.size)
    have HB10 := Lib.hid ((HB9.out.below hb10).keep hb10.size (fun _ _ => rfl))
    have Kb_10 : Hid (w10.heap[w1.heap.size]? = some (.cells #[.int .i64 b0, .int .i64 b1, .int .i64 b2, .int .i64 b3] 25 (0, 0))) := hk_below Kb_9.out hb10
    have Kx_10 : Hid (w10.heap[w5.heap.size]? = some (.cells #[.int .i64 x0, .int .i64 x1, .int .i64 x2, .int .i64 x3] 25 (0, 0))) := hk_below Kx_9.out hb10
    clear HB9 Kb_9 Kx_9
    clear hP HhP
    go_wp2_with fail
    (with_reducible refine (DrawCompareBrakes_any a n c _ HB10.out hn).mono ?_)
    rintro e w11 ⟨y0, y1, y2, y3, z0, z1, z2, z3, m, rfl, hb11⟩
    have T11 : Below w.heap.size w w11 := T10.trans (hb11.mono T10.size)
    have HB11 := Lib.hid ((HB10.out.below hb11).keep hb11.size (fun _ _ => rfl))
    have Kb_11 : Hid (w11.heap[w1.heap.size]? = some (.cells #[.int .i64 b0, .int .i64 b1, .int .i64 b2, .int .i64 b3] 25 (0, 0))) := hk_below Kb_10.out hb11
    have Kx_11 : Hid (w11.heap[w5.heap.size]? = some (.cells #[.int .i64 x0, .int .i64 x1, .int .i64 x2, .int .i64 x3] 25 (0, 0))) := hk_below Kx_10.out hb11
    clear HB10 Kb_10 Kx_10
    go_wp2_with fail
    generalize hw : (w11.alloc (Obj.cells #[.int .i64 y0, .int .i64 y1, .int .i64 y2, .int .i64 y3] 25)).alloc (Obj.cells #[.int .i64 z0, .int .i64 z1, .int .i64 z2, .int .i64 z3] 25) = w12
    have hb12 : Below w11.heap.size w11 w12 := by
      rw [← hw]
      exact ((Below.refl _ _).alloc (by simp) _).alloc (by simp) _
    have Ky_12 : Hid (w12.heap[w11.heap.size]? = some (.cells #[.int .i64 y0, .int .i64 y1, .int .i64 y2, .int .i64 y3] 25 (0, 0))) := by
      show _ = _
      rw [← hw]
      exact (hk_alloc (heap_alloc_new _ _) _)
    have Kz_12 : Hid (w12.heap[w11.heap.size + 1]? = some (.cells #[.int .i64 z0, .int .i64 z1, .int .i64 z2, .int .i64 z3] 25 (0, 0))) := by
      show _ = _
      rw [← hw]
      exact (by have h := heap_alloc_new (w11.alloc (Obj.cells #[.int .i64 y0, .int .i64 y1, .int .i64 y2, .int .i64 y3] 25)) (Obj.cells #[.int .i64 z0, .int .i64 z1, .int .i64 z2, .int .i64 z3] 25); rw [World.size_alloc] at h; exact h)
    clear hw
    have T12 : Below w.heap.size w w12 := T11.trans (hb12.mono T11.size)
    have HB12 := Lib.hid ((HB11.out.below hb12).keep hb12.size (fun _ _ => rfl))
    have Kb_12 : Hid (w12.heap[w1.heap.size]? = some (.cells #[.int .i64 b0, .int .i64 b1, .int .i64 b2, .int .i64 b3] 25 (0, 0))) := hk_below Kb_11.out hb12
    have Kx_12 : Hid (w12.heap[w5.heap.size]? = some (.cells #[.int .i64 x0, .int .i64 x1, .int .i64 x2, .int .i64 x3] 25 (0, 0))) := hk_below Kx_11.out hb12
    clear HB11 Kb_11 Kx_11
    obtain ⟨⟨cv, five⟩, hC⟩ : ∃ rr__, rr__ = compR y0 y1 y2 y3 z0 z1 z2 z3 m := ⟨_, rfl⟩
    have HhC := Lib.hid hC
    have cy0 : w12.cell? ⟨w11.heap.size, 0, none⟩ = some (.int .i64 y0) := hk_cell (i := 0) Ky_12.out rfl
    have cy1 : w12.cell? ⟨w11.heap.size, 1, none⟩ = some (.int .i64 y1) := hk_cell (i := 1) Ky_12.out rfl
    have cy2 : w12.cell? ⟨w11.heap.size, 2, none⟩ = some (.int .i64 y2) := hk_cell (i := 2) Ky_12.out rfl
    have cy3 : w12.cell? ⟨w11.heap.size, 3, none⟩ = some (.int .i64 y3) := hk_cell (i := 3) Ky_12.out rfl
    have cz0 : w12.cell? ⟨w11.heap.size + 1, 0, none⟩ = some (.int .i64 z0) := hk_cell (i := 0) Kz_12.out rfl
    have cz1 : w12.cell? ⟨w11.heap.size + 1, 1, none⟩ = some (.int .i64 z1) := hk_cell (i := 1) Kz_12.out rfl
    have cz2 : w12.cell? ⟨w11.heap.size + 1, 2, none⟩ = some (.int .i64 z2) := hk_cell (i := 2) Kz_12.out rfl
    have cz3 : w12.cell? ⟨w11.heap.size + 1, 3, none⟩ = some (.int .i64 z3) := hk_cell (i := 3) Kz_12.out rfl
    go_wp2_with fail
    (with_reducible refine (CompareBrakes_r _ _ _ _ _ _ _ _ _ _ _ _ HhC.out).mono ?_)
    rintro e w13 ⟨rfl, hb13⟩
    clear cy0 cy1 cy2 cy3 cz0 cz1 cz2 cz3
    have T13 : Below w.heap.size w w13 := T12.trans (hb13.mono T12.size)
    have HB13 := Lib.hid ((HB12.out.below hb13).keep hb13.size (fun _ _ => rfl))
    have Kb_13 : Hid (w13.heap[w1.heap.size]? = some (.cells #[.int .i64 b0, .int .i64 b1, .int .i64 b2, .int .i64 b3] 25 (0, 0))) := hk_below Kb_12.out hb13
    have Kx_13 : Hid (w13.heap[w5.heap.size]? = some (.cells #[.int .i64 x0, .int .i64 x1, .int .i64 x2, .int .i64 x3] 25 (0, 0))) := hk_below Kx_12.out hb13
    have Ky_13 : Hid (w13.heap[w11.heap.size]? = some (.cells #[.int .i64 y0, .int .i64 y1, .int .i64 y2, .int .i64 y3] 25 (0, 0))) := hk_below Ky_12.out hb13
    have Kz_13 : Hid (w13.heap[w11.heap.size + 1]? = some (.cells #[.int .i64 z0, .int .i64 z1, .int .i64 z2, .int .i64 z3] 25 (0, 0))) := hk_below Kz_12.out hb13
    clear HB12 Kb_12 Kx_12 Ky_12 Kz_12
    have cy0 : w13.cell? ⟨w11.heap.size, 0, none⟩ = some (.int .i64 y0) := hk_cell (i := 0) Ky_13.out rfl
    have cy1 : w13.cell? ⟨w11.heap.size, 1, none⟩ = some (.int .i64 y1) := hk_cell (i := 1) Ky_13.out rfl
    have cy2 : w13.cell? ⟨w11.heap.size, 2, none⟩ = some (.int .i64 y2) := hk_cell (i := 2) Ky_13.out rfl
    have cy3 : w13.cell? ⟨w11.heap.size, 3, none⟩ = some (.int .i64 y3) := hk_cell (i := 3) Ky_13.out rfl
    have cz0 : w13.cell? ⟨w11.heap.size + 1, 0, none⟩ = some (.int .i64 z0) := hk_cell (i := 0) Kz_13.out rfl
    have cz1 : w13.cell? ⟨w11.heap.size + 1, 1, none⟩ = some (.int .i64 z1) := hk_cell (i := 1) Kz_13.out rfl
    have cz2 : w13.cell? ⟨w11.heap.size + 1, 2, none⟩ = some (.int .i64 z2) := hk_cell (i := 2) Kz_13.out rfl
    have cz3 : w13.cell? ⟨w11.heap.size + 1, 3, none⟩ = some (.int .i64 z3) := hk_cell (i := 3) Kz_13.out rfl
    go_wp2_with fail
    (with_reducible refine (sCompareBrakes_r _ _ _ _ _ _ _ _ _ _ _ _ HhC.out).mono ?_)
    rintro e w14 ⟨rfl, hb14⟩
    clear cy0 cy1 cy2 cy3 cz0 cz1 cz2 cz3
    have T14 : Below w.heap.size w w14 := T13.trans (hb14.mono T13.size)
    have HB14 := Lib.hid ((HB13.out.below hb14).keep hb14.size (fun _ _ => rfl))
    have Kb_14 : Hid (w14.heap[w1.heap.size]? = some (.cells #[.int .i64 b0, .int .i64 b1, .int .i64 b2, .int .i64 b3] 25 (0, 0))) := hk_below Kb_13.out hb14
    have Kx_14 : Hid (w14.heap[w5.heap.size]? = some (.cells #[.int .i64 x0, .int .i64 x1, .int .i64 x2, .int .i64 x3] 25 (0, 0))) := hk_below Kx_13.out hb14
    have Ky_14 : Hid (w14.heap[w11.heap.size]? = some (.cells #[.int .i64 y0, .int .i64 y1, .int .i64 y2, .int .i64 y3] 25 (0, 0))) := hk_below Ky_13.out hb14
    have Kz_14 : Hid (w14.heap[w11.heap.size + 1]? = some (.cells #[.int .i64 z0, .int .i64 z1, .int .i64 z2, .int .i64 z3] 25 (0, 0))) := hk_below Kz_13.out hb14
    clear HB13 Kb_13 Kx_13 Ky_13 Kz_13
    have hCL := Lib.hid (compR_law hC)
    clear hC HhC HhG HhF
    have cb0 : w14.cell? ⟨w1.heap.size, 0, none⟩ = some (.int .i64 b0) := hk_cell (i := 0) Kb_14.out rfl
    have cb1 : w14.cell? ⟨w1.heap.size, 1, none⟩ = some (.int .i64 b1) := hk_cell (i := 1) Kb_14.out rfl
    have cb2 : w14.cell? ⟨w1.heap.size, 2, none⟩ = some (.int .i64 b2) := hk_cell (i := 2) Kb_14.out rfl
    have cb3 : w14.cell? ⟨w1.heap.size, 3, none⟩ = some (.int .i64 b3) := hk_cell (i := 3) Kb_14.out rfl
    have hlb := heap_lt Kb_14.out
    have KP : Hid (∀ W' : World, Below w14.heap.size w14 W' → (W'.cell? ⟨w1.heap.size, 0, none⟩ = some (.int .i64 b0) ∧ W'.cell? ⟨w1.heap.size, 1, none⟩ = some (.int .i64 b1) ∧ W'.cell? ⟨w1.heap.size, 2, none⟩ = some (.int .i64 b2) ∧ W'.cell? ⟨w1.heap.size, 3, none⟩ = some (.int .i64 b3))) := by
      show ∀ W' : World, _
      intro W' hb
      exact ⟨(hb.cell (p := ⟨w1.heap.size, 0, none⟩) hlb).trans cb0, (hb.cell (p := ⟨w1.heap.size, 1, none⟩) hlb).trans cb1, (hb.cell (p := ⟨w1.heap.size, 2, none⟩) hlb).trans cb2, (hb.cell (p := ⟨w1.heap.size, 3, none⟩) hlb).trans cb3⟩
    go_wp2_with fail
    go_region_held3 (fun W' => W'.cell? ⟨w1.heap.size, 0, none⟩ = some (.int .i64 b0) ∧ W'.cell? ⟨w1.heap.size, 1, none⟩ = some (.int .i64 b1) ∧ W'.cell? ⟨w1.heap.size, 2, none⟩ = some (.int .i64 b2) ∧ W'.cell? ⟨w1.heap.size, 3, none⟩ = some (.int .i64 b3))
      (first | exact ⟨cb0, cb1, cb2, cb3⟩ | exact KP.out _ hbq16 | exact KP.out _ hbq15)
      ((first
        | (go_at_call 16
           (with_reducible refine (IsBrake_any _ _ _ _ _).mono ?_)
           rintro e w15 ⟨rfl, hbx15⟩
           have hq15 : Below w14.heap.size w14 w15 := by first | exact hbx15 | exact blw_ofDrewX hbx15
           have hbq15 := hq15
           clear hbx15)
        | (go_at_call 14
           (with_reducible refine (sIsBrake_any _ _ _ _ _).mono ?_)
           rintro e w16 ⟨rfl, hbx16⟩
           have hq16 : Below w15.heap.size w15 w16 := by first | exact hbx16 | exact blw_ofDrewX hbx16
           have hbq16 := hbq15.trans (hq16.mono hbq15.size)
           clear hbx16)
        | fail))
    clear KP
    clear cb0 cb1 cb2 cb3
    have T16 : Below w.heap.size w w16 := T14.trans (hbq16.mono T14.size)
    have HB16 := Lib.hid ((HB14.out.below hbq16).keep hbq16.size (fun _ _ => rfl))
    have Kb_16 : Hid (w16.heap[w1.heap.size]? = some (.cells #[.int .i64 b0, .int .i64 b1, .int .i64 b2, .int .i64 b3] 25 (0, 0))) := hk_below Kb_14.out hbq16
    have Kx_16 : Hid (w16.heap[w5.heap.size]? = some (.cells #[.int .i64 x0, .int .i64 x1, .int .i64 x2, .int .i64 x3] 25 (0, 0))) := hk_below Kx_14.out hbq16
    have Ky_16 : Hid (w16.heap[w11.heap.size]? = some (.cells #[.int .i64 y0, .int .i64 y1, .int .i64 y2, .int .i64 y3] 25 (0, 0))) := hk_below Ky_14.out hbq16
    have Kz_16 : Hid (w16.heap[w11.heap.size + 1]? = some (.cells #[.int .i64 z0, .int .i64 z1, .int .i64 z2, .int .i64 z3] 25 (0, 0))) := hk_below Kz_14.out hbq16
    clear HB14 Kb_14 Kx_14 Ky_14 Kz_14
    all_goals
      by_cases hfive : five = 0
      · obtain ⟨hcr, hc1, hc2⟩ := hCL.out hfive
        clear hCL
        subst hfive
        have hcw : IntKind.i64.wrap (-cv) = -cv := IntWalk.i64_in _ (by omega)
        have H4 := Lib.hid hcr
        clear hcr
        have cy0 : w16.cell? ⟨w11.heap.size, 0, none⟩ = some (.int .i64 y0) := hk_cell (i := 0) Ky_16.out rfl
        have cy1 : w16.cell? ⟨w11.heap.size, 1, none⟩ = some (.int .i64 y1) := hk_cell (i := 1) Ky_16.out rfl
        have cy2 : w16.cell? ⟨w11.heap.size, 2, none⟩ = some (.int .i64 y2) := hk_cell (i := 2) Ky_16.out rfl
        have cy3 : w16.cell? ⟨w11.heap.size, 3, none⟩ = some (.int .i64 y3) := hk_cell (i := 3) Ky_16.out rfl
        have cz0 : w16.cell? ⟨w11.heap.size + 1, 0, none⟩ = some (.int .i64 z0) := hk_cell (i := 0) Kz_16.out rfl
        have cz1 : w16.cell? ⟨w11.heap.size + 1, 1, none⟩ = some (.int .i64 z1) := hk_cell (i := 1) Kz_16.out rfl
        have cz2 : w16.cell? ⟨w11.heap.size + 1, 2, none⟩ = some (.int .i64 z2) := hk_cell (i := 2) Kz_16.out rfl
        have cz3 : w16.cell? ⟨w11.heap.size + 1, 3, none⟩ = some (.int .i64 z3) := hk_cell (i := 3) Kz_16.out rfl
        go_wp2_with fail
        (with_reducible refine (CompareBrakes_r _ _ _ _ _ _ _ _ _ _ _ _ H4.out).mono ?_)
        rintro e w17 ⟨rfl, hb17⟩
        clear cy0 cy1 cy2 cy3 cz0 cz1 cz2 cz3
        have T17 : Below w.heap.size w w17 := T16.trans (hb17.mono T16.size)
        have HB17 := Lib.hid ((HB16.out.below hb17).keep hb17.size (fun _ _ => rfl))
        have Kb_17 : Hid (w17.heap[w1.heap.size]? = some (.cells #[.int .i64 b0, .int .i64 b1, .int .i64 b2, .int .i64 b3] 25 (0, 0))) := hk_below Kb_16.out hb17
        have Kx_17 : Hid (w17.heap[w5.heap.size]? = some (.cells #[.int .i64 x0, .int .i64 x1, .int .i64 x2, .int .i64 x3] 25 (0, 0))) := hk_below Kx_16.out hb17
        have Ky_17 : Hid (w17.heap[w11.heap.size]? = some (.cells #[.int .i64 y0, .int .i64 y1, .int .i64 y2, .int .i64 y3] 25 (0, 0))) := hk_below Ky_16.out hb17
        have Kz_17 : Hid (w17.heap[w11.heap.size + 1]? = some (.cells #[.int .i64 z0, .int .i64 z1, .int .i64 z2, .int .i64 z3] 25 (0, 0))) := hk_below Kz_16.out hb17
        clear HB16 Kb_16 Kx_16 Ky_16 Kz_16
        by_cases hone : one = 0
        · by_cases hnl : n1 < 1000
          · have hn1 : n1 < 1000 := hnl
            obtain ⟨gn, hgn, hgl⟩ := hGL.out hone hnl
            obtain ⟨nl0, nl1⟩ := hGB.out hone
            subst hone
            clear hGL hGB
            have hnw : IntKind.i64.wrap (n1 + 1) = n1 + 1 := IntWalk.i64_in _ (by omega)
            have H3 := Lib.hid hgn
            clear hgn
            have cx0 : w17.cell? ⟨w5.heap.size, 0, none⟩ = some (.int .i64 x0) := hk_cell (i := 0) Kx_17.out rfl
            have cx1 : w17.cell? ⟨w5.heap.size, 1, none⟩ = some (.int .i64 x1) := hk_cell (i := 1) Kx_17.out rfl
            have cx2 : w17.cell? ⟨w5.heap.size, 2, none⟩ = some (.int .i64 x2) := hk_cell (i := 2) Kx_17.out rfl
            have cx3 : w17.cell? ⟨w5.heap.size, 3, none⟩ = some (.int .i64 x3) := hk_cell (i := 3) Kx_17.out rfl
            go_wp2_with fail
            (with_reducible refine (GripOf_r _ _ _ _ _ _ _ _ H3.out).mono ?_)
            rintro e w18 ⟨rfl, hb18⟩
            clear cx0 cx1 cx2 cx3
            have T18 : Below w.heap.size w w18 := T17.trans (hb18.mono T17.size)
            have HB18 := Lib.hid ((HB17.out.below hb18).keep hb18.size (fun _ _ => rfl))
            have Kb_18 : Hid (w18.heap[w1.heap.size]? = some (.cells #[.int .i64 b0, .int .i64 b1, .int .i64 b2, .int .i64 b3] 25 (0, 0))) := hk_below Kb_17.out hb18
            have Kx_18 : Hid (w18.heap[w5.heap.size]? = some (.cells #[.int .i64 x0, .int .i64 x1, .int .i64 x2, .int .i64 x3] 25 (0, 0))) := hk_below Kx_17.out hb18
            have Ky_18 : Hid (w18.heap[w11.heap.size]? = some (.cells #[.int .i64 y0, .int .i64 y1, .int .i64 y2, .int .i64 y3] 25 (0, 0))) := hk_below Ky_17.out hb18
            have Kz_18 : Hid (w18.heap[w11.heap.size + 1]? = some (.cells #[.int .i64 z0, .int .i64 z1, .int .i64 z2, .int .i64 z3] 25 (0, 0))) := hk_below Kz_17.out hb18
            clear HB17 Kb_17 Kx_17 Ky_17 Kz_17
            by_cases hbad : bad = 0
            · obtain ⟨f0, f1, ⟨gv, hgv, hge⟩, hless⟩ := hFL.out hbad
              clear hFL
              subst hbad
              have H1 := Lib.hid hgv
              clear hgv
              have cb0 : w18.cell? ⟨w1.heap.size, 0, none⟩ = some (.int .i64 b0) := hk_cell (i := 0) Kb_18.out rfl
              have cb1 : w18.cell? ⟨w1.heap.size, 1, none⟩ = some (.int .i64 b1) := hk_cell (i := 1) Kb_18.out rfl
              have cb2 : w18.cell? ⟨w1.heap.size, 2, none⟩ = some (.int .i64 b2) := hk_cell (i := 2) Kb_18.out rfl
              have cb3 : w18.cell? ⟨w1.heap.size, 3, none⟩ = some (.int .i64 b3) := hk_cell (i := 3) Kb_18.out rfl
              go_wp2_with fail
              (with_reducible refine (GripOf_r _ _ _ _ _ _ _ _ H1.out).mono ?_)
              rintro e w19 ⟨rfl, hb19⟩
              clear cb0 cb1 cb2 cb3
              have T19 : Below w.heap.size w w19 := T18.trans (hb19.mono T18.size)
              have HB19 := Lib.hid ((HB18.out.below hb19).keep hb19.size (fun _ _ => rfl))
              have Kb_19 : Hid (w19.heap[w1.heap.size]? = some (.cells #[.int .i64 b0, .int .i64 b1, .int .i64 b2, .int .i64 b3] 25 (0, 0))) := hk_below Kb_18.out hb19
              have Kx_19 : Hid (w19.heap[w5.heap.size]? = some (.cells #[.int .i64 x0, .int .i64 x1, .int .i64 x2, .int .i64 x3] 25 (0, 0))) := hk_below Kx_18.out hb19
              have Ky_19 : Hid (w19.heap[w11.heap.size]? = some (.cells #[.int .i64 y0, .int .i64 y1, .int .i64 y2, .int .i64 y3] 25 (0, 0))) := hk_below Ky_18.out hb19
              have Kz_19 : Hid (w19.heap[w11.heap.size + 1]? = some (.cells #[.int .i64 z0, .int .i64 z1, .int .i64 z2, .int .i64 z3] 25 (0, 0))) := hk_below Kz_18.out hb19
              clear HB18 Kb_18 Kx_18 Ky_18 Kz_18
              by_cases hf0 : f = 0
              · subst hf0
                clear hless
                go_wp2
                go_ret
                exact ⟨rfl, T19⟩
              · obtain ⟨lv, hlv, hlt⟩ := hless hf0
                clear hless
                have hfq : (f == 0) = false := by rw [beq_eq_false_iff_ne]; exact hf0
                have hf1 : IntKind.i64.wrap (f - 1) = f - 1 := IntWalk.i64_in _ (by omega)
                have H2 := Lib.hid hlv
                clear hlv
                have cb0 : w19.cell? ⟨w1.heap.size, 0, none⟩ = some (.int .i64 b0) := hk_cell (i := 0) Kb_19.out rfl
                have cb1 : w19.cell? ⟨w1.heap.size, 1, none⟩ = some (.int .i64 b1) := hk_cell (i := 1) Kb_19.out rfl
                have cb2 : w19.cell? ⟨w1.heap.size, 2, none⟩ = some (.int .i64 b2) := hk_cell (i := 2) Kb_19.out rfl
                have cb3 : w19.cell? ⟨w1.heap.size, 3, none⟩ = some (.int .i64 b3) := hk_cell (i := 3) Kb_19.out rfl
                go_wp2_with fail
                (with_reducible refine (GripOf_r _ _ _ _ _ _ _ _ H2.out).mono ?_)
                rintro e w20 ⟨rfl, hb20⟩
                clear cb0 cb1 cb2 cb3
                have T20 : Below w.heap.size w w20 := T19.trans (hb20.mono T19.size)
                have HB20 := Lib.hid ((HB19.out.below hb20).keep hb20.size (fun _ _ => rfl))
                have Kb_20 : Hid (w20.heap[w1.heap.size]? = some (.cells #[.int .i64 b0, .int .i64 b1, .int .i64 b2, .int .i64 b3] 25 (0, 0))) := hk_below Kb_19.out hb20
                have Kx_20 : Hid (w20.heap[w5.heap.size]? = some (.cells #[.int .i64 x0, .int .i64 x1, .int .i64 x2, .int .i64 x3] 25 (0, 0))) := hk_below Kx_19.out hb20
                have Ky_20 : Hid (w20.heap[w11.heap.size]? = some (.cells #[.int .i64 y0, .int .i64 y1, .int .i64 y2, .int .i64 y3] 25 (0, 0))) := hk_below Ky_19.out hb20
                have Kz_20 : Hid (w20.heap[w11.heap.size + 1]? = some (.cells #[.int .i64 z0, .int .i64 z1, .int .i64 z2, .int .i64 z3] 25 (0, 0))) := hk_below Kz_19.out hb20
                clear HB19 Kb_19 Kx_19 Ky_19 Kz_19
                go_wp2
                go_ret
                exact ⟨rfl, T20⟩
            · clear hFL
              have hbq : (bad == 0) = false := by rw [beq_eq_false_iff_ne]; exact hbad
              go_wp2
              go_ret
              exact ⟨rfl, T18⟩
          · clear hGL hGB
            subst hone
            by_cases hbad : bad = 0
            · obtain ⟨f0, f1, ⟨gv, hgv, hge⟩, hless⟩ := hFL.out hbad
              clear hFL
              subst hbad
              have H1 := Lib.hid hgv
              clear hgv
              have cb0 : w17.cell? ⟨w1.heap.size, 0, none⟩ = some (.int .i64 b0) := hk_cell (i := 0) Kb_17.out rfl
              have cb1 : w17.cell? ⟨w1.heap.size, 1, none⟩ = some (.int .i64 b1) := hk_cell (i := 1) Kb_17.out rfl
              have cb2 : w17.cell? ⟨w1.heap.size, 2, none⟩ = some (.int .i64 b2) := hk_cell (i := 2) Kb_17.out rfl
              have cb3 : w17.cell? ⟨w1.heap.size, 3, none⟩ = some (.int .i64 b3) := hk_cell (i := 3) Kb_17.out rfl
              go_wp2_with fail
              (with_reducible refine (GripOf_r _ _ _ _ _ _ _ _ H1.out).mono ?_)
              rintro e w18 ⟨rfl, hb18⟩
              clear cb0 cb1 cb2 cb3
              have T18 : Below w.heap.size w w18 := T17.trans (hb18.mono T17.size)
              have HB18 := Lib.hid ((HB17.out.below hb18).keep hb18.size (fun _ _ => rfl))
              have Kb_18 : Hid (w18.heap[w1.heap.size]? = some (.cells #[.int .i64 b0, .int .i64 b1, .int .i64 b2, .int .i64 b3] 25 (0, 0))) := hk_below Kb_17.out hb18
              have Kx_18 : Hid (w18.heap[w5.heap.size]? = some (.cells #[.int .i64 x0, .int .i64 x1, .int .i64 x2, .int .i64 x3] 25 (0, 0))) := hk_below Kx_17.out hb18
              have Ky_18 : Hid (w18.heap[w11.heap.size]? = some (.cells #[.int .i64 y0, .int .i64 y1, .int .i64 y2, .int .i64 y3] 25 (0, 0))) := hk_below Ky_17.out hb18
              have Kz_18 : Hid (w18.heap[w11.heap.size + 1]? = some (.cells #[.int .i64 z0, .int .i64 z1, .int .i64 z2, .int .i64 z3] 25 (0, 0))) := hk_below Kz_17.out hb18
              clear HB17 Kb_17 Kx_17 Ky_17 Kz_17
              by_cases hf0 : f = 0
              · subst hf0
                clear hless
                go_wp2
                go_ret
                exact ⟨rfl, T18⟩
              · obtain ⟨lv, hlv, hlt⟩ := hless hf0
                clear hless
                have hfq : (f == 0) = false := by rw [beq_eq_false_iff_ne]; exact hf0
                have hf1 : IntKind.i64.wrap (f - 1) = f - 1 := IntWalk.i64_in _ (by omega)
                have H2 := Lib.hid hlv
                clear hlv
                have cb0 : w18.cell? ⟨w1.heap.size, 0, none⟩ = some (.int .i64 b0) := hk_cell (i := 0) Kb_18.out rfl
                have cb1 : w18.cell? ⟨w1.heap.size, 1, none⟩ = some (.int .i64 b1) := hk_cell (i := 1) Kb_18.out rfl
                have cb2 : w18.cell? ⟨w1.heap.size, 2, none⟩ = some (.int .i64 b2) := hk_cell (i := 2) Kb_18.out rfl
                have cb3 : w18.cell? ⟨w1.heap.size, 3, none⟩ = some (.int .i64 b3) := hk_cell (i := 3) Kb_18.out rfl
                go_wp2_with fail
                (with_reducible refine (GripOf_r _ _ _ _ _ _ _ _ H2.out).mono ?_)
                rintro e w19 ⟨rfl, hb19⟩
                clear cb0 cb1 cb2 cb3
                have T19 : Below w.heap.size w w19 := T18.trans (hb19.mono T18.size)
                have HB19 := Lib.hid ((HB18.out.below hb19).keep hb19.size (fun _ _ => rfl))
                have Kb_19 : Hid (w19.heap[w1.heap.size]? = some (.cells #[.int .i64 b0, .int .i64 b1, .int .i64 b2, .int .i64 b3] 25 (0, 0))) := hk_below Kb_18.out hb19
                have Kx_19 : Hid (w19.heap[w5.heap.size]? = some (.cells #[.int .i64 x0, .int .i64 x1, .int .i64 x2, .int .i64 x3] 25 (0, 0))) := hk_below Kx_18.out hb19
                have Ky_19 : Hid (w19.heap[w11.heap.size]? = some (.cells #[.int .i64 y0, .int .i64 y1, .int .i64 y2, .int .i64 y3] 25 (0, 0))) := hk_below Ky_18.out hb19
                have Kz_19 : Hid (w19.heap[w11.heap.size + 1]? = some (.cells #[.int .i64 z0, .int .i64 z1, .int .i64 z2, .int .i64 z3] 25 (0, 0))) := hk_below Kz_18.out hb19
                clear HB18 Kb_18 Kx_18 Ky_18 Kz_18
                go_wp2
                go_ret
                exact ⟨rfl, T19⟩
            · clear hFL
              have hbq : (bad == 0) = false := by rw [beq_eq_false_iff_ne]; exact hbad
              go_wp2
              go_ret
              exact ⟨rfl, T17⟩
        · clear hGL hGB
          have honq : (one == 0) = false := by rw [beq_eq_false_iff_ne]; exact hone
          by_cases hbad : bad = 0
          · obtain ⟨f0, f1, ⟨gv, hgv, hge⟩, hless⟩ := hFL.out hbad
            clear hFL
            subst hbad
            have H1 := Lib.hid hgv
            clear hgv
            have cb0 : w17.cell? ⟨w1.heap.size, 0, none⟩ = some (.int .i64 b0) := hk_cell (i := 0) Kb_17.out rfl
            have cb1 : w17.cell? ⟨w1.heap.size, 1, none⟩ = some (.int .i64 b1) := hk_cell (i := 1) Kb_17.out rfl
            have cb2 : w17.cell? ⟨w1.heap.size, 2, none⟩ = some (.int .i64 b2) := hk_cell (i := 2) Kb_17.out rfl
            have cb3 : w17.cell? ⟨w1.heap.size, 3, none⟩ = some (.int .i64 b3) := hk_cell (i := 3) Kb_17.out rfl
            go_wp2_with fail
            (with_reducible refine (GripOf_r _ _ _ _ _ _ _ _ H1.out).mono ?_)
            rintro e w18 ⟨rfl, hb18⟩
            clear cb0 cb1 cb2 cb3
            have T18 : Below w.heap.size w w18 := T17.trans (hb18.mono T17.size)
            have HB18 := Lib.hid ((HB17.out.below hb18).keep hb18.size (fun _ _ => rfl))
            have Kb_18 : Hid (w18.heap[w1.heap.size]? = some (.cells #[.int .i64 b0, .int .i64 b1, .int .i64 b2, .int .i64 b3] 25 (0, 0))) := hk_below Kb_17.out hb18
            have Kx_18 : Hid (w18.heap[w5.heap.size]? = some (.cells #[.int .i64 x0, .int .i64 x1, .int .i64 x2, .int .i64 x3] 25 (0, 0))) := hk_below Kx_17.out hb18
            have Ky_18 : Hid (w18.heap[w11.heap.size]? = some (.cells #[.int .i64 y0, .int .i64 y1, .int .i64 y2, .int .i64 y3] 25 (0, 0))) := hk_below Ky_17.out hb18
            have Kz_18 : Hid (w18.heap[w11.heap.size + 1]? = some (.cells #[.int .i64 z0, .int .i64 z1, .int .i64 z2, .int .i64 z3] 25 (0, 0))) := hk_below Kz_17.out hb18
            clear HB17 Kb_17 Kx_17 Ky_17 Kz_17
            by_cases hf0 : f = 0
            · subst hf0
              clear hless
              go_wp2
              go_ret
              exact ⟨rfl, T18⟩
            · obtain ⟨lv, hlv, hlt⟩ := hless hf0
              clear hless
              have hfq : (f == 0) = false := by rw [beq_eq_false_iff_ne]; exact hf0
              have hf1 : IntKind.i64.wrap (f - 1) = f - 1 := IntWalk.i64_in _ (by omega)
              have H2 := Lib.hid hlv
              clear hlv
              have cb0 : w18.cell? ⟨w1.heap.size, 0, none⟩ = some (.int .i64 b0) := hk_cell (i := 0) Kb_18.out rfl
              have cb1 : w18.cell? ⟨w1.heap.size, 1, none⟩ = some (.int .i64 b1) := hk_cell (i := 1) Kb_18.out rfl
              have cb2 : w18.cell? ⟨w1.heap.size, 2, none⟩ = some (.int .i64 b2) := hk_cell (i := 2) Kb_18.out rfl
              have cb3 : w18.cell? ⟨w1.heap.size, 3, none⟩ = some (.int .i64 b3) := hk_cell (i := 3) Kb_18.out rfl
              go_wp2_with fail
              (with_reducible refine (GripOf_r _ _ _ _ _ _ _ _ H2.out).mono ?_)
              rintro e w19 ⟨rfl, hb19⟩
              clear cb0 cb1 cb2 cb3
              have T19 : Below w.heap.size w w19 := T18.trans (hb19.mono T18.size)
              have HB19 := Lib.hid ((HB18.out.below hb19).keep hb19.size (fun _ _ => rfl))
              have Kb_19 : Hid (w19.heap[w1.heap.size]? = some (.cells #[.int .i64 b0, .int .i64 b1, .int .i64 b2, .int .i64 b3] 25 (0, 0))) := hk_below Kb_18.out hb19
              have Kx_19 : Hid (w19.heap[w5.heap.size]? = some (.cells #[.int .i64 x0, .int .i64 x1, .int .i64 x2, .int .i64 x3] 25 (0, 0))) := hk_below Kx_18.out hb19
              have Ky_19 : Hid (w19.heap[w11.heap.size]? = some (.cells #[.int .i64 y0, .int .i64 y1, .int .i64 y2, .int .i64 y3] 25 (0, 0))) := hk_below Ky_18.out hb19
              have Kz_19 : Hid (w19.heap[w11.heap.size + 1]? = some (.cells #[.int .i64 z0, .int .i64 z1, .int .i64 z2, .int .i64 z3] 25 (0, 0))) := hk_below Kz_18.out hb19
              clear HB18 Kb_18 Kx_18 Ky_18 Kz_18
              go_wp2
              go_ret
              exact ⟨rfl, T19⟩
          · clear hFL
            have hbq : (bad == 0) = false := by rw [beq_eq_false_iff_ne]; exact hbad
            go_wp2
            go_ret
            exact ⟨rfl, T17⟩
      · clear hCL
        have hfq5 : (five == 0) = false := by rw [beq_eq_false_iff_ne]; exact hfive
        by_cases hone : one = 0
        · by_cases hnl : n1 < 1000
          · have hn1 : n1 < 1000 := hnl
            obtain ⟨gn, hgn, hgl⟩ := hGL.out hone hnl
            obtain ⟨nl0, nl1⟩ := hGB.out hone
            subst hone
            clear hGL hGB
            have hnw : IntKind.i64.wrap (n1 + 1) = n1 + 1 := IntWalk.i64_in _ (by omega)
            have H3 := Lib.hid hgn
            clear hgn
            have cx0 : w16.cell? ⟨w5.heap.size, 0, none⟩ = some (.int .i64 x0) := hk_cell (i := 0) Kx_16.out rfl
            have cx1 : w16.cell? ⟨w5.heap.size, 1, none⟩ = some (.int .i64 x1) := hk_cell (i := 1) Kx_16.out rfl
            have cx2 : w16.cell? ⟨w5.heap.size, 2, none⟩ = some (.int .i64 x2) := hk_cell (i := 2) Kx_16.out rfl
            have cx3 : w16.cell? ⟨w5.heap.size, 3, none⟩ = some (.int .i64 x3) := hk_cell (i := 3) Kx_16.out rfl
            go_wp2_with fail
            (with_reducible refine (GripOf_r _ _ _ _ _ _ _ _ H3.out).mono ?_)
            rintro e w17 ⟨rfl, hb17⟩
            clear cx0 cx1 cx2 cx3
            have T17 : Below w.heap.size w w17 := T16.trans (hb17.mono T16.size)
            have HB17 := Lib.hid ((HB16.out.below hb17).keep hb17.size (fun _ _ => rfl))
            have Kb_17 : Hid (w17.heap[w1.heap.size]? = some (.cells #[.int .i64 b0, .int .i64 b1, .int .i64 b2, .int .i64 b3] 25 (0, 0))) := hk_below Kb_16.out hb17
            have Kx_17 : Hid (w17.heap[w5.heap.size]? = some (.cells #[.int .i64 x0, .int .i64 x1, .int .i64 x2, .int .i64 x3] 25 (0, 0))) := hk_below Kx_16.out hb17
            have Ky_17 : Hid (w17.heap[w11.heap.size]? = some (.cells #[.int .i64 y0, .int .i64 y1, .int .i64 y2, .int .i64 y3] 25 (0, 0))) := hk_below Ky_16.out hb17
            have Kz_17 : Hid (w17.heap[w11.heap.size + 1]? = some (.cells #[.int .i64 z0, .int .i64 z1, .int .i64 z2, .int .i64 z3] 25 (0, 0))) := hk_below Kz_16.out hb17
            clear HB16 Kb_16 Kx_16 Ky_16 Kz_16
            by_cases hbad : bad = 0
            · obtain ⟨f0, f1, ⟨gv, hgv, hge⟩, hless⟩ := hFL.out hbad
              clear hFL
              subst hbad
              have H1 := Lib.hid hgv
              clear hgv
              have cb0 : w17.cell? ⟨w1.heap.size, 0, none⟩ = some (.int .i64 b0) := hk_cell (i := 0) Kb_17.out rfl
              have cb1 : w17.cell? ⟨w1.heap.size, 1, none⟩ = some (.int .i64 b1) := hk_cell (i := 1) Kb_17.out rfl
              have cb2 : w17.cell? ⟨w1.heap.size, 2, none⟩ = some (.int .i64 b2) := hk_cell (i := 2) Kb_17.out rfl
              have cb3 : w17.cell? ⟨w1.heap.size, 3, none⟩ = some (.int .i64 b3) := hk_cell (i := 3) Kb_17.out rfl
              go_wp2_with fail
              (with_reducible refine (GripOf_r _ _ _ _ _ _ _ _ H1.out).mono ?_)
              rintro e w18 ⟨rfl, hb18⟩
              clear cb0 cb1 cb2 cb3
              have T18 : Below w.heap.size w w18 := T17.trans (hb18.mono T17.size)
              have HB18 := Lib.hid ((HB17.out.below hb18).keep hb18.size (fun _ _ => rfl))
              have Kb_18 : Hid (w18.heap[w1.heap.size]? = some (.cells #[.int .i64 b0, .int .i64 b1, .int .i64 b2, .int .i64 b3] 25 (0, 0))) := hk_below Kb_17.out hb18
              have Kx_18 : Hid (w18.heap[w5.heap.size]? = some (.cells #[.int .i64 x0, .int .i64 x1, .int .i64 x2, .int .i64 x3] 25 (0, 0))) := hk_below Kx_17.out hb18
              have Ky_18 : Hid (w18.heap[w11.heap.size]? = some (.cells #[.int .i64 y0, .int .i64 y1, .int .i64 y2, .int .i64 y3] 25 (0, 0))) := hk_below Ky_17.out hb18
              have Kz_18 : Hid (w18.heap[w11.heap.size + 1]? = some (.cells #[.int .i64 z0, .int .i64 z1, .int .i64 z2, .int .i64 z3] 25 (0, 0))) := hk_below Kz_17.out hb18
              clear HB17 Kb_17 Kx_17 Ky_17 Kz_17
              by_cases hf0 : f = 0
              · subst hf0
                clear hless
                go_wp2
                go_ret
                exact ⟨rfl, T18⟩
              · obtain ⟨lv, hlv, hlt⟩ := hless hf0
                clear hless
                have hfq : (f == 0) = false := by rw [beq_eq_false_iff_ne]; exact hf0
                have hf1 : IntKind.i64.wrap (f - 1) = f - 1 := IntWalk.i64_in _ (by omega)
                have H2 := Lib.hid hlv
                clear hlv
                have cb0 : w18.cell? ⟨w1.heap.size, 0, none⟩ = some (.int .i64 b0) := hk_cell (i := 0) Kb_18.out rfl
                have cb1 : w18.cell? ⟨w1.heap.size, 1, none⟩ = some (.int .i64 b1) := hk_cell (i := 1) Kb_18.out rfl
                have cb2 : w18.cell? ⟨w1.heap.size, 2, none⟩ = some (.int .i64 b2) := hk_cell (i := 2) Kb_18.out rfl
                have cb3 : w18.cell? ⟨w1.heap.size, 3, none⟩ = some (.int .i64 b3) := hk_cell (i := 3) Kb_18.out rfl
                go_wp2_with fail
                (with_reducible refine (GripOf_r _ _ _ _ _ _ _ _ H2.out).mono ?_)
                rintro e w19 ⟨rfl, hb19⟩
                clear cb0 cb1 cb2 cb3
                have T19 : Below w.heap.size w w19 := T18.trans (hb19.mono T18.size)
                have HB19 := Lib.hid ((HB18.out.below hb19).keep hb19.size (fun _ _ => rfl))
                have Kb_19 : Hid (w19.heap[w1.heap.size]? = some (.cells #[.int .i64 b0, .int .i64 b1, .int .i64 b2, .int .i64 b3] 25 (0, 0))) := hk_below Kb_18.out hb19
                have Kx_19 : Hid (w19.heap[w5.heap.size]? = some (.cells #[.int .i64 x0, .int .i64 x1, .int .i64 x2, .int .i64 x3] 25 (0, 0))) := hk_below Kx_18.out hb19
                have Ky_19 : Hid (w19.heap[w11.heap.size]? = some (.cells #[.int .i64 y0, .int .i64 y1, .int .i64 y2, .int .i64 y3] 25 (0, 0))) := hk_below Ky_18.out hb19
                have Kz_19 : Hid (w19.heap[w11.heap.size + 1]? = some (.cells #[.int .i64 z0, .int .i64 z1, .int .i64 z2, .int .i64 z3] 25 (0, 0))) := hk_below Kz_18.out hb19
                clear HB18 Kb_18 Kx_18 Ky_18 Kz_18
                go_wp2
                go_ret
                exact ⟨rfl, T19⟩
            · clear hFL
              have hbq : (bad == 0) = false := by rw [beq_eq_false_iff_ne]; exact hbad
              go_wp2
              go_ret
              exact ⟨rfl, T17⟩
          · clear hGL hGB
            subst hone
            by_cases hbad : bad = 0
            · obtain ⟨f0, f1, ⟨gv, hgv, hge⟩, hless⟩ := hFL.out hbad
              clear hFL
              subst hbad
              have H1 := Lib.hid hgv
              clear hgv
              have cb0 : w16.cell? ⟨w1.heap.size, 0, none⟩ = some (.int .i64 b0) := hk_cell (i := 0) Kb_16.out rfl
              have cb1 : w16.cell? ⟨w1.heap.size, 1, none⟩ = some (.int .i64 b1) := hk_cell (i := 1) Kb_16.out rfl
              have cb2 : w16.cell? ⟨w1.heap.size, 2, none⟩ = some (.int .i64 b2) := hk_cell (i := 2) Kb_16.out rfl
              have cb3 : w16.cell? ⟨w1.heap.size, 3, none⟩ = some (.int .i64 b3) := hk_cell (i := 3) Kb_16.out rfl
              go_wp2_with fail
              (with_reducible refine (GripOf_r _ _ _ _ _ _ _ _ H1.out).mono ?_)
              rintro e w17 ⟨rfl, hb17⟩
              clear cb0 cb1 cb2 cb3
              have T17 : Below w.heap.size w w17 := T16.trans (hb17.mono T16.size)
              have HB17 := Lib.hid ((HB16.out.below hb17).keep hb17.size (fun _ _ => rfl))
              have Kb_17 : Hid (w17.heap[w1.heap.size]? = some (.cells #[.int .i64 b0, .int .i64 b1, .int .i64 b2, .int .i64 b3] 25 (0, 0))) := hk_below Kb_16.out hb17
              have Kx_17 : Hid (w17.heap[w5.heap.size]? = some (.cells #[.int .i64 x0, .int .i64 x1, .int .i64 x2, .int .i64 x3] 25 (0, 0))) := hk_below Kx_16.out hb17
              have Ky_17 : Hid (w17.heap[w11.heap.size]? = some (.cells #[.int .i64 y0, .int .i64 y1, .int .i64 y2, .int .i64 y3] 25 (0, 0))) := hk_below Ky_16.out hb17
              have Kz_17 : Hid (w17.heap[w11.heap.size + 1]? = some (.cells #[.int .i64 z0, .int .i64 z1, .int .i64 z2, .int .i64 z3] 25 (0, 0))) := hk_below Kz_16.out hb17
              clear HB16 Kb_16 Kx_16 Ky_16 Kz_16
              by_cases hf0 : f = 0
              · subst hf0
                clear hless
                go_wp2
                go_ret
                exact ⟨rfl, T17⟩
              · obtain ⟨lv, hlv, hlt⟩ := hless hf0
                clear hless
                have hfq : (f == 0) = false := by rw [beq_eq_false_iff_ne]; exact hf0
                have hf1 : IntKind.i64.wrap (f - 1) = f - 1 := IntWalk.i64_in _ (by omega)
                have H2 := Lib.hid hlv
                clear hlv
                have cb0 : w17.cell? ⟨w1.heap.size, 0, none⟩ = some (.int .i64 b0) := hk_cell (i := 0) Kb_17.out rfl
                have cb1 : w17.cell? ⟨w1.heap.size, 1, none⟩ = some (.int .i64 b1) := hk_cell (i := 1) Kb_17.out rfl
                have cb2 : w17.cell? ⟨w1.heap.size, 2, none⟩ = some (.int .i64 b2) := hk_cell (i := 2) Kb_17.out rfl
                have cb3 : w17.cell? ⟨w1.heap.size, 3, none⟩ = some (.int .i64 b3) := hk_cell (i := 3) Kb_17.out rfl
                go_wp2_with fail
                (with_reducible refine (GripOf_r _ _ _ _ _ _ _ _ H2.out).mono ?_)
                rintro e w18 ⟨rfl, hb18⟩
                clear cb0 cb1 cb2 cb3
                have T18 : Below w.heap.size w w18 := T17.trans (hb18.mono T17.size)
                have HB18 := Lib.hid ((HB17.out.below hb18).keep hb18.size (fun _ _ => rfl))
                have Kb_18 : Hid (w18.heap[w1.heap.size]? = some (.cells #[.int .i64 b0, .int .i64 b1, .int .i64 b2, .int .i64 b3] 25 (0, 0))) := hk_below Kb_17.out hb18
                have Kx_18 : Hid (w18.heap[w5.heap.size]? = some (.cells #[.int .i64 x0, .int .i64 x1, .int .i64 x2, .int .i64 x3] 25 (0, 0))) := hk_below Kx_17.out hb18
                have Ky_18 : Hid (w18.heap[w11.heap.size]? = some (.cells #[.int .i64 y0, .int .i64 y1, .int .i64 y2, .int .i64 y3] 25 (0, 0))) := hk_below Ky_17.out hb18
                have Kz_18 : Hid (w18.heap[w11.heap.size + 1]? = some (.cells #[.int .i64 z0, .int .i64 z1, .int .i64 z2, .int .i64 z3] 25 (0, 0))) := hk_below Kz_17.out hb18
                clear HB17 Kb_17 Kx_17 Ky_17 Kz_17
                go_wp2
                go_ret
                exact ⟨rfl, T18⟩
            · clear hFL
              have hbq : (bad == 0) = false := by rw [beq_eq_false_iff_ne]; exact hbad
              go_wp2
              go_ret
              exact ⟨rfl, T16⟩
        · clear hGL hGB
          have honq : (one == 0) = false := by rw [beq_eq_false_iff_ne]; exact hone
          by_cases hbad : bad = 0
          · obtain ⟨f0, f1, ⟨gv, hgv, hge⟩, hless⟩ := hFL.out hbad
            clear hFL
            subst hbad
            have H1 := Lib.hid hgv
            clear hgv
            have cb0 : w16.cell? ⟨w1.heap.size, 0, none⟩ = some (.int .i64 b0) := hk_cell (i := 0) Kb_16.out rfl
            have cb1 : w16.cell? ⟨w1.heap.size, 1, none⟩ = some (.int .i64 b1) := hk_cell (i := 1) Kb_16.out rfl
            have cb2 : w16.cell? ⟨w1.heap.size, 2, none⟩ = some (.int .i64 b2) := hk_cell (i := 2) Kb_16.out rfl
            have cb3 : w16.cell? ⟨w1.heap.size, 3, none⟩ = some (.int .i64 b3) := hk_cell (i := 3) Kb_16.out rfl
            go_wp2_with fail
            (with_reducible refine (GripOf_r _ _ _ _ _ _ _ _ H1.out).mono ?_)
            rintro e w17 ⟨rfl, hb17⟩
            clear cb0 cb1 cb2 cb3
            have T17 : Below w.heap.size w w17 := T16.trans (hb17.mono T16.size)
            have HB17 := Lib.hid ((HB16.out.below hb17).keep hb17.size (fun _ _ => rfl))
            have Kb_17 : Hid (w17.heap[w1.heap.size]? = some (.cells #[.int .i64 b0, .int .i64 b1, .int .i64 b2, .int .i64 b3] 25 (0, 0))) := hk_below Kb_16.out hb17
            have Kx_17 : Hid (w17.heap[w5.heap.size]? = some (.cells #[.int .i64 x0, .int .i64 x1, .int .i64 x2, .int .i64 x3] 25 (0, 0))) := hk_below Kx_16.out hb17
            have Ky_17 : Hid (w17.heap[w11.heap.size]? = some (.cells #[.int .i64 y0, .int .i64 y1, .int .i64 y2, .int .i64 y3] 25 (0, 0))) := hk_below Ky_16.out hb17
            have Kz_17 : Hid (w17.heap[w11.heap.size + 1]? = some (.cells #[.int .i64 z0, .int .i64 z1, .int .i64 z2, .int .i64 z3] 25 (0, 0))) := hk_below Kz_16.out hb17
            clear HB16 Kb_16 Kx_16 Ky_16 Kz_16
            by_cases hf0 : f = 0
            · subst hf0
              clear hless
              go_wp2
              go_ret
              exact ⟨rfl, T17⟩
            · obtain ⟨lv, hlv, hlt⟩ := hless hf0
              clear hless
              have hfq : (f == 0) = false := by rw [beq_eq_false_iff_ne]; exact hf0
              have hf1 : IntKind.i64.wrap (f - 1) = f - 1 := IntWalk.i64_in _ (by omega)
              have H2 := Lib.hid hlv
              clear hlv
              have cb0 : w17.cell? ⟨w1.heap.size, 0, none⟩ = some (.int .i64 b0) := hk_cell (i := 0) Kb_17.out rfl
              have cb1 : w17.cell? ⟨w1.heap.size, 1, none⟩ = some (.int .i64 b1) := hk_cell (i := 1) Kb_17.out rfl
              have cb2 : w17.cell? ⟨w1.heap.size, 2, none⟩ = some (.int .i64 b2) := hk_cell (i := 2) Kb_17.out rfl
              have cb3 : w17.cell? ⟨w1.heap.size, 3, none⟩ = some (.int .i64 b3) := hk_cell (i := 3) Kb_17.out rfl
              go_wp2_with fail
              (with_reducible refine (GripOf_r _ _ _ _ _ _ _ _ H2.out).mono ?_)
              rintro e w18 ⟨rfl, hb18⟩
              clear cb0 cb1 cb2 cb3
              have T18 : Below w.heap.size w w18 := T17.trans (hb18.mono T17.size)
              have HB18 := Lib.hid ((HB17.out.below hb18).keep hb18.size (fun _ _ => rfl))
              have Kb_18 : Hid (w18.heap[w1.heap.size]? = some (.cells #[.int .i64 b0, .int .i64 b1, .int .i64 b2, .int .i64 b3] 25 (0, 0))) := hk_below Kb_17.out hb18
              have Kx_18 : Hid (w18.heap[w5.heap.size]? = some (.cells #[.int .i64 x0, .int .i64 x1, .int .i64 x2, .int .i64 x3] 25 (0, 0))) := hk_below Kx_17.out hb18
              have Ky_18 : Hid (w18.heap[w11.heap.size]? = some (.cells #[.int .i64 y0, .int .i64 y1, .int .i64 y2, .int .i64 y3] 25 (0, 0))) := hk_below Ky_17.out hb18
              have Kz_18 : Hid (w18.heap[w11.heap.size + 1]? = some (.cells #[.int .i64 z0, .int .i64 z1, .int .i64 z2, .int .i64 z3] 25 (0, 0))) := hk_below Kz_17.out hb18
              clear HB17 Kb_17 Kx_17 Ky_17 Kz_17
              go_wp2
              go_ret
              exact ⟨rfl, T18⟩
          · clear hFL
            have hbq : (bad == 0) = false := by rw [beq_eq_false_iff_ne]; exact hbad
            go_wp2
            go_ret
            exact ⟨rfl, T16⟩
  · have HN : Hid (decide (4096 < n) = true) := by show _ = _; simp; omega
    go_enter Try.func12, Try.ntmps12
    go_wp2_with fail
    (with_reducible refine (big_any _ _ _ _).mono ?_)
    rintro e _ ⟨rfl, rfl⟩
    rw [HN.out]
    go_wp2
    go_ret
    exact ⟨rfl, Below.refl _ _⟩
end Go.Proofs.Ytfgokehoanlobaa
