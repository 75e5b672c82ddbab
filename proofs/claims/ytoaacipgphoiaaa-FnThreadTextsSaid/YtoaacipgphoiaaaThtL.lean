/- The walk of the law on the texts of threads. -/
import Derived.Test.YtoaacipgphoiaaaThdE
import Derived.Test.YtoaacipgphoiaaaRdeD
import Derived.Test.YtoaacipgphoiaaaOpenB
set_option linter.unusedSimpArgs false
set_option linter.unusedVariables false
namespace Go.Proofs.Ytoaacipgphoiaaa
open Go.RowKit

theorem ThreadText_r (d p : Int) (lf inn : Bool) (t : ByteArray) (c : Int) (w : World) (h : (t, c) = thrR d p lf inn) : Calls Try.prog 26 #[.agg #[.int .i64 d, .int .i64 p, .bool lf, .bool inn]] w fun e w' => e = .returned (.tuple #[.string t, .int .i64 c]) ∧ Below w.heap.size w w' :=
  (ThreadText_any d p lf inn w).mono fun e w' q => by rw [q.1, ← h]; exact ⟨rfl, q.2⟩
theorem sThreadText_r (d p : Int) (lf inn : Bool) (t : ByteArray) (c : Int) (w : World) (h : (t, c) = thrR d p lf inn) : Calls Try.prog 25 #[.agg #[.int .i64 d, .int .i64 p, .bool lf, .bool inn]] w fun e w' => e = .returned (.tuple #[.string t, .int .i64 c]) ∧ Below w.heap.size w w' :=
  (sThreadText_any d p lf inn w).mono fun e w' q => by rw [q.1, ← h]; exact ⟨rfl, q.2⟩
theorem thr_eql_same (d p : Int) (lf inn : Bool) (w : World) : (binOp .eql 25 (.agg #[.int .i64 d, .int .i64 p, .bool lf, .bool inn]) (.agg #[.int .i64 d, .int .i64 p, .bool lf, .bool inn])).run Try.prog w = .ok (.bool true) w := by
  simp [go_sem]
theorem text_yes {d p : Int} {lf inn : Bool} {t : ByteArray} {c : Int} (h : (t, c) = thrR d p lf inn) (hT : isThr d p = true) : c = 0 ∧ IsRd t ((d, p, lf, inn), 0) ∧ t.size ≤ 1048576 := by
  unfold thrR at h
  rw [if_pos hT] at h
  injection h with h1 h2
  obtain ⟨a, b, e, f⟩ := isThr_bd hT
  exact ⟨h2, Or.inl ⟨hT, h1, rfl⟩, by rw [h1]; exact Nat.le_trans (thr_len a b e f) (by decide)⟩
theorem text_no {d p : Int} {lf inn : Bool} {t : ByteArray} {c : Int} (h : (t, c) = thrR d p lf inn) (hT : isThr d p = false) : c = 1 := by
  unfold thrR at h
  rw [hT, if_neg (by simp)] at h
  injection h
theorem read_text {s : ByteArray} {d p : Int} {lf inn : Bool} {c : Int} (h : IsRd s ((d, p, lf, inn), c)) (hc : c = 0) : (s, (0 : Int)) = thrR d p lf inn := by
  rcases h with ⟨a, b, _⟩ | ⟨a, _⟩
  · unfold thrR
    have a' : isThr d p = true := a
    rw [if_pos a', b]
    rfl
  · simp only [Prod.mk.injEq] at a
    omega
theorem blw_ofDrewX {B : Nat} {w w' : World} (h : Below B w.drew w') : Below B w w' := ⟨h.os, h.tape, h.output, h.size, h.block⟩
set_option maxRecDepth 100000 in
set_option maxHeartbeats 16000000 in
theorem FnThreadTexts_walk (a : Option Addr) (n c : Nat) (w : World) (h : RdB w w.heap.size a n) :
    Calls Try.prog 12 #[.slice a n c] w fun e w' => e = .returned (.bool true) ∧ Below w.heap.size w w' := by
  by_cases hn : n ≤ 4096
  · have HN : Hid (decide (4096 < n) = false) := by show _ = _; simp; omega
    have HB0 := Lib.hid h
    have T0 := Below.refl w.heap.size w
    clear h
    go_enter Try.func12, Try.ntmps12
    go_wp2_with fail
    (with_reducible refine (big_any _ _ _ _).mono ?_)
    rintro e _ ⟨rfl, rfl⟩
    rw [HN.out]
    go_wp2_with fail
    (with_reducible refine (DrawThreadText_any a n c _ HB0.out hn).mono ?_)
    rintro e w1 ⟨x0, x1, x2, x3, rfl, hb1⟩
    have T1 : Below w.heap.size w w1 := T0.trans (hb1.mono T0.size)
    have HB1 := Lib.hid ((HB0.out.below hb1).keep hb1.size (fun _ _ => rfl))
    clear HB0
    go_wp2_with fail
    generalize hw : w1.alloc (Obj.cells #[.int .i64 x0, .int .i64 x1, .bool x2, .bool x3] 25) = w2
    have hb2 : Below w1.heap.size w1 w2 := by
      rw [← hw]
      exact (Below.refl _ _).alloc (by simp) _
    have Kx_2 : Hid (w2.heap[w1.heap.size]? = some (.cells #[.int .i64 x0, .int .i64 x1, .bool x2, .bool x3] 25 (0, 0))) := by
      show _ = _
      rw [← hw]
      exact (heap_alloc_new _ _)
    clear hw
    have T2 : Below w.heap.size w w2 := T1.trans (hb2.mono T1.size)
    have HB2 := Lib.hid ((HB1.out.below hb2).keep hb2.size (fun _ _ => rfl))
    clear HB1
    obtain ⟨⟨t, bad⟩, hT⟩ : ∃ rr__, rr__ = thrR x0 x1 x2 x3 := ⟨_, rfl⟩
    have HhT := Lib.hid hT
    have cx0 : w2.cell? ⟨w1.heap.size, 0, none⟩ = some (.int .i64 x0) := hk_cell (i := 0) Kx_2.out rfl
    have cx1 : w2.cell? ⟨w1.heap.size, 1, none⟩ = some (.int .i64 x1) := hk_cell (i := 1) Kx_2.out rfl
    have cx2 : w2.cell? ⟨w1.heap.size, 2, none⟩ = some (.bool x2) := hk_cell (i := 2) Kx_2.out rfl
    have cx3 : w2.cell? ⟨w1.heap.size, 3, none⟩ = some (.bool x3) := hk_cell (i := 3) Kx_2.out rfl
    go_wp2_with fail
    (with_reducible refine (ThreadText_r _ _ _ _ _ _ _ HhT.out).mono ?_)
    rintro e w3 ⟨rfl, hb3⟩
    clear cx0 cx1 cx2 cx3
    have T3 : Below w.heap.size w w3 := T2.trans (hb3.mono T2.size)
    have HB3 := Lib.hid ((HB2.out.below hb3).keep hb3.size (fun _ _ => rfl))
    have Kx_3 : Hid (w3.heap[w1.heap.size]? = some (.cells #[.int .i64 x0, .int .i64 x1, .bool x2, .bool x3] 25 (0, 0))) := hk_below Kx_2.out hb3
    clear HB2 Kx_2
    have cx0 : w3.cell? ⟨w1.heap.size, 0, none⟩ = some (.int .i64 x0) := hk_cell (i := 0) Kx_3.out rfl
    have cx1 : w3.cell? ⟨w1.heap.size, 1, none⟩ = some (.int .i64 x1) := hk_cell (i := 1) Kx_3.out rfl
    have cx2 : w3.cell? ⟨w1.heap.size, 2, none⟩ = some (.bool x2) := hk_cell (i := 2) Kx_3.out rfl
    have cx3 : w3.cell? ⟨w1.heap.size, 3, none⟩ = some (.bool x3) := hk_cell (i := 3) Kx_3.out rfl
    go_wp2_with fail
    (with_reducible refine (sThreadText_r _ _ _ _ _ _ _ HhT.out).mono ?_)
    rintro e w4 ⟨rfl, hb4⟩
    clear cx0 cx1 cx2 cx3
    have T4 : Below w.heap.size w w4 := T3.trans (hb4.mono T3.size)
    have HB4 := Lib.hid ((HB3.out.below hb4).keep hb4.size (fun _ _ => rfl))
    have Kx_4 : Hid (w4.heap[w1.heap.size]? = some (.cells #[.int .i64 x0, .int .i64 x1, .bool x2, .bool x3] 25 (0, 0))) := hk_below Kx_3.out hb4
    clear HB3 Kx_3
    have HTY := Lib.hid (fun q => text_yes hT q)
    have HTN := Lib.hid (fun q => text_no hT q)
    clear hT HhT
    go_wp2_with fail
    (with_reducible refine (DrawReadThread_any a n c _ HB4.out hn).mono ?_)
    rintro e w5 ⟨s, rfl, hss, hb5⟩
    have T5 : Below w.heap.size w w5 := T4.trans (hb5.mono T4.size)
    have HB5 := Lib.hid ((HB4.out.below hb5).keep hb5.size (fun _ _ => rfl))
    have Kx_5 : Hid (w5.heap[w1.heap.size]? = some (.cells #[.int .i64 x0, .int .i64 x1, .bool x2, .bool x3] 25 (0, 0))) := hk_below Kx_4.out hb5
    clear HB4 Kx_4
    have hss2 : s.size ≤ 1048576 := by omega
    clear hss HB5
    obtain ⟨⟨⟨y0, y1, y2, y3⟩, one⟩, hr⟩ := isRd_ex s
    have HR := Lib.hid hr
    clear hr
    go_wp2_with fail
    (with_reducible refine (ReadThread_any s y0 y1 y2 y3 one _ hss2 HR.out).mono ?_)
    rintro e w6 ⟨rfl, hb6⟩
    have T6 : Below w.heap.size w w6 := T5.trans (hb6.mono T5.size)
    have Kx_6 : Hid (w6.heap[w1.heap.size]? = some (.cells #[.int .i64 x0, .int .i64 x1, .bool x2, .bool x3] 25 (0, 0))) := hk_below Kx_5.out hb6
    clear Kx_5
    go_wp2_with fail
    generalize hw : w6.alloc (Obj.cells #[.int .i64 y0, .int .i64 y1, .bool y2, .bool y3] 25) = w7
    have hb7 : Below w6.heap.size w6 w7 := by
      rw [← hw]
      exact (Below.refl _ _).alloc (by simp) _
    have Ky_7 : Hid (w7.heap[w6.heap.size]? = some (.cells #[.int .i64 y0, .int .i64 y1, .bool y2, .bool y3] 25 (0, 0))) := by
      show _ = _
      rw [← hw]
      exact (heap_alloc_new _ _)
    clear hw
    have T7 : Below w.heap.size w w7 := T6.trans (hb7.mono T6.size)
    have Kx_7 : Hid (w7.heap[w1.heap.size]? = some (.cells #[.int .i64 x0, .int .i64 x1, .bool x2, .bool x3] 25 (0, 0))) := hk_below Kx_6.out hb7
    clear Kx_6
    go_wp2_with fail
    (with_reducible refine (sReadThread_any s y0 y1 y2 y3 one _ hss2 HR.out).mono ?_)
    rintro e w8 ⟨rfl, hb8⟩
    have T8 : Below w.heap.size w w8 := T7.trans (hb8.mono T7.size)
    have Kx_8 : Hid (w8.heap[w1.heap.size]? = some (.cells #[.int .i64 x0, .int .i64 x1, .bool x2, .bool x3] 25 (0, 0))) := hk_below Kx_7.out hb8
    have Ky_8 : Hid (w8.heap[w6.heap.size]? = some (.cells #[.int .i64 y0, .int .i64 y1, .bool y2, .bool y3] 25 (0, 0))) := hk_below Ky_7.out hb8
    clear Kx_7 Ky_7
    have heq1 := thr_eql_same y0 y1 y2 y3
    have cx0 : (w8.alloc (Obj.cells #[.int .i64 y0, .int .i64 y1, .bool y2, .bool y3] 25)).cell? ⟨w1.heap.size, 0, none⟩ = some (.int .i64 x0) := hk_cell (i := 0) (hk_alloc Kx_8.out _) rfl
    have cx1 : (w8.alloc (Obj.cells #[.int .i64 y0, .int .i64 y1, .bool y2, .bool y3] 25)).cell? ⟨w1.heap.size, 1, none⟩ = some (.int .i64 x1) := hk_cell (i := 1) (hk_alloc Kx_8.out _) rfl
    have cx2 : (w8.alloc (Obj.cells #[.int .i64 y0, .int .i64 y1, .bool y2, .bool y3] 25)).cell? ⟨w1.heap.size, 2, none⟩ = some (.bool x2) := hk_cell (i := 2) (hk_alloc Kx_8.out _) rfl
    have cx3 : (w8.alloc (Obj.cells #[.int .i64 y0, .int .i64 y1, .bool y2, .bool y3] 25)).cell? ⟨w1.heap.size, 3, none⟩ = some (.bool x3) := hk_cell (i := 3) (hk_alloc Kx_8.out _) rfl
    have cy0 : (w8.alloc (Obj.cells #[.int .i64 y0, .int .i64 y1, .bool y2, .bool y3] 25)).cell? ⟨w6.heap.size, 0, none⟩ = some (.int .i64 y0) := hk_cell (i := 0) (hk_alloc Ky_8.out _) rfl
    have cy1 : (w8.alloc (Obj.cells #[.int .i64 y0, .int .i64 y1, .bool y2, .bool y3] 25)).cell? ⟨w6.heap.size, 1, none⟩ = some (.int .i64 y1) := hk_cell (i := 1) (hk_alloc Ky_8.out _) rfl
    have cy2 : (w8.alloc (Obj.cells #[.int .i64 y0, .int .i64 y1, .bool y2, .bool y3] 25)).cell? ⟨w6.heap.size, 2, none⟩ = some (.bool y2) := hk_cell (i := 2) (hk_alloc Ky_8.out _) rfl
    have cy3 : (w8.alloc (Obj.cells #[.int .i64 y0, .int .i64 y1, .bool y2, .bool y3] 25)).cell? ⟨w6.heap.size, 3, none⟩ = some (.bool y3) := hk_cell (i := 3) (hk_alloc Ky_8.out _) rfl
    go_wp2_with fail
    generalize hw : w8.alloc (Obj.cells #[.int .i64 y0, .int .i64 y1, .bool y2, .bool y3] 25) = w9
    have hb9 : Below w8.heap.size w8 w9 := by
      rw [← hw]
      exact (Below.refl _ _).alloc (by simp) _
    have Kz_9 : Hid (w9.heap[w8.heap.size]? = some (.cells #[.int .i64 y0, .int .i64 y1, .bool y2, .bool y3] 25 (0, 0))) := by
      show _ = _
      rw [← hw]
      exact (heap_alloc_new _ _)
    clear hw
    clear cx0 cx1 cx2 cx3 cy0 cy1 cy2 cy3
    have T9 : Below w.heap.size w w9 := T8.trans (hb9.mono T8.size)
    have Kx_9 : Hid (w9.heap[w1.heap.size]? = some (.cells #[.int .i64 x0, .int .i64 x1, .bool x2, .bool x3] 25 (0, 0))) := hk_below Kx_8.out hb9
    have Ky_9 : Hid (w9.heap[w6.heap.size]? = some (.cells #[.int .i64 y0, .int .i64 y1, .bool y2, .bool y3] 25 (0, 0))) := hk_below Ky_8.out hb9
    clear Kx_8 Ky_8
    go_wp2_with fail
    (with_reducible refine (IsThread_any x0 x1 x2 x3 _).mono ?_)
    rintro e w10 ⟨rfl, hb10⟩
    have T10 : Below w.heap.size w w10 := T9.trans (hb10.mono T9.size)
    have Kx_10 : Hid (w10.heap[w1.heap.size]? = some (.cells #[.int .i64 x0, .int .i64 x1, .bool x2, .bool x3] 25 (0, 0))) := hk_below Kx_9.out hb10
    have Ky_10 : Hid (w10.heap[w6.heap.size]? = some (.cells #[.int .i64 y0, .int .i64 y1, .bool y2, .bool y3] 25 (0, 0))) := hk_below Ky_9.out hb10
    have Kz_10 : Hid (w10.heap[w8.heap.size]? = some (.cells #[.int .i64 y0, .int .i64 y1, .bool y2, .bool y3] 25 (0, 0))) := hk_below Kz_9.out hb10
    clear Kx_9 Ky_9 Kz_9
    clear heq1
    cases hT : isThr x0 x1
    · have hb1 := HTN.out hT
      clear HTY HTN
      subst hb1
      clear hT
      by_cases hone : one = 0
      · have hyt := read_text HR.out hone
        subst hone
        have HYT := Lib.hid hyt
        clear hyt
        have cy0 : w10.cell? ⟨w6.heap.size, 0, none⟩ = some (.int .i64 y0) := hk_cell (i := 0) Ky_10.out rfl
        have cy1 : w10.cell? ⟨w6.heap.size, 1, none⟩ = some (.int .i64 y1) := hk_cell (i := 1) Ky_10.out rfl
        have cy2 : w10.cell? ⟨w6.heap.size, 2, none⟩ = some (.bool y2) := hk_cell (i := 2) Ky_10.out rfl
        have cy3 : w10.cell? ⟨w6.heap.size, 3, none⟩ = some (.bool y3) := hk_cell (i := 3) Ky_10.out rfl
        go_wp2_with fail
        (with_reducible refine (ThreadText_r y0 y1 y2 y3 s 0 _ HYT.out).mono ?_)
        rintro e w11 ⟨rfl, hb11⟩
        clear cy0 cy1 cy2 cy3
        have T11 : Below w.heap.size w w11 := T10.trans (hb11.mono T10.size)
        have Kx_11 : Hid (w11.heap[w1.heap.size]? = some (.cells #[.int .i64 x0, .int .i64 x1, .bool x2, .bool x3] 25 (0, 0))) := hk_below Kx_10.out hb11
        have Ky_11 : Hid (w11.heap[w6.heap.size]? = some (.cells #[.int .i64 y0, .int .i64 y1, .bool y2, .bool y3] 25 (0, 0))) := hk_below Ky_10.out hb11
        clear Kx_10 Ky_10
        go_wp2
        go_ret
        exact ⟨rfl, T11⟩
      · have hoq : (one == 0) = false := by rw [beq_eq_false_iff_ne]; exact hone
        go_wp2
        go_ret
        exact ⟨rfl, T10⟩
    · obtain ⟨hb0, hrt, hts⟩ := HTY.out hT
      clear HTY HTN
      subst hb0
      have HRT := Lib.hid hrt
      clear hrt hT
      by_cases hone : one = 0
      · have hyt := read_text HR.out hone
        subst hone
        have HYT := Lib.hid hyt
        clear hyt
        have cy0 : w10.cell? ⟨w6.heap.size, 0, none⟩ = some (.int .i64 y0) := hk_cell (i := 0) Ky_10.out rfl
        have cy1 : w10.cell? ⟨w6.heap.size, 1, none⟩ = some (.int .i64 y1) := hk_cell (i := 1) Ky_10.out rfl
        have cy2 : w10.cell? ⟨w6.heap.size, 2, none⟩ = some (.bool y2) := hk_cell (i := 2) Ky_10.out rfl
        have cy3 : w10.cell? ⟨w6.heap.size, 3, none⟩ = some (.bool y3) := hk_cell (i := 3) Ky_10.out rfl
        go_wp2_with fail
        (with_reducible refine (ThreadText_r y0 y1 y2 y3 s 0 _ HYT.out).mono ?_)
        rintro e w11 ⟨rfl, hb11⟩
        clear cy0 cy1 cy2 cy3
        have T11 : Below w.heap.size w w11 := T10.trans (hb11.mono T10.size)
        have Kx_11 : Hid (w11.heap[w1.heap.size]? = some (.cells #[.int .i64 x0, .int .i64 x1, .bool x2, .bool x3] 25 (0, 0))) := hk_below Kx_10.out hb11
        have Ky_11 : Hid (w11.heap[w6.heap.size]? = some (.cells #[.int .i64 y0, .int .i64 y1, .bool y2, .bool y3] 25 (0, 0))) := hk_below Ky_10.out hb11
        clear Kx_10 Ky_10
        go_wp2_with fail
        (with_reducible refine (ReadThread_any t x0 x1 x2 x3 0 _ hts HRT.out).mono ?_)
        rintro e w12 ⟨rfl, hb12⟩
        have T12 : Below w.heap.size w w12 := T11.trans (hb12.mono T11.size)
        have Kx_12 : Hid (w12.heap[w1.heap.size]? = some (.cells #[.int .i64 x0, .int .i64 x1, .bool x2, .bool x3] 25 (0, 0))) := hk_below Kx_11.out hb12
        have Ky_12 : Hid (w12.heap[w6.heap.size]? = some (.cells #[.int .i64 y0, .int .i64 y1, .bool y2, .bool y3] 25 (0, 0))) := hk_below Ky_11.out hb12
        clear Kx_11 Ky_11
        have cx0 : w12.cell? ⟨w1.heap.size, 0, none⟩ = some (.int .i64 x0) := hk_cell (i := 0) Kx_12.out rfl
        have cx1 : w12.cell? ⟨w1.heap.size, 1, none⟩ = some (.int .i64 x1) := hk_cell (i := 1) Kx_12.out rfl
        have cx2 : w12.cell? ⟨w1.heap.size, 2, none⟩ = some (.bool x2) := hk_cell (i := 2) Kx_12.out rfl
        have cx3 : w12.cell? ⟨w1.heap.size, 3, none⟩ = some (.bool x3) := hk_cell (i := 3) Kx_12.out rfl
        have hltx := heap_lt Kx_12.out
        have heq2 := thr_eql_same x0 x1 x2 x3
        go_wp2
        go_ret
        exact ⟨rfl, (by repeat (first | (with_reducible assumption) | (with_reducible exact Below.refl _ _) | (with_reducible refine Below.drew ?_) | (with_reducible refine blw_al ?_ _)))⟩
      · have hoq : (one == 0) = false := by rw [beq_eq_false_iff_ne]; exact hone
        go_wp2_with fail
        (with_reducible refine (ReadThread_any t x0 x1 x2 x3 0 _ hts HRT.out).mono ?_)
        rintro e w11 ⟨rfl, hb11⟩
        have T11 : Below w.heap.size w w11 := T10.trans (hb11.mono T10.size)
        have Kx_11 : Hid (w11.heap[w1.heap.size]? = some (.cells #[.int .i64 x0, .int .i64 x1, .bool x2, .bool x3] 25 (0, 0))) := hk_below Kx_10.out hb11
        have Ky_11 : Hid (w11.heap[w6.heap.size]? = some (.cells #[.int .i64 y0, .int .i64 y1, .bool y2, .bool y3] 25 (0, 0))) := hk_below Ky_10.out hb11
        clear Kx_10 Ky_10
        have cx0 : w11.cell? ⟨w1.heap.size, 0, none⟩ = some (.int .i64 x0) := hk_cell (i := 0) Kx_11.out rfl
        have cx1 : w11.cell? ⟨w1.heap.size, 1, none⟩ = some (.int .i64 x1) := hk_cell (i := 1) Kx_11.out rfl
        have cx2 : w11.cell? ⟨w1.heap.size, 2, none⟩ = some (.bool x2) := hk_cell (i := 2) Kx_11.out rfl
        have cx3 : w11.cell? ⟨w1.heap.size, 3, none⟩ = some (.bool x3) := hk_cell (i := 3) Kx_11.out rfl
        have hltx := heap_lt Kx_11.out
        have heq2 := thr_eql_same x0 x1 x2 x3
        go_wp2
        go_ret
        exact ⟨rfl, (by repeat (first | (with_reducible assumption) | (with_reducible exact Below.refl _ _) | (with_reducible refine Below.drew ?_) | (with_reducible refine blw_al ?_ _)))⟩
  · have HN : Hid (decide (4096 < n) = true) := by show _ = _; simp; omega
    go_enter Try.func12, Try.ntmps12
    go_wp2_with fail
    (with_reducible refine (big_any _ _ _ _).mono ?_)
    rintro e _ ⟨rfl, rfl⟩
    rw [HN.out]
    go_wp2
    go_ret
    exact ⟨rfl, Below.refl _ _⟩
end Go.Proofs.Ytoaacipgphoiaaa
