/- The walk of the exact law on ReadThread. -/
import Derived.Test.YtoaacipgphoiaaaRdeD
set_option linter.unusedSimpArgs false
set_option linter.unusedVariables false
namespace Go.Proofs.Ytoaacipgphoiaaa
open Go.RowKit

set_option maxRecDepth 100000 in
set_option maxHeartbeats 1600000 in
theorem FnExactReadThread_walk (s : ByteArray) (w : World) :
    Calls Try.prog 10 #[.string s] w fun e w' => e = .returned (.bool true) ∧ Below w.heap.size w w' := by
  by_cases hs : s.size ≤ 1048576
  · skip
    have T0 := Below.refl w.heap.size w
    have hn' : ¬ (1048576 : Int) < (s.size : Int) := by omega
    obtain ⟨⟨⟨d, p, lf, inn⟩, c⟩, hr⟩ := isRd_ex s
    have HR := Lib.hid hr
    clear hr
    go_enter Try.func10, Try.ntmps10
    go_wp2_with fail
    (with_reducible refine (sReadThread_any s d p lf inn c _ hs HR.out).mono ?_)
    rintro e w1 ⟨rfl, hb1⟩
    have T1 : Below w.heap.size w w1 := T0.trans (hb1.mono T0.size)
    go_wp2_with fail
    generalize hw : w1.alloc (Obj.cells #[.int .i64 d, .int .i64 p, .bool lf, .bool inn] 25) = w2
    have hb2 : Below w1.heap.size w1 w2 := by
      rw [← hw]
      exact (Below.refl _ _).alloc (by simp) _
    have Ka_2 : Hid (w2.heap[w1.heap.size]? = some (.cells #[.int .i64 d, .int .i64 p, .bool lf, .bool inn] 25 (0, 0))) := by
      show _ = _
      rw [← hw]
      exact (heap_alloc_new _ _)
    clear hw
    have T2 : Below w.heap.size w w2 := T1.trans (hb2.mono T1.size)
    go_wp2_with fail
    (with_reducible refine (ReadThread_any s d p lf inn c _ hs HR.out).mono ?_)
    rintro e w3 ⟨rfl, hb3⟩
    have T3 : Below w.heap.size w w3 := T2.trans (hb3.mono T2.size)
    have Ka_3 : Hid (w3.heap[w1.heap.size]? = some (.cells #[.int .i64 d, .int .i64 p, .bool lf, .bool inn] 25 (0, 0))) := hk_below Ka_2.out hb3
    clear Ka_2
    have ca0 : (w3.alloc (Obj.cells #[.int .i64 d, .int .i64 p, .bool lf, .bool inn] 25)).cell? ⟨w1.heap.size, 0, none⟩ = some (.int .i64 d) := hk_cell (i := 0) (hk_alloc Ka_3.out _) rfl
    have ca1 : (w3.alloc (Obj.cells #[.int .i64 d, .int .i64 p, .bool lf, .bool inn] 25)).cell? ⟨w1.heap.size, 1, none⟩ = some (.int .i64 p) := hk_cell (i := 1) (hk_alloc Ka_3.out _) rfl
    have ca2 : (w3.alloc (Obj.cells #[.int .i64 d, .int .i64 p, .bool lf, .bool inn] 25)).cell? ⟨w1.heap.size, 2, none⟩ = some (.bool lf) := hk_cell (i := 2) (hk_alloc Ka_3.out _) rfl
    have ca3 : (w3.alloc (Obj.cells #[.int .i64 d, .int .i64 p, .bool lf, .bool inn] 25)).cell? ⟨w1.heap.size, 3, none⟩ = some (.bool inn) := hk_cell (i := 3) (hk_alloc Ka_3.out _) rfl
    go_wp2_with fail
    generalize hw : w3.alloc (Obj.cells #[.int .i64 d, .int .i64 p, .bool lf, .bool inn] 25) = w4
    have hb4 : Below w3.heap.size w3 w4 := by
      rw [← hw]
      exact (Below.refl _ _).alloc (by simp) _
    have Kb_4 : Hid (w4.heap[w3.heap.size]? = some (.cells #[.int .i64 d, .int .i64 p, .bool lf, .bool inn] 25 (0, 0))) := by
      show _ = _
      rw [← hw]
      exact (heap_alloc_new _ _)
    clear hw
    clear ca0 ca1 ca2 ca3
    have T4 : Below w.heap.size w w4 := T3.trans (hb4.mono T3.size)
    have Ka_4 : Hid (w4.heap[w1.heap.size]? = some (.cells #[.int .i64 d, .int .i64 p, .bool lf, .bool inn] 25 (0, 0))) := hk_below Ka_3.out hb4
    clear Ka_3
    go_wp2_with fail
    (with_reducible refine (eqThread_same d p lf inn _).mono ?_)
    rintro e w5 ⟨rfl, hb5⟩
    have T5 : Below w.heap.size w w5 := T4.trans (hb5.mono T4.size)
    have Ka_5 : Hid (w5.heap[w1.heap.size]? = some (.cells #[.int .i64 d, .int .i64 p, .bool lf, .bool inn] 25 (0, 0))) := hk_below Ka_4.out hb5
    have Kb_5 : Hid (w5.heap[w3.heap.size]? = some (.cells #[.int .i64 d, .int .i64 p, .bool lf, .bool inn] 25 (0, 0))) := hk_below Kb_4.out hb5
    clear Ka_4 Kb_4
    go_wp2
    go_ret
    exact ⟨rfl, T5⟩
  · have hn' : (1048576 : Int) < (s.size : Int) := by omega
    clear hs
    go_enter Try.func10, Try.ntmps10
    go_wp2
    go_ret
    exact ⟨rfl, Below.refl _ _⟩
end Go.Proofs.Ytoaacipgphoiaaa
