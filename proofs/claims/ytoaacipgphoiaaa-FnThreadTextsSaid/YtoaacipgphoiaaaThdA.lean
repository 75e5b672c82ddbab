/- Contracts of the draws of threads. -/
import Derived.Test.YtoaacipgphoiaaaDrwC
import Derived.Test.YtoaacipgphoiaaaThrA
import Derived.OwnWalk
set_option linter.unusedSimpArgs false
set_option linter.unusedVariables false
namespace Go.Proofs.Ytoaacipgphoiaaa
open Go.RowKit

set_option maxRecDepth 100000 in
set_option maxHeartbeats 800000 in
theorem Good14_any (g : Nat) (a : Option Addr) (n c : Nat) (w : World) (h : Src w g a n c) :
    Calls Try.prog 63 #[.pointer (some ⟨g, 0, none⟩)] w fun e w' => ∃ (v0 v1 : Int) (v2 v3 : Bool), e = .returned (.agg #[.int .i64 v0, .int .i64 v1, .bool v2, .bool v3]) ∧ Src w' g a n c ∧ w.grownBy w' (some g) := by
  have S0 := Lib.hid h
  have D0 := World.grownBy.refl w (some g)
  have hG := h.lt
  have z0 : w.heap.size ≤ w.heap.size := Nat.le_refl _
  clear h
  go_enter Try.func63, Try.ntmps63
  go_wp2_with fail
  (with_reducible refine (Pick_any g a n c _ 4 #[.int .i64 50, .int .i64 60, .int .i64 100, .int .i64 143] _ ((S0.out.alloc _).alloc _) (by simpa using heap_alloc_new (w.alloc _) _) rfl (by omega) (by omega) (by simp) (by have := S0.out.lt; omega)).mono ?_)
  rintro e w1 ⟨x1, rfl, hs1, hg1⟩
  have hlr := hg1.size
  (try simp only [World.size_alloc] at hlr)
  have Kr1 : Hid (w1.heap[w.heap.size]? = some (.cells #[.int .i64 0, .int .i64 0, .bool false, .bool false] 25 (0, 0))) := hk_call (hk_alloc (heap_alloc_new _ _) _) hg1 (by omega)
  clear hlr
  have S1 := Lib.hid hs1
  have D1 := (drw_alloc (drw_alloc D0 _) _).trans hg1
  have z1 := D1.size
  clear hs1 hg1 S0
  have hltr := heap_lt Kr1.out
  go_wp2_with fail
  (with_reducible refine (Pick_any g a n c _ 3 _ _ (S1.out.alloc _) (heap_alloc_new _ _) rfl (by omega) (by omega) (by simp) (by have := S1.out.lt; omega)).mono ?_)
  rintro e w2 ⟨x2, rfl, hs2, hg2⟩
  have Kr2 : Hid (w2.heap[w.heap.size]? = some (.cells #[.int .i64 0, .int .i64 0, .bool false, .bool false] 25 (0, 0))) := hk_call (hk_alloc Kr1.out _) hg2 (by omega)
  clear Kr1
  have S2 := Lib.hid hs2
  have D2 := (drw_alloc D1 _).trans hg2
  have z2 := D2.size
  clear hs2 hg2 S1
  go_wp2_with fail
  (with_reducible refine (Next_any g a n c _ _ S2.out).mono ?_)
  rintro e w3 ⟨x3, rfl, ⟨l3, -, u3⟩, hs3, hg3⟩
  have Kr3 : Hid (w3.heap[w.heap.size]? = some (.cells #[.int .i64 0, .int .i64 0, .bool false, .bool false] 25 (0, 0))) := hk_call Kr2.out hg3 (by omega)
  clear Kr2
  have S3 := Lib.hid hs3
  have D3 := D2.trans hg3
  have z3 := D3.size
  clear hs3 hg3 S2
  replace u3 := u3 (by omega)
  go_wp2_with fail
  (with_reducible refine (Next_any g a n c _ _ S3.out).mono ?_)
  rintro e w4 ⟨x4, rfl, ⟨l4, -, u4⟩, hs4, hg4⟩
  have Kr4 : Hid (w4.heap[w.heap.size]? = some (.cells #[.int .i64 0, .int .i64 0, .bool false, .bool false] 25 (0, 0))) := hk_call Kr3.out hg4 (by omega)
  clear Kr3
  have S4 := Lib.hid hs4
  have D4 := D3.trans hg4
  have z4 := D4.size
  clear hs4 hg4 S3
  replace u4 := u4 (by omega)
  have cr0 := hk_cell (i := 0) Kr4.out rfl
  have fr0 := hk_free (i := 0) Kr4.out
  have cr1 := hk_cell (i := 1) Kr4.out rfl
  have fr1 := hk_free (i := 1) Kr4.out
  have cr2 := hk_cell (i := 2) Kr4.out rfl
  have fr2 := hk_free (i := 2) Kr4.out
  have cr3 := hk_cell (i := 3) Kr4.out rfl
  have fr3 := hk_free (i := 3) Kr4.out
  go_wp2
  refine bodyPost_ret (v := .agg #[.int .i64 x1, .int .i64 x2, .bool (x3 == 0), .bool (x4 == 0)]) (by simp [results, Try.results63, go_sem, *]) rfl ⟨x1, x2, (x3 == 0), (x4 == 0), rfl, (by repeat (first | (with_reducible exact S4.out) | (with_reducible refine Src.drew ?_) | (with_reducible refine Src.alloc ?_ _) | (refine Src.set ?_ (by omega) _ _))), (by repeat (first | (with_reducible exact D4) | (with_reducible refine drw_drew ?_) | (with_reducible refine drw_alloc ?_ _) | (refine drw_setN ?_ (by omega) _ _)))⟩

set_option maxRecDepth 100000 in
set_option maxHeartbeats 800000 in
theorem Draw14_any (g : Nat) (a : Option Addr) (n c : Nat) (w : World) (h : Src w g a n c) :
    Calls Try.prog 60 #[.pointer (some ⟨g, 0, none⟩)] w fun e w' => ∃ (v0 v1 : Int) (v2 v3 : Bool), e = .returned (.agg #[.int .i64 v0, .int .i64 v1, .bool v2, .bool v3]) ∧ Src w' g a n c ∧ w.grownBy w' (some g) := by
  have S0 := Lib.hid h
  have D0 := World.grownBy.refl w (some g)
  have hG := h.lt
  have z0 : w.heap.size ≤ w.heap.size := Nat.le_refl _
  clear h
  go_enter Try.func60, Try.ntmps60
  go_wp2_with fail
  (with_reducible refine (Good14_any g a n c _ (S0.out.alloc _)).mono ?_)
  rintro e w1 ⟨d, p, l, i, rfl, hs1, hg1⟩
  have hlr := hg1.size
  (try simp only [World.size_alloc] at hlr)
  have Kr1 : Hid (w1.heap[w.heap.size]? = some (.cells #[.int .i64 0, .int .i64 0, .bool false, .bool false] 25 (0, 0))) := hk_call (heap_alloc_new _ _) hg1 (by omega)
  clear hlr
  have S1 := Lib.hid hs1
  have D1 := (drw_alloc D0 _).trans hg1
  have z1 := D1.size
  clear hs1 hg1 S0
  have hltr := heap_lt Kr1.out
  go_wp2_with fail
  (with_reducible refine (Next_any g a n c _ _ (S1.out.alloc _)).mono ?_)
  rintro e w2 ⟨x2, rfl, ⟨l2, -, u2⟩, hs2, hg2⟩
  have Kr2 : Hid (w2.heap[w.heap.size]? = some (.cells #[.int .i64 0, .int .i64 0, .bool false, .bool false] 25 (0, 0))) := hk_call (hk_alloc Kr1.out _) hg2 (by omega)
  clear Kr1
  have hlb := hg2.size
  (try simp only [World.size_alloc] at hlb)
  have Kb2 : Hid (w2.heap[w1.heap.size]? = some (.cells #[.int .i64 d, .int .i64 p, .bool l, .bool i] 25 (0, 0))) := hk_call (heap_alloc_new _ _) hg2 (by omega)
  clear hlb
  have S2 := Lib.hid hs2
  have D2 := (drw_alloc D1 _).trans hg2
  have z2 := D2.size
  clear hs2 hg2 S1
  replace u2 := u2 (by omega)
  by_cases e0 : x2 = 0
  · skip
    subst e0
    go_wp2_with fail
    (with_reducible refine (Pick_any g a n c _ 4 _ _ (S2.out.alloc _) (heap_alloc_new _ _) rfl (by omega) (by omega) (by simp) (by have := S2.out.lt; omega)).mono ?_)
    rintro e w3 ⟨x3, rfl, hs3, hg3⟩
    have Kr3 : Hid (w3.heap[w.heap.size]? = some (.cells #[.int .i64 0, .int .i64 0, .bool false, .bool false] 25 (0, 0))) := hk_call (hk_alloc Kr2.out _) hg3 (by omega)
    clear Kr2
    have Kb3 : Hid (w3.heap[w1.heap.size]? = some (.cells #[.int .i64 d, .int .i64 p, .bool l, .bool i] 25 (0, 0))) := hk_call (hk_alloc Kb2.out _) hg3 (by omega)
    clear Kb2
    have S3 := Lib.hid hs3
    have D3 := (drw_alloc D2 _).trans hg3
    have z3 := D3.size
    clear hs3 hg3 S2
    have cb0 := hk_cell (i := 0) Kb3.out rfl
    have fb0 := hk_free (i := 0) Kb3.out
    have cb1 := hk_cell (i := 1) Kb3.out rfl
    have fb1 := hk_free (i := 1) Kb3.out
    have cb2 := hk_cell (i := 2) Kb3.out rfl
    have fb2 := hk_free (i := 2) Kb3.out
    have cb3 := hk_cell (i := 3) Kb3.out rfl
    have fb3 := hk_free (i := 3) Kb3.out
    have cr0 := hk_cell (i := 0) Kr3.out rfl
    have fr0 := hk_free (i := 0) Kr3.out
    have cr1 := hk_cell (i := 1) Kr3.out rfl
    have fr1 := hk_free (i := 1) Kr3.out
    have cr2 := hk_cell (i := 2) Kr3.out rfl
    have fr2 := hk_free (i := 2) Kr3.out
    have cr3 := hk_cell (i := 3) Kr3.out rfl
    have fr3 := hk_free (i := 3) Kr3.out
    go_wp2
    refine bodyPost_ret (v := .agg #[.int .i64 x3, .int .i64 p, .bool l, .bool i]) (by simp [results, Try.results60, go_sem, *]) rfl ⟨x3, p, l, i, rfl, (by repeat (first | (with_reducible exact S3.out) | (with_reducible refine Src.drew ?_) | (with_reducible refine Src.alloc ?_ _) | (refine Src.set ?_ (by omega) _ _))), (by repeat (first | (with_reducible exact D3) | (with_reducible refine drw_drew ?_) | (with_reducible refine drw_alloc ?_ _) | (refine drw_setN ?_ (by omega) _ _)))⟩
  have n0 : (x2 == 0) = false := by rw [beq_eq_false_iff_ne]; exact e0
  by_cases e1 : x2 = 1
  · skip
    subst e1
    go_wp2_with fail
    (with_reducible refine (Pick_any g a n c _ 4 _ _ (S2.out.alloc _) (heap_alloc_new _ _) rfl (by omega) (by omega) (by simp) (by have := S2.out.lt; omega)).mono ?_)
    rintro e w3 ⟨x3, rfl, hs3, hg3⟩
    have Kr3 : Hid (w3.heap[w.heap.size]? = some (.cells #[.int .i64 0, .int .i64 0, .bool false, .bool false] 25 (0, 0))) := hk_call (hk_alloc Kr2.out _) hg3 (by omega)
    clear Kr2
    have Kb3 : Hid (w3.heap[w1.heap.size]? = some (.cells #[.int .i64 d, .int .i64 p, .bool l, .bool i] 25 (0, 0))) := hk_call (hk_alloc Kb2.out _) hg3 (by omega)
    clear Kb2
    have S3 := Lib.hid hs3
    have D3 := (drw_alloc D2 _).trans hg3
    have z3 := D3.size
    clear hs3 hg3 S2
    have cb0 := hk_cell (i := 0) Kb3.out rfl
    have fb0 := hk_free (i := 0) Kb3.out
    have cb1 := hk_cell (i := 1) Kb3.out rfl
    have fb1 := hk_free (i := 1) Kb3.out
    have cb2 := hk_cell (i := 2) Kb3.out rfl
    have fb2 := hk_free (i := 2) Kb3.out
    have cb3 := hk_cell (i := 3) Kb3.out rfl
    have fb3 := hk_free (i := 3) Kb3.out
    have cr0 := hk_cell (i := 0) Kr3.out rfl
    have fr0 := hk_free (i := 0) Kr3.out
    have cr1 := hk_cell (i := 1) Kr3.out rfl
    have fr1 := hk_free (i := 1) Kr3.out
    have cr2 := hk_cell (i := 2) Kr3.out rfl
    have fr2 := hk_free (i := 2) Kr3.out
    have cr3 := hk_cell (i := 3) Kr3.out rfl
    have fr3 := hk_free (i := 3) Kr3.out
    go_wp2
    refine bodyPost_ret (v := .agg #[.int .i64 d, .int .i64 x3, .bool l, .bool i]) (by simp [results, Try.results60, go_sem, *]) rfl ⟨d, x3, l, i, rfl, (by repeat (first | (with_reducible exact S3.out) | (with_reducible refine Src.drew ?_) | (with_reducible refine Src.alloc ?_ _) | (refine Src.set ?_ (by omega) _ _))), (by repeat (first | (with_reducible exact D3) | (with_reducible refine drw_drew ?_) | (with_reducible refine drw_alloc ?_ _) | (refine drw_setN ?_ (by omega) _ _)))⟩
  have n1 : (x2 == 1) = false := by rw [beq_eq_false_iff_ne]; exact e1
  have cb0 := hk_cell (i := 0) Kb2.out rfl
  have fb0 := hk_free (i := 0) Kb2.out
  have cb1 := hk_cell (i := 1) Kb2.out rfl
  have fb1 := hk_free (i := 1) Kb2.out
  have cb2 := hk_cell (i := 2) Kb2.out rfl
  have fb2 := hk_free (i := 2) Kb2.out
  have cb3 := hk_cell (i := 3) Kb2.out rfl
  have fb3 := hk_free (i := 3) Kb2.out
  have cr0 := hk_cell (i := 0) Kr2.out rfl
  have fr0 := hk_free (i := 0) Kr2.out
  have cr1 := hk_cell (i := 1) Kr2.out rfl
  have fr1 := hk_free (i := 1) Kr2.out
  have cr2 := hk_cell (i := 2) Kr2.out rfl
  have fr2 := hk_free (i := 2) Kr2.out
  have cr3 := hk_cell (i := 3) Kr2.out rfl
  have fr3 := hk_free (i := 3) Kr2.out
  go_wp2
  refine bodyPost_ret (v := .agg #[.int .i64 d, .int .i64 p, .bool l, .bool i]) (by simp [results, Try.results60, go_sem, *]) rfl ⟨d, p, l, i, rfl, (by repeat (first | (with_reducible exact S2.out) | (with_reducible refine Src.drew ?_) | (with_reducible refine Src.alloc ?_ _) | (refine Src.set ?_ (by omega) _ _))), (by repeat (first | (with_reducible exact D2) | (with_reducible refine drw_drew ?_) | (with_reducible refine drw_alloc ?_ _) | (refine drw_setN ?_ (by omega) _ _)))⟩

theorem Partner14_src (g : Nat) (a : Option Addr) (n c : Nat) (d p : Int) (l i : Bool) (w : World) (h : Src w g a n c) :
    Calls Try.prog 43 #[.agg #[.int .i64 d, .int .i64 p, .bool l, .bool i]] w fun e w' => e = .returned (.agg #[.int .i64 d, .int .i64 p, .bool l, .bool (!i)]) ∧ Src w' g a n c ∧ w.grownBy w' (some g) :=
  (l14Partner_any d p l i w).mono fun e w' q => ⟨q.1, h.below q.2, drw_below q.2 _⟩
end Go.Proofs.Ytoaacipgphoiaaa
