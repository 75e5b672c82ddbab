/- Contracts of the draws of brakes. -/
import Derived.Test.YtfgokehoanlobaaDrwC
import Derived.OwnWalk
set_option linter.unusedSimpArgs false
set_option linter.unusedVariables false
namespace Go.Proofs.Ytfgokehoanlobaa
open Go.RowKit

set_option maxRecDepth 100000 in
set_option maxHeartbeats 800000 in
theorem Draw13_any (g : Nat) (a : Option Addr) (n c : Nat) (w : World) (h : Src w g a n c) :
    Calls Try.prog 57 #[.pointer (some ⟨g, 0, none⟩)] w fun e w' => ∃ v0 v1 v2 v3 : Int, e = .returned (.agg #[.int .i64 v0, .int .i64 v1, .int .i64 v2, .int .i64 v3]) ∧ Src w' g a n c ∧ w.grownBy w' (some g) := by
  have S0 := Lib.hid h
  have D0 := World.grownBy.refl w (some g)
  have hG := h.lt
  have z0 : w.heap.size ≤ w.heap.size := Nat.le_refl _
  clear h
  go_enter Try.func57, Try.ntmps57
  go_wp2_with fail
  (with_reducible refine (Next_any g a n c _ _ (S0.out.alloc _)).mono ?_)
  rintro e w1 ⟨x1, rfl, ⟨l1, -, u1⟩, hs1, hg1⟩
  have hlr := hg1.size
  (try simp only [World.size_alloc] at hlr)
  have Kr1 : Hid (w1.heap[w.heap.size]? = some (.cells #[.int .i64 0, .int .i64 0, .int .i64 0, .int .i64 0] 25 (0, 0))) := hk_call (heap_alloc_new _ _) hg1 (by omega)
  clear hlr
  have S1 := Lib.hid hs1
  have D1 := (drw_alloc D0 _).trans hg1
  have z1 := D1.size
  clear hs1 hg1 S0
  replace u1 := u1 (by omega)
  go_wp2_with fail
  (with_reducible refine (Next_any g a n c _ _ S1.out).mono ?_)
  rintro e w2 ⟨x2, rfl, ⟨l2, -, u2⟩, hs2, hg2⟩
  have Kr2 : Hid (w2.heap[w.heap.size]? = some (.cells #[.int .i64 0, .int .i64 0, .int .i64 0, .int .i64 0] 25 (0, 0))) := hk_call Kr1.out hg2 (by omega)
  clear Kr1
  have S2 := Lib.hid hs2
  have D2 := D1.trans hg2
  have z2 := D2.size
  clear hs2 hg2 S1
  replace u2 := u2 (by omega)
  go_wp2_with fail
  (with_reducible refine (Next_any g a n c _ _ S2.out).mono ?_)
  rintro e w3 ⟨x3, rfl, ⟨l3, -, u3⟩, hs3, hg3⟩
  have Kr3 : Hid (w3.heap[w.heap.size]? = some (.cells #[.int .i64 0, .int .i64 0, .int .i64 0, .int .i64 0] 25 (0, 0))) := hk_call Kr2.out hg3 (by omega)
  clear Kr2
  have S3 := Lib.hid hs3
  have D3 := D2.trans hg3
  have z3 := D3.size
  clear hs3 hg3 S2
  replace u3 := u3 (by omega)
  go_wp2_with fail
  (with_reducible refine (Next_any g a n c _ _ S3.out).mono ?_)
  rintro e w4 ⟨x4, rfl, ⟨l4, -, u4⟩, hs4, hg4⟩
  have Kr4 : Hid (w4.heap[w.heap.size]? = some (.cells #[.int .i64 0, .int .i64 0, .int .i64 0, .int .i64 0] 25 (0, 0))) := hk_call Kr3.out hg4 (by omega)
  clear Kr3
  have S4 := Lib.hid hs4
  have D4 := D3.trans hg4
  have z4 := D4.size
  clear hs4 hg4 S3
  replace u4 := u4 (by omega)
  have hltr := heap_lt Kr4.out
  go_wp2_with fail
  (with_reducible refine (Next_any g a n c _ _ (S4.out.alloc _)).mono ?_)
  rintro e w5 ⟨x5, rfl, ⟨l5, -, u5⟩, hs5, hg5⟩
  have Kr5 : Hid (w5.heap[w.heap.size]? = some (.cells #[.int .i64 0, .int .i64 0, .int .i64 0, .int .i64 0] 25 (0, 0))) := hk_call (hk_alloc Kr4.out _) hg5 (by omega)
  clear Kr4
  have hlb := hg5.size
  (try simp only [World.size_alloc] at hlb)
  have Kb5 : Hid (w5.heap[w4.heap.size]? = some (.cells #[.int .i64 (200 + x1), .int .i64 (200 + x2), .int .i64 x3, .int .i64 x4] 25 (0, 0))) := hk_call (heap_alloc_new _ _) hg5 (by omega)
  clear hlb
  have S5 := Lib.hid hs5
  have D5 := (drw_alloc D4 _).trans hg5
  have z5 := D5.size
  clear hs5 hg5 S4
  replace u5 := u5 (by omega)
  by_cases e0 : x5 = 0
  · skip
    subst e0
    go_wp2_with fail
    (with_reducible refine (Pick_any g a n c _ 4 _ _ (S5.out.alloc _) (heap_alloc_new _ _) rfl (by omega) (by omega) (by simp) (by have := S5.out.lt; omega)).mono ?_)
    rintro e w6 ⟨x6, rfl, hs6, hg6⟩
    have Kr6 : Hid (w6.heap[w.heap.size]? = some (.cells #[.int .i64 0, .int .i64 0, .int .i64 0, .int .i64 0] 25 (0, 0))) := hk_call (hk_alloc Kr5.out _) hg6 (by omega)
    clear Kr5
    have Kb6 : Hid (w6.heap[w4.heap.size]? = some (.cells #[.int .i64 (200 + x1), .int .i64 (200 + x2), .int .i64 x3, .int .i64 x4] 25 (0, 0))) := hk_call (hk_alloc Kb5.out _) hg6 (by omega)
    clear Kb5
    have S6 := Lib.hid hs6
    have D6 := (drw_alloc D5 _).trans hg6
    have z6 := D6.size
    clear hs6 hg6 S5
    have cb0 := hk_cell (i := 0) Kb6.out rfl
    have fb0 := hk_free (i := 0) Kb6.out
    have cb1 := hk_cell (i := 1) Kb6.out rfl
    have fb1 := hk_free (i := 1) Kb6.out
    have cb2 := hk_cell (i := 2) Kb6.out rfl
    have fb2 := hk_free (i := 2) Kb6.out
    have cb3 := hk_cell (i := 3) Kb6.out rfl
    have fb3 := hk_free (i := 3) Kb6.out
    have cr0 := hk_cell (i := 0) Kr6.out rfl
    have fr0 := hk_free (i := 0) Kr6.out
    have cr1 := hk_cell (i := 1) Kr6.out rfl
    have fr1 := hk_free (i := 1) Kr6.out
    have cr2 := hk_cell (i := 2) Kr6.out rfl
    have fr2 := hk_free (i := 2) Kr6.out
    have cr3 := hk_cell (i := 3) Kr6.out rfl
    have fr3 := hk_free (i := 3) Kr6.out
    go_wp2
    refine bodyPost_ret (v := .agg #[.int .i64 x6, .int .i64 (200 + x2), .int .i64 x3, .int .i64 x4]) (by simp [results, Try.results57, go_sem, *]) rfl ⟨x6, 200 + x2, x3, x4, rfl, (by repeat (first | (with_reducible exact S6.out) | (with_reducible refine Src.drew ?_) | (with_reducible refine Src.alloc ?_ _) | (refine Src.set ?_ (by omega) _ _))), (by repeat (first | (with_reducible exact D6) | (with_reducible refine drw_drew ?_) | (with_reducible refine drw_alloc ?_ _) | (refine drw_setN ?_ (by omega) _ _)))⟩
  have n0 : (x5 == 0) = false := by rw [beq_eq_false_iff_ne]; exact e0
  by_cases e1 : x5 = 1
  · skip
    subst e1
    go_wp2_with fail
    (with_reducible refine (Pick_any g a n c _ 4 _ _ (S5.out.alloc _) (heap_alloc_new _ _) rfl (by omega) (by omega) (by simp) (by have := S5.out.lt; omega)).mono ?_)
    rintro e w6 ⟨x6, rfl, hs6, hg6⟩
    have Kr6 : Hid (w6.heap[w.heap.size]? = some (.cells #[.int .i64 0, .int .i64 0, .int .i64 0, .int .i64 0] 25 (0, 0))) := hk_call (hk_alloc Kr5.out _) hg6 (by omega)
    clear Kr5
    have Kb6 : Hid (w6.heap[w4.heap.size]? = some (.cells #[.int .i64 (200 + x1), .int .i64 (200 + x2), .int .i64 x3, .int .i64 x4] 25 (0, 0))) := hk_call (hk_alloc Kb5.out _) hg6 (by omega)
    clear Kb5
    have S6 := Lib.hid hs6
    have D6 := (drw_alloc D5 _).trans hg6
    have z6 := D6.size
    clear hs6 hg6 S5
    have cb0 := hk_cell (i := 0) Kb6.out rfl
    have fb0 := hk_free (i := 0) Kb6.out
    have cb1 := hk_cell (i := 1) Kb6.out rfl
    have fb1 := hk_free (i := 1) Kb6.out
    have cb2 := hk_cell (i := 2) Kb6.out rfl
    have fb2 := hk_free (i := 2) Kb6.out
    have cb3 := hk_cell (i := 3) Kb6.out rfl
    have fb3 := hk_free (i := 3) Kb6.out
    have cr0 := hk_cell (i := 0) Kr6.out rfl
    have fr0 := hk_free (i := 0) Kr6.out
    have cr1 := hk_cell (i := 1) Kr6.out rfl
    have fr1 := hk_free (i := 1) Kr6.out
    have cr2 := hk_cell (i := 2) Kr6.out rfl
    have fr2 := hk_free (i := 2) Kr6.out
    have cr3 := hk_cell (i := 3) Kr6.out rfl
    have fr3 := hk_free (i := 3) Kr6.out
    go_wp2
    refine bodyPost_ret (v := .agg #[.int .i64 (200 + x1), .int .i64 x6, .int .i64 x3, .int .i64 x4]) (by simp [results, Try.results57, go_sem, *]) rfl ⟨200 + x1, x6, x3, x4, rfl, (by repeat (first | (with_reducible exact S6.out) | (with_reducible refine Src.drew ?_) | (with_reducible refine Src.alloc ?_ _) | (refine Src.set ?_ (by omega) _ _))), (by repeat (first | (with_reducible exact D6) | (with_reducible refine drw_drew ?_) | (with_reducible refine drw_alloc ?_ _) | (refine drw_setN ?_ (by omega) _ _)))⟩
  have n1 : (x5 == 1) = false := by rw [beq_eq_false_iff_ne]; exact e1
  by_cases e2 : x5 = 2
  · skip
    subst e2
    go_wp2_with fail
    (with_reducible refine (Pick_any g a n c _ 4 _ _ (S5.out.alloc _) (heap_alloc_new _ _) rfl (by omega) (by omega) (by simp) (by have := S5.out.lt; omega)).mono ?_)
    rintro e w6 ⟨x6, rfl, hs6, hg6⟩
    have Kr6 : Hid (w6.heap[w.heap.size]? = some (.cells #[.int .i64 0, .int .i64 0, .int .i64 0, .int .i64 0] 25 (0, 0))) := hk_call (hk_alloc Kr5.out _) hg6 (by omega)
    clear Kr5
    have Kb6 : Hid (w6.heap[w4.heap.size]? = some (.cells #[.int .i64 (200 + x1), .int .i64 (200 + x2), .int .i64 x3, .int .i64 x4] 25 (0, 0))) := hk_call (hk_alloc Kb5.out _) hg6 (by omega)
    clear Kb5
    have S6 := Lib.hid hs6
    have D6 := (drw_alloc D5 _).trans hg6
    have z6 := D6.size
    clear hs6 hg6 S5
    have cb0 := hk_cell (i := 0) Kb6.out rfl
    have fb0 := hk_free (i := 0) Kb6.out
    have cb1 := hk_cell (i := 1) Kb6.out rfl
    have fb1 := hk_free (i := 1) Kb6.out
    have cb2 := hk_cell (i := 2) Kb6.out rfl
    have fb2 := hk_free (i := 2) Kb6.out
    have cb3 := hk_cell (i := 3) Kb6.out rfl
    have fb3 := hk_free (i := 3) Kb6.out
    have cr0 := hk_cell (i := 0) Kr6.out rfl
    have fr0 := hk_free (i := 0) Kr6.out
    have cr1 := hk_cell (i := 1) Kr6.out rfl
    have fr1 := hk_free (i := 1) Kr6.out
    have cr2 := hk_cell (i := 2) Kr6.out rfl
    have fr2 := hk_free (i := 2) Kr6.out
    have cr3 := hk_cell (i := 3) Kr6.out rfl
    have fr3 := hk_free (i := 3) Kr6.out
    go_wp2
    refine bodyPost_ret (v := .agg #[.int .i64 (200 + x1), .int .i64 (200 + x2), .int .i64 x6, .int .i64 x4]) (by simp [results, Try.results57, go_sem, *]) rfl ⟨200 + x1, 200 + x2, x6, x4, rfl, (by repeat (first | (with_reducible exact S6.out) | (with_reducible refine Src.drew ?_) | (with_reducible refine Src.alloc ?_ _) | (refine Src.set ?_ (by omega) _ _))), (by repeat (first | (with_reducible exact D6) | (with_reducible refine drw_drew ?_) | (with_reducible refine drw_alloc ?_ _) | (refine drw_setN ?_ (by omega) _ _)))⟩
  have n2 : (x5 == 2) = false := by rw [beq_eq_false_iff_ne]; exact e2
  by_cases e3 : x5 = 3
  · skip
    subst e3
    go_wp2_with fail
    (with_reducible refine (Pick_any g a n c _ 4 _ _ (S5.out.alloc _) (heap_alloc_new _ _) rfl (by omega) (by omega) (by simp) (by have := S5.out.lt; omega)).mono ?_)
    rintro e w6 ⟨x6, rfl, hs6, hg6⟩
    have Kr6 : Hid (w6.heap[w.heap.size]? = some (.cells #[.int .i64 0, .int .i64 0, .int .i64 0, .int .i64 0] 25 (0, 0))) := hk_call (hk_alloc Kr5.out _) hg6 (by omega)
    clear Kr5
    have Kb6 : Hid (w6.heap[w4.heap.size]? = some (.cells #[.int .i64 (200 + x1), .int .i64 (200 + x2), .int .i64 x3, .int .i64 x4] 25 (0, 0))) := hk_call (hk_alloc Kb5.out _) hg6 (by omega)
    clear Kb5
    have S6 := Lib.hid hs6
    have D6 := (drw_alloc D5 _).trans hg6
    have z6 := D6.size
    clear hs6 hg6 S5
    have cb0 := hk_cell (i := 0) Kb6.out rfl
    have fb0 := hk_free (i := 0) Kb6.out
    have cb1 := hk_cell (i := 1) Kb6.out rfl
    have fb1 := hk_free (i := 1) Kb6.out
    have cb2 := hk_cell (i := 2) Kb6.out rfl
    have fb2 := hk_free (i := 2) Kb6.out
    have cb3 := hk_cell (i := 3) Kb6.out rfl
    have fb3 := hk_free (i := 3) Kb6.out
    have cr0 := hk_cell (i := 0) Kr6.out rfl
    have fr0 := hk_free (i := 0) Kr6.out
    have cr1 := hk_cell (i := 1) Kr6.out rfl
    have fr1 := hk_free (i := 1) Kr6.out
    have cr2 := hk_cell (i := 2) Kr6.out rfl
    have fr2 := hk_free (i := 2) Kr6.out
    have cr3 := hk_cell (i := 3) Kr6.out rfl
    have fr3 := hk_free (i := 3) Kr6.out
    go_wp2
    refine bodyPost_ret (v := .agg #[.int .i64 (200 + x1), .int .i64 (200 + x2), .int .i64 x3, .int .i64 x6]) (by simp [results, Try.results57, go_sem, *]) rfl ⟨200 + x1, 200 + x2, x3, x6, rfl, (by repeat (first | (with_reducible exact S6.out) | (with_reducible refine Src.drew ?_) | (with_reducible refine Src.alloc ?_ _) | (refine Src.set ?_ (by omega) _ _))), (by repeat (first | (with_reducible exact D6) | (with_reducible refine drw_drew ?_) | (with_reducible refine drw_alloc ?_ _) | (refine drw_setN ?_ (by omega) _ _)))⟩
  have n3 : (x5 == 3) = false := by rw [beq_eq_false_iff_ne]; exact e3
  have cb0 := hk_cell (i := 0) Kb5.out rfl
  have fb0 := hk_free (i := 0) Kb5.out
  have cb1 := hk_cell (i := 1) Kb5.out rfl
  have fb1 := hk_free (i := 1) Kb5.out
  have cb2 := hk_cell (i := 2) Kb5.out rfl
  have fb2 := hk_free (i := 2) Kb5.out
  have cb3 := hk_cell (i := 3) Kb5.out rfl
  have fb3 := hk_free (i := 3) Kb5.out
  have cr0 := hk_cell (i := 0) Kr5.out rfl
  have fr0 := hk_free (i := 0) Kr5.out
  have cr1 := hk_cell (i := 1) Kr5.out rfl
  have fr1 := hk_free (i := 1) Kr5.out
  have cr2 := hk_cell (i := 2) Kr5.out rfl
  have fr2 := hk_free (i := 2) Kr5.out
  have cr3 := hk_cell (i := 3) Kr5.out rfl
  have fr3 := hk_free (i := 3) Kr5.out
  go_wp2
  refine bodyPost_ret (v := .agg #[.int .i64 (200 + x1), .int .i64 (200 + x2), .int .i64 x3, .int .i64 x4]) (by simp [results, Try.results57, go_sem, *]) rfl ⟨200 + x1, 200 + x2, x3, x4, rfl, (by repeat (first | (with_reducible exact S5.out) | (with_reducible refine Src.drew ?_) | (with_reducible refine Src.alloc ?_ _) | (refine Src.set ?_ (by omega) _ _))), (by repeat (first | (with_reducible exact D5) | (with_reducible refine drw_drew ?_) | (with_reducible refine drw_alloc ?_ _) | (refine drw_setN ?_ (by omega) _ _)))⟩
set_option maxRecDepth 100000 in
set_option maxHeartbeats 800000 in
theorem Force13_any (g : Nat) (a : Option Addr) (n c : Nat) (w : World) (h : Src w g a n c) :
    Calls Try.prog 61 #[.pointer (some ⟨g, 0, none⟩)] w fun e w' => ∃ x : Int, e = .returned (.int .i64 x) ∧ Src w' g a n c ∧ w.grownBy w' (some g) := by
  have S0 := Lib.hid h
  have D0 := World.grownBy.refl w (some g)
  clear h
  go_enter Try.func61, Try.ntmps61
  go_wp2_with fail
  (with_reducible refine (Next_any g a n c _ _ S0.out).mono ?_)
  rintro e w1 ⟨x1, rfl, ⟨l1, -, u1⟩, hs1, hg1⟩
  have S1 := Lib.hid hs1
  have D1 := D0.trans hg1
  clear hs1 hg1 S0
  replace u1 := u1 (by omega)
  go_wp2_with fail
  (with_reducible refine (Next_any g a n c _ _ S1.out).mono ?_)
  rintro e w2 ⟨x2, rfl, ⟨l2, -, u2⟩, hs2, hg2⟩
  have S2 := Lib.hid hs2
  have D2 := D1.trans hg2
  clear hs2 hg2 S1
  replace u2 := u2 (by omega)
  go_wp2_with fail
  (with_reducible refine (Pick_any g a n c _ 2 _ _ (S2.out.alloc _) (heap_alloc_new _ _) rfl (by omega) (by omega) (by simp) (by have := S2.out.lt; omega)).mono ?_)
  rintro e w3 ⟨x3, rfl, hs3, hg3⟩
  have S3 := Lib.hid hs3
  have D3 := (drw_alloc D2 _).trans hg3
  clear hs3 hg3 S2
  go_wp2_with fail
  (with_reducible refine (Pick_any g a n c _ 6 _ _ (S3.out.alloc _) (heap_alloc_new _ _) rfl (by omega) (by omega) (by simp) (by have := S3.out.lt; omega)).mono ?_)
  rintro e w4 ⟨x4, rfl, hs4, hg4⟩
  have S4 := Lib.hid hs4
  have D4 := (drw_alloc D3 _).trans hg4
  clear hs4 hg4 S3
  go_wp2
  go_ret
  exact ⟨_, rfl, S4.out, D4⟩

set_option maxRecDepth 100000 in
set_option maxHeartbeats 800000 in
theorem Gap13_any (g : Nat) (a : Option Addr) (n c : Nat) (w : World) (h : Src w g a n c) :
    Calls Try.prog 62 #[.pointer (some ⟨g, 0, none⟩)] w fun e w' => ∃ x : Int, e = .returned (.int .i64 x) ∧ Src w' g a n c ∧ w.grownBy w' (some g) := by
  have S0 := Lib.hid h
  have D0 := World.grownBy.refl w (some g)
  clear h
  go_enter Try.func62, Try.ntmps62
  go_wp2_with fail
  (with_reducible refine (Next_any g a n c _ _ S0.out).mono ?_)
  rintro e w1 ⟨x1, rfl, ⟨l1, -, u1⟩, hs1, hg1⟩
  have S1 := Lib.hid hs1
  have D1 := D0.trans hg1
  clear hs1 hg1 S0
  replace u1 := u1 (by omega)
  go_wp2_with fail
  (with_reducible refine (Next_any g a n c _ _ S1.out).mono ?_)
  rintro e w2 ⟨x2, rfl, ⟨l2, -, u2⟩, hs2, hg2⟩
  have S2 := Lib.hid hs2
  have D2 := D1.trans hg2
  clear hs2 hg2 S1
  replace u2 := u2 (by omega)
  go_wp2_with fail
  (with_reducible refine (Pick_any g a n c _ 2 _ _ (S2.out.alloc _) (heap_alloc_new _ _) rfl (by omega) (by omega) (by simp) (by have := S2.out.lt; omega)).mono ?_)
  rintro e w3 ⟨x3, rfl, hs3, hg3⟩
  have S3 := Lib.hid hs3
  have D3 := (drw_alloc D2 _).trans hg3
  clear hs3 hg3 S2
  go_wp2_with fail
  (with_reducible refine (Pick_any g a n c _ 6 _ _ (S3.out.alloc _) (heap_alloc_new _ _) rfl (by omega) (by omega) (by simp) (by have := S3.out.lt; omega)).mono ?_)
  rintro e w4 ⟨x4, rfl, hs4, hg4⟩
  have S4 := Lib.hid hs4
  have D4 := (drw_alloc D3 _).trans hg4
  clear hs4 hg4 S3
  go_wp2
  go_ret
  exact ⟨_, rfl, S4.out, D4⟩

end Go.Proofs.Ytfgokehoanlobaa
