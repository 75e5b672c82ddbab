/- Contracts of Draw..(code) of threads. -/
import Derived.Test.YtoaacipgphoiaaaThdA
import Derived.Deep.RegionHeld3
set_option linter.unusedSimpArgs false
set_option linter.unusedVariables false
namespace Go.Proofs.Ytoaacipgphoiaaa
open Go.RowKit

theorem grown_ofDrew {w w' : World} {row : Option Nat} (h : w.drew.grownBy w' row) : w.grownBy w' row := ⟨h.os, h.tape, h.output, h.size, h.block⟩
set_option maxRecDepth 100000 in
set_option maxHeartbeats 1600000 in
theorem DrawDoFit_any (a : Option Addr) (n c : Nat) (w : World) (h : RdB w w.heap.size a n) (hn : n ≤ 4096) :
    Calls Try.prog 58 #[.slice a n c] w fun e w' => ∃ (v0 v1 : Int) (v2 v3 : Bool) (u0 u1 : Int) (u2 u3 : Bool), e = .returned (.tuple #[.agg #[.int .i64 v0, .int .i64 v1, .bool v2, .bool v3], .agg #[.int .i64 u0, .int .i64 u1, .bool u2, .bool u3]]) ∧ Below w.heap.size w w' := by
  have HB0 := Lib.hid h
  have T0 := Below.refl w.heap.size w
  clear h
  go_enter Try.func58, Try.ntmps58
  go_wp2_with fail
  (with_reducible refine (From_any a n c _ (rdb_alloc (rdb_alloc HB0.out _) _) hn).mono ?_)
  rintro e w1 ⟨g, rfl, hs1, hgw, hb1⟩
  have T1 : Below w.heap.size w w1 := Below.trans (by repeat (first | (with_reducible assumption) | (with_reducible exact Below.refl _ _) | (with_reducible refine Below.drew ?_) | (with_reducible refine blw_al ?_ _) | (with_reducible refine blw_set ?_ (by dsimp only; omega) _))) (hb1.mono (by (try simp only [World.size_alloc]); omega))
  have z1 := T1.size
  have zb1 := hb1.size
  (try simp only [World.size_alloc] at hgw zb1)
  have S1 := Lib.hid hs1
  have Kr1 : Hid (w1.heap[w.heap.size]? = some (.cells #[.int .i64 0, .int .i64 0, .bool false, .bool false] 25 (0, 0))) := hk_below (hk_alloc (heap_alloc_new _ _) _) hb1
  have Kq1 : Hid (w1.heap[w.heap.size + 1]? = some (.cells #[.int .i64 0, .int .i64 0, .bool false, .bool false] 25 (0, 0))) := hk_below (by simpa using heap_alloc_new (w.alloc _) _) hb1
  have hg1 := S1.out.lt
  clear hs1 hb1
  go_wp2_with fail
  (with_reducible refine (Draw14_any g a n c _ S1.out).mono ?_)
  rintro e w2 ⟨d, p, l, i, rfl, hs2, hg2⟩
  have Kr2 : Hid (w2.heap[w.heap.size]? = some (.cells #[.int .i64 0, .int .i64 0, .bool false, .bool false] 25 (0, 0))) := hk_call Kr1.out hg2 (by omega)
  have Kq2 : Hid (w2.heap[w.heap.size + 1]? = some (.cells #[.int .i64 0, .int .i64 0, .bool false, .bool false] 25 (0, 0))) := hk_call Kq1.out hg2 (by omega)
  have T2 : Below w.heap.size w w2 := Below.grown (by repeat (first | (with_reducible assumption) | (with_reducible exact Below.refl _ _) | (with_reducible refine Below.drew ?_) | (with_reducible refine blw_al ?_ _) | (with_reducible refine blw_set ?_ (by dsimp only; omega) _))) hg2 (by (try simp only [World.size_alloc]); omega) (fun q hq => by injection hq with hq; omega)
  have z2 := T2.size
  have y2 := hg2.size
  (try simp only [World.size_alloc] at y2)
  have S2 := Lib.hid hs2
  clear hs2 hg2 S1 Kr1 Kq1
  go_wp2_with fail
  (with_reducible refine (Next_any g a n c _ _ (S2.out.alloc _)).mono ?_)
  rintro e w3 ⟨x3, rfl, ⟨-, -, -⟩, hs3, hg3⟩
  have Kr3 : Hid (w3.heap[w.heap.size]? = some (.cells #[.int .i64 0, .int .i64 0, .bool false, .bool false] 25 (0, 0))) := hk_call (hk_alloc Kr2.out _) hg3 (by omega)
  have Kq3 : Hid (w3.heap[w.heap.size + 1]? = some (.cells #[.int .i64 0, .int .i64 0, .bool false, .bool false] 25 (0, 0))) := hk_call (hk_alloc Kq2.out _) hg3 (by omega)
  have Kb3 : Hid (w3.heap[w2.heap.size]? = some (.cells #[.int .i64 d, .int .i64 p, .bool l, .bool i] 25 (0, 0))) := hk_call (heap_alloc_new _ _) hg3 (by omega)
  have T3 : Below w.heap.size w w3 := Below.grown (by repeat (first | (with_reducible assumption) | (with_reducible exact Below.refl _ _) | (with_reducible refine Below.drew ?_) | (with_reducible refine blw_al ?_ _) | (with_reducible refine blw_set ?_ (by dsimp only; omega) _))) hg3 (by (try simp only [World.size_alloc]); omega) (fun q hq => by injection hq with hq; omega)
  have z3 := T3.size
  have y3 := hg3.size
  (try simp only [World.size_alloc] at y3)
  have S3 := Lib.hid hs3
  clear hs3 hg3 S2 Kr2 Kq2
  have hlb := heap_lt Kb3.out
  by_cases hx : x3 = 0
  · skip
    subst hx
    have cr0 : w3.cell? ⟨w.heap.size, 0, none⟩ = some (.int .i64 0) := hk_cell (i := 0) Kr3.out rfl
    have fr0 := hk_free (i := 0) Kr3.out
    have cr1 : w3.cell? ⟨w.heap.size, 1, none⟩ = some (.int .i64 0) := hk_cell (i := 1) Kr3.out rfl
    have fr1 := hk_free (i := 1) Kr3.out
    have cr2 : w3.cell? ⟨w.heap.size, 2, none⟩ = some (.bool false) := hk_cell (i := 2) Kr3.out rfl
    have fr2 := hk_free (i := 2) Kr3.out
    have cr3 : w3.cell? ⟨w.heap.size, 3, none⟩ = some (.bool false) := hk_cell (i := 3) Kr3.out rfl
    have fr3 := hk_free (i := 3) Kr3.out
    have cq0 : w3.cell? ⟨w.heap.size + 1, 0, none⟩ = some (.int .i64 0) := hk_cell (i := 0) Kq3.out rfl
    have fq0 := hk_free (i := 0) Kq3.out
    have cq1 : w3.cell? ⟨w.heap.size + 1, 1, none⟩ = some (.int .i64 0) := hk_cell (i := 1) Kq3.out rfl
    have fq1 := hk_free (i := 1) Kq3.out
    have cq2 : w3.cell? ⟨w.heap.size + 1, 2, none⟩ = some (.bool false) := hk_cell (i := 2) Kq3.out rfl
    have fq2 := hk_free (i := 2) Kq3.out
    have cq3 : w3.cell? ⟨w.heap.size + 1, 3, none⟩ = some (.bool false) := hk_cell (i := 3) Kq3.out rfl
    have fq3 := hk_free (i := 3) Kq3.out
    have cb0 : w3.cell? ⟨w2.heap.size, 0, none⟩ = some (.int .i64 d) := hk_cell (i := 0) Kb3.out rfl
    have cb1 : w3.cell? ⟨w2.heap.size, 1, none⟩ = some (.int .i64 p) := hk_cell (i := 1) Kb3.out rfl
    have cb2 : w3.cell? ⟨w2.heap.size, 2, none⟩ = some (.bool l) := hk_cell (i := 2) Kb3.out rfl
    have cb3 : w3.cell? ⟨w2.heap.size, 3, none⟩ = some (.bool i) := hk_cell (i := 3) Kb3.out rfl
    have hner : w.heap.size ≠ g := by omega
    have hneq : w.heap.size + 1 ≠ g := by omega
    have hneb : w2.heap.size ≠ g := by omega
    have hTz : w.heap.size ≤ w3.heap.size := by omega
    have hgz : ∀ q, some g = some q → w.heap.size ≤ q := fun q hq => by injection hq with hq; omega
    have KP : Hid (∀ W : World, w3.grownBy W (some g) → (W.cell? ⟨w2.heap.size, 0, none⟩ = some (.int .i64 d) ∧ W.cell? ⟨w2.heap.size, 1, none⟩ = some (.int .i64 p) ∧ W.cell? ⟨w2.heap.size, 2, none⟩ = some (.bool l) ∧ W.cell? ⟨w2.heap.size, 3, none⟩ = some (.bool i))) := by
      show ∀ W : World, _
      intro W hg
      exact ⟨hk_cell (i := 0) (hk_call Kb3.out hg hneb) rfl, hk_cell (i := 1) (hk_call Kb3.out hg hneb) rfl, hk_cell (i := 2) (hk_call Kb3.out hg hneb) rfl, hk_cell (i := 3) (hk_call Kb3.out hg hneb) rfl⟩
    go_wp2
    go_region_held3 (fun W => W.cell? ⟨w2.heap.size, 0, none⟩ = some (.int .i64 d) ∧ W.cell? ⟨w2.heap.size, 1, none⟩ = some (.int .i64 p) ∧ W.cell? ⟨w2.heap.size, 2, none⟩ = some (.bool l) ∧ W.cell? ⟨w2.heap.size, 3, none⟩ = some (.bool i))
      (first | (with_reducible exact ⟨cb0, cb1, cb2, cb3⟩) | (with_reducible exact KP.out _ hg4) | (refine ⟨hk_cell (i := 0) (cs := #[.int .i64 d, .int .i64 p, .bool l, .bool i]) (t := 25) ?_ rfl, hk_cell (i := 1) (cs := #[.int .i64 d, .int .i64 p, .bool l, .bool i]) (t := 25) ?_ rfl, hk_cell (i := 2) (cs := #[.int .i64 d, .int .i64 p, .bool l, .bool i]) (t := 25) ?_ rfl, hk_cell (i := 3) (cs := #[.int .i64 d, .int .i64 p, .bool l, .bool i]) (t := 25) ?_ rfl⟩ <;> (repeat (first | (with_reducible exact Kb4.out) | (with_reducible refine hk_drew ?_) | (with_reducible refine hk_setO ?_ (by omega)))); done) | (refine ⟨hk_cell (i := 0) (cs := #[.int .i64 d, .int .i64 p, .bool l, .bool i]) (t := 25) ?_ rfl, hk_cell (i := 1) (cs := #[.int .i64 d, .int .i64 p, .bool l, .bool i]) (t := 25) ?_ rfl, hk_cell (i := 2) (cs := #[.int .i64 d, .int .i64 p, .bool l, .bool i]) (t := 25) ?_ rfl, hk_cell (i := 3) (cs := #[.int .i64 d, .int .i64 p, .bool l, .bool i]) (t := 25) ?_ rfl⟩ <;> (repeat (first | (with_reducible exact Kb3.out) | (with_reducible refine hk_drew ?_) | (with_reducible refine hk_setO ?_ (by omega)))); done))
      ((first
        | (go_at_call 43; (with_reducible refine (Partner14_src g a n c _ _ _ _ _ ?_).mono ?_); (first | exact S3.out | exact S3.out.drew); rintro e w4 ⟨rfl, hs4, hgx⟩; have hg4 : w3.grownBy w4 (some g) := (by first | exact hgx | exact grown_ofDrew hgx); have S4 := Lib.hid hs4; clear hs4 hgx; have Kr4 : Hid (w4.heap[w.heap.size]? = some (.cells #[.int .i64 0, .int .i64 0, .bool false, .bool false] 25 (0, 0))) := hk_call Kr3.out hg4 hner; have Kq4 : Hid (w4.heap[w.heap.size + 1]? = some (.cells #[.int .i64 0, .int .i64 0, .bool false, .bool false] 25 (0, 0))) := hk_call Kq3.out hg4 hneq; have Kb4 : Hid (w4.heap[w2.heap.size]? = some (.cells #[.int .i64 d, .int .i64 p, .bool l, .bool i] 25 (0, 0))) := hk_call Kb3.out hg4 hneb; have T4 : Below w.heap.size w w4 := Below.grown T3 hg4 hTz hgz; have z4 := T4.size; have cr0 : w4.cell? ⟨w.heap.size, 0, none⟩ = some (.int .i64 0) := hk_cell (i := 0) Kr4.out rfl; have fr0 := hk_free (i := 0) Kr4.out; have cr1 : w4.cell? ⟨w.heap.size, 1, none⟩ = some (.int .i64 0) := hk_cell (i := 1) Kr4.out rfl; have fr1 := hk_free (i := 1) Kr4.out; have cr2 : w4.cell? ⟨w.heap.size, 2, none⟩ = some (.bool false) := hk_cell (i := 2) Kr4.out rfl; have fr2 := hk_free (i := 2) Kr4.out; have cr3 : w4.cell? ⟨w.heap.size, 3, none⟩ = some (.bool false) := hk_cell (i := 3) Kr4.out rfl; have fr3 := hk_free (i := 3) Kr4.out; have cq0 : w4.cell? ⟨w.heap.size + 1, 0, none⟩ = some (.int .i64 0) := hk_cell (i := 0) Kq4.out rfl; have fq0 := hk_free (i := 0) Kq4.out; have cq1 : w4.cell? ⟨w.heap.size + 1, 1, none⟩ = some (.int .i64 0) := hk_cell (i := 1) Kq4.out rfl; have fq1 := hk_free (i := 1) Kq4.out; have cq2 : w4.cell? ⟨w.heap.size + 1, 2, none⟩ = some (.bool false) := hk_cell (i := 2) Kq4.out rfl; have fq2 := hk_free (i := 2) Kq4.out; have cq3 : w4.cell? ⟨w.heap.size + 1, 3, none⟩ = some (.bool false) := hk_cell (i := 3) Kq4.out rfl; have fq3 := hk_free (i := 3) Kq4.out; have cb0 : w4.cell? ⟨w2.heap.size, 0, none⟩ = some (.int .i64 d) := hk_cell (i := 0) Kb4.out rfl; have cb1 : w4.cell? ⟨w2.heap.size, 1, none⟩ = some (.int .i64 p) := hk_cell (i := 1) Kb4.out rfl; have cb2 : w4.cell? ⟨w2.heap.size, 2, none⟩ = some (.bool l) := hk_cell (i := 2) Kb4.out rfl; have cb3 : w4.cell? ⟨w2.heap.size, 3, none⟩ = some (.bool i) := hk_cell (i := 3) Kb4.out rfl)
        | fail))
    all_goals
      go_wp2
      refine bodyPost_ret (v := .tuple #[.agg #[.int .i64 d, .int .i64 p, .bool l, .bool i], .agg #[.int .i64 d, .int .i64 p, .bool l, .bool ((!i))]]) (by simp [results, Try.results58, go_sem, *]) rfl ⟨d, p, l, i, d, p, l, (!i), rfl, (by repeat (first | (with_reducible assumption) | (with_reducible exact Below.refl _ _) | (with_reducible refine Below.drew ?_) | (with_reducible refine blw_al ?_ _) | (with_reducible refine blw_set ?_ (by dsimp only; omega) _)))⟩
  · skip
    have nx : (x3 == 0) = false := by rw [beq_eq_false_iff_ne]; exact hx
    have cr0 : w3.cell? ⟨w.heap.size, 0, none⟩ = some (.int .i64 0) := hk_cell (i := 0) Kr3.out rfl
    have fr0 := hk_free (i := 0) Kr3.out
    have cr1 : w3.cell? ⟨w.heap.size, 1, none⟩ = some (.int .i64 0) := hk_cell (i := 1) Kr3.out rfl
    have fr1 := hk_free (i := 1) Kr3.out
    have cr2 : w3.cell? ⟨w.heap.size, 2, none⟩ = some (.bool false) := hk_cell (i := 2) Kr3.out rfl
    have fr2 := hk_free (i := 2) Kr3.out
    have cr3 : w3.cell? ⟨w.heap.size, 3, none⟩ = some (.bool false) := hk_cell (i := 3) Kr3.out rfl
    have fr3 := hk_free (i := 3) Kr3.out
    have cq0 : w3.cell? ⟨w.heap.size + 1, 0, none⟩ = some (.int .i64 0) := hk_cell (i := 0) Kq3.out rfl
    have fq0 := hk_free (i := 0) Kq3.out
    have cq1 : w3.cell? ⟨w.heap.size + 1, 1, none⟩ = some (.int .i64 0) := hk_cell (i := 1) Kq3.out rfl
    have fq1 := hk_free (i := 1) Kq3.out
    have cq2 : w3.cell? ⟨w.heap.size + 1, 2, none⟩ = some (.bool false) := hk_cell (i := 2) Kq3.out rfl
    have fq2 := hk_free (i := 2) Kq3.out
    have cq3 : w3.cell? ⟨w.heap.size + 1, 3, none⟩ = some (.bool false) := hk_cell (i := 3) Kq3.out rfl
    have fq3 := hk_free (i := 3) Kq3.out
    have cb0 : w3.cell? ⟨w2.heap.size, 0, none⟩ = some (.int .i64 d) := hk_cell (i := 0) Kb3.out rfl
    have cb1 : w3.cell? ⟨w2.heap.size, 1, none⟩ = some (.int .i64 p) := hk_cell (i := 1) Kb3.out rfl
    have cb2 : w3.cell? ⟨w2.heap.size, 2, none⟩ = some (.bool l) := hk_cell (i := 2) Kb3.out rfl
    have cb3 : w3.cell? ⟨w2.heap.size, 3, none⟩ = some (.bool i) := hk_cell (i := 3) Kb3.out rfl
    have hner : w.heap.size ≠ g := by omega
    have hneq : w.heap.size + 1 ≠ g := by omega
    have hneb : w2.heap.size ≠ g := by omega
    have hTz : w.heap.size ≤ w3.heap.size := by omega
    have hgz : ∀ q, some g = some q → w.heap.size ≤ q := fun q hq => by injection hq with hq; omega
    have KP : Hid (∀ W : World, w3.grownBy W (some g) → (W.cell? ⟨w2.heap.size, 0, none⟩ = some (.int .i64 d) ∧ W.cell? ⟨w2.heap.size, 1, none⟩ = some (.int .i64 p) ∧ W.cell? ⟨w2.heap.size, 2, none⟩ = some (.bool l) ∧ W.cell? ⟨w2.heap.size, 3, none⟩ = some (.bool i))) := by
      show ∀ W : World, _
      intro W hg
      exact ⟨hk_cell (i := 0) (hk_call Kb3.out hg hneb) rfl, hk_cell (i := 1) (hk_call Kb3.out hg hneb) rfl, hk_cell (i := 2) (hk_call Kb3.out hg hneb) rfl, hk_cell (i := 3) (hk_call Kb3.out hg hneb) rfl⟩
    go_wp2
    go_region_held3 (fun W => W.cell? ⟨w2.heap.size, 0, none⟩ = some (.int .i64 d) ∧ W.cell? ⟨w2.heap.size, 1, none⟩ = some (.int .i64 p) ∧ W.cell? ⟨w2.heap.size, 2, none⟩ = some (.bool l) ∧ W.cell? ⟨w2.heap.size, 3, none⟩ = some (.bool i))
      (first | (with_reducible exact ⟨cb0, cb1, cb2, cb3⟩) | (with_reducible exact KP.out _ hg4) | (refine ⟨hk_cell (i := 0) (cs := #[.int .i64 d, .int .i64 p, .bool l, .bool i]) (t := 25) ?_ rfl, hk_cell (i := 1) (cs := #[.int .i64 d, .int .i64 p, .bool l, .bool i]) (t := 25) ?_ rfl, hk_cell (i := 2) (cs := #[.int .i64 d, .int .i64 p, .bool l, .bool i]) (t := 25) ?_ rfl, hk_cell (i := 3) (cs := #[.int .i64 d, .int .i64 p, .bool l, .bool i]) (t := 25) ?_ rfl⟩ <;> (repeat (first | (with_reducible exact Kb4.out) | (with_reducible refine hk_drew ?_) | (with_reducible refine hk_setO ?_ (by omega)))); done) | (refine ⟨hk_cell (i := 0) (cs := #[.int .i64 d, .int .i64 p, .bool l, .bool i]) (t := 25) ?_ rfl, hk_cell (i := 1) (cs := #[.int .i64 d, .int .i64 p, .bool l, .bool i]) (t := 25) ?_ rfl, hk_cell (i := 2) (cs := #[.int .i64 d, .int .i64 p, .bool l, .bool i]) (t := 25) ?_ rfl, hk_cell (i := 3) (cs := #[.int .i64 d, .int .i64 p, .bool l, .bool i]) (t := 25) ?_ rfl⟩ <;> (repeat (first | (with_reducible exact Kb3.out) | (with_reducible refine hk_drew ?_) | (with_reducible refine hk_setO ?_ (by omega)))); done))
      ((first
        | (go_at_call 60; (with_reducible refine (Draw14_any g a n c _ ?_).mono ?_); (first | exact S3.out | exact S3.out.drew); rintro e w4 ⟨t0, t1, t2, t3, rfl, hs4, hgx⟩; have hg4 : w3.grownBy w4 (some g) := (by first | exact hgx | exact grown_ofDrew hgx); have S4 := Lib.hid hs4; clear hs4 hgx; have Kr4 : Hid (w4.heap[w.heap.size]? = some (.cells #[.int .i64 0, .int .i64 0, .bool false, .bool false] 25 (0, 0))) := hk_call Kr3.out hg4 hner; have Kq4 : Hid (w4.heap[w.heap.size + 1]? = some (.cells #[.int .i64 0, .int .i64 0, .bool false, .bool false] 25 (0, 0))) := hk_call Kq3.out hg4 hneq; have Kb4 : Hid (w4.heap[w2.heap.size]? = some (.cells #[.int .i64 d, .int .i64 p, .bool l, .bool i] 25 (0, 0))) := hk_call Kb3.out hg4 hneb; have T4 : Below w.heap.size w w4 := Below.grown T3 hg4 hTz hgz; have z4 := T4.size; have cr0 : w4.cell? ⟨w.heap.size, 0, none⟩ = some (.int .i64 0) := hk_cell (i := 0) Kr4.out rfl; have fr0 := hk_free (i := 0) Kr4.out; have cr1 : w4.cell? ⟨w.heap.size, 1, none⟩ = some (.int .i64 0) := hk_cell (i := 1) Kr4.out rfl; have fr1 := hk_free (i := 1) Kr4.out; have cr2 : w4.cell? ⟨w.heap.size, 2, none⟩ = some (.bool false) := hk_cell (i := 2) Kr4.out rfl; have fr2 := hk_free (i := 2) Kr4.out; have cr3 : w4.cell? ⟨w.heap.size, 3, none⟩ = some (.bool false) := hk_cell (i := 3) Kr4.out rfl; have fr3 := hk_free (i := 3) Kr4.out; have cq0 : w4.cell? ⟨w.heap.size + 1, 0, none⟩ = some (.int .i64 0) := hk_cell (i := 0) Kq4.out rfl; have fq0 := hk_free (i := 0) Kq4.out; have cq1 : w4.cell? ⟨w.heap.size + 1, 1, none⟩ = some (.int .i64 0) := hk_cell (i := 1) Kq4.out rfl; have fq1 := hk_free (i := 1) Kq4.out; have cq2 : w4.cell? ⟨w.heap.size + 1, 2, none⟩ = some (.bool false) := hk_cell (i := 2) Kq4.out rfl; have fq2 := hk_free (i := 2) Kq4.out; have cq3 : w4.cell? ⟨w.heap.size + 1, 3, none⟩ = some (.bool false) := hk_cell (i := 3) Kq4.out rfl; have fq3 := hk_free (i := 3) Kq4.out; have cb0 : w4.cell? ⟨w2.heap.size, 0, none⟩ = some (.int .i64 d) := hk_cell (i := 0) Kb4.out rfl; have cb1 : w4.cell? ⟨w2.heap.size, 1, none⟩ = some (.int .i64 p) := hk_cell (i := 1) Kb4.out rfl; have cb2 : w4.cell? ⟨w2.heap.size, 2, none⟩ = some (.bool l) := hk_cell (i := 2) Kb4.out rfl; have cb3 : w4.cell? ⟨w2.heap.size, 3, none⟩ = some (.bool i) := hk_cell (i := 3) Kb4.out rfl)
        | fail))
    all_goals
      go_wp2
      refine bodyPost_ret (v := .tuple #[.agg #[.int .i64 d, .int .i64 p, .bool l, .bool i], .agg #[.int .i64 t0, .int .i64 t1, .bool t2, .bool t3]]) (by simp [results, Try.results58, go_sem, *]) rfl ⟨d, p, l, i, t0, t1, t2, t3, rfl, (by repeat (first | (with_reducible assumption) | (with_reducible exact Below.refl _ _) | (with_reducible refine Below.drew ?_) | (with_reducible refine blw_al ?_ _) | (with_reducible refine blw_set ?_ (by dsimp only; omega) _)))⟩

set_option maxRecDepth 100000 in
set_option maxHeartbeats 1600000 in
theorem DrawFirstReason_any (a : Option Addr) (n c : Nat) (w : World) (h : RdB w w.heap.size a n) (hn : n ≤ 4096) :
    Calls Try.prog 35 #[.slice a n c] w fun e w' => ∃ (v0 v1 : Int) (v2 v3 : Bool) (u0 u1 : Int) (u2 u3 : Bool), e = .returned (.tuple #[.agg #[.int .i64 v0, .int .i64 v1, .bool v2, .bool v3], .agg #[.int .i64 u0, .int .i64 u1, .bool u2, .bool u3]]) ∧ Below w.heap.size w w' := by
  have HB0 := Lib.hid h
  clear h
  go_enter Try.func35, Try.ntmps35
  go_wp2_with fail
  (with_reducible refine (DrawDoFit_any a n c _ (rdb_alloc (rdb_alloc HB0.out _) _) hn).mono ?_)
  rintro e w1 ⟨v0, v1, v2, v3, u0, u1, u2, u3, rfl, hb⟩
  have T1 : Below w.heap.size w w1 := (((Below.refl _ _).alloc (Nat.le_refl _) _).alloc (by simp) _).trans (hb.mono (by simp; omega))
  have Kr : w1.heap[w.heap.size]? = some (.cells #[.int .i64 0, .int .i64 0, .bool false, .bool false] 25 (0, 0)) := hk_below (hk_alloc (heap_alloc_new _ _) _) hb
  have hlr := heap_lt Kr
  have fr0 := hk_free (i := 0) Kr
  have cr0 := hk_cell (i := 0) Kr rfl
  have fr1 := hk_free (i := 1) Kr
  have cr1 := hk_cell (i := 1) Kr rfl
  have fr2 := hk_free (i := 2) Kr
  have cr2 := hk_cell (i := 2) Kr rfl
  have fr3 := hk_free (i := 3) Kr
  have cr3 := hk_cell (i := 3) Kr rfl
  clear Kr
  have Kq : w1.heap[w.heap.size + 1]? = some (.cells #[.int .i64 0, .int .i64 0, .bool false, .bool false] 25 (0, 0)) := hk_below (by simpa using heap_alloc_new (w.alloc _) _) hb
  have hlq := heap_lt Kq
  have fq0 := hk_free (i := 0) Kq
  have cq0 := hk_cell (i := 0) Kq rfl
  have fq1 := hk_free (i := 1) Kq
  have cq1 := hk_cell (i := 1) Kq rfl
  have fq2 := hk_free (i := 2) Kq
  have cq2 := hk_cell (i := 2) Kq rfl
  have fq3 := hk_free (i := 3) Kq
  have cq3 := hk_cell (i := 3) Kq rfl
  clear Kq
  go_wp2
  refine bodyPost_ret (v := .tuple #[.agg #[.int .i64 v0, .int .i64 v1, .bool v2, .bool v3], .agg #[.int .i64 u0, .int .i64 u1, .bool u2, .bool u3]]) (by simp [results, Try.results35, go_sem, *]) rfl ⟨v0, v1, v2, v3, u0, u1, u2, u3, rfl, (by repeat (first | (with_reducible assumption) | (with_reducible exact Below.refl _ _) | (with_reducible refine Below.drew ?_) | (with_reducible refine blw_al ?_ _) | (with_reducible refine blw_set ?_ (by dsimp only; omega) _)))⟩

set_option maxRecDepth 100000 in
set_option maxHeartbeats 1600000 in
theorem DrawQuarterTurns_any (a : Option Addr) (n c : Nat) (w : World) (h : RdB w w.heap.size a n) (hn : n ≤ 4096) :
    Calls Try.prog 36 #[.slice a n c] w fun e w' => ∃ (v0 v1 : Int) (v2 v3 : Bool) (v4 : Int), e = .returned (.tuple #[.agg #[.int .i64 v0, .int .i64 v1, .bool v2, .bool v3], .int .i64 v4]) ∧ Below w.heap.size w w' := by
  have HB0 := Lib.hid h
  have T0 := Below.refl w.heap.size w
  clear h
  go_enter Try.func36, Try.ntmps36
  go_wp2_with fail
  (with_reducible refine (From_any a n c _ (rdb_alloc HB0.out _) hn).mono ?_)
  rintro e w1 ⟨g, rfl, hs1, hgw, hb1⟩
  have T1 : Below w.heap.size w w1 := Below.trans (by repeat (first | (with_reducible assumption) | (with_reducible exact Below.refl _ _) | (with_reducible refine Below.drew ?_) | (with_reducible refine blw_al ?_ _) | (with_reducible refine blw_set ?_ (by dsimp only; omega) _))) (hb1.mono (by (try simp only [World.size_alloc]); omega))
  have z1 := T1.size
  have zb1 := hb1.size
  (try simp only [World.size_alloc] at hgw zb1)
  have S1 := Lib.hid hs1
  have Kr1 : Hid (w1.heap[w.heap.size]? = some (.cells #[.int .i64 0, .int .i64 0, .bool false, .bool false] 25 (0, 0))) := hk_below (heap_alloc_new _ _) hb1
  have hg1 := S1.out.lt
  clear hs1 hb1
  go_wp2_with fail
  (with_reducible refine (Draw14_any g a n c _ S1.out).mono ?_)
  rintro e w2 ⟨d, p, l, i, rfl, hs2, hg2⟩
  have Kr2 : Hid (w2.heap[w.heap.size]? = some (.cells #[.int .i64 0, .int .i64 0, .bool false, .bool false] 25 (0, 0))) := hk_call Kr1.out hg2 (by omega)
  have T2 : Below w.heap.size w w2 := Below.grown (by repeat (first | (with_reducible assumption) | (with_reducible exact Below.refl _ _) | (with_reducible refine Below.drew ?_) | (with_reducible refine blw_al ?_ _) | (with_reducible refine blw_set ?_ (by dsimp only; omega) _))) hg2 (by (try simp only [World.size_alloc]); omega) (fun q hq => by injection hq with hq; omega)
  have z2 := T2.size
  have y2 := hg2.size
  (try simp only [World.size_alloc] at y2)
  have S2 := Lib.hid hs2
  clear hs2 hg2 S1 Kr1
  go_wp2
  have Kr3 : Hid ((w2.alloc (Obj.cells #[.int .i64 d, .int .i64 p, .bool l, .bool i] 25 (0, 0))).heap[w.heap.size]? = some (.cells #[.int .i64 0, .int .i64 0, .bool false, .bool false] 25 (0, 0))) := hk_alloc Kr2.out _
  have Kb3 : Hid ((w2.alloc (Obj.cells #[.int .i64 d, .int .i64 p, .bool l, .bool i] 25 (0, 0))).heap[w2.heap.size]? = some (.cells #[.int .i64 d, .int .i64 p, .bool l, .bool i] 25 (0, 0))) := heap_alloc_new _ _
  have S3 := Lib.hid (S2.out.alloc (Obj.cells #[.int .i64 d, .int .i64 p, .bool l, .bool i] 25 (0, 0)))
  have T3 : Below w.heap.size w (w2.alloc (Obj.cells #[.int .i64 d, .int .i64 p, .bool l, .bool i] 25 (0, 0))) := (by repeat (first | (with_reducible assumption) | (with_reducible exact Below.refl _ _) | (with_reducible refine Below.drew ?_) | (with_reducible refine blw_al ?_ _) | (with_reducible refine blw_set ?_ (by dsimp only; omega) _)))
  have z3 := T3.size
  have y3 : w2.heap.size < (w2.alloc (Obj.cells #[.int .i64 d, .int .i64 p, .bool l, .bool i] 25 (0, 0))).heap.size := by simp
  have q3 := S2.out.lt
  generalize (w2.alloc (Obj.cells #[.int .i64 d, .int .i64 p, .bool l, .bool i] 25 (0, 0))) = w3 at *
  clear S2 Kr2
  have cr0 : w3.cell? ⟨w.heap.size, 0, none⟩ = some (.int .i64 0) := hk_cell (i := 0) Kr3.out rfl
  have fr0 := hk_free (i := 0) Kr3.out
  have cr1 : w3.cell? ⟨w.heap.size, 1, none⟩ = some (.int .i64 0) := hk_cell (i := 1) Kr3.out rfl
  have fr1 := hk_free (i := 1) Kr3.out
  have cr2 : w3.cell? ⟨w.heap.size, 2, none⟩ = some (.bool false) := hk_cell (i := 2) Kr3.out rfl
  have fr2 := hk_free (i := 2) Kr3.out
  have cr3 : w3.cell? ⟨w.heap.size, 3, none⟩ = some (.bool false) := hk_cell (i := 3) Kr3.out rfl
  have fr3 := hk_free (i := 3) Kr3.out
  have cb0 : w3.cell? ⟨w2.heap.size, 0, none⟩ = some (.int .i64 d) := hk_cell (i := 0) Kb3.out rfl
  have cb1 : w3.cell? ⟨w2.heap.size, 1, none⟩ = some (.int .i64 p) := hk_cell (i := 1) Kb3.out rfl
  have cb2 : w3.cell? ⟨w2.heap.size, 2, none⟩ = some (.bool l) := hk_cell (i := 2) Kb3.out rfl
  have cb3 : w3.cell? ⟨w2.heap.size, 3, none⟩ = some (.bool i) := hk_cell (i := 3) Kb3.out rfl
  go_wp2
  go_region_held3 (fun W => W.cell? ⟨w2.heap.size, 0, none⟩ = some (.int .i64 d) ∧ W.cell? ⟨w2.heap.size, 1, none⟩ = some (.int .i64 p) ∧ W.cell? ⟨w2.heap.size, 2, none⟩ = some (.bool l) ∧ W.cell? ⟨w2.heap.size, 3, none⟩ = some (.bool i))
    (first
      | exact ⟨cb0, cb1, cb2, cb3⟩
      | (refine ⟨hk_cell (i := 0) (cs := #[.int .i64 d, .int .i64 p, .bool l, .bool i]) (t := 25) ?_ rfl, hk_cell (i := 1) (cs := #[.int .i64 d, .int .i64 p, .bool l, .bool i]) (t := 25) ?_ rfl, hk_cell (i := 2) (cs := #[.int .i64 d, .int .i64 p, .bool l, .bool i]) (t := 25) ?_ rfl, hk_cell (i := 3) (cs := #[.int .i64 d, .int .i64 p, .bool l, .bool i]) (t := 25) ?_ rfl⟩ <;> (repeat (first | (with_reducible exact Kb5.out) | (with_reducible refine hk_drew ?_) | (with_reducible refine hk_drewN ?_ _) | (with_reducible refine hk_alloc ?_ _) | (with_reducible refine hk_setO ?_ (by omega)))); done)
      | (refine ⟨hk_cell (i := 0) (cs := #[.int .i64 d, .int .i64 p, .bool l, .bool i]) (t := 25) ?_ rfl, hk_cell (i := 1) (cs := #[.int .i64 d, .int .i64 p, .bool l, .bool i]) (t := 25) ?_ rfl, hk_cell (i := 2) (cs := #[.int .i64 d, .int .i64 p, .bool l, .bool i]) (t := 25) ?_ rfl, hk_cell (i := 3) (cs := #[.int .i64 d, .int .i64 p, .bool l, .bool i]) (t := 25) ?_ rfl⟩ <;> (repeat (first | (with_reducible exact Kb4.out) | (with_reducible refine hk_drew ?_) | (with_reducible refine hk_drewN ?_ _) | (with_reducible refine hk_alloc ?_ _) | (with_reducible refine hk_setO ?_ (by omega)))); done)
      | (refine ⟨hk_cell (i := 0) (cs := #[.int .i64 d, .int .i64 p, .bool l, .bool i]) (t := 25) ?_ rfl, hk_cell (i := 1) (cs := #[.int .i64 d, .int .i64 p, .bool l, .bool i]) (t := 25) ?_ rfl, hk_cell (i := 2) (cs := #[.int .i64 d, .int .i64 p, .bool l, .bool i]) (t := 25) ?_ rfl, hk_cell (i := 3) (cs := #[.int .i64 d, .int .i64 p, .bool l, .bool i]) (t := 25) ?_ rfl⟩ <;> (repeat (first | (with_reducible exact Kb3.out) | (with_reducible refine hk_drew ?_) | (with_reducible refine hk_drewN ?_ _) | (with_reducible refine hk_alloc ?_ _) | (with_reducible refine hk_setO ?_ (by omega)))); done))
    ((first
      | (go_at_call 62; (with_reducible refine (Next_any g a n c _ _ ?_).mono ?_); (focus (repeat (first | (with_reducible exact S3.out) | (with_reducible refine Src.drew ?_) | (with_reducible refine Src.drewN ?_ _) | (with_reducible refine Src.alloc ?_ _)))); rintro e w4 ⟨x4, rfl, ⟨-, -, -⟩, hs4, hg4⟩; have Kr4 : Hid (w4.heap[w.heap.size]? = some (.cells #[.int .i64 0, .int .i64 0, .bool false, .bool false] 25 (0, 0))) := (by show _ = _; refine hk_call ?_ hg4 (by omega); repeat (first | (with_reducible exact Kr3.out) | (with_reducible refine hk_drew ?_) | (with_reducible refine hk_drewN ?_ _) | (with_reducible refine hk_alloc ?_ _) | (with_reducible refine hk_setO ?_ (by omega)))); have Kb4 : Hid (w4.heap[w2.heap.size]? = some (.cells #[.int .i64 d, .int .i64 p, .bool l, .bool i] 25 (0, 0))) := (by show _ = _; refine hk_call ?_ hg4 (by omega); repeat (first | (with_reducible exact Kb3.out) | (with_reducible refine hk_drew ?_) | (with_reducible refine hk_drewN ?_ _) | (with_reducible refine hk_alloc ?_ _) | (with_reducible refine hk_setO ?_ (by omega)))); have T4 : Below w.heap.size w w4 := Below.grown (by repeat (first | (with_reducible assumption) | (with_reducible exact Below.refl _ _) | (with_reducible refine Below.drew ?_) | (with_reducible refine blw_al ?_ _) | (with_reducible refine blw_set ?_ (by dsimp only; omega) _))) hg4 (by (try simp only [World.size_alloc, World.size_drew]); omega) (fun q hq => by injection hq with hq; omega); have z4 := T4.size; have y4 := hg4.size; (try simp only [World.size_alloc, World.size_drew] at y4); have S4 := Lib.hid hs4; have cr0 : w4.cell? ⟨w.heap.size, 0, none⟩ = some (.int .i64 0) := hk_cell (i := 0) Kr4.out rfl; have fr0 := hk_free (i := 0) Kr4.out; have cr1 : w4.cell? ⟨w.heap.size, 1, none⟩ = some (.int .i64 0) := hk_cell (i := 1) Kr4.out rfl; have fr1 := hk_free (i := 1) Kr4.out; have cr2 : w4.cell? ⟨w.heap.size, 2, none⟩ = some (.bool false) := hk_cell (i := 2) Kr4.out rfl; have fr2 := hk_free (i := 2) Kr4.out; have cr3 : w4.cell? ⟨w.heap.size, 3, none⟩ = some (.bool false) := hk_cell (i := 3) Kr4.out rfl; have fr3 := hk_free (i := 3) Kr4.out; have cb0 : w4.cell? ⟨w2.heap.size, 0, none⟩ = some (.int .i64 d) := hk_cell (i := 0) Kb4.out rfl; have cb1 : w4.cell? ⟨w2.heap.size, 1, none⟩ = some (.int .i64 p) := hk_cell (i := 1) Kb4.out rfl; have cb2 : w4.cell? ⟨w2.heap.size, 2, none⟩ = some (.bool l) := hk_cell (i := 2) Kb4.out rfl; have cb3 : w4.cell? ⟨w2.heap.size, 3, none⟩ = some (.bool i) := hk_cell (i := 3) Kb4.out rfl; clear hs4 hg4)
      | (go_at_call 61; (with_reducible refine (Pick_any g a n c _ 6 _ _ ?_ (heap_alloc_new _ _) rfl (by omega) (by omega) (by simp) (by (try simp only [World.size_drew]); omega)).mono ?_); (focus (repeat (first | (with_reducible exact S4.out) | (with_reducible refine Src.drew ?_) | (with_reducible refine Src.drewN ?_ _) | (with_reducible refine Src.alloc ?_ _)))); rintro e w5 ⟨x5, rfl, hs5, hg5⟩; have Kr5 : Hid (w5.heap[w.heap.size]? = some (.cells #[.int .i64 0, .int .i64 0, .bool false, .bool false] 25 (0, 0))) := (by show _ = _; refine hk_call ?_ hg5 (by omega); repeat (first | (with_reducible exact Kr4.out) | (with_reducible refine hk_drew ?_) | (with_reducible refine hk_drewN ?_ _) | (with_reducible refine hk_alloc ?_ _) | (with_reducible refine hk_setO ?_ (by omega)))); have Kb5 : Hid (w5.heap[w2.heap.size]? = some (.cells #[.int .i64 d, .int .i64 p, .bool l, .bool i] 25 (0, 0))) := (by show _ = _; refine hk_call ?_ hg5 (by omega); repeat (first | (with_reducible exact Kb4.out) | (with_reducible refine hk_drew ?_) | (with_reducible refine hk_drewN ?_ _) | (with_reducible refine hk_alloc ?_ _) | (with_reducible refine hk_setO ?_ (by omega)))); have T5 : Below w.heap.size w w5 := Below.grown (by repeat (first | (with_reducible assumption) | (with_reducible exact Below.refl _ _) | (with_reducible refine Below.drew ?_) | (with_reducible refine blw_al ?_ _) | (with_reducible refine blw_set ?_ (by dsimp only; omega) _))) hg5 (by (try simp only [World.size_alloc, World.size_drew]); omega) (fun q hq => by injection hq with hq; omega); have z5 := T5.size; have y5 := hg5.size; (try simp only [World.size_alloc, World.size_drew] at y5); have S5 := Lib.hid hs5; have cr0 : w5.cell? ⟨w.heap.size, 0, none⟩ = some (.int .i64 0) := hk_cell (i := 0) Kr5.out rfl; have fr0 := hk_free (i := 0) Kr5.out; have cr1 : w5.cell? ⟨w.heap.size, 1, none⟩ = some (.int .i64 0) := hk_cell (i := 1) Kr5.out rfl; have fr1 := hk_free (i := 1) Kr5.out; have cr2 : w5.cell? ⟨w.heap.size, 2, none⟩ = some (.bool false) := hk_cell (i := 2) Kr5.out rfl; have fr2 := hk_free (i := 2) Kr5.out; have cr3 : w5.cell? ⟨w.heap.size, 3, none⟩ = some (.bool false) := hk_cell (i := 3) Kr5.out rfl; have fr3 := hk_free (i := 3) Kr5.out; have cb0 : w5.cell? ⟨w2.heap.size, 0, none⟩ = some (.int .i64 d) := hk_cell (i := 0) Kb5.out rfl; have cb1 : w5.cell? ⟨w2.heap.size, 1, none⟩ = some (.int .i64 p) := hk_cell (i := 1) Kb5.out rfl; have cb2 : w5.cell? ⟨w2.heap.size, 2, none⟩ = some (.bool l) := hk_cell (i := 2) Kb5.out rfl; have cb3 : w5.cell? ⟨w2.heap.size, 3, none⟩ = some (.bool i) := hk_cell (i := 3) Kb5.out rfl; clear hs5 hg5)
      | fail))
  all_goals
    go_wp2
    refine bodyPost_ret (v := .tuple #[.agg #[.int .i64 d, .int .i64 p, .bool l, .bool i], .int .i64 x5]) (by simp [results, Try.results36, go_sem, *]) rfl ⟨d, p, l, i, x5, rfl, (by repeat (first | (with_reducible assumption) | (with_reducible exact Below.refl _ _) | (with_reducible refine Below.drew ?_) | (with_reducible refine blw_al ?_ _) | (with_reducible refine blw_set ?_ (by dsimp only; omega) _)))⟩

end Go.Proofs.Ytoaacipgphoiaaa
