/- Contract of the draw of two brakes. -/
import Derived.Test.YtfgokehoanlobaaDrwN
set_option linter.unusedSimpArgs false
set_option linter.unusedVariables false
namespace Go.Proofs.Ytfgokehoanlobaa
open Go.RowKit

theorem grown_ofDrew {w w' : World} {row : Option Nat} (h : w.drew.grownBy w' row) : w.grownBy w' row := ⟨h.os, h.tape, h.output, h.size, h.block⟩
set_option maxRecDepth 100000 in
set_option maxHeartbeats 4000000 in
theorem DrawCompareBrakes_any (a : Option Addr) (n c : Nat) (w : World) (h : RdB w w.heap.size a n) (hn : n ≤ 4096) :
    Calls Try.prog 36 #[.slice a n c] w fun e w' => ∃ v0 v1 v2 v3 v4 v5 v6 v7 v8 : Int, e = .returned (.tuple #[.agg #[.int .i64 v0, .int .i64 v1, .int .i64 v2, .int .i64 v3], .agg #[.int .i64 v4, .int .i64 v5, .int .i64 v6, .int .i64 v7], .int .i64 v8]) ∧ Below w.heap.size w w' := by
  have HB0 := Lib.hid h
  have T0 := Below.refl w.heap.size w
  clear h
  go_enter Try.func36, Try.ntmps36
  go_wp2_with fail
  (with_reducible refine (From_any a n c _ (rdb_alloc (rdb_alloc HB0.out _) _) hn).mono ?_)
  rintro e w1 ⟨g, rfl, hs1, hgw, hb1⟩
  have T1 : Below w.heap.size w w1 := Below.trans (by repeat (first | (with_reducible assumption) | (with_reducible exact Below.refl _ _) | (with_reducible refine Below.drew ?_) | (with_reducible refine blw_al ?_ _) | (with_reducible refine blw_set ?_ (by dsimp only; omega) _))) (hb1.mono (by (try simp only [World.size_alloc]); omega))
  have z1 := T1.size
  have zb1 := hb1.size
  (try simp only [World.size_alloc] at hgw zb1)
  have S1 := Lib.hid hs1
  have Kr1 : Hid (w1.heap[w.heap.size]? = some (.cells #[.int .i64 0, .int .i64 0, .int .i64 0, .int .i64 0] 25 (0, 0))) := hk_below (hk_alloc (heap_alloc_new _ _) _) hb1
  have Kq1 : Hid (w1.heap[w.heap.size + 1]? = some (.cells #[.int .i64 0, .int .i64 0, .int .i64 0, .int .i64 0] 25 (0, 0))) := hk_below (by simpa using heap_alloc_new (w.alloc _) _) hb1
  have hg1 := S1.out.lt
  clear hs1 hb1
  go_wp2_with fail
  (with_reducible refine (Draw13_any g a n c _ S1.out).mono ?_)
  rintro e w2 ⟨p0, p1, p2, p3, rfl, hs2, hg2⟩
  have Kr2 : Hid (w2.heap[w.heap.size]? = some (.cells #[.int .i64 0, .int .i64 0, .int .i64 0, .int .i64 0] 25 (0, 0))) := hk_call Kr1.out hg2 (by omega)
  have Kq2 : Hid (w2.heap[w.heap.size + 1]? = some (.cells #[.int .i64 0, .int .i64 0, .int .i64 0, .int .i64 0] 25 (0, 0))) := hk_call Kq1.out hg2 (by omega)
  have T2 : Below w.heap.size w w2 := Below.grown (by repeat (first | (with_reducible assumption) | (with_reducible exact Below.refl _ _) | (with_reducible refine Below.drew ?_) | (with_reducible refine blw_al ?_ _) | (with_reducible refine blw_set ?_ (by dsimp only; omega) _))) hg2 (by (try simp only [World.size_alloc]); omega) (fun q hq => by injection hq with hq; omega)
  have z2 := T2.size
  have y2 := hg2.size
  (try simp only [World.size_alloc] at y2)
  have S2 := Lib.hid hs2
  clear hs2 hg2 S1 Kr1 Kq1
  go_wp2_with fail
  (with_reducible refine (Draw13_any g a n c _ (S2.out.alloc _)).mono ?_)
  rintro e w3 ⟨t0, t1, t2, t3, rfl, hs3, hg3⟩
  have Kr3 : Hid (w3.heap[w.heap.size]? = some (.cells #[.int .i64 0, .int .i64 0, .int .i64 0, .int .i64 0] 25 (0, 0))) := hk_call (hk_alloc Kr2.out _) hg3 (by omega)
  have Kq3 : Hid (w3.heap[w.heap.size + 1]? = some (.cells #[.int .i64 0, .int .i64 0, .int .i64 0, .int .i64 0] 25 (0, 0))) := hk_call (hk_alloc Kq2.out _) hg3 (by omega)
  have Kb3 : Hid (w3.heap[w2.heap.size]? = some (.cells #[.int .i64 p0, .int .i64 p1, .int .i64 p2, .int .i64 p3] 25 (0, 0))) := hk_call (heap_alloc_new _ _) hg3 (by omega)
  have T3 : Below w.heap.size w w3 := Below.grown (by repeat (first | (with_reducible assumption) | (with_reducible exact Below.refl _ _) | (with_reducible refine Below.drew ?_) | (with_reducible refine blw_al ?_ _) | (with_reducible refine blw_set ?_ (by dsimp only; omega) _))) hg3 (by (try simp only [World.size_alloc]); omega) (fun q hq => by injection hq with hq; omega)
  have z3 := T3.size
  have y3 := hg3.size
  (try simp only [World.size_alloc] at y3)
  have S3 := Lib.hid hs3
  clear hs3 hg3 S2 Kr2 Kq2
  have hlb := heap_lt Kb3.out
  go_wp2_with fail
  (with_reducible refine (Next_any g a n c _ _ (S3.out.alloc _)).mono ?_)
  rintro e w4 ⟨x4, rfl, ⟨-, -, -⟩, hs4, hg4⟩
  have Kr4 : Hid (w4.heap[w.heap.size]? = some (.cells #[.int .i64 0, .int .i64 0, .int .i64 0, .int .i64 0] 25 (0, 0))) := hk_call (hk_alloc Kr3.out _) hg4 (by omega)
  have Kq4 : Hid (w4.heap[w.heap.size + 1]? = some (.cells #[.int .i64 0, .int .i64 0, .int .i64 0, .int .i64 0] 25 (0, 0))) := hk_call (hk_alloc Kq3.out _) hg4 (by omega)
  have Kb4 : Hid (w4.heap[w2.heap.size]? = some (.cells #[.int .i64 p0, .int .i64 p1, .int .i64 p2, .int .i64 p3] 25 (0, 0))) := hk_call (hk_alloc Kb3.out _) hg4 (by omega)
  have Ke4 : Hid (w4.heap[w3.heap.size]? = some (.cells #[.int .i64 t0, .int .i64 t1, .int .i64 t2, .int .i64 t3] 25 (0, 0))) := hk_call (heap_alloc_new _ _) hg4 (by omega)
  have T4 : Below w.heap.size w w4 := Below.grown (by repeat (first | (with_reducible assumption) | (with_reducible exact Below.refl _ _) | (with_reducible refine Below.drew ?_) | (with_reducible refine blw_al ?_ _) | (with_reducible refine blw_set ?_ (by dsimp only; omega) _))) hg4 (by (try simp only [World.size_alloc]); omega) (fun q hq => by injection hq with hq; omega)
  have z4 := T4.size
  have y4 := hg4.size
  (try simp only [World.size_alloc] at y4)
  have S4 := Lib.hid hs4
  clear hs4 hg4 S3 Kr3 Kq3 Kb3
  have qg1 := S4.out.lt
  by_cases hx : x4 = 0
  · skip
    subst hx
    have cb0 := hk_cell (i := 0) Kb4.out rfl
    have fb0 := hk_free (i := 0) Kb4.out
    have cb1 := hk_cell (i := 1) Kb4.out rfl
    have fb1 := hk_free (i := 1) Kb4.out
    have cb2 := hk_cell (i := 2) Kb4.out rfl
    have fb2 := hk_free (i := 2) Kb4.out
    have cb3 := hk_cell (i := 3) Kb4.out rfl
    have fb3 := hk_free (i := 3) Kb4.out
    have ce0 := hk_cell (i := 0) Ke4.out rfl
    have fe0 := hk_free (i := 0) Ke4.out
    have ce1 := hk_cell (i := 1) Ke4.out rfl
    have fe1 := hk_free (i := 1) Ke4.out
    have ce2 := hk_cell (i := 2) Ke4.out rfl
    have fe2 := hk_free (i := 2) Ke4.out
    have ce3 := hk_cell (i := 3) Ke4.out rfl
    have fe3 := hk_free (i := 3) Ke4.out
    go_wp2
    have Kr5 : Hid ((World.setCell (World.setCell (World.setCell (World.setCell (World.setCell w4 ⟨w3.heap.size, 0, none⟩ (.int .i64 p0)) ⟨w3.heap.size, 1, none⟩ (.int .i64 p1)) ⟨w3.heap.size, 2, none⟩ (.int .i64 p2)) ⟨w3.heap.size, 3, none⟩ (.int .i64 p3)) ⟨w3.heap.size, 2, none⟩ (.int .i64 1)).heap[w.heap.size]? = some (.cells #[.int .i64 0, .int .i64 0, .int .i64 0, .int .i64 0] 25 (0, 0))) := (hk_setO (hk_setO (hk_setO (hk_setO (hk_setO Kr4.out (by omega)) (by omega)) (by omega)) (by omega)) (by omega))
    have Kq5 : Hid ((World.setCell (World.setCell (World.setCell (World.setCell (World.setCell w4 ⟨w3.heap.size, 0, none⟩ (.int .i64 p0)) ⟨w3.heap.size, 1, none⟩ (.int .i64 p1)) ⟨w3.heap.size, 2, none⟩ (.int .i64 p2)) ⟨w3.heap.size, 3, none⟩ (.int .i64 p3)) ⟨w3.heap.size, 2, none⟩ (.int .i64 1)).heap[w.heap.size + 1]? = some (.cells #[.int .i64 0, .int .i64 0, .int .i64 0, .int .i64 0] 25 (0, 0))) := (hk_setO (hk_setO (hk_setO (hk_setO (hk_setO Kq4.out (by omega)) (by omega)) (by omega)) (by omega)) (by omega))
    have Kb5 : Hid ((World.setCell (World.setCell (World.setCell (World.setCell (World.setCell w4 ⟨w3.heap.size, 0, none⟩ (.int .i64 p0)) ⟨w3.heap.size, 1, none⟩ (.int .i64 p1)) ⟨w3.heap.size, 2, none⟩ (.int .i64 p2)) ⟨w3.heap.size, 3, none⟩ (.int .i64 p3)) ⟨w3.heap.size, 2, none⟩ (.int .i64 1)).heap[w2.heap.size]? = some (.cells #[.int .i64 p0, .int .i64 p1, .int .i64 p2, .int .i64 p3] 25 (0, 0))) := (hk_setO (hk_setO (hk_setO (hk_setO (hk_setO Kb4.out (by omega)) (by omega)) (by omega)) (by omega)) (by omega))
    have Ke5 : Hid ((World.setCell (World.setCell (World.setCell (World.setCell (World.setCell w4 ⟨w3.heap.size, 0, none⟩ (.int .i64 p0)) ⟨w3.heap.size, 1, none⟩ (.int .i64 p1)) ⟨w3.heap.size, 2, none⟩ (.int .i64 p2)) ⟨w3.heap.size, 3, none⟩ (.int .i64 p3)) ⟨w3.heap.size, 2, none⟩ (.int .i64 1)).heap[w3.heap.size]? = some (.cells #[.int .i64 p0, .int .i64 p1, .int .i64 1, .int .i64 p3] 25 (0, 0))) := (hk_set (hk_set (hk_set (hk_set (hk_set Ke4.out)))))
    have S5 := Lib.hid (Src.set (b := w3.heap.size) (Src.set (b := w3.heap.size) (Src.set (b := w3.heap.size) (Src.set (b := w3.heap.size) (Src.set (b := w3.heap.size) S4.out (by omega) 0 (.int .i64 p0)) (by omega) 1 (.int .i64 p1)) (by omega) 2 (.int .i64 p2)) (by omega) 3 (.int .i64 p3)) (by omega) 2 (.int .i64 1))
    have T5 : Below w.heap.size w (World.setCell (World.setCell (World.setCell (World.setCell (World.setCell w4 ⟨w3.heap.size, 0, none⟩ (.int .i64 p0)) ⟨w3.heap.size, 1, none⟩ (.int .i64 p1)) ⟨w3.heap.size, 2, none⟩ (.int .i64 p2)) ⟨w3.heap.size, 3, none⟩ (.int .i64 p3)) ⟨w3.heap.size, 2, none⟩ (.int .i64 1)) := (by repeat (first | (with_reducible assumption) | (with_reducible exact Below.refl _ _) | (with_reducible refine Below.drew ?_) | (with_reducible refine blw_al ?_ _) | (with_reducible refine blw_set ?_ (by dsimp only; omega) _)))
    have z5 := T5.size
    have y5 : w4.heap.size ≤ (World.setCell (World.setCell (World.setCell (World.setCell (World.setCell w4 ⟨w3.heap.size, 0, none⟩ (.int .i64 p0)) ⟨w3.heap.size, 1, none⟩ (.int .i64 p1)) ⟨w3.heap.size, 2, none⟩ (.int .i64 p2)) ⟨w3.heap.size, 3, none⟩ (.int .i64 p3)) ⟨w3.heap.size, 2, none⟩ (.int .i64 1)).heap.size := by simp [World.setCell]
    generalize (World.setCell (World.setCell (World.setCell (World.setCell (World.setCell w4 ⟨w3.heap.size, 0, none⟩ (.int .i64 p0)) ⟨w3.heap.size, 1, none⟩ (.int .i64 p1)) ⟨w3.heap.size, 2, none⟩ (.int .i64 p2)) ⟨w3.heap.size, 3, none⟩ (.int .i64 p3)) ⟨w3.heap.size, 2, none⟩ (.int .i64 1)) = w5 at *
    clear S4 Kr4 Kq4 Kb4 Ke4
    have cr0 : w5.cell? ⟨w.heap.size, 0, none⟩ = some (.int .i64 0) := hk_cell (i := 0) Kr5.out rfl
    have fr0 := hk_free (i := 0) Kr5.out
    have cr1 : w5.cell? ⟨w.heap.size, 1, none⟩ = some (.int .i64 0) := hk_cell (i := 1) Kr5.out rfl
    have fr1 := hk_free (i := 1) Kr5.out
    have cr2 : w5.cell? ⟨w.heap.size, 2, none⟩ = some (.int .i64 0) := hk_cell (i := 2) Kr5.out rfl
    have fr2 := hk_free (i := 2) Kr5.out
    have cr3 : w5.cell? ⟨w.heap.size, 3, none⟩ = some (.int .i64 0) := hk_cell (i := 3) Kr5.out rfl
    have fr3 := hk_free (i := 3) Kr5.out
    have cq0 : w5.cell? ⟨w.heap.size + 1, 0, none⟩ = some (.int .i64 0) := hk_cell (i := 0) Kq5.out rfl
    have fq0 := hk_free (i := 0) Kq5.out
    have cq1 : w5.cell? ⟨w.heap.size + 1, 1, none⟩ = some (.int .i64 0) := hk_cell (i := 1) Kq5.out rfl
    have fq1 := hk_free (i := 1) Kq5.out
    have cq2 : w5.cell? ⟨w.heap.size + 1, 2, none⟩ = some (.int .i64 0) := hk_cell (i := 2) Kq5.out rfl
    have fq2 := hk_free (i := 2) Kq5.out
    have cq3 : w5.cell? ⟨w.heap.size + 1, 3, none⟩ = some (.int .i64 0) := hk_cell (i := 3) Kq5.out rfl
    have fq3 := hk_free (i := 3) Kq5.out
    have cb0 : w5.cell? ⟨w2.heap.size, 0, none⟩ = some (.int .i64 p0) := hk_cell (i := 0) Kb5.out rfl
    have cb1 : w5.cell? ⟨w2.heap.size, 1, none⟩ = some (.int .i64 p1) := hk_cell (i := 1) Kb5.out rfl
    have cb2 : w5.cell? ⟨w2.heap.size, 2, none⟩ = some (.int .i64 p2) := hk_cell (i := 2) Kb5.out rfl
    have cb3 : w5.cell? ⟨w2.heap.size, 3, none⟩ = some (.int .i64 p3) := hk_cell (i := 3) Kb5.out rfl
    have ce0 : w5.cell? ⟨w3.heap.size, 0, none⟩ = some (.int .i64 p0) := hk_cell (i := 0) Ke5.out rfl
    have ce1 : w5.cell? ⟨w3.heap.size, 1, none⟩ = some (.int .i64 p1) := hk_cell (i := 1) Ke5.out rfl
    have ce2 : w5.cell? ⟨w3.heap.size, 2, none⟩ = some (.int .i64 1) := hk_cell (i := 2) Ke5.out rfl
    have ce3 : w5.cell? ⟨w3.heap.size, 3, none⟩ = some (.int .i64 p3) := hk_cell (i := 3) Ke5.out rfl
    have hner : w.heap.size ≠ g := by omega
    have hneq : w.heap.size + 1 ≠ g := by omega
    have hneb : w2.heap.size ≠ g := by omega
    have hnee : w3.heap.size ≠ g := by omega
    have hTz : w.heap.size ≤ w5.heap.size := by omega
    have hgz : ∀ q, some g = some q → w.heap.size ≤ q := fun q hq => by injection hq with hq; omega
    have KP : Hid (∀ W : World, w5.grownBy W (some g) → (W.cell? ⟨w2.heap.size, 0, none⟩ = some (.int .i64 p0) ∧ W.cell? ⟨w2.heap.size, 1, none⟩ = some (.int .i64 p1) ∧ W.cell? ⟨w2.heap.size, 2, none⟩ = some (.int .i64 p2) ∧ W.cell? ⟨w2.heap.size, 3, none⟩ = some (.int .i64 p3) ∧ W.cell? ⟨w3.heap.size, 0, none⟩ = some (.int .i64 p0) ∧ W.cell? ⟨w3.heap.size, 1, none⟩ = some (.int .i64 p1) ∧ W.cell? ⟨w3.heap.size, 2, none⟩ = some (.int .i64 1) ∧ W.cell? ⟨w3.heap.size, 3, none⟩ = some (.int .i64 p3))) := by
      show ∀ W : World, _
      intro W hg
      exact ⟨hk_cell (i := 0) (hk_call Kb5.out hg hneb) rfl, hk_cell (i := 1) (hk_call Kb5.out hg hneb) rfl, hk_cell (i := 2) (hk_call Kb5.out hg hneb) rfl, hk_cell (i := 3) (hk_call Kb5.out hg hneb) rfl, hk_cell (i := 0) (hk_call Ke5.out hg hnee) rfl, hk_cell (i := 1) (hk_call Ke5.out hg hnee) rfl, hk_cell (i := 2) (hk_call Ke5.out hg hnee) rfl, hk_cell (i := 3) (hk_call Ke5.out hg hnee) rfl⟩
    go_wp2
    go_region_held3 (fun W => W.cell? ⟨w2.heap.size, 0, none⟩ = some (.int .i64 p0) ∧ W.cell? ⟨w2.heap.size, 1, none⟩ = some (.int .i64 p1) ∧ W.cell? ⟨w2.heap.size, 2, none⟩ = some (.int .i64 p2) ∧ W.cell? ⟨w2.heap.size, 3, none⟩ = some (.int .i64 p3) ∧ W.cell? ⟨w3.heap.size, 0, none⟩ = some (.int .i64 p0) ∧ W.cell? ⟨w3.heap.size, 1, none⟩ = some (.int .i64 p1) ∧ W.cell? ⟨w3.heap.size, 2, none⟩ = some (.int .i64 1) ∧ W.cell? ⟨w3.heap.size, 3, none⟩ = some (.int .i64 p3))
      (first | (with_reducible exact ⟨cb0, cb1, cb2, cb3, ce0, ce1, ce2, ce3⟩) | (with_reducible exact KP.out _ hg6) | (refine ⟨hk_cell (i := 0) (cs := #[.int .i64 p0, .int .i64 p1, .int .i64 p2, .int .i64 p3]) (t := 25) ?_ rfl, hk_cell (i := 1) (cs := #[.int .i64 p0, .int .i64 p1, .int .i64 p2, .int .i64 p3]) (t := 25) ?_ rfl, hk_cell (i := 2) (cs := #[.int .i64 p0, .int .i64 p1, .int .i64 p2, .int .i64 p3]) (t := 25) ?_ rfl, hk_cell (i := 3) (cs := #[.int .i64 p0, .int .i64 p1, .int .i64 p2, .int .i64 p3]) (t := 25) ?_ rfl, hk_cell (i := 0) (cs := #[.int .i64 p0, .int .i64 p1, .int .i64 1, .int .i64 p3]) (t := 25) ?_ rfl, hk_cell (i := 1) (cs := #[.int .i64 p0, .int .i64 p1, .int .i64 1, .int .i64 p3]) (t := 25) ?_ rfl, hk_cell (i := 2) (cs := #[.int .i64 p0, .int .i64 p1, .int .i64 1, .int .i64 p3]) (t := 25) ?_ rfl, hk_cell (i := 3) (cs := #[.int .i64 p0, .int .i64 p1, .int .i64 1, .int .i64 p3]) (t := 25) ?_ rfl⟩ <;> (repeat (first | (with_reducible exact Kb6.out) | (with_reducible exact Ke6.out) | (with_reducible refine hk_drew ?_) | (with_reducible refine hk_setO ?_ (by omega)))); done) | (refine ⟨hk_cell (i := 0) (cs := #[.int .i64 p0, .int .i64 p1, .int .i64 p2, .int .i64 p3]) (t := 25) ?_ rfl, hk_cell (i := 1) (cs := #[.int .i64 p0, .int .i64 p1, .int .i64 p2, .int .i64 p3]) (t := 25) ?_ rfl, hk_cell (i := 2) (cs := #[.int .i64 p0, .int .i64 p1, .int .i64 p2, .int .i64 p3]) (t := 25) ?_ rfl, hk_cell (i := 3) (cs := #[.int .i64 p0, .int .i64 p1, .int .i64 p2, .int .i64 p3]) (t := 25) ?_ rfl, hk_cell (i := 0) (cs := #[.int .i64 p0, .int .i64 p1, .int .i64 1, .int .i64 p3]) (t := 25) ?_ rfl, hk_cell (i := 1) (cs := #[.int .i64 p0, .int .i64 p1, .int .i64 1, .int .i64 p3]) (t := 25) ?_ rfl, hk_cell (i := 2) (cs := #[.int .i64 p0, .int .i64 p1, .int .i64 1, .int .i64 p3]) (t := 25) ?_ rfl, hk_cell (i := 3) (cs := #[.int .i64 p0, .int .i64 p1, .int .i64 1, .int .i64 p3]) (t := 25) ?_ rfl⟩ <;> (repeat (first | (with_reducible exact Kb5.out) | (with_reducible exact Ke5.out) | (with_reducible refine hk_drew ?_) | (with_reducible refine hk_setO ?_ (by omega)))); done))
      ((first
        | (go_at_call 61; (with_reducible refine (Force13_any g a n c _ ?_).mono ?_); (first | exact S5.out | exact S5.out.drew); rintro e w6 ⟨x6, rfl, hs6, hgx⟩; have hg6 : w5.grownBy w6 (some g) := (by first | exact hgx | exact grown_ofDrew hgx); have S6 := Lib.hid hs6; clear hs6 hgx; have Kr6 : Hid (w6.heap[w.heap.size]? = some (.cells #[.int .i64 0, .int .i64 0, .int .i64 0, .int .i64 0] 25 (0, 0))) := hk_call Kr5.out hg6 hner; have Kq6 : Hid (w6.heap[w.heap.size + 1]? = some (.cells #[.int .i64 0, .int .i64 0, .int .i64 0, .int .i64 0] 25 (0, 0))) := hk_call Kq5.out hg6 hneq; have Kb6 : Hid (w6.heap[w2.heap.size]? = some (.cells #[.int .i64 p0, .int .i64 p1, .int .i64 p2, .int .i64 p3] 25 (0, 0))) := hk_call Kb5.out hg6 hneb; have Ke6 : Hid (w6.heap[w3.heap.size]? = some (.cells #[.int .i64 p0, .int .i64 p1, .int .i64 1, .int .i64 p3] 25 (0, 0))) := hk_call Ke5.out hg6 hnee; have T6 : Below w.heap.size w w6 := Below.grown T5 hg6 hTz hgz; have z6 := T6.size; have cr0 : w6.cell? ⟨w.heap.size, 0, none⟩ = some (.int .i64 0) := hk_cell (i := 0) Kr6.out rfl; have fr0 := hk_free (i := 0) Kr6.out; have cr1 : w6.cell? ⟨w.heap.size, 1, none⟩ = some (.int .i64 0) := hk_cell (i := 1) Kr6.out rfl; have fr1 := hk_free (i := 1) Kr6.out; have cr2 : w6.cell? ⟨w.heap.size, 2, none⟩ = some (.int .i64 0) := hk_cell (i := 2) Kr6.out rfl; have fr2 := hk_free (i := 2) Kr6.out; have cr3 : w6.cell? ⟨w.heap.size, 3, none⟩ = some (.int .i64 0) := hk_cell (i := 3) Kr6.out rfl; have fr3 := hk_free (i := 3) Kr6.out; have cq0 : w6.cell? ⟨w.heap.size + 1, 0, none⟩ = some (.int .i64 0) := hk_cell (i := 0) Kq6.out rfl; have fq0 := hk_free (i := 0) Kq6.out; have cq1 : w6.cell? ⟨w.heap.size + 1, 1, none⟩ = some (.int .i64 0) := hk_cell (i := 1) Kq6.out rfl; have fq1 := hk_free (i := 1) Kq6.out; have cq2 : w6.cell? ⟨w.heap.size + 1, 2, none⟩ = some (.int .i64 0) := hk_cell (i := 2) Kq6.out rfl; have fq2 := hk_free (i := 2) Kq6.out; have cq3 : w6.cell? ⟨w.heap.size + 1, 3, none⟩ = some (.int .i64 0) := hk_cell (i := 3) Kq6.out rfl; have fq3 := hk_free (i := 3) Kq6.out; have cb0 : w6.cell? ⟨w2.heap.size, 0, none⟩ = some (.int .i64 p0) := hk_cell (i := 0) Kb6.out rfl; have cb1 : w6.cell? ⟨w2.heap.size, 1, none⟩ = some (.int .i64 p1) := hk_cell (i := 1) Kb6.out rfl; have cb2 : w6.cell? ⟨w2.heap.size, 2, none⟩ = some (.int .i64 p2) := hk_cell (i := 2) Kb6.out rfl; have cb3 : w6.cell? ⟨w2.heap.size, 3, none⟩ = some (.int .i64 p3) := hk_cell (i := 3) Kb6.out rfl; have ce0 : w6.cell? ⟨w3.heap.size, 0, none⟩ = some (.int .i64 p0) := hk_cell (i := 0) Ke6.out rfl; have ce1 : w6.cell? ⟨w3.heap.size, 1, none⟩ = some (.int .i64 p1) := hk_cell (i := 1) Ke6.out rfl; have ce2 : w6.cell? ⟨w3.heap.size, 2, none⟩ = some (.int .i64 1) := hk_cell (i := 2) Ke6.out rfl; have ce3 : w6.cell? ⟨w3.heap.size, 3, none⟩ = some (.int .i64 p3) := hk_cell (i := 3) Ke6.out rfl)
        | fail))
    all_goals
      go_wp2
      refine bodyPost_ret (v := .tuple #[.agg #[.int .i64 p0, .int .i64 p1, .int .i64 p2, .int .i64 p3], .agg #[.int .i64 p0, .int .i64 p1, .int .i64 1, .int .i64 p3], .int .i64 x6]) (by simp [results, Try.results36, go_sem, *]) rfl ⟨p0, p1, p2, p3, p0, p1, 1, p3, x6, rfl, (by repeat (first | (with_reducible assumption) | (with_reducible exact Below.refl _ _) | (with_reducible refine Below.drew ?_) | (with_reducible refine blw_al ?_ _) | (with_reducible refine blw_set ?_ (by dsimp only; omega) _)))⟩
  · skip
    have nx : (x4 == 0) = false := by rw [beq_eq_false_iff_ne]; exact hx
    skip
    have cr0 : w4.cell? ⟨w.heap.size, 0, none⟩ = some (.int .i64 0) := hk_cell (i := 0) Kr4.out rfl
    have fr0 := hk_free (i := 0) Kr4.out
    have cr1 : w4.cell? ⟨w.heap.size, 1, none⟩ = some (.int .i64 0) := hk_cell (i := 1) Kr4.out rfl
    have fr1 := hk_free (i := 1) Kr4.out
    have cr2 : w4.cell? ⟨w.heap.size, 2, none⟩ = some (.int .i64 0) := hk_cell (i := 2) Kr4.out rfl
    have fr2 := hk_free (i := 2) Kr4.out
    have cr3 : w4.cell? ⟨w.heap.size, 3, none⟩ = some (.int .i64 0) := hk_cell (i := 3) Kr4.out rfl
    have fr3 := hk_free (i := 3) Kr4.out
    have cq0 : w4.cell? ⟨w.heap.size + 1, 0, none⟩ = some (.int .i64 0) := hk_cell (i := 0) Kq4.out rfl
    have fq0 := hk_free (i := 0) Kq4.out
    have cq1 : w4.cell? ⟨w.heap.size + 1, 1, none⟩ = some (.int .i64 0) := hk_cell (i := 1) Kq4.out rfl
    have fq1 := hk_free (i := 1) Kq4.out
    have cq2 : w4.cell? ⟨w.heap.size + 1, 2, none⟩ = some (.int .i64 0) := hk_cell (i := 2) Kq4.out rfl
    have fq2 := hk_free (i := 2) Kq4.out
    have cq3 : w4.cell? ⟨w.heap.size + 1, 3, none⟩ = some (.int .i64 0) := hk_cell (i := 3) Kq4.out rfl
    have fq3 := hk_free (i := 3) Kq4.out
    have cb0 : w4.cell? ⟨w2.heap.size, 0, none⟩ = some (.int .i64 p0) := hk_cell (i := 0) Kb4.out rfl
    have cb1 : w4.cell? ⟨w2.heap.size, 1, none⟩ = some (.int .i64 p1) := hk_cell (i := 1) Kb4.out rfl
    have cb2 : w4.cell? ⟨w2.heap.size, 2, none⟩ = some (.int .i64 p2) := hk_cell (i := 2) Kb4.out rfl
    have cb3 : w4.cell? ⟨w2.heap.size, 3, none⟩ = some (.int .i64 p3) := hk_cell (i := 3) Kb4.out rfl
    have ce0 : w4.cell? ⟨w3.heap.size, 0, none⟩ = some (.int .i64 t0) := hk_cell (i := 0) Ke4.out rfl
    have ce1 : w4.cell? ⟨w3.heap.size, 1, none⟩ = some (.int .i64 t1) := hk_cell (i := 1) Ke4.out rfl
    have ce2 : w4.cell? ⟨w3.heap.size, 2, none⟩ = some (.int .i64 t2) := hk_cell (i := 2) Ke4.out rfl
    have ce3 : w4.cell? ⟨w3.heap.size, 3, none⟩ = some (.int .i64 t3) := hk_cell (i := 3) Ke4.out rfl
    have hner : w.heap.size ≠ g := by omega
    have hneq : w.heap.size + 1 ≠ g := by omega
    have hneb : w2.heap.size ≠ g := by omega
    have hnee : w3.heap.size ≠ g := by omega
    have hTz : w.heap.size ≤ w4.heap.size := by omega
    have hgz : ∀ q, some g = some q → w.heap.size ≤ q := fun q hq => by injection hq with hq; omega
    have KP : Hid (∀ W : World, w4.grownBy W (some g) → (W.cell? ⟨w2.heap.size, 0, none⟩ = some (.int .i64 p0) ∧ W.cell? ⟨w2.heap.size, 1, none⟩ = some (.int .i64 p1) ∧ W.cell? ⟨w2.heap.size, 2, none⟩ = some (.int .i64 p2) ∧ W.cell? ⟨w2.heap.size, 3, none⟩ = some (.int .i64 p3) ∧ W.cell? ⟨w3.heap.size, 0, none⟩ = some (.int .i64 t0) ∧ W.cell? ⟨w3.heap.size, 1, none⟩ = some (.int .i64 t1) ∧ W.cell? ⟨w3.heap.size, 2, none⟩ = some (.int .i64 t2) ∧ W.cell? ⟨w3.heap.size, 3, none⟩ = some (.int .i64 t3))) := by
      show ∀ W : World, _
      intro W hg
      exact ⟨hk_cell (i := 0) (hk_call Kb4.out hg hneb) rfl, hk_cell (i := 1) (hk_call Kb4.out hg hneb) rfl, hk_cell (i := 2) (hk_call Kb4.out hg hneb) rfl, hk_cell (i := 3) (hk_call Kb4.out hg hneb) rfl, hk_cell (i := 0) (hk_call Ke4.out hg hnee) rfl, hk_cell (i := 1) (hk_call Ke4.out hg hnee) rfl, hk_cell (i := 2) (hk_call Ke4.out hg hnee) rfl, hk_cell (i := 3) (hk_call Ke4.out hg hnee) rfl⟩
    go_wp2
    go_region_held3 (fun W => W.cell? ⟨w2.heap.size, 0, none⟩ = some (.int .i64 p0) ∧ W.cell? ⟨w2.heap.size, 1, none⟩ = some (.int .i64 p1) ∧ W.cell? ⟨w2.heap.size, 2, none⟩ = some (.int .i64 p2) ∧ W.cell? ⟨w2.heap.size, 3, none⟩ = some (.int .i64 p3) ∧ W.cell? ⟨w3.heap.size, 0, none⟩ = some (.int .i64 t0) ∧ W.cell? ⟨w3.heap.size, 1, none⟩ = some (.int .i64 t1) ∧ W.cell? ⟨w3.heap.size, 2, none⟩ = some (.int .i64 t2) ∧ W.cell? ⟨w3.heap.size, 3, none⟩ = some (.int .i64 t3))
      (first | (with_reducible exact ⟨cb0, cb1, cb2, cb3, ce0, ce1, ce2, ce3⟩) | (with_reducible exact KP.out _ hg5) | (refine ⟨hk_cell (i := 0) (cs := #[.int .i64 p0, .int .i64 p1, .int .i64 p2, .int .i64 p3]) (t := 25) ?_ rfl, hk_cell (i := 1) (cs := #[.int .i64 p0, .int .i64 p1, .int .i64 p2, .int .i64 p3]) (t := 25) ?_ rfl, hk_cell (i := 2) (cs := #[.int .i64 p0, .int .i64 p1, .int .i64 p2, .int .i64 p3]) (t := 25) ?_ rfl, hk_cell (i := 3) (cs := #[.int .i64 p0, .int .i64 p1, .int .i64 p2, .int .i64 p3]) (t := 25) ?_ rfl, hk_cell (i := 0) (cs := #[.int .i64 t0, .int .i64 t1, .int .i64 t2, .int .i64 t3]) (t := 25) ?_ rfl, hk_cell (i := 1) (cs := #[.int .i64 t0, .int .i64 t1, .int .i64 t2, .int .i64 t3]) (t := 25) ?_ rfl, hk_cell (i := 2) (cs := #[.int .i64 t0, .int .i64 t1, .int .i64 t2, .int .i64 t3]) (t := 25) ?_ rfl, hk_cell (i := 3) (cs := #[.int .i64 t0, .int .i64 t1, .int .i64 t2, .int .i64 t3]) (t := 25) ?_ rfl⟩ <;> (repeat (first | (with_reducible exact Kb5.out) | (with_reducible exact Ke5.out) | (with_reducible refine hk_drew ?_) | (with_reducible refine hk_setO ?_ (by omega)))); done) | (refine ⟨hk_cell (i := 0) (cs := #[.int .i64 p0, .int .i64 p1, .int .i64 p2, .int .i64 p3]) (t := 25) ?_ rfl, hk_cell (i := 1) (cs := #[.int .i64 p0, .int .i64 p1, .int .i64 p2, .int .i64 p3]) (t := 25) ?_ rfl, hk_cell (i := 2) (cs := #[.int .i64 p0, .int .i64 p1, .int .i64 p2, .int .i64 p3]) (t := 25) ?_ rfl, hk_cell (i := 3) (cs := #[.int .i64 p0, .int .i64 p1, .int .i64 p2, .int .i64 p3]) (t := 25) ?_ rfl, hk_cell (i := 0) (cs := #[.int .i64 t0, .int .i64 t1, .int .i64 t2, .int .i64 t3]) (t := 25) ?_ rfl, hk_cell (i := 1) (cs := #[.int .i64 t0, .int .i64 t1, .int .i64 t2, .int .i64 t3]) (t := 25) ?_ rfl, hk_cell (i := 2) (cs := #[.int .i64 t0, .int .i64 t1, .int .i64 t2, .int .i64 t3]) (t := 25) ?_ rfl, hk_cell (i := 3) (cs := #[.int .i64 t0, .int .i64 t1, .int .i64 t2, .int .i64 t3]) (t := 25) ?_ rfl⟩ <;> (repeat (first | (with_reducible exact Kb4.out) | (with_reducible exact Ke4.out) | (with_reducible refine hk_drew ?_) | (with_reducible refine hk_setO ?_ (by omega)))); done))
      ((first
        | (go_at_call 61; (with_reducible refine (Force13_any g a n c _ ?_).mono ?_); (first | exact S4.out | exact S4.out.drew); rintro e w5 ⟨x5, rfl, hs5, hgx⟩; have hg5 : w4.grownBy w5 (some g) := (by first | exact hgx | exact grown_ofDrew hgx); have S5 := Lib.hid hs5; clear hs5 hgx; have Kr5 : Hid (w5.heap[w.heap.size]? = some (.cells #[.int .i64 0, .int .i64 0, .int .i64 0, .int .i64 0] 25 (0, 0))) := hk_call Kr4.out hg5 hner; have Kq5 : Hid (w5.heap[w.heap.size + 1]? = some (.cells #[.int .i64 0, .int .i64 0, .int .i64 0, .int .i64 0] 25 (0, 0))) := hk_call Kq4.out hg5 hneq; have Kb5 : Hid (w5.heap[w2.heap.size]? = some (.cells #[.int .i64 p0, .int .i64 p1, .int .i64 p2, .int .i64 p3] 25 (0, 0))) := hk_call Kb4.out hg5 hneb; have Ke5 : Hid (w5.heap[w3.heap.size]? = some (.cells #[.int .i64 t0, .int .i64 t1, .int .i64 t2, .int .i64 t3] 25 (0, 0))) := hk_call Ke4.out hg5 hnee; have T5 : Below w.heap.size w w5 := Below.grown T4 hg5 hTz hgz; have z5 := T5.size; have cr0 : w5.cell? ⟨w.heap.size, 0, none⟩ = some (.int .i64 0) := hk_cell (i := 0) Kr5.out rfl; have fr0 := hk_free (i := 0) Kr5.out; have cr1 : w5.cell? ⟨w.heap.size, 1, none⟩ = some (.int .i64 0) := hk_cell (i := 1) Kr5.out rfl; have fr1 := hk_free (i := 1) Kr5.out; have cr2 : w5.cell? ⟨w.heap.size, 2, none⟩ = some (.int .i64 0) := hk_cell (i := 2) Kr5.out rfl; have fr2 := hk_free (i := 2) Kr5.out; have cr3 : w5.cell? ⟨w.heap.size, 3, none⟩ = some (.int .i64 0) := hk_cell (i := 3) Kr5.out rfl; have fr3 := hk_free (i := 3) Kr5.out; have cq0 : w5.cell? ⟨w.heap.size + 1, 0, none⟩ = some (.int .i64 0) := hk_cell (i := 0) Kq5.out rfl; have fq0 := hk_free (i := 0) Kq5.out; have cq1 : w5.cell? ⟨w.heap.size + 1, 1, none⟩ = some (.int .i64 0) := hk_cell (i := 1) Kq5.out rfl; have fq1 := hk_free (i := 1) Kq5.out; have cq2 : w5.cell? ⟨w.heap.size + 1, 2, none⟩ = some (.int .i64 0) := hk_cell (i := 2) Kq5.out rfl; have fq2 := hk_free (i := 2) Kq5.out; have cq3 : w5.cell? ⟨w.heap.size + 1, 3, none⟩ = some (.int .i64 0) := hk_cell (i := 3) Kq5.out rfl; have fq3 := hk_free (i := 3) Kq5.out; have cb0 : w5.cell? ⟨w2.heap.size, 0, none⟩ = some (.int .i64 p0) := hk_cell (i := 0) Kb5.out rfl; have cb1 : w5.cell? ⟨w2.heap.size, 1, none⟩ = some (.int .i64 p1) := hk_cell (i := 1) Kb5.out rfl; have cb2 : w5.cell? ⟨w2.heap.size, 2, none⟩ = some (.int .i64 p2) := hk_cell (i := 2) Kb5.out rfl; have cb3 : w5.cell? ⟨w2.heap.size, 3, none⟩ = some (.int .i64 p3) := hk_cell (i := 3) Kb5.out rfl; have ce0 : w5.cell? ⟨w3.heap.size, 0, none⟩ = some (.int .i64 t0) := hk_cell (i := 0) Ke5.out rfl; have ce1 : w5.cell? ⟨w3.heap.size, 1, none⟩ = some (.int .i64 t1) := hk_cell (i := 1) Ke5.out rfl; have ce2 : w5.cell? ⟨w3.heap.size, 2, none⟩ = some (.int .i64 t2) := hk_cell (i := 2) Ke5.out rfl; have ce3 : w5.cell? ⟨w3.heap.size, 3, none⟩ = some (.int .i64 t3) := hk_cell (i := 3) Ke5.out rfl)
        | fail))
    all_goals
      go_wp2
      refine bodyPost_ret (v := .tuple #[.agg #[.int .i64 p0, .int .i64 p1, .int .i64 p2, .int .i64 p3], .agg #[.int .i64 t0, .int .i64 t1, .int .i64 t2, .int .i64 t3], .int .i64 x5]) (by simp [results, Try.results36, go_sem, *]) rfl ⟨p0, p1, p2, p3, t0, t1, t2, t3, x5, rfl, (by repeat (first | (with_reducible assumption) | (with_reducible exact Below.refl _ _) | (with_reducible refine Below.drew ?_) | (with_reducible refine blw_al ?_ _) | (with_reducible refine blw_set ?_ (by dsimp only; omega) _)))⟩
end Go.Proofs.Ytfgokehoanlobaa
