/- Contracts of Draw..(code) of brakes: more. -/
import Derived.Test.YtfgokehoanlobaaDrwM
set_option linter.unusedSimpArgs false
set_option linter.unusedVariables false
namespace Go.Proofs.Ytfgokehoanlobaa
open Go.RowKit

set_option maxRecDepth 100000 in
set_option maxHeartbeats 1600000 in
theorem DrawTravelOf_any (a : Option Addr) (n c : Nat) (w : World) (h : RdB w w.heap.size a n) (hn : n ≤ 4096) :
    Calls Try.prog 38 #[.slice a n c] w fun e w' => ∃ v0 v1 v2 v3 v4 v5 : Int, e = .returned (.tuple #[.agg #[.int .i64 v0, .int .i64 v1, .int .i64 v2, .int .i64 v3], .int .i64 v4, .int .i64 v5]) ∧ Below w.heap.size w w' := by
  have HB0 := Lib.hid h
  have T0 := Below.refl w.heap.size w
  clear h
  go_enter Try.func38, Try.ntmps38
  go_wp2_with fail
  (with_reducible refine (From_any a n c _ (rdb_alloc HB0.out _) hn).mono ?_)
  rintro e w1 ⟨g, rfl, hs1, hgw, hb1⟩
  have T1 : Below w.heap.size w w1 := Below.trans (by repeat (first | (with_reducible assumption) | (with_reducible exact Below.refl _ _) | (with_reducible refine Below.drew ?_) | (with_reducible refine blw_al ?_ _) | (with_reducible refine blw_set ?_ (by dsimp only; omega) _))) (hb1.mono (by (try simp only [World.size_alloc]); omega))
  have z1 := T1.size
  have zb1 := hb1.size
  (try simp only [World.size_alloc] at hgw zb1)
  have S1 := Lib.hid hs1
  have Kr1 : Hid (w1.heap[w.heap.size]? = some (.cells #[.int .i64 0, .int .i64 0, .int .i64 0, .int .i64 0] 25 (0, 0))) := hk_below (heap_alloc_new _ _) hb1
  have hg1 := S1.out.lt
  clear hs1 hb1
  go_wp2_with fail
  (with_reducible refine (Draw13_any g a n c _ S1.out).mono ?_)
  rintro e w2 ⟨p0, p1, p2, p3, rfl, hs2, hg2⟩
  have Kr2 : Hid (w2.heap[w.heap.size]? = some (.cells #[.int .i64 0, .int .i64 0, .int .i64 0, .int .i64 0] 25 (0, 0))) := hk_call Kr1.out hg2 (by omega)
  have T2 : Below w.heap.size w w2 := Below.grown (by repeat (first | (with_reducible assumption) | (with_reducible exact Below.refl _ _) | (with_reducible refine Below.drew ?_) | (with_reducible refine blw_al ?_ _) | (with_reducible refine blw_set ?_ (by dsimp only; omega) _))) hg2 (by (try simp only [World.size_alloc]); omega) (fun q hq => by injection hq with hq; omega)
  have z2 := T2.size
  have y2 := hg2.size
  (try simp only [World.size_alloc] at y2)
  have S2 := Lib.hid hs2
  clear hs2 hg2 S1 Kr1
  go_wp2_with fail
  (with_reducible refine (Force13_any g a n c _ (S2.out.alloc _)).mono ?_)
  rintro e w3 ⟨x3, rfl, hs3, hg3⟩
  have Kr3 : Hid (w3.heap[w.heap.size]? = some (.cells #[.int .i64 0, .int .i64 0, .int .i64 0, .int .i64 0] 25 (0, 0))) := hk_call (hk_alloc Kr2.out _) hg3 (by omega)
  have Kb3 : Hid (w3.heap[w2.heap.size]? = some (.cells #[.int .i64 p0, .int .i64 p1, .int .i64 p2, .int .i64 p3] 25 (0, 0))) := hk_call (heap_alloc_new _ _) hg3 (by omega)
  have T3 : Below w.heap.size w w3 := Below.grown (by repeat (first | (with_reducible assumption) | (with_reducible exact Below.refl _ _) | (with_reducible refine Below.drew ?_) | (with_reducible refine blw_al ?_ _) | (with_reducible refine blw_set ?_ (by dsimp only; omega) _))) hg3 (by (try simp only [World.size_alloc]); omega) (fun q hq => by injection hq with hq; omega)
  have z3 := T3.size
  have y3 := hg3.size
  (try simp only [World.size_alloc] at y3)
  have S3 := Lib.hid hs3
  clear hs3 hg3 S2 Kr2
  go_wp2
  have cr0 : w3.cell? ⟨w.heap.size, 0, none⟩ = some (.int .i64 0) := hk_cell (i := 0) Kr3.out rfl
  have fr0 := hk_free (i := 0) Kr3.out
  have cr1 : w3.cell? ⟨w.heap.size, 1, none⟩ = some (.int .i64 0) := hk_cell (i := 1) Kr3.out rfl
  have fr1 := hk_free (i := 1) Kr3.out
  have cr2 : w3.cell? ⟨w.heap.size, 2, none⟩ = some (.int .i64 0) := hk_cell (i := 2) Kr3.out rfl
  have fr2 := hk_free (i := 2) Kr3.out
  have cr3 : w3.cell? ⟨w.heap.size, 3, none⟩ = some (.int .i64 0) := hk_cell (i := 3) Kr3.out rfl
  have fr3 := hk_free (i := 3) Kr3.out
  have cb0 : w3.cell? ⟨w2.heap.size, 0, none⟩ = some (.int .i64 p0) := hk_cell (i := 0) Kb3.out rfl
  have cb1 : w3.cell? ⟨w2.heap.size, 1, none⟩ = some (.int .i64 p1) := hk_cell (i := 1) Kb3.out rfl
  have cb2 : w3.cell? ⟨w2.heap.size, 2, none⟩ = some (.int .i64 p2) := hk_cell (i := 2) Kb3.out rfl
  have cb3 : w3.cell? ⟨w2.heap.size, 3, none⟩ = some (.int .i64 p3) := hk_cell (i := 3) Kb3.out rfl
  go_wp2
  go_region_held3 (fun W => W.cell? ⟨w2.heap.size, 0, none⟩ = some (.int .i64 p0) ∧ W.cell? ⟨w2.heap.size, 1, none⟩ = some (.int .i64 p1) ∧ W.cell? ⟨w2.heap.size, 2, none⟩ = some (.int .i64 p2) ∧ W.cell? ⟨w2.heap.size, 3, none⟩ = some (.int .i64 p3))
    (first
      | exact ⟨cb0, cb1, cb2, cb3⟩
      | (refine ⟨hk_cell (i := 0) (cs := #[.int .i64 p0, .int .i64 p1, .int .i64 p2, .int .i64 p3]) (t := 25) ?_ rfl, hk_cell (i := 1) (cs := #[.int .i64 p0, .int .i64 p1, .int .i64 p2, .int .i64 p3]) (t := 25) ?_ rfl, hk_cell (i := 2) (cs := #[.int .i64 p0, .int .i64 p1, .int .i64 p2, .int .i64 p3]) (t := 25) ?_ rfl, hk_cell (i := 3) (cs := #[.int .i64 p0, .int .i64 p1, .int .i64 p2, .int .i64 p3]) (t := 25) ?_ rfl⟩ <;> (repeat (first | (with_reducible exact Kb4.out) | (with_reducible refine hk_drew ?_) | (with_reducible refine hk_drewN ?_ _) | (with_reducible refine hk_alloc ?_ _) | (with_reducible refine hk_setO ?_ (by omega)))); done)
      | (refine ⟨hk_cell (i := 0) (cs := #[.int .i64 p0, .int .i64 p1, .int .i64 p2, .int .i64 p3]) (t := 25) ?_ rfl, hk_cell (i := 1) (cs := #[.int .i64 p0, .int .i64 p1, .int .i64 p2, .int .i64 p3]) (t := 25) ?_ rfl, hk_cell (i := 2) (cs := #[.int .i64 p0, .int .i64 p1, .int .i64 p2, .int .i64 p3]) (t := 25) ?_ rfl, hk_cell (i := 3) (cs := #[.int .i64 p0, .int .i64 p1, .int .i64 p2, .int .i64 p3]) (t := 25) ?_ rfl⟩ <;> (repeat (first | (with_reducible exact Kb3.out) | (with_reducible refine hk_drew ?_) | (with_reducible refine hk_drewN ?_ _) | (with_reducible refine hk_alloc ?_ _) | (with_reducible refine hk_setO ?_ (by omega)))); done))
    ((first
      | (go_at_call 62; (with_reducible refine (Gap13_any g a n c _ ?_).mono ?_); (focus (repeat (first | (with_reducible exact S3.out) | (with_reducible refine Src.drew ?_) | (with_reducible refine Src.drewN ?_ _) | (with_reducible refine Src.alloc ?_ _)))); rintro e w4 ⟨x4, rfl, hs4, hg4⟩; have Kr4 : Hid (w4.heap[w.heap.size]? = some (.cells #[.int .i64 0, .int .i64 0, .int .i64 0, .int .i64 0] 25 (0, 0))) := (by show _ = _; refine hk_call ?_ hg4 (by omega); repeat (first | (with_reducible exact Kr3.out) | (with_reducible refine hk_drew ?_) | (with_reducible refine hk_drewN ?_ _) | (with_reducible refine hk_alloc ?_ _) | (with_reducible refine hk_setO ?_ (by omega)))); have Kb4 : Hid (w4.heap[w2.heap.size]? = some (.cells #[.int .i64 p0, .int .i64 p1, .int .i64 p2, .int .i64 p3] 25 (0, 0))) := (by show _ = _; refine hk_call ?_ hg4 (by omega); repeat (first | (with_reducible exact Kb3.out) | (with_reducible refine hk_drew ?_) | (with_reducible refine hk_drewN ?_ _) | (with_reducible refine hk_alloc ?_ _) | (with_reducible refine hk_setO ?_ (by omega)))); have T4 : Below w.heap.size w w4 := Below.grown (by repeat (first | (with_reducible assumption) | (with_reducible exact Below.refl _ _) | (with_reducible refine Below.drew ?_) | (with_reducible refine blw_al ?_ _) | (with_reducible refine blw_set ?_ (by dsimp only; omega) _))) hg4 (by (try simp only [World.size_alloc, World.size_drew]); omega) (fun q hq => by injection hq with hq; omega); have z4 := T4.size; have y4 := hg4.size; (try simp only [World.size_alloc, World.size_drew] at y4); have S4 := Lib.hid hs4; have cr0 : w4.cell? ⟨w.heap.size, 0, none⟩ = some (.int .i64 0) := hk_cell (i := 0) Kr4.out rfl; have fr0 := hk_free (i := 0) Kr4.out; have cr1 : w4.cell? ⟨w.heap.size, 1, none⟩ = some (.int .i64 0) := hk_cell (i := 1) Kr4.out rfl; have fr1 := hk_free (i := 1) Kr4.out; have cr2 : w4.cell? ⟨w.heap.size, 2, none⟩ = some (.int .i64 0) := hk_cell (i := 2) Kr4.out rfl; have fr2 := hk_free (i := 2) Kr4.out; have cr3 : w4.cell? ⟨w.heap.size, 3, none⟩ = some (.int .i64 0) := hk_cell (i := 3) Kr4.out rfl; have fr3 := hk_free (i := 3) Kr4.out; have cb0 : w4.cell? ⟨w2.heap.size, 0, none⟩ = some (.int .i64 p0) := hk_cell (i := 0) Kb4.out rfl; have cb1 : w4.cell? ⟨w2.heap.size, 1, none⟩ = some (.int .i64 p1) := hk_cell (i := 1) Kb4.out rfl; have cb2 : w4.cell? ⟨w2.heap.size, 2, none⟩ = some (.int .i64 p2) := hk_cell (i := 2) Kb4.out rfl; have cb3 : w4.cell? ⟨w2.heap.size, 3, none⟩ = some (.int .i64 p3) := hk_cell (i := 3) Kb4.out rfl; clear hs4 hg4)
      | fail))
  all_goals
    go_wp2
    refine bodyPost_ret (v := .tuple #[.agg #[.int .i64 p0, .int .i64 p1, .int .i64 p2, .int .i64 p3], .int .i64 x3, .int .i64 x4]) (by simp [results, Try.results38, go_sem, *]) rfl ⟨p0, p1, p2, p3, x3, x4, rfl, (by repeat (first | (with_reducible assumption) | (with_reducible exact Below.refl _ _) | (with_reducible refine Below.drew ?_) | (with_reducible refine blw_al ?_ _) | (with_reducible refine blw_set ?_ (by dsimp only; omega) _)))⟩

set_option maxRecDepth 100000 in
set_option maxHeartbeats 1600000 in
theorem DrawGapFor_any (a : Option Addr) (n c : Nat) (w : World) (h : RdB w w.heap.size a n) (hn : n ≤ 4096) :
    Calls Try.prog 37 #[.slice a n c] w fun e w' => ∃ v0 v1 v2 v3 v4 v5 : Int, e = .returned (.tuple #[.agg #[.int .i64 v0, .int .i64 v1, .int .i64 v2, .int .i64 v3], .int .i64 v4, .int .i64 v5]) ∧ Below w.heap.size w w' := by
  have HB0 := Lib.hid h
  have T0 := Below.refl w.heap.size w
  clear h
  go_enter Try.func37, Try.ntmps37
  go_wp2_with fail
  (with_reducible refine (From_any a n c _ (rdb_alloc HB0.out _) hn).mono ?_)
  rintro e w1 ⟨g, rfl, hs1, hgw, hb1⟩
  have T1 : Below w.heap.size w w1 := Below.trans (by repeat (first | (with_reducible assumption) | (with_reducible exact Below.refl _ _) | (with_reducible refine Below.drew ?_) | (with_reducible refine blw_al ?_ _) | (with_reducible refine blw_set ?_ (by dsimp only; omega) _))) (hb1.mono (by (try simp only [World.size_alloc]); omega))
  have z1 := T1.size
  have zb1 := hb1.size
  (try simp only [World.size_alloc] at hgw zb1)
  have S1 := Lib.hid hs1
  have Kr1 : Hid (w1.heap[w.heap.size]? = some (.cells #[.int .i64 0, .int .i64 0, .int .i64 0, .int .i64 0] 25 (0, 0))) := hk_below (heap_alloc_new _ _) hb1
  have hg1 := S1.out.lt
  clear hs1 hb1
  go_wp2_with fail
  (with_reducible refine (Draw13_any g a n c _ S1.out).mono ?_)
  rintro e w2 ⟨p0, p1, p2, p3, rfl, hs2, hg2⟩
  have Kr2 : Hid (w2.heap[w.heap.size]? = some (.cells #[.int .i64 0, .int .i64 0, .int .i64 0, .int .i64 0] 25 (0, 0))) := hk_call Kr1.out hg2 (by omega)
  have T2 : Below w.heap.size w w2 := Below.grown (by repeat (first | (with_reducible assumption) | (with_reducible exact Below.refl _ _) | (with_reducible refine Below.drew ?_) | (with_reducible refine blw_al ?_ _) | (with_reducible refine blw_set ?_ (by dsimp only; omega) _))) hg2 (by (try simp only [World.size_alloc]); omega) (fun q hq => by injection hq with hq; omega)
  have z2 := T2.size
  have y2 := hg2.size
  (try simp only [World.size_alloc] at y2)
  have S2 := Lib.hid hs2
  clear hs2 hg2 S1 Kr1
  go_wp2_with fail
  (with_reducible refine (Force13_any g a n c _ (S2.out.alloc _)).mono ?_)
  rintro e w3 ⟨x3, rfl, hs3, hg3⟩
  have Kr3 : Hid (w3.heap[w.heap.size]? = some (.cells #[.int .i64 0, .int .i64 0, .int .i64 0, .int .i64 0] 25 (0, 0))) := hk_call (hk_alloc Kr2.out _) hg3 (by omega)
  have Kb3 : Hid (w3.heap[w2.heap.size]? = some (.cells #[.int .i64 p0, .int .i64 p1, .int .i64 p2, .int .i64 p3] 25 (0, 0))) := hk_call (heap_alloc_new _ _) hg3 (by omega)
  have T3 : Below w.heap.size w w3 := Below.grown (by repeat (first | (with_reducible assumption) | (with_reducible exact Below.refl _ _) | (with_reducible refine Below.drew ?_) | (with_reducible refine blw_al ?_ _) | (with_reducible refine blw_set ?_ (by dsimp only; omega) _))) hg3 (by (try simp only [World.size_alloc]); omega) (fun q hq => by injection hq with hq; omega)
  have z3 := T3.size
  have y3 := hg3.size
  (try simp only [World.size_alloc] at y3)
  have S3 := Lib.hid hs3
  clear hs3 hg3 S2 Kr2
  go_wp2
  have cr0 : w3.cell? ⟨w.heap.size, 0, none⟩ = some (.int .i64 0) := hk_cell (i := 0) Kr3.out rfl
  have fr0 := hk_free (i := 0) Kr3.out
  have cr1 : w3.cell? ⟨w.heap.size, 1, none⟩ = some (.int .i64 0) := hk_cell (i := 1) Kr3.out rfl
  have fr1 := hk_free (i := 1) Kr3.out
  have cr2 : w3.cell? ⟨w.heap.size, 2, none⟩ = some (.int .i64 0) := hk_cell (i := 2) Kr3.out rfl
  have fr2 := hk_free (i := 2) Kr3.out
  have cr3 : w3.cell? ⟨w.heap.size, 3, none⟩ = some (.int .i64 0) := hk_cell (i := 3) Kr3.out rfl
  have fr3 := hk_free (i := 3) Kr3.out
  have cb0 : w3.cell? ⟨w2.heap.size, 0, none⟩ = some (.int .i64 p0) := hk_cell (i := 0) Kb3.out rfl
  have cb1 : w3.cell? ⟨w2.heap.size, 1, none⟩ = some (.int .i64 p1) := hk_cell (i := 1) Kb3.out rfl
  have cb2 : w3.cell? ⟨w2.heap.size, 2, none⟩ = some (.int .i64 p2) := hk_cell (i := 2) Kb3.out rfl
  have cb3 : w3.cell? ⟨w2.heap.size, 3, none⟩ = some (.int .i64 p3) := hk_cell (i := 3) Kb3.out rfl
  go_wp2
  go_region_held3 (fun W => W.cell? ⟨w2.heap.size, 0, none⟩ = some (.int .i64 p0) ∧ W.cell? ⟨w2.heap.size, 1, none⟩ = some (.int .i64 p1) ∧ W.cell? ⟨w2.heap.size, 2, none⟩ = some (.int .i64 p2) ∧ W.cell? ⟨w2.heap.size, 3, none⟩ = some (.int .i64 p3))
    (first
      | exact ⟨cb0, cb1, cb2, cb3⟩
      | (refine ⟨hk_cell (i := 0) (cs := #[.int .i64 p0, .int .i64 p1, .int .i64 p2, .int .i64 p3]) (t := 25) ?_ rfl, hk_cell (i := 1) (cs := #[.int .i64 p0, .int .i64 p1, .int .i64 p2, .int .i64 p3]) (t := 25) ?_ rfl, hk_cell (i := 2) (cs := #[.int .i64 p0, .int .i64 p1, .int .i64 p2, .int .i64 p3]) (t := 25) ?_ rfl, hk_cell (i := 3) (cs := #[.int .i64 p0, .int .i64 p1, .int .i64 p2, .int .i64 p3]) (t := 25) ?_ rfl⟩ <;> (repeat (first | (with_reducible exact Kb6.out) | (with_reducible refine hk_drew ?_) | (with_reducible refine hk_drewN ?_ _) | (with_reducible refine hk_alloc ?_ _) | (with_reducible refine hk_setO ?_ (by omega)))); done)
      | (refine ⟨hk_cell (i := 0) (cs := #[.int .i64 p0, .int .i64 p1, .int .i64 p2, .int .i64 p3]) (t := 25) ?_ rfl, hk_cell (i := 1) (cs := #[.int .i64 p0, .int .i64 p1, .int .i64 p2, .int .i64 p3]) (t := 25) ?_ rfl, hk_cell (i := 2) (cs := #[.int .i64 p0, .int .i64 p1, .int .i64 p2, .int .i64 p3]) (t := 25) ?_ rfl, hk_cell (i := 3) (cs := #[.int .i64 p0, .int .i64 p1, .int .i64 p2, .int .i64 p3]) (t := 25) ?_ rfl⟩ <;> (repeat (first | (with_reducible exact Kb5.out) | (with_reducible refine hk_drew ?_) | (with_reducible refine hk_drewN ?_ _) | (with_reducible refine hk_alloc ?_ _) | (with_reducible refine hk_setO ?_ (by omega)))); done)
      | (refine ⟨hk_cell (i := 0) (cs := #[.int .i64 p0, .int .i64 p1, .int .i64 p2, .int .i64 p3]) (t := 25) ?_ rfl, hk_cell (i := 1) (cs := #[.int .i64 p0, .int .i64 p1, .int .i64 p2, .int .i64 p3]) (t := 25) ?_ rfl, hk_cell (i := 2) (cs := #[.int .i64 p0, .int .i64 p1, .int .i64 p2, .int .i64 p3]) (t := 25) ?_ rfl, hk_cell (i := 3) (cs := #[.int .i64 p0, .int .i64 p1, .int .i64 p2, .int .i64 p3]) (t := 25) ?_ rfl⟩ <;> (repeat (first | (with_reducible exact Kb4.out) | (with_reducible refine hk_drew ?_) | (with_reducible refine hk_drewN ?_ _) | (with_reducible refine hk_alloc ?_ _) | (with_reducible refine hk_setO ?_ (by omega)))); done)
      | (refine ⟨hk_cell (i := 0) (cs := #[.int .i64 p0, .int .i64 p1, .int .i64 p2, .int .i64 p3]) (t := 25) ?_ rfl, hk_cell (i := 1) (cs := #[.int .i64 p0, .int .i64 p1, .int .i64 p2, .int .i64 p3]) (t := 25) ?_ rfl, hk_cell (i := 2) (cs := #[.int .i64 p0, .int .i64 p1, .int .i64 p2, .int .i64 p3]) (t := 25) ?_ rfl, hk_cell (i := 3) (cs := #[.int .i64 p0, .int .i64 p1, .int .i64 p2, .int .i64 p3]) (t := 25) ?_ rfl⟩ <;> (repeat (first | (with_reducible exact Kb3.out) | (with_reducible refine hk_drew ?_) | (with_reducible refine hk_drewN ?_ _) | (with_reducible refine hk_alloc ?_ _) | (with_reducible refine hk_setO ?_ (by omega)))); done))
    ((first
      | (go_at_call 59; (with_reducible refine (Next_any g a n c _ _ ?_).mono ?_); (focus (repeat (first | (with_reducible exact S3.out) | (with_reducible refine Src.drew ?_) | (with_reducible refine Src.drewN ?_ _) | (with_reducible refine Src.alloc ?_ _)))); rintro e w4 ⟨x4, rfl, ⟨-, -, -⟩, hs4, hg4⟩; have Kr4 : Hid (w4.heap[w.heap.size]? = some (.cells #[.int .i64 0, .int .i64 0, .int .i64 0, .int .i64 0] 25 (0, 0))) := (by show _ = _; refine hk_call ?_ hg4 (by omega); repeat (first | (with_reducible exact Kr3.out) | (with_reducible refine hk_drew ?_) | (with_reducible refine hk_drewN ?_ _) | (with_reducible refine hk_alloc ?_ _) | (with_reducible refine hk_setO ?_ (by omega)))); have Kb4 : Hid (w4.heap[w2.heap.size]? = some (.cells #[.int .i64 p0, .int .i64 p1, .int .i64 p2, .int .i64 p3] 25 (0, 0))) := (by show _ = _; refine hk_call ?_ hg4 (by omega); repeat (first | (with_reducible exact Kb3.out) | (with_reducible refine hk_drew ?_) | (with_reducible refine hk_drewN ?_ _) | (with_reducible refine hk_alloc ?_ _) | (with_reducible refine hk_setO ?_ (by omega)))); have T4 : Below w.heap.size w w4 := Below.grown (by repeat (first | (with_reducible assumption) | (with_reducible exact Below.refl _ _) | (with_reducible refine Below.drew ?_) | (with_reducible refine blw_al ?_ _) | (with_reducible refine blw_set ?_ (by dsimp only; omega) _))) hg4 (by (try simp only [World.size_alloc, World.size_drew]); omega) (fun q hq => by injection hq with hq; omega); have z4 := T4.size; have y4 := hg4.size; (try simp only [World.size_alloc, World.size_drew] at y4); have S4 := Lib.hid hs4; have cr0 : w4.cell? ⟨w.heap.size, 0, none⟩ = some (.int .i64 0) := hk_cell (i := 0) Kr4.out rfl; have fr0 := hk_free (i := 0) Kr4.out; have cr1 : w4.cell? ⟨w.heap.size, 1, none⟩ = some (.int .i64 0) := hk_cell (i := 1) Kr4.out rfl; have fr1 := hk_free (i := 1) Kr4.out; have cr2 : w4.cell? ⟨w.heap.size, 2, none⟩ = some (.int .i64 0) := hk_cell (i := 2) Kr4.out rfl; have fr2 := hk_free (i := 2) Kr4.out; have cr3 : w4.cell? ⟨w.heap.size, 3, none⟩ = some (.int .i64 0) := hk_cell (i := 3) Kr4.out rfl; have fr3 := hk_free (i := 3) Kr4.out; have cb0 : w4.cell? ⟨w2.heap.size, 0, none⟩ = some (.int .i64 p0) := hk_cell (i := 0) Kb4.out rfl; have cb1 : w4.cell? ⟨w2.heap.size, 1, none⟩ = some (.int .i64 p1) := hk_cell (i := 1) Kb4.out rfl; have cb2 : w4.cell? ⟨w2.heap.size, 2, none⟩ = some (.int .i64 p2) := hk_cell (i := 2) Kb4.out rfl; have cb3 : w4.cell? ⟨w2.heap.size, 3, none⟩ = some (.int .i64 p3) := hk_cell (i := 3) Kb4.out rfl; clear hs4 hg4)
      | (go_at_call 59; (with_reducible refine (Next_any g a n c _ _ ?_).mono ?_); (focus (repeat (first | (with_reducible exact S4.out) | (with_reducible refine Src.drew ?_) | (with_reducible refine Src.drewN ?_ _) | (with_reducible refine Src.alloc ?_ _)))); rintro e w5 ⟨x5, rfl, ⟨-, -, -⟩, hs5, hg5⟩; have Kr5 : Hid (w5.heap[w.heap.size]? = some (.cells #[.int .i64 0, .int .i64 0, .int .i64 0, .int .i64 0] 25 (0, 0))) := (by show _ = _; refine hk_call ?_ hg5 (by omega); repeat (first | (with_reducible exact Kr4.out) | (with_reducible refine hk_drew ?_) | (with_reducible refine hk_drewN ?_ _) | (with_reducible refine hk_alloc ?_ _) | (with_reducible refine hk_setO ?_ (by omega)))); have Kb5 : Hid (w5.heap[w2.heap.size]? = some (.cells #[.int .i64 p0, .int .i64 p1, .int .i64 p2, .int .i64 p3] 25 (0, 0))) := (by show _ = _; refine hk_call ?_ hg5 (by omega); repeat (first | (with_reducible exact Kb4.out) | (with_reducible refine hk_drew ?_) | (with_reducible refine hk_drewN ?_ _) | (with_reducible refine hk_alloc ?_ _) | (with_reducible refine hk_setO ?_ (by omega)))); have T5 : Below w.heap.size w w5 := Below.grown (by repeat (first | (with_reducible assumption) | (with_reducible exact Below.refl _ _) | (with_reducible refine Below.drew ?_) | (with_reducible refine blw_al ?_ _) | (with_reducible refine blw_set ?_ (by dsimp only; omega) _))) hg5 (by (try simp only [World.size_alloc, World.size_drew]); omega) (fun q hq => by injection hq with hq; omega); have z5 := T5.size; have y5 := hg5.size; (try simp only [World.size_alloc, World.size_drew] at y5); have S5 := Lib.hid hs5; have cr0 : w5.cell? ⟨w.heap.size, 0, none⟩ = some (.int .i64 0) := hk_cell (i := 0) Kr5.out rfl; have fr0 := hk_free (i := 0) Kr5.out; have cr1 : w5.cell? ⟨w.heap.size, 1, none⟩ = some (.int .i64 0) := hk_cell (i := 1) Kr5.out rfl; have fr1 := hk_free (i := 1) Kr5.out; have cr2 : w5.cell? ⟨w.heap.size, 2, none⟩ = some (.int .i64 0) := hk_cell (i := 2) Kr5.out rfl; have fr2 := hk_free (i := 2) Kr5.out; have cr3 : w5.cell? ⟨w.heap.size, 3, none⟩ = some (.int .i64 0) := hk_cell (i := 3) Kr5.out rfl; have fr3 := hk_free (i := 3) Kr5.out; have cb0 : w5.cell? ⟨w2.heap.size, 0, none⟩ = some (.int .i64 p0) := hk_cell (i := 0) Kb5.out rfl; have cb1 : w5.cell? ⟨w2.heap.size, 1, none⟩ = some (.int .i64 p1) := hk_cell (i := 1) Kb5.out rfl; have cb2 : w5.cell? ⟨w2.heap.size, 2, none⟩ = some (.int .i64 p2) := hk_cell (i := 2) Kb5.out rfl; have cb3 : w5.cell? ⟨w2.heap.size, 3, none⟩ = some (.int .i64 p3) := hk_cell (i := 3) Kb5.out rfl; clear hs5 hg5)
      | (go_at_call 58; (with_reducible refine (Pick_any g a n c _ 5 _ _ ?_ (heap_alloc_new _ _) rfl (by omega) (by omega) (by simp) (by (try simp only [World.size_drew]); omega)).mono ?_); (focus (repeat (first | (with_reducible exact S5.out) | (with_reducible refine Src.drew ?_) | (with_reducible refine Src.drewN ?_ _) | (with_reducible refine Src.alloc ?_ _)))); rintro e w6 ⟨x6, rfl, hs6, hg6⟩; have Kr6 : Hid (w6.heap[w.heap.size]? = some (.cells #[.int .i64 0, .int .i64 0, .int .i64 0, .int .i64 0] 25 (0, 0))) := (by show _ = _; refine hk_call ?_ hg6 (by omega); repeat (first | (with_reducible exact Kr5.out) | (with_reducible refine hk_drew ?_) | (with_reducible refine hk_drewN ?_ _) | (with_reducible refine hk_alloc ?_ _) | (with_reducible refine hk_setO ?_ (by omega)))); have Kb6 : Hid (w6.heap[w2.heap.size]? = some (.cells #[.int .i64 p0, .int .i64 p1, .int .i64 p2, .int .i64 p3] 25 (0, 0))) := (by show _ = _; refine hk_call ?_ hg6 (by omega); repeat (first | (with_reducible exact Kb5.out) | (with_reducible refine hk_drew ?_) | (with_reducible refine hk_drewN ?_ _) | (with_reducible refine hk_alloc ?_ _) | (with_reducible refine hk_setO ?_ (by omega)))); have T6 : Below w.heap.size w w6 := Below.grown (by repeat (first | (with_reducible assumption) | (with_reducible exact Below.refl _ _) | (with_reducible refine Below.drew ?_) | (with_reducible refine blw_al ?_ _) | (with_reducible refine blw_set ?_ (by dsimp only; omega) _))) hg6 (by (try simp only [World.size_alloc, World.size_drew]); omega) (fun q hq => by injection hq with hq; omega); have z6 := T6.size; have y6 := hg6.size; (try simp only [World.size_alloc, World.size_drew] at y6); have S6 := Lib.hid hs6; have cr0 : w6.cell? ⟨w.heap.size, 0, none⟩ = some (.int .i64 0) := hk_cell (i := 0) Kr6.out rfl; have fr0 := hk_free (i := 0) Kr6.out; have cr1 : w6.cell? ⟨w.heap.size, 1, none⟩ = some (.int .i64 0) := hk_cell (i := 1) Kr6.out rfl; have fr1 := hk_free (i := 1) Kr6.out; have cr2 : w6.cell? ⟨w.heap.size, 2, none⟩ = some (.int .i64 0) := hk_cell (i := 2) Kr6.out rfl; have fr2 := hk_free (i := 2) Kr6.out; have cr3 : w6.cell? ⟨w.heap.size, 3, none⟩ = some (.int .i64 0) := hk_cell (i := 3) Kr6.out rfl; have fr3 := hk_free (i := 3) Kr6.out; have cb0 : w6.cell? ⟨w2.heap.size, 0, none⟩ = some (.int .i64 p0) := hk_cell (i := 0) Kb6.out rfl; have cb1 : w6.cell? ⟨w2.heap.size, 1, none⟩ = some (.int .i64 p1) := hk_cell (i := 1) Kb6.out rfl; have cb2 : w6.cell? ⟨w2.heap.size, 2, none⟩ = some (.int .i64 p2) := hk_cell (i := 2) Kb6.out rfl; have cb3 : w6.cell? ⟨w2.heap.size, 3, none⟩ = some (.int .i64 p3) := hk_cell (i := 3) Kb6.out rfl; clear hs6 hg6)
      | fail))
  all_goals
    go_wp2
    refine bodyPost_ret (v := .tuple #[.agg #[.int .i64 p0, .int .i64 p1, .int .i64 p2, .int .i64 p3], .int .i64 x3, .int .i64 x6]) (by simp [results, Try.results37, go_sem, *]) rfl ⟨p0, p1, p2, p3, x3, x6, rfl, (by repeat (first | (with_reducible assumption) | (with_reducible exact Below.refl _ _) | (with_reducible refine Below.drew ?_) | (with_reducible refine blw_al ?_ _) | (with_reducible refine blw_set ?_ (by dsimp only; omega) _)))⟩

set_option maxRecDepth 100000 in
set_option maxHeartbeats 1600000 in
theorem DrawTurnsOfBarrel_any (a : Option Addr) (n c : Nat) (w : World) (h : RdB w w.heap.size a n) (hn : n ≤ 4096) :
    Calls Try.prog 40 #[.slice a n c] w fun e w' => ∃ v0 v1 v2 v3 v4 v5 : Int, e = .returned (.tuple #[.agg #[.int .i64 v0, .int .i64 v1, .int .i64 v2, .int .i64 v3], .int .i64 v4, .int .i64 v5]) ∧ Below w.heap.size w w' := by
  have HB0 := Lib.hid h
  have T0 := Below.refl w.heap.size w
  clear h
  go_enter Try.func40, Try.ntmps40
  go_wp2_with fail
  (with_reducible refine (From_any a n c _ (rdb_alloc HB0.out _) hn).mono ?_)
  rintro e w1 ⟨g, rfl, hs1, hgw, hb1⟩
  have T1 : Below w.heap.size w w1 := Below.trans (by repeat (first | (with_reducible assumption) | (with_reducible exact Below.refl _ _) | (with_reducible refine Below.drew ?_) | (with_reducible refine blw_al ?_ _) | (with_reducible refine blw_set ?_ (by dsimp only; omega) _))) (hb1.mono (by (try simp only [World.size_alloc]); omega))
  have z1 := T1.size
  have zb1 := hb1.size
  (try simp only [World.size_alloc] at hgw zb1)
  have S1 := Lib.hid hs1
  have Kr1 : Hid (w1.heap[w.heap.size]? = some (.cells #[.int .i64 0, .int .i64 0, .int .i64 0, .int .i64 0] 25 (0, 0))) := hk_below (heap_alloc_new _ _) hb1
  have hg1 := S1.out.lt
  clear hs1 hb1
  go_wp2_with fail
  (with_reducible refine (Draw13_any g a n c _ S1.out).mono ?_)
  rintro e w2 ⟨p0, p1, p2, p3, rfl, hs2, hg2⟩
  have Kr2 : Hid (w2.heap[w.heap.size]? = some (.cells #[.int .i64 0, .int .i64 0, .int .i64 0, .int .i64 0] 25 (0, 0))) := hk_call Kr1.out hg2 (by omega)
  have T2 : Below w.heap.size w w2 := Below.grown (by repeat (first | (with_reducible assumption) | (with_reducible exact Below.refl _ _) | (with_reducible refine Below.drew ?_) | (with_reducible refine blw_al ?_ _) | (with_reducible refine blw_set ?_ (by dsimp only; omega) _))) hg2 (by (try simp only [World.size_alloc]); omega) (fun q hq => by injection hq with hq; omega)
  have z2 := T2.size
  have y2 := hg2.size
  (try simp only [World.size_alloc] at y2)
  have S2 := Lib.hid hs2
  clear hs2 hg2 S1 Kr1
  go_wp2_with fail
  (with_reducible refine (Gap13_any g a n c _ (S2.out.alloc _)).mono ?_)
  rintro e w3 ⟨x3, rfl, hs3, hg3⟩
  have Kr3 : Hid (w3.heap[w.heap.size]? = some (.cells #[.int .i64 0, .int .i64 0, .int .i64 0, .int .i64 0] 25 (0, 0))) := hk_call (hk_alloc Kr2.out _) hg3 (by omega)
  have Kb3 : Hid (w3.heap[w2.heap.size]? = some (.cells #[.int .i64 p0, .int .i64 p1, .int .i64 p2, .int .i64 p3] 25 (0, 0))) := hk_call (heap_alloc_new _ _) hg3 (by omega)
  have T3 : Below w.heap.size w w3 := Below.grown (by repeat (first | (with_reducible assumption) | (with_reducible exact Below.refl _ _) | (with_reducible refine Below.drew ?_) | (with_reducible refine blw_al ?_ _) | (with_reducible refine blw_set ?_ (by dsimp only; omega) _))) hg3 (by (try simp only [World.size_alloc]); omega) (fun q hq => by injection hq with hq; omega)
  have z3 := T3.size
  have y3 := hg3.size
  (try simp only [World.size_alloc] at y3)
  have S3 := Lib.hid hs3
  clear hs3 hg3 S2 Kr2
  go_wp2
  have cr0 : w3.cell? ⟨w.heap.size, 0, none⟩ = some (.int .i64 0) := hk_cell (i := 0) Kr3.out rfl
  have fr0 := hk_free (i := 0) Kr3.out
  have cr1 : w3.cell? ⟨w.heap.size, 1, none⟩ = some (.int .i64 0) := hk_cell (i := 1) Kr3.out rfl
  have fr1 := hk_free (i := 1) Kr3.out
  have cr2 : w3.cell? ⟨w.heap.size, 2, none⟩ = some (.int .i64 0) := hk_cell (i := 2) Kr3.out rfl
  have fr2 := hk_free (i := 2) Kr3.out
  have cr3 : w3.cell? ⟨w.heap.size, 3, none⟩ = some (.int .i64 0) := hk_cell (i := 3) Kr3.out rfl
  have fr3 := hk_free (i := 3) Kr3.out
  have cb0 : w3.cell? ⟨w2.heap.size, 0, none⟩ = some (.int .i64 p0) := hk_cell (i := 0) Kb3.out rfl
  have cb1 : w3.cell? ⟨w2.heap.size, 1, none⟩ = some (.int .i64 p1) := hk_cell (i := 1) Kb3.out rfl
  have cb2 : w3.cell? ⟨w2.heap.size, 2, none⟩ = some (.int .i64 p2) := hk_cell (i := 2) Kb3.out rfl
  have cb3 : w3.cell? ⟨w2.heap.size, 3, none⟩ = some (.int .i64 p3) := hk_cell (i := 3) Kb3.out rfl
  go_wp2
  go_region_held3 (fun W => W.cell? ⟨w2.heap.size, 0, none⟩ = some (.int .i64 p0) ∧ W.cell? ⟨w2.heap.size, 1, none⟩ = some (.int .i64 p1) ∧ W.cell? ⟨w2.heap.size, 2, none⟩ = some (.int .i64 p2) ∧ W.cell? ⟨w2.heap.size, 3, none⟩ = some (.int .i64 p3))
    (first
      | exact ⟨cb0, cb1, cb2, cb3⟩
      | (refine ⟨hk_cell (i := 0) (cs := #[.int .i64 p0, .int .i64 p1, .int .i64 p2, .int .i64 p3]) (t := 25) ?_ rfl, hk_cell (i := 1) (cs := #[.int .i64 p0, .int .i64 p1, .int .i64 p2, .int .i64 p3]) (t := 25) ?_ rfl, hk_cell (i := 2) (cs := #[.int .i64 p0, .int .i64 p1, .int .i64 p2, .int .i64 p3]) (t := 25) ?_ rfl, hk_cell (i := 3) (cs := #[.int .i64 p0, .int .i64 p1, .int .i64 p2, .int .i64 p3]) (t := 25) ?_ rfl⟩ <;> (repeat (first | (with_reducible exact Kb4.out) | (with_reducible refine hk_drew ?_) | (with_reducible refine hk_drewN ?_ _) | (with_reducible refine hk_alloc ?_ _) | (with_reducible refine hk_setO ?_ (by omega)))); done)
      | (refine ⟨hk_cell (i := 0) (cs := #[.int .i64 p0, .int .i64 p1, .int .i64 p2, .int .i64 p3]) (t := 25) ?_ rfl, hk_cell (i := 1) (cs := #[.int .i64 p0, .int .i64 p1, .int .i64 p2, .int .i64 p3]) (t := 25) ?_ rfl, hk_cell (i := 2) (cs := #[.int .i64 p0, .int .i64 p1, .int .i64 p2, .int .i64 p3]) (t := 25) ?_ rfl, hk_cell (i := 3) (cs := #[.int .i64 p0, .int .i64 p1, .int .i64 p2, .int .i64 p3]) (t := 25) ?_ rfl⟩ <;> (repeat (first | (with_reducible exact Kb3.out) | (with_reducible refine hk_drew ?_) | (with_reducible refine hk_drewN ?_ _) | (with_reducible refine hk_alloc ?_ _) | (with_reducible refine hk_setO ?_ (by omega)))); done))
    ((first
      | (go_at_call 62; (with_reducible refine (Gap13_any g a n c _ ?_).mono ?_); (focus (repeat (first | (with_reducible exact S3.out) | (with_reducible refine Src.drew ?_) | (with_reducible refine Src.drewN ?_ _) | (with_reducible refine Src.alloc ?_ _)))); rintro e w4 ⟨x4, rfl, hs4, hg4⟩; have Kr4 : Hid (w4.heap[w.heap.size]? = some (.cells #[.int .i64 0, .int .i64 0, .int .i64 0, .int .i64 0] 25 (0, 0))) := (by show _ = _; refine hk_call ?_ hg4 (by omega); repeat (first | (with_reducible exact Kr3.out) | (with_reducible refine hk_drew ?_) | (with_reducible refine hk_drewN ?_ _) | (with_reducible refine hk_alloc ?_ _) | (with_reducible refine hk_setO ?_ (by omega)))); have Kb4 : Hid (w4.heap[w2.heap.size]? = some (.cells #[.int .i64 p0, .int .i64 p1, .int .i64 p2, .int .i64 p3] 25 (0, 0))) := (by show _ = _; refine hk_call ?_ hg4 (by omega); repeat (first | (with_reducible exact Kb3.out) | (with_reducible refine hk_drew ?_) | (with_reducible refine hk_drewN ?_ _) | (with_reducible refine hk_alloc ?_ _) | (with_reducible refine hk_setO ?_ (by omega)))); have T4 : Below w.heap.size w w4 := Below.grown (by repeat (first | (with_reducible assumption) | (with_reducible exact Below.refl _ _) | (with_reducible refine Below.drew ?_) | (with_reducible refine blw_al ?_ _) | (with_reducible refine blw_set ?_ (by dsimp only; omega) _))) hg4 (by (try simp only [World.size_alloc, World.size_drew]); omega) (fun q hq => by injection hq with hq; omega); have z4 := T4.size; have y4 := hg4.size; (try simp only [World.size_alloc, World.size_drew] at y4); have S4 := Lib.hid hs4; have cr0 : w4.cell? ⟨w.heap.size, 0, none⟩ = some (.int .i64 0) := hk_cell (i := 0) Kr4.out rfl; have fr0 := hk_free (i := 0) Kr4.out; have cr1 : w4.cell? ⟨w.heap.size, 1, none⟩ = some (.int .i64 0) := hk_cell (i := 1) Kr4.out rfl; have fr1 := hk_free (i := 1) Kr4.out; have cr2 : w4.cell? ⟨w.heap.size, 2, none⟩ = some (.int .i64 0) := hk_cell (i := 2) Kr4.out rfl; have fr2 := hk_free (i := 2) Kr4.out; have cr3 : w4.cell? ⟨w.heap.size, 3, none⟩ = some (.int .i64 0) := hk_cell (i := 3) Kr4.out rfl; have fr3 := hk_free (i := 3) Kr4.out; have cb0 : w4.cell? ⟨w2.heap.size, 0, none⟩ = some (.int .i64 p0) := hk_cell (i := 0) Kb4.out rfl; have cb1 : w4.cell? ⟨w2.heap.size, 1, none⟩ = some (.int .i64 p1) := hk_cell (i := 1) Kb4.out rfl; have cb2 : w4.cell? ⟨w2.heap.size, 2, none⟩ = some (.int .i64 p2) := hk_cell (i := 2) Kb4.out rfl; have cb3 : w4.cell? ⟨w2.heap.size, 3, none⟩ = some (.int .i64 p3) := hk_cell (i := 3) Kb4.out rfl; clear hs4 hg4)
      | fail))
  all_goals
    go_wp2
    refine bodyPost_ret (v := .tuple #[.agg #[.int .i64 p0, .int .i64 p1, .int .i64 p2, .int .i64 p3], .int .i64 x3, .int .i64 x4]) (by simp [results, Try.results40, go_sem, *]) rfl ⟨p0, p1, p2, p3, x3, x4, rfl, (by repeat (first | (with_reducible assumption) | (with_reducible exact Below.refl _ _) | (with_reducible refine Below.drew ?_) | (with_reducible refine blw_al ?_ _) | (with_reducible refine blw_set ?_ (by dsimp only; omega) _)))⟩

set_option maxHeartbeats 800000 in
theorem DrawGripOf_any (a : Option Addr) (n c : Nat) (w : World) (h : RdB w w.heap.size a n) (hn : n ≤ 4096) :
    Calls Try.prog 35 #[.slice a n c] w fun e w' => ∃ v0 v1 v2 v3 v4 : Int, e = .returned (.tuple #[.agg #[.int .i64 v0, .int .i64 v1, .int .i64 v2, .int .i64 v3], .int .i64 v4]) ∧ Below w.heap.size w w' := by
  have HB0 := Lib.hid h
  clear h
  go_enter Try.func35, Try.ntmps35
  go_wp2_with fail
  (with_reducible refine (DrawPullOf_any a n c _ (rdb_alloc HB0.out _) hn).mono ?_)
  rintro e w1 ⟨v0, v1, v2, v3, v4, rfl, hb⟩
  have K : w1.heap[w.heap.size]? = some (.cells #[.int .i64 0, .int .i64 0, .int .i64 0, .int .i64 0] 25 (0, 0)) := hk_below (heap_alloc_new _ _) hb
  have hlt := heap_lt K
  have f0 := hk_free (i := 0) K
  have f1 := hk_free (i := 1) K
  have f2 := hk_free (i := 2) K
  have f3 := hk_free (i := 3) K
  have c0 := hk_cell (i := 0) K rfl
  have c1 := hk_cell (i := 1) K rfl
  have c2 := hk_cell (i := 2) K rfl
  have c3 := hk_cell (i := 3) K rfl
  have T1 : Below w.heap.size w w1 := ((Below.refl _ _).alloc (Nat.le_refl _) _).trans (hb.mono (by simp))
  clear K
  go_wp2
  refine bodyPost_ret (v := .tuple #[.agg #[.int .i64 v0, .int .i64 v1, .int .i64 v2, .int .i64 v3], .int .i64 v4]) (by simp [results, Try.results35, go_sem, *]) rfl ⟨v0, v1, v2, v3, v4, rfl, (by repeat (first | (with_reducible assumption) | (with_reducible exact Below.refl _ _) | (with_reducible refine Below.drew ?_) | (with_reducible refine blw_al ?_ _) | (with_reducible refine blw_set ?_ (by dsimp only; omega) _)))⟩

end Go.Proofs.Ytfgokehoanlobaa
