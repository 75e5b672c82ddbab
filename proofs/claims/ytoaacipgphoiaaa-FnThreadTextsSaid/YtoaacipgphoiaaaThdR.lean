/- Contracts of the draws of threads: in their range; for ThreadText. -/
import Derived.Test.YtoaacipgphoiaaaThdA
set_option linter.unusedSimpArgs false
set_option linter.unusedVariables false
namespace Go.Proofs.Ytoaacipgphoiaaa
open Go.RowKit

set_option maxHeartbeats 800000 in
theorem PickR_any (g : Nat) (a : Option Addr) (n c b k : Nat) (cs : Array Value) (lo hi : Int) (w : World) (h : Src w g a n c) (hc : w.heap[b]? = some (.cells cs 2 (0, 0))) (hk : cs.size = k) (hk1 : 0 < k) (hk2 : k ≤ 100) (hall : ∀ v ∈ cs.toList, ∃ z, v = Value.int .i64 z ∧ lo ≤ z ∧ z ≤ hi) (hbg : b ≠ g) :
    Calls Try.prog 61 #[.pointer (some ⟨g, 0, none⟩), .slice (some ⟨b, 0, none⟩) k k] w fun e w' => ∃ x : Int, e = .returned (.int .i64 x) ∧ (lo ≤ x ∧ x ≤ hi) ∧ Src w' g a n c ∧ w.grownBy w' (some g) := by
  have HS := Lib.hid h
  have HC := Lib.hid hc
  have HA := Lib.hid hall
  have HK := Lib.hid hk
  clear h hc hall hk
  have hbl : b < w.heap.size := heap_lt HC.out
  go_enter Try.func61, Try.ntmps61
  go_wp2_with fail
  (with_reducible refine (Next_any g a n c _ _ HS.out).mono ?_)
  rintro e w1 ⟨x, rfl, ⟨x0, x1, x2⟩, hs, hg⟩
  have hxk : x < (k : Int) := by
    by_cases h1 : 1 < (k : Int)
    · exact x2 h1
    · have := x1 (by omega); omega
  have hb1 : w1.heap[b]? = some (.cells cs 2 (0, 0)) := (hg.block b hbl (fun e => hbg (by injection e))).trans HC.out
  have hxn : x.toNat < cs.size := by have := HK.out; omega
  obtain ⟨z, hz, hzr⟩ := HA.out cs[x.toNat] (by simp)
  have hcell : w1.cell? ⟨b, x.toNat, none⟩ = some (.int .i64 z) := by
    rw [cell_of_row w1 b x.toNat cs 2 (0, 0) hb1, Array.getElem?_eq_getElem hxn, hz]
  have HS1 := Lib.hid hs
  have HG1 := Lib.hid hg
  clear hs hg x1 x2 hb1 hz
  go_wp2
  go_ret
  exact ⟨z, rfl, hzr, HS1.out, HG1.out⟩
set_option maxRecDepth 100000 in
set_option maxHeartbeats 800000 in
theorem Good14_bd (g : Nat) (a : Option Addr) (n c : Nat) (w : World) (h : Src w g a n c) :
    Calls Try.prog 63 #[.pointer (some ⟨g, 0, none⟩)] w fun e w' => ∃ (v0 v1 : Int) (v2 v3 : Bool), e = .returned (.agg #[.int .i64 v0, .int .i64 v1, .bool v2, .bool v3]) ∧ (10 ≤ v0 ∧ v0 ≤ 1000 ∧ 20 ≤ v1 ∧ v1 ≤ 500) ∧ Src w' g a n c ∧ w.grownBy w' (some g) := by
  have S0 := Lib.hid h
  have D0 := World.grownBy.refl w (some g)
  have hG := h.lt
  have z0 : w.heap.size ≤ w.heap.size := Nat.le_refl _
  clear h
  go_enter Try.func63, Try.ntmps63
  go_wp2_with fail
  (with_reducible refine (PickR_any g a n c _ 4 #[.int .i64 50, .int .i64 60, .int .i64 100, .int .i64 143] 10 1000 _ ((S0.out.alloc _).alloc _) (by simpa using heap_alloc_new (w.alloc _) _) rfl (by omega) (by omega) (by simp) (by have := S0.out.lt; omega)).mono ?_)
  rintro e w1 ⟨x1, rfl, ⟨r1, s1⟩, hs1, hg1⟩
  have hlr := hg1.size
  (try simp only [World.size_alloc] at hlr)
  have Kr1 : Hid (w1.heap[w.heap.size]? = some (.cells #[.int .i64 0, .int .i64 0, .bool false, .bool false] 25 (0, 0))) := hk_call (hk_alloc (heap_alloc_new _ _) _) hg1 (by omega)
  clear hlr
  have S1 := Lib.hid hs1
  have D1 := (drw_alloc (drw_alloc D0 _) _).trans hg1
  have z1 := D1.size
  clear hs1 hg1 S0
  have hltr := heap_lt Kr1.out
  go_wp2_with fail
  (with_reducible refine (PickR_any g a n c _ 3 #[.int .i64 80, .int .i64 100, .int .i64 125] 20 500 _ (S1.out.alloc _) (by simpa using heap_alloc_new w1 _) rfl (by omega) (by omega) (by simp) (by have := S1.out.lt; omega)).mono ?_)
  rintro e w2 ⟨x2, rfl, ⟨r2, s2⟩, hs2, hg2⟩
  have Kr2 : Hid (w2.heap[w.heap.size]? = some (.cells #[.int .i64 0, .int .i64 0, .bool false, .bool false] 25 (0, 0))) := hk_call (hk_alloc Kr1.out _) hg2 (by omega)
  clear Kr1
  have S2 := Lib.hid hs2
  have D2 := (drw_alloc D1 _).trans hg2
  have z2 := D2.size
  clear hs2 hg2 S1
  go_wp2_with fail
  (with_reducible refine (Next_any g a n c _ _ S2.out).mono ?_)
  rintro e w3 ⟨x3, rfl, ⟨l3, -, u3⟩, hs3, hg3⟩
  have Kr3 : Hid (w3.heap[w.heap.size]? = some (.cells #[.int .i64 0, .int .i64 0, .bool false, .bool false] 25 (0, 0))) := hk_call Kr2.out hg3 (by omega)
  clear Kr2
  have S3 := Lib.hid hs3
  have D3 := D2.trans hg3
  have z3 := D3.size
  clear hs3 hg3 S2
  replace u3 := u3 (by omega)
  go_wp2_with fail
  (with_reducible refine (Next_any g a n c _ _ S3.out).mono ?_)
  rintro e w4 ⟨x4, rfl, ⟨l4, -, u4⟩, hs4, hg4⟩
  have Kr4 : Hid (w4.heap[w.heap.size]? = some (.cells #[.int .i64 0, .int .i64 0, .bool false, .bool false] 25 (0, 0))) := hk_call Kr3.out hg4 (by omega)
  clear Kr3
  have S4 := Lib.hid hs4
  have D4 := D3.trans hg4
  have z4 := D4.size
  clear hs4 hg4 S3
  replace u4 := u4 (by omega)
  have cr0 := hk_cell (i := 0) Kr4.out rfl
  have fr0 := hk_free (i := 0) Kr4.out
  have cr1 := hk_cell (i := 1) Kr4.out rfl
  have fr1 := hk_free (i := 1) Kr4.out
  have cr2 := hk_cell (i := 2) Kr4.out rfl
  have fr2 := hk_free (i := 2) Kr4.out
  have cr3 := hk_cell (i := 3) Kr4.out rfl
  have fr3 := hk_free (i := 3) Kr4.out
  go_wp2
  refine bodyPost_ret (v := .agg #[.int .i64 x1, .int .i64 x2, .bool (x3 == 0), .bool (x4 == 0)]) (by simp [results, Try.results63, go_sem, *]) rfl ⟨x1, x2, (x3 == 0), (x4 == 0), rfl, ⟨r1, s1, r2, s2⟩, (by repeat (first | (with_reducible exact S4.out) | (with_reducible refine Src.drew ?_) | (with_reducible refine Src.alloc ?_ _) | (refine Src.set ?_ (by omega) _ _))), (by repeat (first | (with_reducible exact D4) | (with_reducible refine drw_drew ?_) | (with_reducible refine drw_alloc ?_ _) | (refine drw_setN ?_ (by omega) _ _)))⟩

set_option maxRecDepth 100000 in
set_option maxHeartbeats 800000 in
theorem DrawThreadText_any (a : Option Addr) (n c : Nat) (w : World) (h : RdB w w.heap.size a n) (hn : n ≤ 4096) :
    Calls Try.prog 38 #[.slice a n c] w fun e w' => ∃ (v0 v1 : Int) (v2 v3 : Bool), e = .returned (.agg #[.int .i64 v0, .int .i64 v1, .bool v2, .bool v3]) ∧ Below w.heap.size w w' := by
  have HB0 := Lib.hid h
  have T0 := Below.refl w.heap.size w
  clear h
  go_enter Try.func38, Try.ntmps38
  go_wp2_with fail
  (with_reducible refine (From_any a n c _ (rdb_alloc HB0.out _) hn).mono ?_)
  rintro e w1 ⟨g, rfl, hs1, hgw, hb1⟩
  have T1 : Below w.heap.size w w1 := Below.trans (by repeat (first | (with_reducible assumption) | (with_reducible exact Below.refl _ _) | (with_reducible refine Below.drew ?_) | (with_reducible refine blw_al ?_ _) | (with_reducible refine blw_set ?_ (by dsimp only; omega) _))) (hb1.mono (by (try simp only [World.size_alloc]); omega))
  have z1 := T1.size
  have zb1 := hb1.size
  (try simp only [World.size_alloc] at hgw zb1)
  have S1 := Lib.hid hs1
  have Kr1 : Hid (w1.heap[w.heap.size]? = some (.cells #[.int .i64 0, .int .i64 0, .bool false, .bool false] 25 (0, 0))) := hk_below (heap_alloc_new _ _) hb1
  have hg1 := S1.out.lt
  clear hs1 hb1
  go_wp2_with fail
  (with_reducible refine (Draw14_any g a n c _ S1.out).mono ?_)
  rintro e w2 ⟨d, p, l, i, rfl, hs2, hg2⟩
  have Kr2 : Hid (w2.heap[w.heap.size]? = some (.cells #[.int .i64 0, .int .i64 0, .bool false, .bool false] 25 (0, 0))) := hk_call Kr1.out hg2 (by omega)
  have T2 : Below w.heap.size w w2 := Below.grown (by repeat (first | (with_reducible assumption) | (with_reducible exact Below.refl _ _) | (with_reducible refine Below.drew ?_) | (with_reducible refine blw_al ?_ _) | (with_reducible refine blw_set ?_ (by dsimp only; omega) _))) hg2 (by (try simp only [World.size_alloc]); omega) (fun q hq => by injection hq with hq; omega)
  have z2 := T2.size
  have y2 := hg2.size
  (try simp only [World.size_alloc] at y2)
  have S2 := Lib.hid hs2
  clear hs2 hg2 S1 Kr1
  have cr0 := hk_cell (i := 0) Kr2.out rfl
  have fr0 := hk_free (i := 0) Kr2.out
  have cr1 := hk_cell (i := 1) Kr2.out rfl
  have fr1 := hk_free (i := 1) Kr2.out
  have cr2 := hk_cell (i := 2) Kr2.out rfl
  have fr2 := hk_free (i := 2) Kr2.out
  have cr3 := hk_cell (i := 3) Kr2.out rfl
  have fr3 := hk_free (i := 3) Kr2.out
  go_wp2
  refine bodyPost_ret (v := .agg #[.int .i64 d, .int .i64 p, .bool l, .bool i]) (by simp [results, Try.results38, go_sem, *]) rfl ⟨d, p, l, i, rfl, (by repeat (first | (with_reducible assumption) | (with_reducible exact Below.refl _ _) | (with_reducible refine Below.drew ?_) | (with_reducible refine blw_al ?_ _) | (with_reducible refine blw_set ?_ (by dsimp only; omega) _)))⟩

end Go.Proofs.Ytoaacipgphoiaaa
