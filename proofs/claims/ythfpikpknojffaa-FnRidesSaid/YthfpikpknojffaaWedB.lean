/- Contracts of Draw..(code) of rides. -/
import Derived.Test.YthfpikpknojffaaWedA
set_option linter.unusedSimpArgs false
set_option linter.unusedVariables false
namespace Go.Proofs.Ythfpikpknojffaa
open Go.RowKit

theorem OwRid.set1 {w : World} {base g : Nat} {v : Value} {rs : List (Int × Int × Bool)} (h : OwRid w (g + 1) v rs) (i : Nat) (u : Value) : OwRid (w.setCell ⟨g, i, none⟩ u) (g + 1) v rs := by
  refine OwRid.farLt h (row := some g) ⟨rfl, rfl, rfl, by simp [World.setCell], fun k hk hne => Below.heap_setCell w ⟨g, i, none⟩ u k (fun e => hne (by have e' : k = g := e; rw [e']))⟩ (fun q hq => by injection hq with hq; omega)
theorem OwRid.setR {w : World} {g : Nat} {v : Value} {rs : List (Int × Int × Bool)} (h : OwRid w (g + 1) v rs) (x y z : Value) : OwRid (((w.setCell ⟨g, 0, none⟩ x).setCell ⟨g, 1, none⟩ y).setCell ⟨g, 2, none⟩ z) g v rs :=
  OwRid.mono (((h.set1 (base := 0) 0 x).set1 (base := 0) 1 y).set1 (base := 0) 2 z) (by omega)
set_option maxRecDepth 100000 in
set_option maxHeartbeats 1600000 in
theorem DrawChanged_any (a : Option Addr) (n c : Nat) (w : World) (h : RdB w w.heap.size a n) (hn : n ≤ 4096) :
    Calls Try.prog 63 #[.slice a n c] w fun e w' => ∃ (v : Value) (rs : List (Int × Int × Bool)) (x : Int), e = .returned (.tuple #[v, .int .i64 x]) ∧ OwRid w' w.heap.size v rs ∧ rs.length ≤ 61 ∧ Below w.heap.size w w' := by
  have HB0 := Lib.hid h
  clear h
  go_enter Try.func63, Try.ntmps63
  go_wp2_with fail
  (with_reducible refine (From_any a n c _ HB0.out hn).mono ?_)
  rintro e w0 ⟨g, rfl, hs0, hgw, hb0⟩
  have hgb := hs0.lt
  have hlt0 := hb0.size
  have S0 := Lib.hid hs0
  have D0 := World.grownBy.refl w0 (some g)
  clear hs0
  go_wp2_with fail
  (with_reducible refine (Draw12_any g a n c _ S0.out).mono ?_)
  rintro e w1 ⟨v, rs, rfl, ho, hl61, hs1, hg1⟩
  have S1 := Lib.hid hs1
  have D1 := D0.trans hg1
  clear hg1 hs1 S0
  obtain ⟨ao, co, ev, -⟩ := ho.rd.shape
  subst ev
  have O1 : Hid (OwRid w1 w0.heap.size (.slice ao rs.length co) rs) := ho
  clear ho
  go_wp2_with fail
  (with_reducible refine (Life12_any g a n c _ S1.out).mono ?_)
  rintro e w2 ⟨x2, rfl, hs2, hg2⟩
  have S2 := Lib.hid hs2
  have D2 := D1.trans hg2
  have O2 : Hid (OwRid w2 w0.heap.size (.slice ao rs.length co) rs) := O1.out.farLt hg2 (fun q hq => by injection hq with hq; omega)
  clear hg2 hs2 S1 O1
  have hOf := O2.out.mono hlt0
  go_wp2
  go_ret2
  exact ⟨_, rs, x2, rfl, hOf, hl61, hb0.grown D2 (by omega) (fun q hq => by injection hq with hq; omega)⟩
set_option maxRecDepth 100000 in
set_option maxHeartbeats 1600000 in
theorem DrawLifeFor_any (a : Option Addr) (n c : Nat) (w : World) (h : RdB w w.heap.size a n) (hn : n ≤ 4096) :
    Calls Try.prog 42 #[.slice a n c] w fun e w' => ∃ (v : Value) (rs : List (Int × Int × Bool)) (x : Int), e = .returned (.tuple #[v, .int .i64 x]) ∧ OwRid w' w.heap.size v rs ∧ rs.length ≤ 61 ∧ Below w.heap.size w w' := by
  have HB0 := Lib.hid h
  clear h
  go_enter Try.func42, Try.ntmps42
  go_wp2_with fail
  (with_reducible refine (From_any a n c _ HB0.out hn).mono ?_)
  rintro e w0 ⟨g, rfl, hs0, hgw, hb0⟩
  have hgb := hs0.lt
  have hlt0 := hb0.size
  have S0 := Lib.hid hs0
  have D0 := World.grownBy.refl w0 (some g)
  clear hs0
  go_wp2_with fail
  (with_reducible refine (Draw12_any g a n c _ S0.out).mono ?_)
  rintro e w1 ⟨v, rs, rfl, ho, hl61, hs1, hg1⟩
  have S1 := Lib.hid hs1
  have D1 := D0.trans hg1
  clear hg1 hs1 S0
  obtain ⟨ao, co, ev, -⟩ := ho.rd.shape
  subst ev
  have O1 : Hid (OwRid w1 w0.heap.size (.slice ao rs.length co) rs) := ho
  clear ho
  go_wp2_with fail
  (with_reducible refine (Next_any g a n c _ _ S1.out).mono ?_)
  rintro e w2 ⟨x2, rfl, ⟨lo2, -, up2⟩, hs2, hg2⟩
  have S2 := Lib.hid hs2
  have D2 := D1.trans hg2
  have O2 : Hid (OwRid w2 w0.heap.size (.slice ao rs.length co) rs) := O1.out.farLt hg2 (fun q hq => by injection hq with hq; omega)
  clear hg2 hs2 S1 O1
  replace up2 := up2 (by omega)
  have hpl2 := S2.out.lt
  go_wp2_with fail
  (with_reducible refine (Pick_any g a n c _ 6 _ _ (S2.out.alloc _) (heap_alloc_new _ _) rfl (by omega) (by omega) (by simp) (by omega)).mono ?_)
  rintro e w3 ⟨x3, rfl, hs3, hg3⟩
  have S3 := Lib.hid hs3
  have D3 := (drw_alloc D2 _).trans hg3
  have O3 : Hid (OwRid w3 w0.heap.size (.slice ao rs.length co) rs) := (O2.out.alloc _).farLt hg3 (fun q hq => by injection hq with hq; omega)
  clear hg3 hs3 S2 O2
  have hOf := O3.out.mono hlt0
  go_wp2
  go_ret2
  exact ⟨_, rs, x3, rfl, hOf, hl61, hb0.grown D3 (by omega) (fun q hq => by injection hq with hq; omega)⟩
set_option maxRecDepth 100000 in
set_option maxHeartbeats 1600000 in
theorem DrawDay_any (a : Option Addr) (n c : Nat) (w : World) (h : RdB w w.heap.size a n) (hn : n ≤ 4096) :
    Calls Try.prog 43 #[.slice a n c] w fun e w' => ∃ (v : Value) (rs : List (Int × Int × Bool)) (x : Int), e = .returned (.tuple #[v, .int .i64 x]) ∧ OwRid w' w.heap.size v rs ∧ rs.length ≤ 61 ∧ Below w.heap.size w w' := by
  have HB0 := Lib.hid h
  clear h
  go_enter Try.func43, Try.ntmps43
  go_wp2_with fail
  (with_reducible refine (From_any a n c _ HB0.out hn).mono ?_)
  rintro e w0 ⟨g, rfl, hs0, hgw, hb0⟩
  have hgb := hs0.lt
  have hlt0 := hb0.size
  have S0 := Lib.hid hs0
  have D0 := World.grownBy.refl w0 (some g)
  clear hs0
  have HB1 := Lib.hid ((HB0.out.below hb0).keep hb0.size (fun _ _ => rfl))
  go_wp2_with fail
  (with_reducible refine (DrawChanged_any a n c _ HB1.out hn).mono ?_)
  rintro e w1 ⟨v, rs, x, rfl, hr, hl61, hb1⟩
  obtain ⟨ao, co, ev, -⟩ := hr.rd.shape
  subst ev
  have S1 := Lib.hid (S0.out.below hb1)
  have HR1 := Lib.hid hr
  have hg1 := S1.out.lt
  clear S0 hr
  go_wp2_with fail
  (with_reducible refine (Pick_any g a n c _ 4 _ _ (S1.out.alloc _) (heap_alloc_new _ _) rfl (by omega) (by omega) (by simp) (by omega)).mono ?_)
  rintro e w2 ⟨x2, rfl, hs2, hg2⟩
  have hz1 := hb1.size
  have hr2 : OwRid w2 w.heap.size (.slice ao rs.length co) rs := ((HR1.out.alloc _).farLt hg2 (fun q hq => by injection hq with hq; omega)).mono hlt0
  have T2 : Below w.heap.size w w2 := (((hb0.trans (hb1.mono hlt0)).alloc (by omega) _).grown hg2 (by (try simp); omega) (fun q hq => by injection hq with hq; omega))
  go_wp2
  go_ret2
  exact ⟨_, rs, x2, rfl, hr2, hl61, T2⟩
set_option maxRecDepth 100000 in
set_option maxHeartbeats 1600000 in
theorem DrawAddRide_any (a : Option Addr) (n c : Nat) (w : World) (h : RdB w w.heap.size a n) (hn : n ≤ 4096) :
    Calls Try.prog 44 #[.slice a n c] w fun e w' => ∃ (v : Value) (rs : List (Int × Int × Bool)) (x y : Int) (z : Bool), e = .returned (.tuple #[v, .agg #[.int .i64 x, .int .i64 y, .bool z]]) ∧ OwRid w' w.heap.size v rs ∧ rs.length ≤ 61 ∧ Below w.heap.size w w' := by
  have HB0 := Lib.hid h
  clear h
  go_enter Try.func44, Try.ntmps44
  go_wp2_with fail
  generalize hw : w.alloc (.cells #[.int .i64 0, .int .i64 0, .bool false] 35) = wr0
  have HBr : Hid (RdB wr0 wr0.heap.size a n) := by show RdB _ _ _ _; rw [← hw]; exact rdb_alloc HB0.out _
  have hKr : wr0.heap[w.heap.size]? = some (.cells #[.int .i64 0, .int .i64 0, .bool false] 35 (0, 0)) := by rw [← hw]; exact heap_alloc_new _ _
  have hBr : Below w.heap.size w wr0 := by rw [← hw]; exact (Below.refl _ _).alloc (Nat.le_refl _) _
  have hzr : w.heap.size < wr0.heap.size := by rw [← hw]; simp
  clear hw HB0
  (with_reducible refine (From_any a n c _ HBr.out hn).mono ?_)
  rintro e w0 ⟨g, rfl, hs0, hgw, hb0⟩
  have hgb := hs0.lt
  have hlt0 := hb0.size
  have S0 := Lib.hid hs0
  have D0 := World.grownBy.refl w0 (some g)
  have Kr0 : Hid (w0.heap[w.heap.size]? = some (.cells #[.int .i64 0, .int .i64 0, .bool false] 35 (0, 0))) := hk_below hKr hb0
  clear hs0 hKr
  go_wp2_with fail
  (with_reducible refine (Draw12_any g a n c _ S0.out).mono ?_)
  rintro e w1 ⟨v, rs, rfl, ho, hl61, hs1, hg1⟩
  have S1 := Lib.hid hs1
  have D1 := D0.trans hg1
  have Kr1 : Hid (w1.heap[w.heap.size]? = some (.cells #[.int .i64 0, .int .i64 0, .bool false] 35 (0, 0))) := hk_call Kr0.out hg1 (by omega)
  clear hg1 hs1 S0 Kr0
  obtain ⟨ao, co, ev, -⟩ := ho.rd.shape
  subst ev
  have O1 : Hid (OwRid w1 w0.heap.size (.slice ao rs.length co) rs) := ho
  clear ho
  go_wp2_with fail
  (with_reducible refine (Next_any g a n c _ _ S1.out).mono ?_)
  rintro e w2 ⟨x2, rfl, ⟨lo2, -, up2⟩, hs2, hg2⟩
  have S2 := Lib.hid hs2
  have D2 := D1.trans hg2
  have O2 : Hid (OwRid w2 w0.heap.size (.slice ao rs.length co) rs) := O1.out.farLt hg2 (fun q hq => by injection hq with hq; omega)
  have Kr2 : Hid (w2.heap[w.heap.size]? = some (.cells #[.int .i64 0, .int .i64 0, .bool false] 35 (0, 0))) := hk_call Kr1.out hg2 (by omega)
  clear hg2 hs2 S1 O1 Kr1
  replace up2 := up2 (by omega)
  have hpl2 := S2.out.lt
  go_wp2_with fail
  (with_reducible refine (Pick_any g a n c _ 4 _ _ (S2.out.alloc _) (heap_alloc_new _ _) rfl (by omega) (by omega) (by simp) (by omega)).mono ?_)
  rintro e w3 ⟨x3, rfl, hs3, hg3⟩
  have S3 := Lib.hid hs3
  have D3 := (drw_alloc D2 _).trans hg3
  have O3 : Hid (OwRid w3 w0.heap.size (.slice ao rs.length co) rs) := (O2.out.alloc _).farLt hg3 (fun q hq => by injection hq with hq; omega)
  have Kr3 : Hid (w3.heap[w.heap.size]? = some (.cells #[.int .i64 0, .int .i64 0, .bool false] 35 (0, 0))) := hk_call (hk_alloc Kr2.out _) hg3 (by omega)
  clear hg3 hs3 S2 O2 Kr2
  go_wp2_with fail
  (with_reducible refine (Next_any g a n c _ _ S3.out).mono ?_)
  rintro e w4 ⟨x4, rfl, ⟨lo4, -, up4⟩, hs4, hg4⟩
  have S4 := Lib.hid hs4
  have D4 := D3.trans hg4
  have O4 : Hid (OwRid w4 w0.heap.size (.slice ao rs.length co) rs) := O3.out.farLt hg4 (fun q hq => by injection hq with hq; omega)
  have Kr4 : Hid (w4.heap[w.heap.size]? = some (.cells #[.int .i64 0, .int .i64 0, .bool false] 35 (0, 0))) := hk_call Kr3.out hg4 (by omega)
  clear hg4 hs4 S3 O3 Kr3
  replace up4 := up4 (by omega)
  go_wp2_with fail
  (with_reducible refine (Next_any g a n c _ _ S4.out).mono ?_)
  rintro e w5 ⟨x5, rfl, ⟨lo5, -, up5⟩, hs5, hg5⟩
  have S5 := Lib.hid hs5
  have D5 := D4.trans hg5
  have O5 : Hid (OwRid w5 w0.heap.size (.slice ao rs.length co) rs) := O4.out.farLt hg5 (fun q hq => by injection hq with hq; omega)
  have Kr5 : Hid (w5.heap[w.heap.size]? = some (.cells #[.int .i64 0, .int .i64 0, .bool false] 35 (0, 0))) := hk_call Kr4.out hg5 (by omega)
  clear hg5 hs5 S4 O4 Kr4
  replace up5 := up5 (by omega)
  have cr0 := hk_cell (i := 0) Kr5.out rfl
  have fr0 := hk_free (i := 0) Kr5.out
  have cr1 := hk_cell (i := 1) Kr5.out rfl
  have fr1 := hk_free (i := 1) Kr5.out
  have cr2 := hk_cell (i := 2) Kr5.out rfl
  have fr2 := hk_free (i := 2) Kr5.out
  have hxw : IntKind.i64.wrap (1 + x4) = 1 + x4 := IntWalk.i64_in _ (by omega)
  have hDs := D5.size
  have T : Below w.heap.size w w5 := (hBr.trans (hb0.mono (Nat.le_of_lt hzr))).grown D5 (by omega) (fun q hq => by injection hq with hq; omega)
  have HOf := Lib.hid (O5.out.mono (show w.heap.size + 1 ≤ w0.heap.size by omega))
  go_wp2
  refine bodyPost_ret (v := .tuple #[.slice ao rs.length co, .agg #[.int .i64 x3, .int .i64 (1 + x4), .bool (x5 == 0)]]) (by simp [results, Try.results44, go_sem, *]) rfl ⟨_, rs, x3, 1 + x4, (x5 == 0), rfl, ?_, hl61, ?_⟩
  · exact OwRid.setR HOf.out _ _ _
  · repeat (first | (with_reducible exact T) | (with_reducible refine blw_set ?_ (by dsimp only; omega) _))
end Go.Proofs.Ythfpikpknojffaa
