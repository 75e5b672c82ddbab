/- Contracts of the draws of links and stays. -/
import Derived.Test.YtalfomdpkljpcaaDrwA
import Derived.OwnWalk
set_option linter.unusedSimpArgs false
set_option linter.unusedVariables false
namespace Go.Proofs.Ytalfomdpkljpcaa
open Go.RowKit

set_option maxRecDepth 100000 in
set_option maxHeartbeats 800000 in
theorem DrawStay_any (g : Nat) (a : Option Addr) (n c : Nat) (w : World) (h : Src w g a n c) :
    Calls Try.prog 49 #[.pointer (some ⟨g, 0, none⟩)] w fun e w' => ∃ x : Int, e = .returned (.int .i64 x) ∧ Src w' g a n c ∧ w.grownBy w' (some g) := by
  have S0 := Lib.hid h
  have D0 := World.grownBy.refl w (some g)
  clear h
  go_enter Try.func49, Try.ntmps49
  go_wp2_with fail
  (with_reducible refine (Next_any g a n c _ _ S0.out).mono ?_)
  rintro e w1 ⟨x1, rfl, ⟨l1, -, u1⟩, hs1, hg1⟩
  have S1 := Lib.hid hs1
  have D1 := D0.trans hg1
  clear hs1 hg1 S0
  replace u1 := u1 (by omega)
  go_wp2_with fail
  (with_reducible refine (Next_any g a n c _ _ S1.out).mono ?_)
  rintro e w2 ⟨x2, rfl, ⟨l2, -, u2⟩, hs2, hg2⟩
  have S2 := Lib.hid hs2
  have D2 := D1.trans hg2
  clear hs2 hg2 S1
  replace u2 := u2 (by omega)
  go_wp2_with fail
  (with_reducible refine (Pick_any g a n c _ 3 _ _ (S2.out.alloc _) (heap_alloc_new _ _) rfl (by omega) (by omega) (by simp) (by have := S2.out.lt; omega)).mono ?_)
  rintro e w3 ⟨x3, rfl, hs3, hg3⟩
  have S3 := Lib.hid hs3
  have D3 := (drw_alloc D2 _).trans hg3
  clear hs3 hg3 S2
  go_wp2_with fail
  (with_reducible refine (Pick_any g a n c _ 6 _ _ (S3.out.alloc _) (heap_alloc_new _ _) rfl (by omega) (by omega) (by simp) (by have := S3.out.lt; omega)).mono ?_)
  rintro e w4 ⟨x4, rfl, hs4, hg4⟩
  have S4 := Lib.hid hs4
  have D4 := (drw_alloc D3 _).trans hg4
  clear hs4 hg4 S3
  go_wp2
  go_ret
  exact ⟨_, rfl, S4.out, D4⟩

set_option maxRecDepth 100000 in
set_option maxHeartbeats 800000 in
theorem DrawLinks_any (g : Nat) (a : Option Addr) (n c : Nat) (w : World) (h : Src w g a n c) :
    Calls Try.prog 44 #[.pointer (some ⟨g, 0, none⟩)] w fun e w' => ∃ x : Int, e = .returned (.int .i64 x) ∧ Src w' g a n c ∧ w.grownBy w' (some g) := by
  have S0 := Lib.hid h
  have D0 := World.grownBy.refl w (some g)
  clear h
  go_enter Try.func44, Try.ntmps44
  go_wp2_with fail
  (with_reducible refine (Next_any g a n c _ _ S0.out).mono ?_)
  rintro e w1 ⟨x1, rfl, ⟨l1, -, u1⟩, hs1, hg1⟩
  have S1 := Lib.hid hs1
  have D1 := D0.trans hg1
  clear hs1 hg1 S0
  replace u1 := u1 (by omega)
  go_wp2_with fail
  (with_reducible refine (Next_any g a n c _ _ S1.out).mono ?_)
  rintro e w2 ⟨x2, rfl, ⟨l2, -, u2⟩, hs2, hg2⟩
  have S2 := Lib.hid hs2
  have D2 := D1.trans hg2
  clear hs2 hg2 S1
  replace u2 := u2 (by omega)
  go_wp2_with fail
  (with_reducible refine (Pick_any g a n c _ 3 _ _ (S2.out.alloc _) (heap_alloc_new _ _) rfl (by omega) (by omega) (by simp) (by have := S2.out.lt; omega)).mono ?_)
  rintro e w3 ⟨x3, rfl, hs3, hg3⟩
  have S3 := Lib.hid hs3
  have D3 := (drw_alloc D2 _).trans hg3
  clear hs3 hg3 S2
  go_wp2_with fail
  (with_reducible refine (Pick_any g a n c _ 6 _ _ (S3.out.alloc _) (heap_alloc_new _ _) rfl (by omega) (by omega) (by simp) (by have := S3.out.lt; omega)).mono ?_)
  rintro e w4 ⟨x4, rfl, hs4, hg4⟩
  have S4 := Lib.hid hs4
  have D4 := (drw_alloc D3 _).trans hg4
  clear hs4 hg4 S3
  go_wp2
  go_ret
  exact ⟨_, rfl, S4.out, D4⟩

set_option maxRecDepth 100000 in
set_option maxHeartbeats 800000 in
theorem DrawNeedOf_any (a : Option Addr) (n c : Nat) (w : World) (h : RdB w w.heap.size a n) (hn : n ≤ 4096) :
    Calls Try.prog 37 #[.slice a n c] w fun e w' => ∃ v0 v1 v2 : Int, e = .returned (.tuple #[.int .i64 v0, .int .i64 v1, .int .i64 v2]) ∧ Below w.heap.size w w' := by
  have HB0 := Lib.hid h
  clear h
  go_enter Try.func37, Try.ntmps37
  go_wp2_with fail
  (with_reducible refine (From_any a n c _ HB0.out hn).mono ?_)
  rintro e w0 ⟨g, rfl, hs0, hgw, hb0⟩
  have S0 := Lib.hid hs0
  have D0 := World.grownBy.refl w0 (some g)
  have hlt0 := hb0.size
  clear hs0
  go_wp2_with fail
  (with_reducible refine (DrawStay_any g a n c _ S0.out).mono ?_)
  rintro e w1 ⟨x1, rfl, hs1, hg1⟩
  have S1 := Lib.hid hs1
  have D1 := D0.trans hg1
  clear hs1 hg1 S0
  go_wp2_with fail
  (with_reducible refine (Next_any g a n c _ _ S1.out).mono ?_)
  rintro e w2 ⟨x2, rfl, ⟨l2, -, u2⟩, hs2, hg2⟩
  have S2 := Lib.hid hs2
  have D2 := D1.trans hg2
  clear hs2 hg2 S1
  replace u2 := u2 (by omega)
  go_wp2_with fail
  (with_reducible refine (Pick_any g a n c _ 5 _ _ (S2.out.alloc _) (heap_alloc_new _ _) rfl (by omega) (by omega) (by simp) (by have := S2.out.lt; omega)).mono ?_)
  rintro e w3 ⟨x3, rfl, hs3, hg3⟩
  have S3 := Lib.hid hs3
  have D3 := (drw_alloc D2 _).trans hg3
  clear hs3 hg3 S2
  go_wp2_with fail
  (with_reducible refine (Next_any g a n c _ _ S3.out).mono ?_)
  rintro e w4 ⟨x4, rfl, ⟨l4, -, u4⟩, hs4, hg4⟩
  have S4 := Lib.hid hs4
  have D4 := D3.trans hg4
  clear hs4 hg4 S3
  replace u4 := u4 (by omega)
  go_wp2_with fail
  (with_reducible refine (Pick_any g a n c _ 5 _ _ (S4.out.alloc _) (heap_alloc_new _ _) rfl (by omega) (by omega) (by simp) (by have := S4.out.lt; omega)).mono ?_)
  rintro e w5 ⟨x5, rfl, hs5, hg5⟩
  have S5 := Lib.hid hs5
  have D5 := (drw_alloc D4 _).trans hg5
  clear hs5 hg5 S4
  go_wp2
  go_ret3
  exact ⟨x1, x3, x5, rfl, hb0.grown D5 (by omega) (fun q hq => by injection hq with hq; omega)⟩

set_option maxHeartbeats 800000 in
theorem DrawLinksFor_any (a : Option Addr) (n c : Nat) (w : World) (h : RdB w w.heap.size a n) (hn : n ≤ 4096) :
    Calls Try.prog 19 #[.slice a n c] w fun e w' => ∃ v0 v1 v2 : Int, e = .returned (.tuple #[.int .i64 v0, .int .i64 v1, .int .i64 v2]) ∧ Below w.heap.size w w' := by
  have HB0 := Lib.hid h
  clear h
  go_enter Try.func19, Try.ntmps19
  go_wp2_with fail
  (with_reducible refine (DrawNeedOf_any a n c _ HB0.out hn).mono ?_)
  rintro e w1 ⟨v0, v1, v2, rfl, hb⟩
  go_wp2
  go_ret3
  exact ⟨v0, v1, v2, rfl, hb⟩
set_option maxRecDepth 100000 in
set_option maxHeartbeats 800000 in
theorem DrawStayFor_any (a : Option Addr) (n c : Nat) (w : World) (h : RdB w w.heap.size a n) (hn : n ≤ 4096) :
    Calls Try.prog 24 #[.slice a n c] w fun e w' => ∃ v0 v1 v2 : Int, e = .returned (.tuple #[.int .i64 v0, .int .i64 v1, .int .i64 v2]) ∧ Below w.heap.size w w' := by
  have HB0 := Lib.hid h
  clear h
  go_enter Try.func24, Try.ntmps24
  go_wp2_with fail
  (with_reducible refine (From_any a n c _ HB0.out hn).mono ?_)
  rintro e w0 ⟨g, rfl, hs0, hgw, hb0⟩
  have hlt0 := hb0.size
  have S0 := Lib.hid hs0
  have HB1 := Lib.hid ((HB0.out.below hb0).keep hlt0 (fun _ _ => rfl))
  clear hs0
  go_wp2_with fail
  (with_reducible refine (DrawNeedOf_any a n c _ HB1.out hn).mono ?_)
  rintro e w1 ⟨v0, v1, v2, rfl, hb1⟩
  have S1 := Lib.hid (S0.out.below hb1)
  go_wp2_with fail
  (with_reducible refine (DrawLinks_any g a n c _ S1.out).mono ?_)
  rintro e w2 ⟨x, rfl, hs2, hg2⟩
  go_wp2
  go_ret3
  exact ⟨x, v1, v2, rfl, (hb0.trans (hb1.mono hlt0)).grown hg2 (by have := hb1.size; omega) (fun q hq => by injection hq with hq; omega)⟩
set_option maxRecDepth 100000 in
set_option maxHeartbeats 800000 in
theorem DrawCutLinks_any (a : Option Addr) (n c : Nat) (w : World) (h : RdB w w.heap.size a n) (hn : n ≤ 4096) :
    Calls Try.prog 27 #[.slice a n c] w fun e w' => ∃ v0 v1 : Int, e = .returned (.tuple #[.int .i64 v0, .int .i64 v1]) ∧ Below w.heap.size w w' := by
  have HB0 := Lib.hid h
  clear h
  go_enter Try.func27, Try.ntmps27
  go_wp2_with fail
  (with_reducible refine (From_any a n c _ HB0.out hn).mono ?_)
  rintro e w0 ⟨g, rfl, hs0, hgw, hb0⟩
  have S0 := Lib.hid hs0
  have D0 := World.grownBy.refl w0 (some g)
  have hlt0 := hb0.size
  clear hs0
  go_wp2_with fail
  (with_reducible refine (DrawLinks_any g a n c _ S0.out).mono ?_)
  rintro e w1 ⟨x1, rfl, hs1, hg1⟩
  have S1 := Lib.hid hs1
  have D1 := D0.trans hg1
  clear hs1 hg1 S0
  go_wp2_with fail
  (with_reducible refine (DrawLinks_any g a n c _ S1.out).mono ?_)
  rintro e w2 ⟨x2, rfl, hs2, hg2⟩
  have S2 := Lib.hid hs2
  have D2 := D1.trans hg2
  clear hs2 hg2 S1
  go_wp2
  go_ret2
  exact ⟨x1, x2, rfl, hb0.grown D2 (by omega) (fun q hq => by injection hq with hq; omega)⟩

end Go.Proofs.Ytalfomdpkljpcaa
