/- Contracts of the draws of a stay and of a number of links. -/
import Derived.Test.YtfdnhamkkcmnfaaDrwA
import Derived.OwnWalk
set_option linter.unusedSimpArgs false
set_option linter.unusedVariables false
namespace Go.Proofs.Ytfdnhamkkcmnfaa
open Go.RowKit

set_option maxRecDepth 100000 in
set_option maxHeartbeats 800000 in
theorem DrawStay_any (g : Nat) (a : Option Addr) (n c : Nat) (w : World) (h : Src w g a n c) :
    Calls Try.prog 90 #[.pointer (some ⟨g, 0, none⟩)] w fun e w' => ∃ x : Int, e = .returned (.int .i64 x) ∧ Src w' g a n c ∧ w.grownBy w' (some g) := by
  have S0 := Lib.hid h
  have D0 := World.grownBy.refl w (some g)
  clear h
  go_enter Try.func90, Try.ntmps90
  go_wp2_with fail
  (with_reducible refine (Next_any g a n c _ _ S0.out).mono ?_)
  rintro e w1 ⟨x1, rfl, ⟨l1, -, u1⟩, hs1, hg1⟩
  have S1 := Lib.hid hs1
  have D1 := D0.trans hg1
  clear hs1 hg1 S0
  replace u1 := u1 (by omega)
  go_wp2_with fail
  (with_reducible refine (Next_any g a n c _ _ S1.out).mono ?_)
  rintro e w2 ⟨x2, rfl, ⟨l2, -, u2⟩, hs2, hg2⟩
  have S2 := Lib.hid hs2
  have D2 := D1.trans hg2
  clear hs2 hg2 S1
  replace u2 := u2 (by omega)
  go_wp2_with fail
  (with_reducible refine (Pick_any g a n c _ 3 _ _ (S2.out.alloc _) (heap_alloc_new _ _) rfl (by omega) (by omega) (by simp) (by have := S2.out.lt; omega)).mono ?_)
  rintro e w3 ⟨x3, rfl, hs3, hg3⟩
  have S3 := Lib.hid hs3
  have D3 := (drw_alloc D2 _).trans hg3
  clear hs3 hg3 S2
  go_wp2_with fail
  (with_reducible refine (Pick_any g a n c _ 6 _ _ (S3.out.alloc _) (heap_alloc_new _ _) rfl (by omega) (by omega) (by simp) (by have := S3.out.lt; omega)).mono ?_)
  rintro e w4 ⟨x4, rfl, hs4, hg4⟩
  have S4 := Lib.hid hs4
  have D4 := (drw_alloc D3 _).trans hg4
  clear hs4 hg4 S3
  go_wp2
  go_ret
  exact ⟨_, rfl, S4.out, D4⟩

set_option maxRecDepth 100000 in
set_option maxHeartbeats 800000 in
theorem DrawLinks_any (g : Nat) (a : Option Addr) (n c : Nat) (w : World) (h : Src w g a n c) :
    Calls Try.prog 107 #[.pointer (some ⟨g, 0, none⟩)] w fun e w' => ∃ x : Int, e = .returned (.int .i64 x) ∧ Src w' g a n c ∧ w.grownBy w' (some g) := by
  have S0 := Lib.hid h
  have D0 := World.grownBy.refl w (some g)
  clear h
  go_enter Try.func107, Try.ntmps107
  go_wp2_with fail
  (with_reducible refine (Next_any g a n c _ _ S0.out).mono ?_)
  rintro e w1 ⟨x1, rfl, ⟨l1, -, u1⟩, hs1, hg1⟩
  have S1 := Lib.hid hs1
  have D1 := D0.trans hg1
  clear hs1 hg1 S0
  replace u1 := u1 (by omega)
  go_wp2_with fail
  (with_reducible refine (Next_any g a n c _ _ S1.out).mono ?_)
  rintro e w2 ⟨x2, rfl, ⟨l2, -, u2⟩, hs2, hg2⟩
  have S2 := Lib.hid hs2
  have D2 := D1.trans hg2
  clear hs2 hg2 S1
  replace u2 := u2 (by omega)
  go_wp2_with fail
  (with_reducible refine (Pick_any g a n c _ 3 _ _ (S2.out.alloc _) (heap_alloc_new _ _) rfl (by omega) (by omega) (by simp) (by have := S2.out.lt; omega)).mono ?_)
  rintro e w3 ⟨x3, rfl, hs3, hg3⟩
  have S3 := Lib.hid hs3
  have D3 := (drw_alloc D2 _).trans hg3
  clear hs3 hg3 S2
  go_wp2_with fail
  (with_reducible refine (Pick_any g a n c _ 6 _ _ (S3.out.alloc _) (heap_alloc_new _ _) rfl (by omega) (by omega) (by simp) (by have := S3.out.lt; omega)).mono ?_)
  rintro e w4 ⟨x4, rfl, hs4, hg4⟩
  have S4 := Lib.hid hs4
  have D4 := (drw_alloc D3 _).trans hg4
  clear hs4 hg4 S3
  go_wp2
  go_ret
  exact ⟨_, rfl, S4.out, D4⟩

end Go.Proofs.Ytfdnhamkkcmnfaa
