/- Contracts of GearOrder, of the program and of the reference. -/
import Derived.Test.YtfdnhamkkcmnfaaGrdF
import Derived.Test.YtfdnhamkkcmnfaaSlkP
set_option linter.unusedSimpArgs false
set_option linter.unusedVariables false
namespace Go.Proofs.Ytfdnhamkkcmnfaa
open Go.RowKit

set_option maxHeartbeats 800000 in
theorem GearOrder_any (vF vR : Value) (F R : List Int) (rd : Int)  (w : World) (hF : RdI w vF F) (hR : RdI w vR R) (hn : F.length ≤ 1048576) (hm : R.length ≤ 1048576)  :
    Calls Try.prog 50 #[.agg #[vF, vR, .int .i64 rd]] w (RetG w (goR F R rd)) := by
  have HF := Lib.hid hF
  have HRr := Lib.hid hR
  obtain ⟨aF, cF, rfl, -⟩ := hF
  obtain ⟨aR, cR, rfl, -⟩ := hR
  cases hA : trainR F R rd
  · have HE : Hid (goR F R rd = ([], 1)) := by show _ = _; unfold goR; rw [hA]; rfl
    have HA := Lib.hid hA
    clear hA
    go_enter Try.func50, Try.ntmps50
    go_wp2_with fail
    generalize hw : w.alloc (.cells #[.slice aF F.length cF, .slice aR R.length cR, .int .i64 rd] 28) = W0
    have bx0 : W0.cell? ⟨w.heap.size, 0, none⟩ = some (.slice aF F.length cF) := by rw [← hw]; simp [go_sem]
    have bx1 : W0.cell? ⟨w.heap.size, 1, none⟩ = some (.slice aR R.length cR) := by rw [← hw]; simp [go_sem]
    have bx2 : W0.cell? ⟨w.heap.size, 2, none⟩ = some (.int .i64 rd) := by rw [← hw]; simp [go_sem]
    have hbx : w.heap.size < W0.heap.size := by rw [← hw]; simp
    have HTW : Hid (Below w.heap.size w W0) := by
      show Below _ _ _
      rw [← hw]; exact (Below.refl _ _).alloc (Nat.le_refl _) _
    have HF0 := Lib.hid (show RdI W0 (.slice aF F.length cF) F by rw [← hw]; exact HF.out.alloc _)
    have HR0 := Lib.hid (show RdI W0 (.slice aR R.length cR) R by rw [← hw]; exact HRr.out.alloc _)
    have HBX := Lib.hid (And.intro bx0 (And.intro bx1 bx2))
    have T0 := Below.refl W0.heap.size W0
    clear hw
    go_wp2_with fail
    (with_reducible refine (IsTrain_any _ _ F R rd _ (HF0.out.below T0) (HR0.out.below T0) hn hm).mono ?_)
    rintro e w1 ⟨rfl, hb1⟩
    have T1 : Below W0.heap.size W0 w1 := T0.trans (hb1.mono T0.size)
    clear bx0 bx1 bx2
    have bx0 := (T1.cell (p := ⟨w.heap.size, 0, none⟩) hbx).trans HBX.out.1
    have bx1 := (T1.cell (p := ⟨w.heap.size, 1, none⟩) hbx).trans HBX.out.2.1
    have bx2 := (T1.cell (p := ⟨w.heap.size, 2, none⟩) hbx).trans HBX.out.2.2
    rw [HA.out]
    go_wp2
    go_ret2
    exact RetG.mk HE.out (OwG.nil _ _) rfl (HTW.out.trans (T1.mono (Nat.le_of_lt hbx)))
  obtain ⟨tF, tR, -, -⟩ := trainR_at hA
  have HE : Hid (goR F R rd = (ordG F R, 0)) := by show _ = _; unfold goR; rw [hA]; rfl
  have HA := Lib.hid hA
  clear hA
  go_enter Try.func50, Try.ntmps50
  go_wp2_with fail
  generalize hw : w.alloc (.cells #[.slice aF F.length cF, .slice aR R.length cR, .int .i64 rd] 28) = W0
  have bx0 : W0.cell? ⟨w.heap.size, 0, none⟩ = some (.slice aF F.length cF) := by rw [← hw]; simp [go_sem]
  have bx1 : W0.cell? ⟨w.heap.size, 1, none⟩ = some (.slice aR R.length cR) := by rw [← hw]; simp [go_sem]
  have bx2 : W0.cell? ⟨w.heap.size, 2, none⟩ = some (.int .i64 rd) := by rw [← hw]; simp [go_sem]
  have hbx : w.heap.size < W0.heap.size := by rw [← hw]; simp
  have HTW : Hid (Below w.heap.size w W0) := by
    show Below _ _ _
    rw [← hw]; exact (Below.refl _ _).alloc (Nat.le_refl _) _
  have HF0 := Lib.hid (show RdI W0 (.slice aF F.length cF) F by rw [← hw]; exact HF.out.alloc _)
  have HR0 := Lib.hid (show RdI W0 (.slice aR R.length cR) R by rw [← hw]; exact HRr.out.alloc _)
  have HBX := Lib.hid (And.intro bx0 (And.intro bx1 bx2))
  have T0 := Below.refl W0.heap.size W0
  clear hw
  go_wp2_with fail
  (with_reducible refine (IsTrain_any _ _ F R rd _ (HF0.out.below T0) (HR0.out.below T0) hn hm).mono ?_)
  rintro e w1 ⟨rfl, hb1⟩
  have T1 : Below W0.heap.size W0 w1 := T0.trans (hb1.mono T0.size)
  clear bx0 bx1 bx2
  have bx0 := (T1.cell (p := ⟨w.heap.size, 0, none⟩) hbx).trans HBX.out.1
  have bx1 := (T1.cell (p := ⟨w.heap.size, 1, none⟩) hbx).trans HBX.out.2.1
  have bx2 := (T1.cell (p := ⟨w.heap.size, 2, none⟩) hbx).trans HBX.out.2.2
  rw [HA.out]
  go_wp2_with fail
  (with_reducible refine (gearOrder_any _ _ F R rd _ (HF0.out.below T1) (HR0.out.below T1) hn hm tF tR).mono ?_)
  rintro e w2 ⟨v2, L, rfl, ho2, hm2, hb2⟩
  have T2 : Below W0.heap.size W0 w2 := T1.trans (hb2.mono T1.size)
  clear bx0 bx1 bx2
  have bx0 := (T2.cell (p := ⟨w.heap.size, 0, none⟩) hbx).trans HBX.out.1
  have bx1 := (T2.cell (p := ⟨w.heap.size, 1, none⟩) hbx).trans HBX.out.2.1
  have bx2 := (T2.cell (p := ⟨w.heap.size, 2, none⟩) hbx).trans HBX.out.2.2
  have hsz := T1.size
  go_wp2
  go_ret2
  exact RetG.mk HE.out (ho2.mono (by omega)) hm2 (HTW.out.trans (T2.mono (Nat.le_of_lt hbx)))

set_option maxHeartbeats 800000 in
theorem sGearOrder_any (vF vR : Value) (F R : List Int) (rd : Int)  (w : World) (hF : RdI w vF F) (hR : RdI w vR R) (hn : F.length ≤ 1048576) (hm : R.length ≤ 1048576)  :
    Calls Try.prog 51 #[.agg #[vF, vR, .int .i64 rd]] w (RetG w (goR F R rd)) := by
  have HF := Lib.hid hF
  have HRr := Lib.hid hR
  obtain ⟨aF, cF, rfl, -⟩ := hF
  obtain ⟨aR, cR, rfl, -⟩ := hR
  cases hA : trainR F R rd
  · have HE : Hid (goR F R rd = ([], 1)) := by show _ = _; unfold goR; rw [hA]; rfl
    have HA := Lib.hid hA
    clear hA
    go_enter Try.func51, Try.ntmps51
    go_wp2_with fail
    generalize hw : w.alloc (.cells #[.slice aF F.length cF, .slice aR R.length cR, .int .i64 rd] 28) = W0
    have bx0 : W0.cell? ⟨w.heap.size, 0, none⟩ = some (.slice aF F.length cF) := by rw [← hw]; simp [go_sem]
    have bx1 : W0.cell? ⟨w.heap.size, 1, none⟩ = some (.slice aR R.length cR) := by rw [← hw]; simp [go_sem]
    have bx2 : W0.cell? ⟨w.heap.size, 2, none⟩ = some (.int .i64 rd) := by rw [← hw]; simp [go_sem]
    have hbx : w.heap.size < W0.heap.size := by rw [← hw]; simp
    have HTW : Hid (Below w.heap.size w W0) := by
      show Below _ _ _
      rw [← hw]; exact (Below.refl _ _).alloc (Nat.le_refl _) _
    have HF0 := Lib.hid (show RdI W0 (.slice aF F.length cF) F by rw [← hw]; exact HF.out.alloc _)
    have HR0 := Lib.hid (show RdI W0 (.slice aR R.length cR) R by rw [← hw]; exact HRr.out.alloc _)
    have HBX := Lib.hid (And.intro bx0 (And.intro bx1 bx2))
    have T0 := Below.refl W0.heap.size W0
    clear hw
    go_wp2_with fail
    (with_reducible refine (sIsTrain_any _ _ F R rd _ (HF0.out.below T0) (HR0.out.below T0) hn hm).mono ?_)
    rintro e w1 ⟨rfl, hb1⟩
    have T1 : Below W0.heap.size W0 w1 := T0.trans (hb1.mono T0.size)
    clear bx0 bx1 bx2
    have bx0 := (T1.cell (p := ⟨w.heap.size, 0, none⟩) hbx).trans HBX.out.1
    have bx1 := (T1.cell (p := ⟨w.heap.size, 1, none⟩) hbx).trans HBX.out.2.1
    have bx2 := (T1.cell (p := ⟨w.heap.size, 2, none⟩) hbx).trans HBX.out.2.2
    rw [HA.out]
    go_wp2
    go_ret2
    exact RetG.mk HE.out (OwG.nil _ _) rfl (HTW.out.trans (T1.mono (Nat.le_of_lt hbx)))
  obtain ⟨tF, tR, -, -⟩ := trainR_at hA
  have HE : Hid (goR F R rd = (ordG F R, 0)) := by show _ = _; unfold goR; rw [hA]; rfl
  have HA := Lib.hid hA
  clear hA
  go_enter Try.func51, Try.ntmps51
  go_wp2_with fail
  generalize hw : w.alloc (.cells #[.slice aF F.length cF, .slice aR R.length cR, .int .i64 rd] 28) = W0
  have bx0 : W0.cell? ⟨w.heap.size, 0, none⟩ = some (.slice aF F.length cF) := by rw [← hw]; simp [go_sem]
  have bx1 : W0.cell? ⟨w.heap.size, 1, none⟩ = some (.slice aR R.length cR) := by rw [← hw]; simp [go_sem]
  have bx2 : W0.cell? ⟨w.heap.size, 2, none⟩ = some (.int .i64 rd) := by rw [← hw]; simp [go_sem]
  have hbx : w.heap.size < W0.heap.size := by rw [← hw]; simp
  have HTW : Hid (Below w.heap.size w W0) := by
    show Below _ _ _
    rw [← hw]; exact (Below.refl _ _).alloc (Nat.le_refl _) _
  have HF0 := Lib.hid (show RdI W0 (.slice aF F.length cF) F by rw [← hw]; exact HF.out.alloc _)
  have HR0 := Lib.hid (show RdI W0 (.slice aR R.length cR) R by rw [← hw]; exact HRr.out.alloc _)
  have HBX := Lib.hid (And.intro bx0 (And.intro bx1 bx2))
  have T0 := Below.refl W0.heap.size W0
  clear hw
  go_wp2_with fail
  (with_reducible refine (sIsTrain_any _ _ F R rd _ (HF0.out.below T0) (HR0.out.below T0) hn hm).mono ?_)
  rintro e w1 ⟨rfl, hb1⟩
  have T1 : Below W0.heap.size W0 w1 := T0.trans (hb1.mono T0.size)
  clear bx0 bx1 bx2
  have bx0 := (T1.cell (p := ⟨w.heap.size, 0, none⟩) hbx).trans HBX.out.1
  have bx1 := (T1.cell (p := ⟨w.heap.size, 1, none⟩) hbx).trans HBX.out.2.1
  have bx2 := (T1.cell (p := ⟨w.heap.size, 2, none⟩) hbx).trans HBX.out.2.2
  rw [HA.out]
  go_wp2_with fail
  (with_reducible refine (l09Order_any _ _ F R rd _ (HF0.out.below T1) (HR0.out.below T1) hn hm tF tR).mono ?_)
  rintro e w2 ⟨v2, L, rfl, ho2, hm2, hb2⟩
  have T2 : Below W0.heap.size W0 w2 := T1.trans (hb2.mono T1.size)
  clear bx0 bx1 bx2
  have bx0 := (T2.cell (p := ⟨w.heap.size, 0, none⟩) hbx).trans HBX.out.1
  have bx1 := (T2.cell (p := ⟨w.heap.size, 1, none⟩) hbx).trans HBX.out.2.1
  have bx2 := (T2.cell (p := ⟨w.heap.size, 2, none⟩) hbx).trans HBX.out.2.2
  have hsz := T1.size
  go_wp2
  go_ret2
  exact RetG.mk HE.out (ho2.mono (by omega)) hm2 (HTW.out.trans (T2.mono (Nat.le_of_lt hbx)))

theorem GearOrder_r (vF vR : Value) (F R : List Int) (rd : Int) (w : World) (hF : RdI w vF F) (hR : RdI w vR R) (hn : F.length ≤ 1048576) (hm : R.length ≤ 1048576) (gs : List Gear) (c : Int) (h : (gs, c) = goR F R rd) : Calls Try.prog 50 #[.agg #[vF, vR, .int .i64 rd]] w fun e w' => ∃ v L, e = .returned (.tuple #[v, .int .i64 c]) ∧ OwG w' w.heap.size v L ∧ L.map Prod.fst = gs ∧ Below w.heap.size w w' := by
  have q := GearOrder_any vF vR F R rd w hF hR hn hm
  rw [← h] at q
  exact q
theorem sGearOrder_r (vF vR : Value) (F R : List Int) (rd : Int) (w : World) (hF : RdI w vF F) (hR : RdI w vR R) (hn : F.length ≤ 1048576) (hm : R.length ≤ 1048576) (gs : List Gear) (c : Int) (h : (gs, c) = goR F R rd) : Calls Try.prog 51 #[.agg #[vF, vR, .int .i64 rd]] w fun e w' => ∃ v L, e = .returned (.tuple #[v, .int .i64 c]) ∧ OwG w' w.heap.size v L ∧ L.map Prod.fst = gs ∧ Below w.heap.size w w' := by
  have q := sGearOrder_any vF vR F R rd w hF hR hn hm
  rw [← h] at q
  exact q
end Go.Proofs.Ytfdnhamkkcmnfaa
