/- Contracts of l11Start and ShiftGear, of the program and of the reference. -/
import Derived.Test.YtfdnhamkkcmnfaaGeaE
set_option linter.unusedSimpArgs false
set_option linter.unusedVariables false
namespace Go.Proofs.Ytfdnhamkkcmnfaa
open Go.RowKit

theorem gearR_small {F R : List Int} {f r : Int} (h : gearR F R f r = true) (hn : F.length ≤ 1048576) (hm : R.length ≤ 1048576) : -1048576 ≤ f ∧ f ≤ 1048576 ∧ -1048576 ≤ r ∧ r ≤ 1048576 := by
  have := gearR_bd h
  omega
set_option maxHeartbeats 800000 in
theorem l11Start_any (vF vR : Value) (F R : List Int) (rd : Int) (limit f r : Int) (w : World) (hF : RdI w vF F) (hR : RdI w vR R) (hn : F.length ≤ 1048576) (hm : R.length ≤ 1048576)  :
    Calls Try.prog 71 #[.agg #[vF, vR, .int .i64 rd], .int .i64 limit, .int .i64 f, .int .i64 r] w fun e w' => e = .returned (.int .i64 (codeS F R rd limit f r)) ∧ Below w.heap.size w w' := by
  have HF := Lib.hid hF
  have HRr := Lib.hid hR
  obtain ⟨aF, cF, rfl, -⟩ := hF
  obtain ⟨aR, cR, rfl, -⟩ := hR
  cases hA : trainR F R rd
  · skip
    have HC : Hid (code11 F R rd limit f r = 1) := by show _ = _; unfold code11; rw [hA]; rfl
    have HE : Hid (codeS F R rd limit f r = 1) := by show _ = _; unfold codeS; rw [hA]; rfl
    clear hA
    go_enter Try.func71, Try.ntmps71
    go_wp2_with fail
    generalize hw : w.alloc (.cells #[.slice aF F.length cF, .slice aR R.length cR, .int .i64 rd] 28) = W0
    have bx0 : W0.cell? ⟨w.heap.size, 0, none⟩ = some (.slice aF F.length cF) := by rw [← hw]; simp [go_sem]
    have bx1 : W0.cell? ⟨w.heap.size, 1, none⟩ = some (.slice aR R.length cR) := by rw [← hw]; simp [go_sem]
    have bx2 : W0.cell? ⟨w.heap.size, 2, none⟩ = some (.int .i64 rd) := by rw [← hw]; simp [go_sem]
    have hbx : w.heap.size < W0.heap.size := by rw [← hw]; simp
    have HTW : Hid (Below w.heap.size w W0) := by
      show Below _ _ _
      rw [← hw]; exact (Below.refl _ _).alloc (Nat.le_refl _) _
    have HF0 := Lib.hid (show RdI W0 (.slice aF F.length cF) F by rw [← hw]; exact HF.out.alloc _)
    have HR0 := Lib.hid (show RdI W0 (.slice aR R.length cR) R by rw [← hw]; exact HRr.out.alloc _)
    have HBX := Lib.hid (And.intro bx0 (And.intro bx1 bx2))
    have T0 := Below.refl W0.heap.size W0
    clear hw
    go_wp2_with fail
    (with_reducible refine (l11Code_any _ _ F R rd _ _ _ _ (HF0.out.below T0) (HR0.out.below T0) hn hm).mono ?_)
    rintro e w1 ⟨rfl, hb1⟩
    have T1 : Below W0.heap.size W0 w1 := T0.trans (hb1.mono T0.size)
    clear bx0 bx1 bx2
    have bx0 := (T1.cell (p := ⟨w.heap.size, 0, none⟩) hbx).trans HBX.out.1
    have bx1 := (T1.cell (p := ⟨w.heap.size, 1, none⟩) hbx).trans HBX.out.2.1
    have bx2 := (T1.cell (p := ⟨w.heap.size, 2, none⟩) hbx).trans HBX.out.2.2
    rw [HC.out]
    go_wp2
    go_ret
    exact ⟨ret_int HE.out.symm, (HTW.out.trans (T1.mono (Nat.le_of_lt hbx)))⟩
  cases hB : gearR F R f r
  · skip
    have HC : Hid (code11 F R rd limit f r = 2) := by show _ = _; unfold code11; rw [hA, hB, Bool.false_and]; rfl
    have HE : Hid (codeS F R rd limit f r = 2) := by show _ = _; unfold codeS; rw [hA, hB, Bool.false_and]; rfl
    clear hA hB
    go_enter Try.func71, Try.ntmps71
    go_wp2_with fail
    generalize hw : w.alloc (.cells #[.slice aF F.length cF, .slice aR R.length cR, .int .i64 rd] 28) = W0
    have bx0 : W0.cell? ⟨w.heap.size, 0, none⟩ = some (.slice aF F.length cF) := by rw [← hw]; simp [go_sem]
    have bx1 : W0.cell? ⟨w.heap.size, 1, none⟩ = some (.slice aR R.length cR) := by rw [← hw]; simp [go_sem]
    have bx2 : W0.cell? ⟨w.heap.size, 2, none⟩ = some (.int .i64 rd) := by rw [← hw]; simp [go_sem]
    have hbx : w.heap.size < W0.heap.size := by rw [← hw]; simp
    have HTW : Hid (Below w.heap.size w W0) := by
      show Below _ _ _
      rw [← hw]; exact (Below.refl _ _).alloc (Nat.le_refl _) _
    have HF0 := Lib.hid (show RdI W0 (.slice aF F.length cF) F by rw [← hw]; exact HF.out.alloc _)
    have HR0 := Lib.hid (show RdI W0 (.slice aR R.length cR) R by rw [← hw]; exact HRr.out.alloc _)
    have HBX := Lib.hid (And.intro bx0 (And.intro bx1 bx2))
    have T0 := Below.refl W0.heap.size W0
    clear hw
    go_wp2_with fail
    (with_reducible refine (l11Code_any _ _ F R rd _ _ _ _ (HF0.out.below T0) (HR0.out.below T0) hn hm).mono ?_)
    rintro e w1 ⟨rfl, hb1⟩
    have T1 : Below W0.heap.size W0 w1 := T0.trans (hb1.mono T0.size)
    clear bx0 bx1 bx2
    have bx0 := (T1.cell (p := ⟨w.heap.size, 0, none⟩) hbx).trans HBX.out.1
    have bx1 := (T1.cell (p := ⟨w.heap.size, 1, none⟩) hbx).trans HBX.out.2.1
    have bx2 := (T1.cell (p := ⟨w.heap.size, 2, none⟩) hbx).trans HBX.out.2.2
    rw [HC.out]
    go_wp2
    go_ret
    exact ⟨ret_int HE.out.symm, (HTW.out.trans (T1.mono (Nat.le_of_lt hbx)))⟩
  cases hL : inR limit 0 4
  · skip
    have HC : Hid (code11 F R rd limit f r = 2) := by show _ = _; unfold code11; rw [hA, hB, hL, Bool.and_false]; rfl
    have HE : Hid (codeS F R rd limit f r = 2) := by show _ = _; unfold codeS; rw [hA, hB, hL, Bool.and_false]; rfl
    clear hA hB hL
    go_enter Try.func71, Try.ntmps71
    go_wp2_with fail
    generalize hw : w.alloc (.cells #[.slice aF F.length cF, .slice aR R.length cR, .int .i64 rd] 28) = W0
    have bx0 : W0.cell? ⟨w.heap.size, 0, none⟩ = some (.slice aF F.length cF) := by rw [← hw]; simp [go_sem]
    have bx1 : W0.cell? ⟨w.heap.size, 1, none⟩ = some (.slice aR R.length cR) := by rw [← hw]; simp [go_sem]
    have bx2 : W0.cell? ⟨w.heap.size, 2, none⟩ = some (.int .i64 rd) := by rw [← hw]; simp [go_sem]
    have hbx : w.heap.size < W0.heap.size := by rw [← hw]; simp
    have HTW : Hid (Below w.heap.size w W0) := by
      show Below _ _ _
      rw [← hw]; exact (Below.refl _ _).alloc (Nat.le_refl _) _
    have HF0 := Lib.hid (show RdI W0 (.slice aF F.length cF) F by rw [← hw]; exact HF.out.alloc _)
    have HR0 := Lib.hid (show RdI W0 (.slice aR R.length cR) R by rw [← hw]; exact HRr.out.alloc _)
    have HBX := Lib.hid (And.intro bx0 (And.intro bx1 bx2))
    have T0 := Below.refl W0.heap.size W0
    clear hw
    go_wp2_with fail
    (with_reducible refine (l11Code_any _ _ F R rd _ _ _ _ (HF0.out.below T0) (HR0.out.below T0) hn hm).mono ?_)
    rintro e w1 ⟨rfl, hb1⟩
    have T1 : Below W0.heap.size W0 w1 := T0.trans (hb1.mono T0.size)
    clear bx0 bx1 bx2
    have bx0 := (T1.cell (p := ⟨w.heap.size, 0, none⟩) hbx).trans HBX.out.1
    have bx1 := (T1.cell (p := ⟨w.heap.size, 1, none⟩) hbx).trans HBX.out.2.1
    have bx2 := (T1.cell (p := ⟨w.heap.size, 2, none⟩) hbx).trans HBX.out.2.2
    rw [HC.out]
    go_wp2
    go_ret
    exact ⟨ret_int HE.out.symm, (HTW.out.trans (T1.mono (Nat.le_of_lt hbx)))⟩
  obtain ⟨l0, l4⟩ := inR_iff.1 hL
  cases hX : crossR F.length R.length limit f r
  · skip
    have HC : Hid (code11 F R rd limit f r = 0) := by show _ = _; unfold code11; rw [hA, hB, hL]; rfl
    have HE : Hid (codeS F R rd limit f r = 0) := by show _ = _; unfold codeS; rw [hA, hB, hL, hX]; rfl
    have HX := Lib.hid hX
    clear hA hB hL hX
    go_enter Try.func71, Try.ntmps71
    go_wp2_with fail
    generalize hw : w.alloc (.cells #[.slice aF F.length cF, .slice aR R.length cR, .int .i64 rd] 28) = W0
    have bx0 : W0.cell? ⟨w.heap.size, 0, none⟩ = some (.slice aF F.length cF) := by rw [← hw]; simp [go_sem]
    have bx1 : W0.cell? ⟨w.heap.size, 1, none⟩ = some (.slice aR R.length cR) := by rw [← hw]; simp [go_sem]
    have bx2 : W0.cell? ⟨w.heap.size, 2, none⟩ = some (.int .i64 rd) := by rw [← hw]; simp [go_sem]
    have hbx : w.heap.size < W0.heap.size := by rw [← hw]; simp
    have HTW : Hid (Below w.heap.size w W0) := by
      show Below _ _ _
      rw [← hw]; exact (Below.refl _ _).alloc (Nat.le_refl _) _
    have HF0 := Lib.hid (show RdI W0 (.slice aF F.length cF) F by rw [← hw]; exact HF.out.alloc _)
    have HR0 := Lib.hid (show RdI W0 (.slice aR R.length cR) R by rw [← hw]; exact HRr.out.alloc _)
    have HBX := Lib.hid (And.intro bx0 (And.intro bx1 bx2))
    have T0 := Below.refl W0.heap.size W0
    clear hw
    go_wp2_with fail
    (with_reducible refine (l11Code_any _ _ F R rd _ _ _ _ (HF0.out.below T0) (HR0.out.below T0) hn hm).mono ?_)
    rintro e w1 ⟨rfl, hb1⟩
    have T1 : Below W0.heap.size W0 w1 := T0.trans (hb1.mono T0.size)
    clear bx0 bx1 bx2
    have bx0 := (T1.cell (p := ⟨w.heap.size, 0, none⟩) hbx).trans HBX.out.1
    have bx1 := (T1.cell (p := ⟨w.heap.size, 1, none⟩) hbx).trans HBX.out.2.1
    have bx2 := (T1.cell (p := ⟨w.heap.size, 2, none⟩) hbx).trans HBX.out.2.2
    rw [HC.out]
    go_wp2_with fail
    (with_reducible refine (l11Crossed_any _ _ F R rd _ _ _ _ (HF0.out.below T1) (HR0.out.below T1) hn hm l0 l4).mono ?_)
    rintro e w2 ⟨rfl, hb2⟩
    have T2 : Below W0.heap.size W0 w2 := T1.trans (hb2.mono T1.size)
    clear bx0 bx1 bx2
    have bx0 := (T2.cell (p := ⟨w.heap.size, 0, none⟩) hbx).trans HBX.out.1
    have bx1 := (T2.cell (p := ⟨w.heap.size, 1, none⟩) hbx).trans HBX.out.2.1
    have bx2 := (T2.cell (p := ⟨w.heap.size, 2, none⟩) hbx).trans HBX.out.2.2
    rw [HX.out]
    go_wp2
    go_ret
    exact ⟨ret_int HE.out.symm, (HTW.out.trans (T2.mono (Nat.le_of_lt hbx)))⟩
  · skip
    have HC : Hid (code11 F R rd limit f r = 0) := by show _ = _; unfold code11; rw [hA, hB, hL]; rfl
    have HE : Hid (codeS F R rd limit f r = 5) := by show _ = _; unfold codeS; rw [hA, hB, hL, hX]; rfl
    have HX := Lib.hid hX
    clear hA hB hL hX
    go_enter Try.func71, Try.ntmps71
    go_wp2_with fail
    generalize hw : w.alloc (.cells #[.slice aF F.length cF, .slice aR R.length cR, .int .i64 rd] 28) = W0
    have bx0 : W0.cell? ⟨w.heap.size, 0, none⟩ = some (.slice aF F.length cF) := by rw [← hw]; simp [go_sem]
    have bx1 : W0.cell? ⟨w.heap.size, 1, none⟩ = some (.slice aR R.length cR) := by rw [← hw]; simp [go_sem]
    have bx2 : W0.cell? ⟨w.heap.size, 2, none⟩ = some (.int .i64 rd) := by rw [← hw]; simp [go_sem]
    have hbx : w.heap.size < W0.heap.size := by rw [← hw]; simp
    have HTW : Hid (Below w.heap.size w W0) := by
      show Below _ _ _
      rw [← hw]; exact (Below.refl _ _).alloc (Nat.le_refl _) _
    have HF0 := Lib.hid (show RdI W0 (.slice aF F.length cF) F by rw [← hw]; exact HF.out.alloc _)
    have HR0 := Lib.hid (show RdI W0 (.slice aR R.length cR) R by rw [← hw]; exact HRr.out.alloc _)
    have HBX := Lib.hid (And.intro bx0 (And.intro bx1 bx2))
    have T0 := Below.refl W0.heap.size W0
    clear hw
    go_wp2_with fail
    (with_reducible refine (l11Code_any _ _ F R rd _ _ _ _ (HF0.out.below T0) (HR0.out.below T0) hn hm).mono ?_)
    rintro e w1 ⟨rfl, hb1⟩
    have T1 : Below W0.heap.size W0 w1 := T0.trans (hb1.mono T0.size)
    clear bx0 bx1 bx2
    have bx0 := (T1.cell (p := ⟨w.heap.size, 0, none⟩) hbx).trans HBX.out.1
    have bx1 := (T1.cell (p := ⟨w.heap.size, 1, none⟩) hbx).trans HBX.out.2.1
    have bx2 := (T1.cell (p := ⟨w.heap.size, 2, none⟩) hbx).trans HBX.out.2.2
    rw [HC.out]
    go_wp2_with fail
    (with_reducible refine (l11Crossed_any _ _ F R rd _ _ _ _ (HF0.out.below T1) (HR0.out.below T1) hn hm l0 l4).mono ?_)
    rintro e w2 ⟨rfl, hb2⟩
    have T2 : Below W0.heap.size W0 w2 := T1.trans (hb2.mono T1.size)
    clear bx0 bx1 bx2
    have bx0 := (T2.cell (p := ⟨w.heap.size, 0, none⟩) hbx).trans HBX.out.1
    have bx1 := (T2.cell (p := ⟨w.heap.size, 1, none⟩) hbx).trans HBX.out.2.1
    have bx2 := (T2.cell (p := ⟨w.heap.size, 2, none⟩) hbx).trans HBX.out.2.2
    rw [HX.out]
    go_wp2
    go_ret
    exact ⟨ret_int HE.out.symm, (HTW.out.trans (T2.mono (Nat.le_of_lt hbx)))⟩

set_option maxHeartbeats 800000 in
theorem ShiftGear_any (vF vR : Value) (F R : List Int) (rd : Int) (limit f r move : Int) (w : World) (hF : RdI w vF F) (hR : RdI w vR R) (hn : F.length ≤ 1048576) (hm : R.length ≤ 1048576)  :
    Calls Try.prog 26 #[.agg #[vF, vR, .int .i64 rd], .int .i64 limit, .int .i64 f, .int .i64 r, .int .i64 move] w fun e w' => e = .returned (.tuple #[.int .i64 (sgR F R rd limit f r move).1, .int .i64 (sgR F R rd limit f r move).2.1, .int .i64 (sgR F R rd limit f r move).2.2]) ∧ Below w.heap.size w w' := by
  have HF := Lib.hid hF
  have HRr := Lib.hid hR
  obtain ⟨aF, cF, rfl, -⟩ := hF
  obtain ⟨aR, cR, rfl, -⟩ := hR
  cases hA : trainR F R rd
  · skip
    have HE : Hid (sgR F R rd limit f r move = (0, 0, 1)) := by show _ = _; unfold sgR; rw [hA]; rfl
    have HA := Lib.hid hA
    clear hA
    go_enter Try.func26, Try.ntmps26
    go_wp2_with fail
    generalize hw : w.alloc (.cells #[.slice aF F.length cF, .slice aR R.length cR, .int .i64 rd] 28) = W0
    have bx0 : W0.cell? ⟨w.heap.size, 0, none⟩ = some (.slice aF F.length cF) := by rw [← hw]; simp [go_sem]
    have bx1 : W0.cell? ⟨w.heap.size, 1, none⟩ = some (.slice aR R.length cR) := by rw [← hw]; simp [go_sem]
    have bx2 : W0.cell? ⟨w.heap.size, 2, none⟩ = some (.int .i64 rd) := by rw [← hw]; simp [go_sem]
    have hbx : w.heap.size < W0.heap.size := by rw [← hw]; simp
    have HTW : Hid (Below w.heap.size w W0) := by
      show Below _ _ _
      rw [← hw]; exact (Below.refl _ _).alloc (Nat.le_refl _) _
    have HF0 := Lib.hid (show RdI W0 (.slice aF F.length cF) F by rw [← hw]; exact HF.out.alloc _)
    have HR0 := Lib.hid (show RdI W0 (.slice aR R.length cR) R by rw [← hw]; exact HRr.out.alloc _)
    have HBX := Lib.hid (And.intro bx0 (And.intro bx1 bx2))
    have T0 := Below.refl W0.heap.size W0
    clear hw
    go_wp2_with fail
    (with_reducible refine (IsTrain_any _ _ F R rd _ (HF0.out.below T0) (HR0.out.below T0) hn hm).mono ?_)
    rintro e w1 ⟨rfl, hb1⟩
    have T1 : Below W0.heap.size W0 w1 := T0.trans (hb1.mono T0.size)
    clear bx0 bx1 bx2
    have bx0 := (T1.cell (p := ⟨w.heap.size, 0, none⟩) hbx).trans HBX.out.1
    have bx1 := (T1.cell (p := ⟨w.heap.size, 1, none⟩) hbx).trans HBX.out.2.1
    have bx2 := (T1.cell (p := ⟨w.heap.size, 2, none⟩) hbx).trans HBX.out.2.2
    rw [HA.out]
    go_wp2
    go_ret3
    exact ⟨gret3 HE.out, (HTW.out.trans (T1.mono (Nat.le_of_lt hbx)))⟩
  cases hL : inR limit 0 4
  · skip
    have HE : Hid (sgR F R rd limit f r move = (0, 0, 2)) := by show _ = _; unfold sgR; rw [hA, hL, Bool.and_false]; rfl
    have HA := Lib.hid hA
    have HL := Lib.hid hL
    clear hA hL
    go_enter Try.func26, Try.ntmps26
    go_wp2_with fail
    generalize hw : w.alloc (.cells #[.slice aF F.length cF, .slice aR R.length cR, .int .i64 rd] 28) = W0
    have bx0 : W0.cell? ⟨w.heap.size, 0, none⟩ = some (.slice aF F.length cF) := by rw [← hw]; simp [go_sem]
    have bx1 : W0.cell? ⟨w.heap.size, 1, none⟩ = some (.slice aR R.length cR) := by rw [← hw]; simp [go_sem]
    have bx2 : W0.cell? ⟨w.heap.size, 2, none⟩ = some (.int .i64 rd) := by rw [← hw]; simp [go_sem]
    have hbx : w.heap.size < W0.heap.size := by rw [← hw]; simp
    have HTW : Hid (Below w.heap.size w W0) := by
      show Below _ _ _
      rw [← hw]; exact (Below.refl _ _).alloc (Nat.le_refl _) _
    have HF0 := Lib.hid (show RdI W0 (.slice aF F.length cF) F by rw [← hw]; exact HF.out.alloc _)
    have HR0 := Lib.hid (show RdI W0 (.slice aR R.length cR) R by rw [← hw]; exact HRr.out.alloc _)
    have HBX := Lib.hid (And.intro bx0 (And.intro bx1 bx2))
    have T0 := Below.refl W0.heap.size W0
    clear hw
    go_wp2_with fail
    (with_reducible refine (IsTrain_any _ _ F R rd _ (HF0.out.below T0) (HR0.out.below T0) hn hm).mono ?_)
    rintro e w1 ⟨rfl, hb1⟩
    have T1 : Below W0.heap.size W0 w1 := T0.trans (hb1.mono T0.size)
    clear bx0 bx1 bx2
    have bx0 := (T1.cell (p := ⟨w.heap.size, 0, none⟩) hbx).trans HBX.out.1
    have bx1 := (T1.cell (p := ⟨w.heap.size, 1, none⟩) hbx).trans HBX.out.2.1
    have bx2 := (T1.cell (p := ⟨w.heap.size, 2, none⟩) hbx).trans HBX.out.2.2
    rw [HA.out]
    go_wp2_with fail
    (with_reducible refine (isLimit_any _ _).mono ?_)
    rintro e _ ⟨rfl, rfl⟩
    rw [HL.out]
    go_wp2
    go_ret3
    exact ⟨gret3 HE.out, (HTW.out.trans (T1.mono (Nat.le_of_lt hbx)))⟩
  cases hB : gearR F R f r
  · skip
    have HE : Hid (sgR F R rd limit f r move = (0, 0, 2)) := by show _ = _; unfold sgR; rw [hA, hB, Bool.false_and]; rfl
    have HA := Lib.hid hA
    have HL := Lib.hid hL
    have HB := Lib.hid hB
    clear hA hL hB
    go_enter Try.func26, Try.ntmps26
    go_wp2_with fail
    generalize hw : w.alloc (.cells #[.slice aF F.length cF, .slice aR R.length cR, .int .i64 rd] 28) = W0
    have bx0 : W0.cell? ⟨w.heap.size, 0, none⟩ = some (.slice aF F.length cF) := by rw [← hw]; simp [go_sem]
    have bx1 : W0.cell? ⟨w.heap.size, 1, none⟩ = some (.slice aR R.length cR) := by rw [← hw]; simp [go_sem]
    have bx2 : W0.cell? ⟨w.heap.size, 2, none⟩ = some (.int .i64 rd) := by rw [← hw]; simp [go_sem]
    have hbx : w.heap.size < W0.heap.size := by rw [← hw]; simp
    have HTW : Hid (Below w.heap.size w W0) := by
      show Below _ _ _
      rw [← hw]; exact (Below.refl _ _).alloc (Nat.le_refl _) _
    have HF0 := Lib.hid (show RdI W0 (.slice aF F.length cF) F by rw [← hw]; exact HF.out.alloc _)
    have HR0 := Lib.hid (show RdI W0 (.slice aR R.length cR) R by rw [← hw]; exact HRr.out.alloc _)
    have HBX := Lib.hid (And.intro bx0 (And.intro bx1 bx2))
    have T0 := Below.refl W0.heap.size W0
    clear hw
    go_wp2_with fail
    (with_reducible refine (IsTrain_any _ _ F R rd _ (HF0.out.below T0) (HR0.out.below T0) hn hm).mono ?_)
    rintro e w1 ⟨rfl, hb1⟩
    have T1 : Below W0.heap.size W0 w1 := T0.trans (hb1.mono T0.size)
    clear bx0 bx1 bx2
    have bx0 := (T1.cell (p := ⟨w.heap.size, 0, none⟩) hbx).trans HBX.out.1
    have bx1 := (T1.cell (p := ⟨w.heap.size, 1, none⟩) hbx).trans HBX.out.2.1
    have bx2 := (T1.cell (p := ⟨w.heap.size, 2, none⟩) hbx).trans HBX.out.2.2
    rw [HA.out]
    go_wp2_with fail
    (with_reducible refine (isLimit_any _ _).mono ?_)
    rintro e _ ⟨rfl, rfl⟩
    rw [HL.out]
    go_wp2_with fail
    (with_reducible refine (isGear_any _ _ F R rd _ _ _ (HF0.out.below T1) (HR0.out.below T1) hn hm).mono ?_)
    rintro e w2 ⟨rfl, hb2⟩
    have T2 : Below W0.heap.size W0 w2 := T1.trans (hb2.mono T1.size)
    clear bx0 bx1 bx2
    have bx0 := (T2.cell (p := ⟨w.heap.size, 0, none⟩) hbx).trans HBX.out.1
    have bx1 := (T2.cell (p := ⟨w.heap.size, 1, none⟩) hbx).trans HBX.out.2.1
    have bx2 := (T2.cell (p := ⟨w.heap.size, 2, none⟩) hbx).trans HBX.out.2.2
    rw [HB.out]
    go_wp2
    go_ret3
    exact ⟨gret3 HE.out, (HTW.out.trans (T2.mono (Nat.le_of_lt hbx)))⟩
  cases hM : inR move 0 3
  · skip
    have HE : Hid (sgR F R rd limit f r move = (0, 0, 2)) := by show _ = _; unfold sgR; rw [hA, hB, hL, hM]; rfl
    have HA := Lib.hid hA
    have HB := Lib.hid hB
    have HL := Lib.hid hL
    have HM := Lib.hid hM
    clear hA hB hL hM
    go_enter Try.func26, Try.ntmps26
    go_wp2_with fail
    generalize hw : w.alloc (.cells #[.slice aF F.length cF, .slice aR R.length cR, .int .i64 rd] 28) = W0
    have bx0 : W0.cell? ⟨w.heap.size, 0, none⟩ = some (.slice aF F.length cF) := by rw [← hw]; simp [go_sem]
    have bx1 : W0.cell? ⟨w.heap.size, 1, none⟩ = some (.slice aR R.length cR) := by rw [← hw]; simp [go_sem]
    have bx2 : W0.cell? ⟨w.heap.size, 2, none⟩ = some (.int .i64 rd) := by rw [← hw]; simp [go_sem]
    have hbx : w.heap.size < W0.heap.size := by rw [← hw]; simp
    have HTW : Hid (Below w.heap.size w W0) := by
      show Below _ _ _
      rw [← hw]; exact (Below.refl _ _).alloc (Nat.le_refl _) _
    have HF0 := Lib.hid (show RdI W0 (.slice aF F.length cF) F by rw [← hw]; exact HF.out.alloc _)
    have HR0 := Lib.hid (show RdI W0 (.slice aR R.length cR) R by rw [← hw]; exact HRr.out.alloc _)
    have HBX := Lib.hid (And.intro bx0 (And.intro bx1 bx2))
    have T0 := Below.refl W0.heap.size W0
    clear hw
    go_wp2_with fail
    (with_reducible refine (IsTrain_any _ _ F R rd _ (HF0.out.below T0) (HR0.out.below T0) hn hm).mono ?_)
    rintro e w1 ⟨rfl, hb1⟩
    have T1 : Below W0.heap.size W0 w1 := T0.trans (hb1.mono T0.size)
    clear bx0 bx1 bx2
    have bx0 := (T1.cell (p := ⟨w.heap.size, 0, none⟩) hbx).trans HBX.out.1
    have bx1 := (T1.cell (p := ⟨w.heap.size, 1, none⟩) hbx).trans HBX.out.2.1
    have bx2 := (T1.cell (p := ⟨w.heap.size, 2, none⟩) hbx).trans HBX.out.2.2
    rw [HA.out]
    go_wp2_with fail
    (with_reducible refine (isLimit_any _ _).mono ?_)
    rintro e _ ⟨rfl, rfl⟩
    rw [HL.out]
    go_wp2_with fail
    (with_reducible refine (isGear_any _ _ F R rd _ _ _ (HF0.out.below T1) (HR0.out.below T1) hn hm).mono ?_)
    rintro e w2 ⟨rfl, hb2⟩
    have T2 : Below W0.heap.size W0 w2 := T1.trans (hb2.mono T1.size)
    clear bx0 bx1 bx2
    have bx0 := (T2.cell (p := ⟨w.heap.size, 0, none⟩) hbx).trans HBX.out.1
    have bx1 := (T2.cell (p := ⟨w.heap.size, 1, none⟩) hbx).trans HBX.out.2.1
    have bx2 := (T2.cell (p := ⟨w.heap.size, 2, none⟩) hbx).trans HBX.out.2.2
    rw [HB.out]
    go_wp2_with fail
    (with_reducible refine (within_any _ _ _ _).mono ?_)
    rintro e _ ⟨rfl, rfl⟩
    rw [HM.out]
    go_wp2
    go_ret3
    exact ⟨gret3 HE.out, (HTW.out.trans (T2.mono (Nat.le_of_lt hbx)))⟩
  obtain ⟨l0, l4⟩ := inR_iff.1 hL
  obtain ⟨m0, m3⟩ := inR_iff.1 hM
  obtain ⟨q1, q2, q3, q4⟩ := gearR_small hB hn hm
  cases hX : crossR F.length R.length limit f r
  rotate_left
  · cases hO : okM F R limit (mvG move f r).1 (mvG move f r).2
    · skip
      have HH : Hid (shR F R limit move f r = ((mvG move f r).1, (mvG move f r).2, false)) := by show _ = _; unfold shR; rw [hO]
      have HE : Hid (sgR F R rd limit f r move = (0, 0, 5)) := by show _ = _; unfold sgR; rw [hA, hB, hL, hM, hX, Bool.not_true, Bool.false_and]; rfl
      have HA := Lib.hid hA
      have HB := Lib.hid hB
      have HL := Lib.hid hL
      have HM := Lib.hid hM
      have HX := Lib.hid hX
      have HO := Lib.hid hO
      clear hA hB hL hM hX hO
      go_enter Try.func26, Try.ntmps26
      go_wp2_with fail
      generalize hw : w.alloc (.cells #[.slice aF F.length cF, .slice aR R.length cR, .int .i64 rd] 28) = W0
      have bx0 : W0.cell? ⟨w.heap.size, 0, none⟩ = some (.slice aF F.length cF) := by rw [← hw]; simp [go_sem]
      have bx1 : W0.cell? ⟨w.heap.size, 1, none⟩ = some (.slice aR R.length cR) := by rw [← hw]; simp [go_sem]
      have bx2 : W0.cell? ⟨w.heap.size, 2, none⟩ = some (.int .i64 rd) := by rw [← hw]; simp [go_sem]
      have hbx : w.heap.size < W0.heap.size := by rw [← hw]; simp
      have HTW : Hid (Below w.heap.size w W0) := by
        show Below _ _ _
        rw [← hw]; exact (Below.refl _ _).alloc (Nat.le_refl _) _
      have HF0 := Lib.hid (show RdI W0 (.slice aF F.length cF) F by rw [← hw]; exact HF.out.alloc _)
      have HR0 := Lib.hid (show RdI W0 (.slice aR R.length cR) R by rw [← hw]; exact HRr.out.alloc _)
      have HBX := Lib.hid (And.intro bx0 (And.intro bx1 bx2))
      have T0 := Below.refl W0.heap.size W0
      clear hw
      go_wp2_with fail
      (with_reducible refine (IsTrain_any _ _ F R rd _ (HF0.out.below T0) (HR0.out.below T0) hn hm).mono ?_)
      rintro e w1 ⟨rfl, hb1⟩
      have T1 : Below W0.heap.size W0 w1 := T0.trans (hb1.mono T0.size)
      clear bx0 bx1 bx2
      have bx0 := (T1.cell (p := ⟨w.heap.size, 0, none⟩) hbx).trans HBX.out.1
      have bx1 := (T1.cell (p := ⟨w.heap.size, 1, none⟩) hbx).trans HBX.out.2.1
      have bx2 := (T1.cell (p := ⟨w.heap.size, 2, none⟩) hbx).trans HBX.out.2.2
      rw [HA.out]
      go_wp2_with fail
      (with_reducible refine (isLimit_any _ _).mono ?_)
      rintro e _ ⟨rfl, rfl⟩
      rw [HL.out]
      go_wp2_with fail
      (with_reducible refine (isGear_any _ _ F R rd _ _ _ (HF0.out.below T1) (HR0.out.below T1) hn hm).mono ?_)
      rintro e w2 ⟨rfl, hb2⟩
      have T2 : Below W0.heap.size W0 w2 := T1.trans (hb2.mono T1.size)
      clear bx0 bx1 bx2
      have bx0 := (T2.cell (p := ⟨w.heap.size, 0, none⟩) hbx).trans HBX.out.1
      have bx1 := (T2.cell (p := ⟨w.heap.size, 1, none⟩) hbx).trans HBX.out.2.1
      have bx2 := (T2.cell (p := ⟨w.heap.size, 2, none⟩) hbx).trans HBX.out.2.2
      rw [HB.out]
      go_wp2_with fail
      (with_reducible refine (within_any _ _ _ _).mono ?_)
      rintro e _ ⟨rfl, rfl⟩
      rw [HM.out]
      go_wp2_with fail
      (with_reducible refine (shifted_any _ _ F R rd _ _ _ _ _ (HF0.out.below T2) (HR0.out.below T2) hn hm l0 l4 q1 q2 q3 q4 m0 m3).mono ?_)
      rintro e w3 ⟨rfl, hb3⟩
      have T3 : Below W0.heap.size W0 w3 := T2.trans (hb3.mono T2.size)
      clear bx0 bx1 bx2
      have bx0 := (T3.cell (p := ⟨w.heap.size, 0, none⟩) hbx).trans HBX.out.1
      have bx1 := (T3.cell (p := ⟨w.heap.size, 1, none⟩) hbx).trans HBX.out.2.1
      have bx2 := (T3.cell (p := ⟨w.heap.size, 2, none⟩) hbx).trans HBX.out.2.2
      rw [HH.out]
      go_wp2_with fail
      (with_reducible refine (crossed_any _ _ F R rd _ _ _ _ (HF0.out.below T3) (HR0.out.below T3) hn hm l0 l4).mono ?_)
      rintro e w4 ⟨rfl, hb4⟩
      have T4 : Below W0.heap.size W0 w4 := T3.trans (hb4.mono T3.size)
      clear bx0 bx1 bx2
      have bx0 := (T4.cell (p := ⟨w.heap.size, 0, none⟩) hbx).trans HBX.out.1
      have bx1 := (T4.cell (p := ⟨w.heap.size, 1, none⟩) hbx).trans HBX.out.2.1
      have bx2 := (T4.cell (p := ⟨w.heap.size, 2, none⟩) hbx).trans HBX.out.2.2
      rw [HX.out]
      go_wp2
      go_ret3
      exact ⟨gret3 HE.out, (HTW.out.trans (T4.mono (Nat.le_of_lt hbx)))⟩
    · skip
      have HH : Hid (shR F R limit move f r = ((mvG move f r).1, (mvG move f r).2, true)) := by show _ = _; unfold shR; rw [hO]
      have HE : Hid (sgR F R rd limit f r move = (0, 0, 5)) := by show _ = _; unfold sgR; rw [hA, hB, hL, hM, hX, Bool.not_true, Bool.false_and]; rfl
      have HA := Lib.hid hA
      have HB := Lib.hid hB
      have HL := Lib.hid hL
      have HM := Lib.hid hM
      have HX := Lib.hid hX
      have HO := Lib.hid hO
      clear hA hB hL hM hX hO
      go_enter Try.func26, Try.ntmps26
      go_wp2_with fail
      generalize hw : w.alloc (.cells #[.slice aF F.length cF, .slice aR R.length cR, .int .i64 rd] 28) = W0
      have bx0 : W0.cell? ⟨w.heap.size, 0, none⟩ = some (.slice aF F.length cF) := by rw [← hw]; simp [go_sem]
      have bx1 : W0.cell? ⟨w.heap.size, 1, none⟩ = some (.slice aR R.length cR) := by rw [← hw]; simp [go_sem]
      have bx2 : W0.cell? ⟨w.heap.size, 2, none⟩ = some (.int .i64 rd) := by rw [← hw]; simp [go_sem]
      have hbx : w.heap.size < W0.heap.size := by rw [← hw]; simp
      have HTW : Hid (Below w.heap.size w W0) := by
        show Below _ _ _
        rw [← hw]; exact (Below.refl _ _).alloc (Nat.le_refl _) _
      have HF0 := Lib.hid (show RdI W0 (.slice aF F.length cF) F by rw [← hw]; exact HF.out.alloc _)
      have HR0 := Lib.hid (show RdI W0 (.slice aR R.length cR) R by rw [← hw]; exact HRr.out.alloc _)
      have HBX := Lib.hid (And.intro bx0 (And.intro bx1 bx2))
      have T0 := Below.refl W0.heap.size W0
      clear hw
      go_wp2_with fail
      (with_reducible refine (IsTrain_any _ _ F R rd _ (HF0.out.below T0) (HR0.out.below T0) hn hm).mono ?_)
      rintro e w1 ⟨rfl, hb1⟩
      have T1 : Below W0.heap.size W0 w1 := T0.trans (hb1.mono T0.size)
      clear bx0 bx1 bx2
      have bx0 := (T1.cell (p := ⟨w.heap.size, 0, none⟩) hbx).trans HBX.out.1
      have bx1 := (T1.cell (p := ⟨w.heap.size, 1, none⟩) hbx).trans HBX.out.2.1
      have bx2 := (T1.cell (p := ⟨w.heap.size, 2, none⟩) hbx).trans HBX.out.2.2
      rw [HA.out]
      go_wp2_with fail
      (with_reducible refine (isLimit_any _ _).mono ?_)
      rintro e _ ⟨rfl, rfl⟩
      rw [HL.out]
      go_wp2_with fail
      (with_reducible refine (isGear_any _ _ F R rd _ _ _ (HF0.out.below T1) (HR0.out.below T1) hn hm).mono ?_)
      rintro e w2 ⟨rfl, hb2⟩
      have T2 : Below W0.heap.size W0 w2 := T1.trans (hb2.mono T1.size)
      clear bx0 bx1 bx2
      have bx0 := (T2.cell (p := ⟨w.heap.size, 0, none⟩) hbx).trans HBX.out.1
      have bx1 := (T2.cell (p := ⟨w.heap.size, 1, none⟩) hbx).trans HBX.out.2.1
      have bx2 := (T2.cell (p := ⟨w.heap.size, 2, none⟩) hbx).trans HBX.out.2.2
      rw [HB.out]
      go_wp2_with fail
      (with_reducible refine (within_any _ _ _ _).mono ?_)
      rintro e _ ⟨rfl, rfl⟩
      rw [HM.out]
      go_wp2_with fail
      (with_reducible refine (shifted_any _ _ F R rd _ _ _ _ _ (HF0.out.below T2) (HR0.out.below T2) hn hm l0 l4 q1 q2 q3 q4 m0 m3).mono ?_)
      rintro e w3 ⟨rfl, hb3⟩
      have T3 : Below W0.heap.size W0 w3 := T2.trans (hb3.mono T2.size)
      clear bx0 bx1 bx2
      have bx0 := (T3.cell (p := ⟨w.heap.size, 0, none⟩) hbx).trans HBX.out.1
      have bx1 := (T3.cell (p := ⟨w.heap.size, 1, none⟩) hbx).trans HBX.out.2.1
      have bx2 := (T3.cell (p := ⟨w.heap.size, 2, none⟩) hbx).trans HBX.out.2.2
      rw [HH.out]
      go_wp2_with fail
      (with_reducible refine (crossed_any _ _ F R rd _ _ _ _ (HF0.out.below T3) (HR0.out.below T3) hn hm l0 l4).mono ?_)
      rintro e w4 ⟨rfl, hb4⟩
      have T4 : Below W0.heap.size W0 w4 := T3.trans (hb4.mono T3.size)
      clear bx0 bx1 bx2
      have bx0 := (T4.cell (p := ⟨w.heap.size, 0, none⟩) hbx).trans HBX.out.1
      have bx1 := (T4.cell (p := ⟨w.heap.size, 1, none⟩) hbx).trans HBX.out.2.1
      have bx2 := (T4.cell (p := ⟨w.heap.size, 2, none⟩) hbx).trans HBX.out.2.2
      rw [HX.out]
      go_wp2
      go_ret3
      exact ⟨gret3 HE.out, (HTW.out.trans (T4.mono (Nat.le_of_lt hbx)))⟩
  cases hO : okM F R limit (mvG move f r).1 (mvG move f r).2
  · skip
    have HH : Hid (shR F R limit move f r = ((mvG move f r).1, (mvG move f r).2, false)) := by show _ = _; unfold shR; rw [hO]
    have HE : Hid (sgR F R rd limit f r move = (0, 0, 5)) := by show _ = _; unfold sgR; rw [hA, hB, hL, hM, hX, hO]; rfl
    have HA := Lib.hid hA
    have HB := Lib.hid hB
    have HL := Lib.hid hL
    have HM := Lib.hid hM
    have HX := Lib.hid hX
    have HO := Lib.hid hO
    clear hA hB hL hM hX hO
    go_enter Try.func26, Try.ntmps26
    go_wp2_with fail
    generalize hw : w.alloc (.cells #[.slice aF F.length cF, .slice aR R.length cR, .int .i64 rd] 28) = W0
    have bx0 : W0.cell? ⟨w.heap.size, 0, none⟩ = some (.slice aF F.length cF) := by rw [← hw]; simp [go_sem]
    have bx1 : W0.cell? ⟨w.heap.size, 1, none⟩ = some (.slice aR R.length cR) := by rw [← hw]; simp [go_sem]
    have bx2 : W0.cell? ⟨w.heap.size, 2, none⟩ = some (.int .i64 rd) := by rw [← hw]; simp [go_sem]
    have hbx : w.heap.size < W0.heap.size := by rw [← hw]; simp
    have HTW : Hid (Below w.heap.size w W0) := by
      show Below _ _ _
      rw [← hw]; exact (Below.refl _ _).alloc (Nat.le_refl _) _
    have HF0 := Lib.hid (show RdI W0 (.slice aF F.length cF) F by rw [← hw]; exact HF.out.alloc _)
    have HR0 := Lib.hid (show RdI W0 (.slice aR R.length cR) R by rw [← hw]; exact HRr.out.alloc _)
    have HBX := Lib.hid (And.intro bx0 (And.intro bx1 bx2))
    have T0 := Below.refl W0.heap.size W0
    clear hw
    go_wp2_with fail
    (with_reducible refine (IsTrain_any _ _ F R rd _ (HF0.out.below T0) (HR0.out.below T0) hn hm).mono ?_)
    rintro e w1 ⟨rfl, hb1⟩
    have T1 : Below W0.heap.size W0 w1 := T0.trans (hb1.mono T0.size)
    clear bx0 bx1 bx2
    have bx0 := (T1.cell (p := ⟨w.heap.size, 0, none⟩) hbx).trans HBX.out.1
    have bx1 := (T1.cell (p := ⟨w.heap.size, 1, none⟩) hbx).trans HBX.out.2.1
    have bx2 := (T1.cell (p := ⟨w.heap.size, 2, none⟩) hbx).trans HBX.out.2.2
    rw [HA.out]
    go_wp2_with fail
    (with_reducible refine (isLimit_any _ _).mono ?_)
    rintro e _ ⟨rfl, rfl⟩
    rw [HL.out]
    go_wp2_with fail
    (with_reducible refine (isGear_any _ _ F R rd _ _ _ (HF0.out.below T1) (HR0.out.below T1) hn hm).mono ?_)
    rintro e w2 ⟨rfl, hb2⟩
    have T2 : Below W0.heap.size W0 w2 := T1.trans (hb2.mono T1.size)
    clear bx0 bx1 bx2
    have bx0 := (T2.cell (p := ⟨w.heap.size, 0, none⟩) hbx).trans HBX.out.1
    have bx1 := (T2.cell (p := ⟨w.heap.size, 1, none⟩) hbx).trans HBX.out.2.1
    have bx2 := (T2.cell (p := ⟨w.heap.size, 2, none⟩) hbx).trans HBX.out.2.2
    rw [HB.out]
    go_wp2_with fail
    (with_reducible refine (within_any _ _ _ _).mono ?_)
    rintro e _ ⟨rfl, rfl⟩
    rw [HM.out]
    go_wp2_with fail
    (with_reducible refine (shifted_any _ _ F R rd _ _ _ _ _ (HF0.out.below T2) (HR0.out.below T2) hn hm l0 l4 q1 q2 q3 q4 m0 m3).mono ?_)
    rintro e w3 ⟨rfl, hb3⟩
    have T3 : Below W0.heap.size W0 w3 := T2.trans (hb3.mono T2.size)
    clear bx0 bx1 bx2
    have bx0 := (T3.cell (p := ⟨w.heap.size, 0, none⟩) hbx).trans HBX.out.1
    have bx1 := (T3.cell (p := ⟨w.heap.size, 1, none⟩) hbx).trans HBX.out.2.1
    have bx2 := (T3.cell (p := ⟨w.heap.size, 2, none⟩) hbx).trans HBX.out.2.2
    rw [HH.out]
    go_wp2_with fail
    (with_reducible refine (crossed_any _ _ F R rd _ _ _ _ (HF0.out.below T3) (HR0.out.below T3) hn hm l0 l4).mono ?_)
    rintro e w4 ⟨rfl, hb4⟩
    have T4 : Below W0.heap.size W0 w4 := T3.trans (hb4.mono T3.size)
    clear bx0 bx1 bx2
    have bx0 := (T4.cell (p := ⟨w.heap.size, 0, none⟩) hbx).trans HBX.out.1
    have bx1 := (T4.cell (p := ⟨w.heap.size, 1, none⟩) hbx).trans HBX.out.2.1
    have bx2 := (T4.cell (p := ⟨w.heap.size, 2, none⟩) hbx).trans HBX.out.2.2
    rw [HX.out]
    go_wp2
    go_ret3
    exact ⟨gret3 HE.out, (HTW.out.trans (T4.mono (Nat.le_of_lt hbx)))⟩
  · skip
    have HH : Hid (shR F R limit move f r = ((mvG move f r).1, (mvG move f r).2, true)) := by show _ = _; unfold shR; rw [hO]
    have HE : Hid (sgR F R rd limit f r move = ((mvG move f r).1, (mvG move f r).2, 0)) := by show _ = _; unfold sgR; rw [hA, hB, hL, hM, hX, hO]; rfl
    have HA := Lib.hid hA
    have HB := Lib.hid hB
    have HL := Lib.hid hL
    have HM := Lib.hid hM
    have HX := Lib.hid hX
    have HO := Lib.hid hO
    clear hA hB hL hM hX hO
    go_enter Try.func26, Try.ntmps26
    go_wp2_with fail
    generalize hw : w.alloc (.cells #[.slice aF F.length cF, .slice aR R.length cR, .int .i64 rd] 28) = W0
    have bx0 : W0.cell? ⟨w.heap.size, 0, none⟩ = some (.slice aF F.length cF) := by rw [← hw]; simp [go_sem]
    have bx1 : W0.cell? ⟨w.heap.size, 1, none⟩ = some (.slice aR R.length cR) := by rw [← hw]; simp [go_sem]
    have bx2 : W0.cell? ⟨w.heap.size, 2, none⟩ = some (.int .i64 rd) := by rw [← hw]; simp [go_sem]
    have hbx : w.heap.size < W0.heap.size := by rw [← hw]; simp
    have HTW : Hid (Below w.heap.size w W0) := by
      show Below _ _ _
      rw [← hw]; exact (Below.refl _ _).alloc (Nat.le_refl _) _
    have HF0 := Lib.hid (show RdI W0 (.slice aF F.length cF) F by rw [← hw]; exact HF.out.alloc _)
    have HR0 := Lib.hid (show RdI W0 (.slice aR R.length cR) R by rw [← hw]; exact HRr.out.alloc _)
    have HBX := Lib.hid (And.intro bx0 (And.intro bx1 bx2))
    have T0 := Below.refl W0.heap.size W0
    clear hw
    go_wp2_with fail
    (with_reducible refine (IsTrain_any _ _ F R rd _ (HF0.out.below T0) (HR0.out.below T0) hn hm).mono ?_)
    rintro e w1 ⟨rfl, hb1⟩
    have T1 : Below W0.heap.size W0 w1 := T0.trans (hb1.mono T0.size)
    clear bx0 bx1 bx2
    have bx0 := (T1.cell (p := ⟨w.heap.size, 0, none⟩) hbx).trans HBX.out.1
    have bx1 := (T1.cell (p := ⟨w.heap.size, 1, none⟩) hbx).trans HBX.out.2.1
    have bx2 := (T1.cell (p := ⟨w.heap.size, 2, none⟩) hbx).trans HBX.out.2.2
    rw [HA.out]
    go_wp2_with fail
    (with_reducible refine (isLimit_any _ _).mono ?_)
    rintro e _ ⟨rfl, rfl⟩
    rw [HL.out]
    go_wp2_with fail
    (with_reducible refine (isGear_any _ _ F R rd _ _ _ (HF0.out.below T1) (HR0.out.below T1) hn hm).mono ?_)
    rintro e w2 ⟨rfl, hb2⟩
    have T2 : Below W0.heap.size W0 w2 := T1.trans (hb2.mono T1.size)
    clear bx0 bx1 bx2
    have bx0 := (T2.cell (p := ⟨w.heap.size, 0, none⟩) hbx).trans HBX.out.1
    have bx1 := (T2.cell (p := ⟨w.heap.size, 1, none⟩) hbx).trans HBX.out.2.1
    have bx2 := (T2.cell (p := ⟨w.heap.size, 2, none⟩) hbx).trans HBX.out.2.2
    rw [HB.out]
    go_wp2_with fail
    (with_reducible refine (within_any _ _ _ _).mono ?_)
    rintro e _ ⟨rfl, rfl⟩
    rw [HM.out]
    go_wp2_with fail
    (with_reducible refine (shifted_any _ _ F R rd _ _ _ _ _ (HF0.out.below T2) (HR0.out.below T2) hn hm l0 l4 q1 q2 q3 q4 m0 m3).mono ?_)
    rintro e w3 ⟨rfl, hb3⟩
    have T3 : Below W0.heap.size W0 w3 := T2.trans (hb3.mono T2.size)
    clear bx0 bx1 bx2
    have bx0 := (T3.cell (p := ⟨w.heap.size, 0, none⟩) hbx).trans HBX.out.1
    have bx1 := (T3.cell (p := ⟨w.heap.size, 1, none⟩) hbx).trans HBX.out.2.1
    have bx2 := (T3.cell (p := ⟨w.heap.size, 2, none⟩) hbx).trans HBX.out.2.2
    rw [HH.out]
    go_wp2_with fail
    (with_reducible refine (crossed_any _ _ F R rd _ _ _ _ (HF0.out.below T3) (HR0.out.below T3) hn hm l0 l4).mono ?_)
    rintro e w4 ⟨rfl, hb4⟩
    have T4 : Below W0.heap.size W0 w4 := T3.trans (hb4.mono T3.size)
    clear bx0 bx1 bx2
    have bx0 := (T4.cell (p := ⟨w.heap.size, 0, none⟩) hbx).trans HBX.out.1
    have bx1 := (T4.cell (p := ⟨w.heap.size, 1, none⟩) hbx).trans HBX.out.2.1
    have bx2 := (T4.cell (p := ⟨w.heap.size, 2, none⟩) hbx).trans HBX.out.2.2
    rw [HX.out]
    go_wp2
    go_ret3
    exact ⟨gret3 HE.out, (HTW.out.trans (T4.mono (Nat.le_of_lt hbx)))⟩

set_option maxHeartbeats 800000 in
theorem sShiftGear_any (vF vR : Value) (F R : List Int) (rd : Int) (limit f r move : Int) (w : World) (hF : RdI w vF F) (hR : RdI w vR R) (hn : F.length ≤ 1048576) (hm : R.length ≤ 1048576)  :
    Calls Try.prog 25 #[.agg #[vF, vR, .int .i64 rd], .int .i64 limit, .int .i64 f, .int .i64 r, .int .i64 move] w fun e w' => e = .returned (.tuple #[.int .i64 (sgR F R rd limit f r move).1, .int .i64 (sgR F R rd limit f r move).2.1, .int .i64 (sgR F R rd limit f r move).2.2]) ∧ Below w.heap.size w w' := by
  have HF := Lib.hid hF
  have HRr := Lib.hid hR
  obtain ⟨aF, cF, rfl, -⟩ := hF
  obtain ⟨aR, cR, rfl, -⟩ := hR
  cases hA : trainR F R rd
  · skip
    have HC : Hid (code11 F R rd limit f r = 1) := by show _ = _; unfold code11; rw [hA]; rfl
    have HE : Hid (sgR F R rd limit f r move = (0, 0, 1)) := by show _ = _; unfold sgR; rw [hA]; rfl
    have HA := Lib.hid hA
    clear hA
    go_enter Try.func25, Try.ntmps25
    go_wp2_with fail
    generalize hw : w.alloc (.cells #[.slice aF F.length cF, .slice aR R.length cR, .int .i64 rd] 28) = W0
    have bx0 : W0.cell? ⟨w.heap.size, 0, none⟩ = some (.slice aF F.length cF) := by rw [← hw]; simp [go_sem]
    have bx1 : W0.cell? ⟨w.heap.size, 1, none⟩ = some (.slice aR R.length cR) := by rw [← hw]; simp [go_sem]
    have bx2 : W0.cell? ⟨w.heap.size, 2, none⟩ = some (.int .i64 rd) := by rw [← hw]; simp [go_sem]
    have hbx : w.heap.size < W0.heap.size := by rw [← hw]; simp
    have HTW : Hid (Below w.heap.size w W0) := by
      show Below _ _ _
      rw [← hw]; exact (Below.refl _ _).alloc (Nat.le_refl _) _
    have HF0 := Lib.hid (show RdI W0 (.slice aF F.length cF) F by rw [← hw]; exact HF.out.alloc _)
    have HR0 := Lib.hid (show RdI W0 (.slice aR R.length cR) R by rw [← hw]; exact HRr.out.alloc _)
    have HBX := Lib.hid (And.intro bx0 (And.intro bx1 bx2))
    have T0 := Below.refl W0.heap.size W0
    clear hw
    go_wp2_with fail
    (with_reducible refine (l11Code_any _ _ F R rd _ _ _ _ (HF0.out.below T0) (HR0.out.below T0) hn hm).mono ?_)
    rintro e w1 ⟨rfl, hb1⟩
    have T1 : Below W0.heap.size W0 w1 := T0.trans (hb1.mono T0.size)
    clear bx0 bx1 bx2
    have bx0 := (T1.cell (p := ⟨w.heap.size, 0, none⟩) hbx).trans HBX.out.1
    have bx1 := (T1.cell (p := ⟨w.heap.size, 1, none⟩) hbx).trans HBX.out.2.1
    have bx2 := (T1.cell (p := ⟨w.heap.size, 2, none⟩) hbx).trans HBX.out.2.2
    rw [HC.out]
    go_wp2
    go_ret3
    exact ⟨gret3 HE.out, (HTW.out.trans (T1.mono (Nat.le_of_lt hbx)))⟩
  cases hB : gearR F R f r
  · skip
    have HC : Hid (code11 F R rd limit f r = 2) := by show _ = _; unfold code11; rw [hA, hB, Bool.false_and]; rfl
    have HE : Hid (sgR F R rd limit f r move = (0, 0, 2)) := by show _ = _; unfold sgR; rw [hA, hB, Bool.false_and]; rfl
    have HA := Lib.hid hA
    have HB := Lib.hid hB
    clear hA hB
    go_enter Try.func25, Try.ntmps25
    go_wp2_with fail
    generalize hw : w.alloc (.cells #[.slice aF F.length cF, .slice aR R.length cR, .int .i64 rd] 28) = W0
    have bx0 : W0.cell? ⟨w.heap.size, 0, none⟩ = some (.slice aF F.length cF) := by rw [← hw]; simp [go_sem]
    have bx1 : W0.cell? ⟨w.heap.size, 1, none⟩ = some (.slice aR R.length cR) := by rw [← hw]; simp [go_sem]
    have bx2 : W0.cell? ⟨w.heap.size, 2, none⟩ = some (.int .i64 rd) := by rw [← hw]; simp [go_sem]
    have hbx : w.heap.size < W0.heap.size := by rw [← hw]; simp
    have HTW : Hid (Below w.heap.size w W0) := by
      show Below _ _ _
      rw [← hw]; exact (Below.refl _ _).alloc (Nat.le_refl _) _
    have HF0 := Lib.hid (show RdI W0 (.slice aF F.length cF) F by rw [← hw]; exact HF.out.alloc _)
    have HR0 := Lib.hid (show RdI W0 (.slice aR R.length cR) R by rw [← hw]; exact HRr.out.alloc _)
    have HBX := Lib.hid (And.intro bx0 (And.intro bx1 bx2))
    have T0 := Below.refl W0.heap.size W0
    clear hw
    go_wp2_with fail
    (with_reducible refine (l11Code_any _ _ F R rd _ _ _ _ (HF0.out.below T0) (HR0.out.below T0) hn hm).mono ?_)
    rintro e w1 ⟨rfl, hb1⟩
    have T1 : Below W0.heap.size W0 w1 := T0.trans (hb1.mono T0.size)
    clear bx0 bx1 bx2
    have bx0 := (T1.cell (p := ⟨w.heap.size, 0, none⟩) hbx).trans HBX.out.1
    have bx1 := (T1.cell (p := ⟨w.heap.size, 1, none⟩) hbx).trans HBX.out.2.1
    have bx2 := (T1.cell (p := ⟨w.heap.size, 2, none⟩) hbx).trans HBX.out.2.2
    rw [HC.out]
    go_wp2
    go_ret3
    exact ⟨gret3 HE.out, (HTW.out.trans (T1.mono (Nat.le_of_lt hbx)))⟩
  cases hL : inR limit 0 4
  · skip
    have HC : Hid (code11 F R rd limit f r = 2) := by show _ = _; unfold code11; rw [hA, hB, hL, Bool.and_false]; rfl
    have HE : Hid (sgR F R rd limit f r move = (0, 0, 2)) := by show _ = _; unfold sgR; rw [hA, hB, hL, Bool.and_false]; rfl
    have HA := Lib.hid hA
    have HB := Lib.hid hB
    have HL := Lib.hid hL
    clear hA hB hL
    go_enter Try.func25, Try.ntmps25
    go_wp2_with fail
    generalize hw : w.alloc (.cells #[.slice aF F.length cF, .slice aR R.length cR, .int .i64 rd] 28) = W0
    have bx0 : W0.cell? ⟨w.heap.size, 0, none⟩ = some (.slice aF F.length cF) := by rw [← hw]; simp [go_sem]
    have bx1 : W0.cell? ⟨w.heap.size, 1, none⟩ = some (.slice aR R.length cR) := by rw [← hw]; simp [go_sem]
    have bx2 : W0.cell? ⟨w.heap.size, 2, none⟩ = some (.int .i64 rd) := by rw [← hw]; simp [go_sem]
    have hbx : w.heap.size < W0.heap.size := by rw [← hw]; simp
    have HTW : Hid (Below w.heap.size w W0) := by
      show Below _ _ _
      rw [← hw]; exact (Below.refl _ _).alloc (Nat.le_refl _) _
    have HF0 := Lib.hid (show RdI W0 (.slice aF F.length cF) F by rw [← hw]; exact HF.out.alloc _)
    have HR0 := Lib.hid (show RdI W0 (.slice aR R.length cR) R by rw [← hw]; exact HRr.out.alloc _)
    have HBX := Lib.hid (And.intro bx0 (And.intro bx1 bx2))
    have T0 := Below.refl W0.heap.size W0
    clear hw
    go_wp2_with fail
    (with_reducible refine (l11Code_any _ _ F R rd _ _ _ _ (HF0.out.below T0) (HR0.out.below T0) hn hm).mono ?_)
    rintro e w1 ⟨rfl, hb1⟩
    have T1 : Below W0.heap.size W0 w1 := T0.trans (hb1.mono T0.size)
    clear bx0 bx1 bx2
    have bx0 := (T1.cell (p := ⟨w.heap.size, 0, none⟩) hbx).trans HBX.out.1
    have bx1 := (T1.cell (p := ⟨w.heap.size, 1, none⟩) hbx).trans HBX.out.2.1
    have bx2 := (T1.cell (p := ⟨w.heap.size, 2, none⟩) hbx).trans HBX.out.2.2
    rw [HC.out]
    go_wp2
    go_ret3
    exact ⟨gret3 HE.out, (HTW.out.trans (T1.mono (Nat.le_of_lt hbx)))⟩
  cases hM : inR move 0 3
  · skip
    have HC : Hid (code11 F R rd limit f r = 0) := by show _ = _; unfold code11; rw [hA, hB, hL]; rfl
    have HE : Hid (sgR F R rd limit f r move = (0, 0, 2)) := by show _ = _; unfold sgR; rw [hA, hB, hL, hM]; rfl
    have HA := Lib.hid hA
    have HB := Lib.hid hB
    have HL := Lib.hid hL
    have HM := Lib.hid hM
    clear hA hB hL hM
    go_enter Try.func25, Try.ntmps25
    go_wp2_with fail
    generalize hw : w.alloc (.cells #[.slice aF F.length cF, .slice aR R.length cR, .int .i64 rd] 28) = W0
    have bx0 : W0.cell? ⟨w.heap.size, 0, none⟩ = some (.slice aF F.length cF) := by rw [← hw]; simp [go_sem]
    have bx1 : W0.cell? ⟨w.heap.size, 1, none⟩ = some (.slice aR R.length cR) := by rw [← hw]; simp [go_sem]
    have bx2 : W0.cell? ⟨w.heap.size, 2, none⟩ = some (.int .i64 rd) := by rw [← hw]; simp [go_sem]
    have hbx : w.heap.size < W0.heap.size := by rw [← hw]; simp
    have HTW : Hid (Below w.heap.size w W0) := by
      show Below _ _ _
      rw [← hw]; exact (Below.refl _ _).alloc (Nat.le_refl _) _
    have HF0 := Lib.hid (show RdI W0 (.slice aF F.length cF) F by rw [← hw]; exact HF.out.alloc _)
    have HR0 := Lib.hid (show RdI W0 (.slice aR R.length cR) R by rw [← hw]; exact HRr.out.alloc _)
    have HBX := Lib.hid (And.intro bx0 (And.intro bx1 bx2))
    have T0 := Below.refl W0.heap.size W0
    clear hw
    go_wp2_with fail
    (with_reducible refine (l11Code_any _ _ F R rd _ _ _ _ (HF0.out.below T0) (HR0.out.below T0) hn hm).mono ?_)
    rintro e w1 ⟨rfl, hb1⟩
    have T1 : Below W0.heap.size W0 w1 := T0.trans (hb1.mono T0.size)
    clear bx0 bx1 bx2
    have bx0 := (T1.cell (p := ⟨w.heap.size, 0, none⟩) hbx).trans HBX.out.1
    have bx1 := (T1.cell (p := ⟨w.heap.size, 1, none⟩) hbx).trans HBX.out.2.1
    have bx2 := (T1.cell (p := ⟨w.heap.size, 2, none⟩) hbx).trans HBX.out.2.2
    rw [HC.out]
    go_wp2_with fail
    (with_reducible refine (l01In_any _ _ _ _).mono ?_)
    rintro e _ ⟨rfl, rfl⟩
    rw [HM.out]
    go_wp2
    go_ret3
    exact ⟨gret3 HE.out, (HTW.out.trans (T1.mono (Nat.le_of_lt hbx)))⟩
  obtain ⟨l0, l4⟩ := inR_iff.1 hL
  obtain ⟨m0, m3⟩ := inR_iff.1 hM
  obtain ⟨q1, q2, q3, q4⟩ := gearR_small hB hn hm
  cases hX : crossR F.length R.length limit f r
  rotate_left
  · skip
    have HC : Hid (code11 F R rd limit f r = 0) := by show _ = _; unfold code11; rw [hA, hB, hL]; rfl
    have HS : Hid (codeS F R rd limit f r = 5) := by show _ = _; unfold codeS; rw [hA, hB, hL, hX]; rfl
    have HE : Hid (sgR F R rd limit f r move = (0, 0, 5)) := by show _ = _; unfold sgR; rw [hA, hB, hL, hM, hX, Bool.not_true, Bool.false_and]; rfl
    have HA := Lib.hid hA
    have HB := Lib.hid hB
    have HL := Lib.hid hL
    have HM := Lib.hid hM
    have HX := Lib.hid hX
    clear hA hB hL hM hX
    go_enter Try.func25, Try.ntmps25
    go_wp2_with fail
    generalize hw : w.alloc (.cells #[.slice aF F.length cF, .slice aR R.length cR, .int .i64 rd] 28) = W0
    have bx0 : W0.cell? ⟨w.heap.size, 0, none⟩ = some (.slice aF F.length cF) := by rw [← hw]; simp [go_sem]
    have bx1 : W0.cell? ⟨w.heap.size, 1, none⟩ = some (.slice aR R.length cR) := by rw [← hw]; simp [go_sem]
    have bx2 : W0.cell? ⟨w.heap.size, 2, none⟩ = some (.int .i64 rd) := by rw [← hw]; simp [go_sem]
    have hbx : w.heap.size < W0.heap.size := by rw [← hw]; simp
    have HTW : Hid (Below w.heap.size w W0) := by
      show Below _ _ _
      rw [← hw]; exact (Below.refl _ _).alloc (Nat.le_refl _) _
    have HF0 := Lib.hid (show RdI W0 (.slice aF F.length cF) F by rw [← hw]; exact HF.out.alloc _)
    have HR0 := Lib.hid (show RdI W0 (.slice aR R.length cR) R by rw [← hw]; exact HRr.out.alloc _)
    have HBX := Lib.hid (And.intro bx0 (And.intro bx1 bx2))
    have T0 := Below.refl W0.heap.size W0
    clear hw
    go_wp2_with fail
    (with_reducible refine (l11Code_any _ _ F R rd _ _ _ _ (HF0.out.below T0) (HR0.out.below T0) hn hm).mono ?_)
    rintro e w1 ⟨rfl, hb1⟩
    have T1 : Below W0.heap.size W0 w1 := T0.trans (hb1.mono T0.size)
    clear bx0 bx1 bx2
    have bx0 := (T1.cell (p := ⟨w.heap.size, 0, none⟩) hbx).trans HBX.out.1
    have bx1 := (T1.cell (p := ⟨w.heap.size, 1, none⟩) hbx).trans HBX.out.2.1
    have bx2 := (T1.cell (p := ⟨w.heap.size, 2, none⟩) hbx).trans HBX.out.2.2
    rw [HC.out]
    go_wp2_with fail
    (with_reducible refine (l01In_any _ _ _ _).mono ?_)
    rintro e _ ⟨rfl, rfl⟩
    rw [HM.out]
    go_wp2_with fail
    (with_reducible refine (l11Start_any _ _ F R rd _ _ _ _ (HF0.out.below T1) (HR0.out.below T1) hn hm).mono ?_)
    rintro e w2 ⟨rfl, hb2⟩
    have T2 : Below W0.heap.size W0 w2 := T1.trans (hb2.mono T1.size)
    clear bx0 bx1 bx2
    have bx0 := (T2.cell (p := ⟨w.heap.size, 0, none⟩) hbx).trans HBX.out.1
    have bx1 := (T2.cell (p := ⟨w.heap.size, 1, none⟩) hbx).trans HBX.out.2.1
    have bx2 := (T2.cell (p := ⟨w.heap.size, 2, none⟩) hbx).trans HBX.out.2.2
    rw [HS.out]
    go_wp2
    go_ret3
    exact ⟨gret3 HE.out, (HTW.out.trans (T2.mono (Nat.le_of_lt hbx)))⟩
  cases hO : okM F R limit (mvG move f r).1 (mvG move f r).2
  · skip
    have HH : Hid (shR F R limit move f r = ((mvG move f r).1, (mvG move f r).2, false)) := by show _ = _; unfold shR; rw [hO]
    have HC : Hid (code11 F R rd limit f r = 0) := by show _ = _; unfold code11; rw [hA, hB, hL]; rfl
    have HS : Hid (codeS F R rd limit f r = 0) := by show _ = _; unfold codeS; rw [hA, hB, hL, hX]; rfl
    have HE : Hid (sgR F R rd limit f r move = (0, 0, 5)) := by show _ = _; unfold sgR; rw [hA, hB, hL, hM, hX, hO]; rfl
    have HA := Lib.hid hA
    have HB := Lib.hid hB
    have HL := Lib.hid hL
    have HM := Lib.hid hM
    have HX := Lib.hid hX
    have HO := Lib.hid hO
    clear hA hB hL hM hX hO
    go_enter Try.func25, Try.ntmps25
    go_wp2_with fail
    generalize hw : w.alloc (.cells #[.slice aF F.length cF, .slice aR R.length cR, .int .i64 rd] 28) = W0
    have bx0 : W0.cell? ⟨w.heap.size, 0, none⟩ = some (.slice aF F.length cF) := by rw [← hw]; simp [go_sem]
    have bx1 : W0.cell? ⟨w.heap.size, 1, none⟩ = some (.slice aR R.length cR) := by rw [← hw]; simp [go_sem]
    have bx2 : W0.cell? ⟨w.heap.size, 2, none⟩ = some (.int .i64 rd) := by rw [← hw]; simp [go_sem]
    have hbx : w.heap.size < W0.heap.size := by rw [← hw]; simp
    have HTW : Hid (Below w.heap.size w W0) := by
      show Below _ _ _
      rw [← hw]; exact (Below.refl _ _).alloc (Nat.le_refl _) _
    have HF0 := Lib.hid (show RdI W0 (.slice aF F.length cF) F by rw [← hw]; exact HF.out.alloc _)
    have HR0 := Lib.hid (show RdI W0 (.slice aR R.length cR) R by rw [← hw]; exact HRr.out.alloc _)
    have HBX := Lib.hid (And.intro bx0 (And.intro bx1 bx2))
    have T0 := Below.refl W0.heap.size W0
    clear hw
    go_wp2_with fail
    (with_reducible refine (l11Code_any _ _ F R rd _ _ _ _ (HF0.out.below T0) (HR0.out.below T0) hn hm).mono ?_)
    rintro e w1 ⟨rfl, hb1⟩
    have T1 : Below W0.heap.size W0 w1 := T0.trans (hb1.mono T0.size)
    clear bx0 bx1 bx2
    have bx0 := (T1.cell (p := ⟨w.heap.size, 0, none⟩) hbx).trans HBX.out.1
    have bx1 := (T1.cell (p := ⟨w.heap.size, 1, none⟩) hbx).trans HBX.out.2.1
    have bx2 := (T1.cell (p := ⟨w.heap.size, 2, none⟩) hbx).trans HBX.out.2.2
    rw [HC.out]
    go_wp2_with fail
    (with_reducible refine (l01In_any _ _ _ _).mono ?_)
    rintro e _ ⟨rfl, rfl⟩
    rw [HM.out]
    go_wp2_with fail
    (with_reducible refine (l11Start_any _ _ F R rd _ _ _ _ (HF0.out.below T1) (HR0.out.below T1) hn hm).mono ?_)
    rintro e w2 ⟨rfl, hb2⟩
    have T2 : Below W0.heap.size W0 w2 := T1.trans (hb2.mono T1.size)
    clear bx0 bx1 bx2
    have bx0 := (T2.cell (p := ⟨w.heap.size, 0, none⟩) hbx).trans HBX.out.1
    have bx1 := (T2.cell (p := ⟨w.heap.size, 1, none⟩) hbx).trans HBX.out.2.1
    have bx2 := (T2.cell (p := ⟨w.heap.size, 2, none⟩) hbx).trans HBX.out.2.2
    rw [HS.out]
    go_wp2_with fail
    (with_reducible refine (l11Move_any _ _ F R rd _ _ _ _ _ (HF0.out.below T2) (HR0.out.below T2) hn hm l0 l4 q1 q2 q3 q4 m0 m3).mono ?_)
    rintro e w3 ⟨rfl, hb3⟩
    have T3 : Below W0.heap.size W0 w3 := T2.trans (hb3.mono T2.size)
    clear bx0 bx1 bx2
    have bx0 := (T3.cell (p := ⟨w.heap.size, 0, none⟩) hbx).trans HBX.out.1
    have bx1 := (T3.cell (p := ⟨w.heap.size, 1, none⟩) hbx).trans HBX.out.2.1
    have bx2 := (T3.cell (p := ⟨w.heap.size, 2, none⟩) hbx).trans HBX.out.2.2
    rw [HH.out]
    go_wp2
    go_ret3
    exact ⟨gret3 HE.out, (HTW.out.trans (T3.mono (Nat.le_of_lt hbx)))⟩
  · skip
    have HH : Hid (shR F R limit move f r = ((mvG move f r).1, (mvG move f r).2, true)) := by show _ = _; unfold shR; rw [hO]
    have HC : Hid (code11 F R rd limit f r = 0) := by show _ = _; unfold code11; rw [hA, hB, hL]; rfl
    have HS : Hid (codeS F R rd limit f r = 0) := by show _ = _; unfold codeS; rw [hA, hB, hL, hX]; rfl
    have HE : Hid (sgR F R rd limit f r move = ((mvG move f r).1, (mvG move f r).2, 0)) := by show _ = _; unfold sgR; rw [hA, hB, hL, hM, hX, hO]; rfl
    have HA := Lib.hid hA
    have HB := Lib.hid hB
    have HL := Lib.hid hL
    have HM := Lib.hid hM
    have HX := Lib.hid hX
    have HO := Lib.hid hO
    clear hA hB hL hM hX hO
    go_enter Try.func25, Try.ntmps25
    go_wp2_with fail
    generalize hw : w.alloc (.cells #[.slice aF F.length cF, .slice aR R.length cR, .int .i64 rd] 28) = W0
    have bx0 : W0.cell? ⟨w.heap.size, 0, none⟩ = some (.slice aF F.length cF) := by rw [← hw]; simp [go_sem]
    have bx1 : W0.cell? ⟨w.heap.size, 1, none⟩ = some (.slice aR R.length cR) := by rw [← hw]; simp [go_sem]
    have bx2 : W0.cell? ⟨w.heap.size, 2, none⟩ = some (.int .i64 rd) := by rw [← hw]; simp [go_sem]
    have hbx : w.heap.size < W0.heap.size := by rw [← hw]; simp
    have HTW : Hid (Below w.heap.size w W0) := by
      show Below _ _ _
      rw [← hw]; exact (Below.refl _ _).alloc (Nat.le_refl _) _
    have HF0 := Lib.hid (show RdI W0 (.slice aF F.length cF) F by rw [← hw]; exact HF.out.alloc _)
    have HR0 := Lib.hid (show RdI W0 (.slice aR R.length cR) R by rw [← hw]; exact HRr.out.alloc _)
    have HBX := Lib.hid (And.intro bx0 (And.intro bx1 bx2))
    have T0 := Below.refl W0.heap.size W0
    clear hw
    go_wp2_with fail
    (with_reducible refine (l11Code_any _ _ F R rd _ _ _ _ (HF0.out.below T0) (HR0.out.below T0) hn hm).mono ?_)
    rintro e w1 ⟨rfl, hb1⟩
    have T1 : Below W0.heap.size W0 w1 := T0.trans (hb1.mono T0.size)
    clear bx0 bx1 bx2
    have bx0 := (T1.cell (p := ⟨w.heap.size, 0, none⟩) hbx).trans HBX.out.1
    have bx1 := (T1.cell (p := ⟨w.heap.size, 1, none⟩) hbx).trans HBX.out.2.1
    have bx2 := (T1.cell (p := ⟨w.heap.size, 2, none⟩) hbx).trans HBX.out.2.2
    rw [HC.out]
    go_wp2_with fail
    (with_reducible refine (l01In_any _ _ _ _).mono ?_)
    rintro e _ ⟨rfl, rfl⟩
    rw [HM.out]
    go_wp2_with fail
    (with_reducible refine (l11Start_any _ _ F R rd _ _ _ _ (HF0.out.below T1) (HR0.out.below T1) hn hm).mono ?_)
    rintro e w2 ⟨rfl, hb2⟩
    have T2 : Below W0.heap.size W0 w2 := T1.trans (hb2.mono T1.size)
    clear bx0 bx1 bx2
    have bx0 := (T2.cell (p := ⟨w.heap.size, 0, none⟩) hbx).trans HBX.out.1
    have bx1 := (T2.cell (p := ⟨w.heap.size, 1, none⟩) hbx).trans HBX.out.2.1
    have bx2 := (T2.cell (p := ⟨w.heap.size, 2, none⟩) hbx).trans HBX.out.2.2
    rw [HS.out]
    go_wp2_with fail
    (with_reducible refine (l11Move_any _ _ F R rd _ _ _ _ _ (HF0.out.below T2) (HR0.out.below T2) hn hm l0 l4 q1 q2 q3 q4 m0 m3).mono ?_)
    rintro e w3 ⟨rfl, hb3⟩
    have T3 : Below W0.heap.size W0 w3 := T2.trans (hb3.mono T2.size)
    clear bx0 bx1 bx2
    have bx0 := (T3.cell (p := ⟨w.heap.size, 0, none⟩) hbx).trans HBX.out.1
    have bx1 := (T3.cell (p := ⟨w.heap.size, 1, none⟩) hbx).trans HBX.out.2.1
    have bx2 := (T3.cell (p := ⟨w.heap.size, 2, none⟩) hbx).trans HBX.out.2.2
    rw [HH.out]
    go_wp2
    go_ret3
    exact ⟨gret3 HE.out, (HTW.out.trans (T3.mono (Nat.le_of_lt hbx)))⟩

end Go.Proofs.Ytfdnhamkkcmnfaa
