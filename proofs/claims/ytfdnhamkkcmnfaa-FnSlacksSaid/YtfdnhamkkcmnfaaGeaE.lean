/- Contracts of ShiftGear, of the program and of the reference. -/
import Derived.Test.YtfdnhamkkcmnfaaGeaC
set_option linter.unusedSimpArgs false
set_option linter.unusedVariables false
namespace Go.Proofs.Ytfdnhamkkcmnfaa
open Go.RowKit

/-- The gear to which a move leads. -/
def mvG (move f r : Int) : Int × Int := if move = 0 then (f - 1, r) else if move = 1 then (f + 1, r) else if move = 2 then (f, r - 1) else (f, r + 1)
/-- Is there such a gear that is not crossed? -/
def okM (F R : List Int) (limit f r : Int) : Bool := gearR F R f r && !crossR F.length R.length limit f r
def codeS (F R : List Int) (rd limit f r : Int) : Int := if trainR F R rd = true then (if (gearR F R f r && inR limit 0 4) = true then (if crossR F.length R.length limit f r = true then 5 else 0) else 2) else 1
def sgR (F R : List Int) (rd limit f r move : Int) : Int × Int × Int := if trainR F R rd = true then (if (gearR F R f r && inR limit 0 4) = true then (if inR move 0 3 = true then (if (!crossR F.length R.length limit f r && okM F R limit (mvG move f r).1 (mvG move f r).2) = true then ((mvG move f r).1, (mvG move f r).2, 0) else (0, 0, 5)) else (0, 0, 2)) else (0, 0, 2)) else (0, 0, 1)
theorem gret3 {r : Int × Int × Int} {x y c : Int} (h : r = (x, y, c)) : Ending.returned (.tuple #[.int .i64 x, .int .i64 y, .int .i64 c]) = .returned (.tuple #[.int .i64 r.1, .int .i64 r.2.1, .int .i64 r.2.2]) := by rw [h]
/-- What shifted gives. -/
def shR (F R : List Int) (limit move f r : Int) : Int × Int × Bool := ((mvG move f r).1, (mvG move f r).2, okM F R limit (mvG move f r).1 (mvG move f r).2)
theorem gearR_bd {F R : List Int} {f r : Int} (h : gearR F R f r = true) : 0 ≤ f ∧ f < F.length ∧ 0 ≤ r ∧ r < R.length := by
  simp only [gearR, Bool.and_eq_true, inR_iff] at h
  omega
theorem sret3 {r : Int × Int × Bool} {x y : Int} {c : Bool} (h : r = (x, y, c)) : Ending.returned (.tuple #[.int .i64 x, .int .i64 y, .bool c]) = .returned (.tuple #[.int .i64 r.1, .int .i64 r.2.1, .bool r.2.2]) := by rw [h]

set_option maxHeartbeats 800000 in
theorem shifted_any (vF vR : Value) (F R : List Int) (rd : Int) (limit f r move : Int) (w : World) (hF : RdI w vF F) (hR : RdI w vR R) (hn : F.length ≤ 1048576) (hm : R.length ≤ 1048576) (l0 : 0 ≤ limit) (l4 : limit ≤ 4) (f0 : -1048576 ≤ f) (f1 : f ≤ 1048576) (r0 : -1048576 ≤ r) (r1 : r ≤ 1048576) (m0 : 0 ≤ move) (m3 : move ≤ 3) :
    Calls Try.prog 74 #[.agg #[vF, vR, .int .i64 rd], .int .i64 limit, .int .i64 f, .int .i64 r, .int .i64 move] w fun e w' => e = .returned (.tuple #[.int .i64 (shR F R limit move f r).1, .int .i64 (shR F R limit move f r).2.1, .bool (shR F R limit move f r).2.2]) ∧ Below w.heap.size w w' := by
  have HF := Lib.hid hF
  have HRr := Lib.hid hR
  obtain ⟨aF, cF, rfl, -⟩ := hF
  obtain ⟨aR, cR, rfl, -⟩ := hR
  obtain rfl | rfl | rfl | rfl : move = 0 ∨ move = 1 ∨ move = 2 ∨ move = 3 := by omega
  · skip
    have HM : Hid (shR F R limit 0 f r = (f - 1, r, okM F R limit (f - 1) (r))) := rfl
    cases hA : gearR F R (f - 1) (r)
    · have HE : Hid (shR F R limit 0 f r = (f - 1, r, false)) := by show _ = _; rw [HM.out]; unfold okM; rw [hA]; rfl
      have hA := Lib.hid hA
      go_enter Try.func74, Try.ntmps74
      go_wp2_with fail
      generalize hw : w.alloc (.cells #[.slice aF F.length cF, .slice aR R.length cR, .int .i64 rd] 28) = W0
      have bx0 : W0.cell? ⟨w.heap.size, 0, none⟩ = some (.slice aF F.length cF) := by rw [← hw]; simp [go_sem]
      have bx1 : W0.cell? ⟨w.heap.size, 1, none⟩ = some (.slice aR R.length cR) := by rw [← hw]; simp [go_sem]
      have bx2 : W0.cell? ⟨w.heap.size, 2, none⟩ = some (.int .i64 rd) := by rw [← hw]; simp [go_sem]
      have hbx : w.heap.size < W0.heap.size := by rw [← hw]; simp
      have HTW : Hid (Below w.heap.size w W0) := by
        show Below _ _ _
        rw [← hw]; exact (Below.refl _ _).alloc (Nat.le_refl _) _
      have HF0 := Lib.hid (show RdI W0 (.slice aF F.length cF) F by rw [← hw]; exact HF.out.alloc _)
      have HR0 := Lib.hid (show RdI W0 (.slice aR R.length cR) R by rw [← hw]; exact HRr.out.alloc _)
      have HBX := Lib.hid (And.intro bx0 (And.intro bx1 bx2))
      have T0 := Below.refl W0.heap.size W0
      clear hw
      go_wp2_with fail
      (with_reducible refine (isGear_any _ _ F R rd _ _ _ (HF0.out.below T0) (HR0.out.below T0) hn hm).mono ?_)
      rintro e w1 ⟨rfl, hb1⟩
      have T1 : Below W0.heap.size W0 w1 := T0.trans (hb1.mono T0.size)
      clear bx0 bx1 bx2
      have bx0 := (T1.cell (p := ⟨w.heap.size, 0, none⟩) hbx).trans HBX.out.1
      have bx1 := (T1.cell (p := ⟨w.heap.size, 1, none⟩) hbx).trans HBX.out.2.1
      have bx2 := (T1.cell (p := ⟨w.heap.size, 2, none⟩) hbx).trans HBX.out.2.2
      rw [hA.out]
      go_wp2
      go_ret3
      exact ⟨sret3 HE.out, (HTW.out.trans (T1.mono (Nat.le_of_lt hbx)))⟩
    cases hB : crossR F.length R.length limit (f - 1) (r)
    · have HE : Hid (shR F R limit 0 f r = (f - 1, r, true)) := by show _ = _; rw [HM.out]; unfold okM; rw [hA, hB]; rfl
      have hA := Lib.hid hA
      have hB := Lib.hid hB
      go_enter Try.func74, Try.ntmps74
      go_wp2_with fail
      generalize hw : w.alloc (.cells #[.slice aF F.length cF, .slice aR R.length cR, .int .i64 rd] 28) = W0
      have bx0 : W0.cell? ⟨w.heap.size, 0, none⟩ = some (.slice aF F.length cF) := by rw [← hw]; simp [go_sem]
      have bx1 : W0.cell? ⟨w.heap.size, 1, none⟩ = some (.slice aR R.length cR) := by rw [← hw]; simp [go_sem]
      have bx2 : W0.cell? ⟨w.heap.size, 2, none⟩ = some (.int .i64 rd) := by rw [← hw]; simp [go_sem]
      have hbx : w.heap.size < W0.heap.size := by rw [← hw]; simp
      have HTW : Hid (Below w.heap.size w W0) := by
        show Below _ _ _
        rw [← hw]; exact (Below.refl _ _).alloc (Nat.le_refl _) _
      have HF0 := Lib.hid (show RdI W0 (.slice aF F.length cF) F by rw [← hw]; exact HF.out.alloc _)
      have HR0 := Lib.hid (show RdI W0 (.slice aR R.length cR) R by rw [← hw]; exact HRr.out.alloc _)
      have HBX := Lib.hid (And.intro bx0 (And.intro bx1 bx2))
      have T0 := Below.refl W0.heap.size W0
      clear hw
      go_wp2_with fail
      (with_reducible refine (isGear_any _ _ F R rd _ _ _ (HF0.out.below T0) (HR0.out.below T0) hn hm).mono ?_)
      rintro e w1 ⟨rfl, hb1⟩
      have T1 : Below W0.heap.size W0 w1 := T0.trans (hb1.mono T0.size)
      clear bx0 bx1 bx2
      have bx0 := (T1.cell (p := ⟨w.heap.size, 0, none⟩) hbx).trans HBX.out.1
      have bx1 := (T1.cell (p := ⟨w.heap.size, 1, none⟩) hbx).trans HBX.out.2.1
      have bx2 := (T1.cell (p := ⟨w.heap.size, 2, none⟩) hbx).trans HBX.out.2.2
      rw [hA.out]
      go_wp2_with fail
      (with_reducible refine (crossed_any _ _ F R rd _ _ _ _ (HF0.out.below T1) (HR0.out.below T1) hn hm l0 l4).mono ?_)
      rintro e w2 ⟨rfl, hb2⟩
      have T2 : Below W0.heap.size W0 w2 := T1.trans (hb2.mono T1.size)
      clear bx0 bx1 bx2
      have bx0 := (T2.cell (p := ⟨w.heap.size, 0, none⟩) hbx).trans HBX.out.1
      have bx1 := (T2.cell (p := ⟨w.heap.size, 1, none⟩) hbx).trans HBX.out.2.1
      have bx2 := (T2.cell (p := ⟨w.heap.size, 2, none⟩) hbx).trans HBX.out.2.2
      rw [hB.out]
      go_wp2
      go_ret3
      exact ⟨sret3 HE.out, (HTW.out.trans (T2.mono (Nat.le_of_lt hbx)))⟩
    · have HE : Hid (shR F R limit 0 f r = (f - 1, r, false)) := by show _ = _; rw [HM.out]; unfold okM; rw [hA, hB]; rfl
      have hA := Lib.hid hA
      have hB := Lib.hid hB
      go_enter Try.func74, Try.ntmps74
      go_wp2_with fail
      generalize hw : w.alloc (.cells #[.slice aF F.length cF, .slice aR R.length cR, .int .i64 rd] 28) = W0
      have bx0 : W0.cell? ⟨w.heap.size, 0, none⟩ = some (.slice aF F.length cF) := by rw [← hw]; simp [go_sem]
      have bx1 : W0.cell? ⟨w.heap.size, 1, none⟩ = some (.slice aR R.length cR) := by rw [← hw]; simp [go_sem]
      have bx2 : W0.cell? ⟨w.heap.size, 2, none⟩ = some (.int .i64 rd) := by rw [← hw]; simp [go_sem]
      have hbx : w.heap.size < W0.heap.size := by rw [← hw]; simp
      have HTW : Hid (Below w.heap.size w W0) := by
        show Below _ _ _
        rw [← hw]; exact (Below.refl _ _).alloc (Nat.le_refl _) _
      have HF0 := Lib.hid (show RdI W0 (.slice aF F.length cF) F by rw [← hw]; exact HF.out.alloc _)
      have HR0 := Lib.hid (show RdI W0 (.slice aR R.length cR) R by rw [← hw]; exact HRr.out.alloc _)
      have HBX := Lib.hid (And.intro bx0 (And.intro bx1 bx2))
      have T0 := Below.refl W0.heap.size W0
      clear hw
      go_wp2_with fail
      (with_reducible refine (isGear_any _ _ F R rd _ _ _ (HF0.out.below T0) (HR0.out.below T0) hn hm).mono ?_)
      rintro e w1 ⟨rfl, hb1⟩
      have T1 : Below W0.heap.size W0 w1 := T0.trans (hb1.mono T0.size)
      clear bx0 bx1 bx2
      have bx0 := (T1.cell (p := ⟨w.heap.size, 0, none⟩) hbx).trans HBX.out.1
      have bx1 := (T1.cell (p := ⟨w.heap.size, 1, none⟩) hbx).trans HBX.out.2.1
      have bx2 := (T1.cell (p := ⟨w.heap.size, 2, none⟩) hbx).trans HBX.out.2.2
      rw [hA.out]
      go_wp2_with fail
      (with_reducible refine (crossed_any _ _ F R rd _ _ _ _ (HF0.out.below T1) (HR0.out.below T1) hn hm l0 l4).mono ?_)
      rintro e w2 ⟨rfl, hb2⟩
      have T2 : Below W0.heap.size W0 w2 := T1.trans (hb2.mono T1.size)
      clear bx0 bx1 bx2
      have bx0 := (T2.cell (p := ⟨w.heap.size, 0, none⟩) hbx).trans HBX.out.1
      have bx1 := (T2.cell (p := ⟨w.heap.size, 1, none⟩) hbx).trans HBX.out.2.1
      have bx2 := (T2.cell (p := ⟨w.heap.size, 2, none⟩) hbx).trans HBX.out.2.2
      rw [hB.out]
      go_wp2
      go_ret3
      exact ⟨sret3 HE.out, (HTW.out.trans (T2.mono (Nat.le_of_lt hbx)))⟩
  · skip
    have HM : Hid (shR F R limit 1 f r = (f + 1, r, okM F R limit (f + 1) (r))) := rfl
    cases hA : gearR F R (f + 1) (r)
    · have HE : Hid (shR F R limit 1 f r = (f + 1, r, false)) := by show _ = _; rw [HM.out]; unfold okM; rw [hA]; rfl
      have hA := Lib.hid hA
      go_enter Try.func74, Try.ntmps74
      go_wp2_with fail
      generalize hw : w.alloc (.cells #[.slice aF F.length cF, .slice aR R.length cR, .int .i64 rd] 28) = W0
      have bx0 : W0.cell? ⟨w.heap.size, 0, none⟩ = some (.slice aF F.length cF) := by rw [← hw]; simp [go_sem]
      have bx1 : W0.cell? ⟨w.heap.size, 1, none⟩ = some (.slice aR R.length cR) := by rw [← hw]; simp [go_sem]
      have bx2 : W0.cell? ⟨w.heap.size, 2, none⟩ = some (.int .i64 rd) := by rw [← hw]; simp [go_sem]
      have hbx : w.heap.size < W0.heap.size := by rw [← hw]; simp
      have HTW : Hid (Below w.heap.size w W0) := by
        show Below _ _ _
        rw [← hw]; exact (Below.refl _ _).alloc (Nat.le_refl _) _
      have HF0 := Lib.hid (show RdI W0 (.slice aF F.length cF) F by rw [← hw]; exact HF.out.alloc _)
      have HR0 := Lib.hid (show RdI W0 (.slice aR R.length cR) R by rw [← hw]; exact HRr.out.alloc _)
      have HBX := Lib.hid (And.intro bx0 (And.intro bx1 bx2))
      have T0 := Below.refl W0.heap.size W0
      clear hw
      go_wp2_with fail
      (with_reducible refine (isGear_any _ _ F R rd _ _ _ (HF0.out.below T0) (HR0.out.below T0) hn hm).mono ?_)
      rintro e w1 ⟨rfl, hb1⟩
      have T1 : Below W0.heap.size W0 w1 := T0.trans (hb1.mono T0.size)
      clear bx0 bx1 bx2
      have bx0 := (T1.cell (p := ⟨w.heap.size, 0, none⟩) hbx).trans HBX.out.1
      have bx1 := (T1.cell (p := ⟨w.heap.size, 1, none⟩) hbx).trans HBX.out.2.1
      have bx2 := (T1.cell (p := ⟨w.heap.size, 2, none⟩) hbx).trans HBX.out.2.2
      rw [hA.out]
      go_wp2
      go_ret3
      exact ⟨sret3 HE.out, (HTW.out.trans (T1.mono (Nat.le_of_lt hbx)))⟩
    cases hB : crossR F.length R.length limit (f + 1) (r)
    · have HE : Hid (shR F R limit 1 f r = (f + 1, r, true)) := by show _ = _; rw [HM.out]; unfold okM; rw [hA, hB]; rfl
      have hA := Lib.hid hA
      have hB := Lib.hid hB
      go_enter Try.func74, Try.ntmps74
      go_wp2_with fail
      generalize hw : w.alloc (.cells #[.slice aF F.length cF, .slice aR R.length cR, .int .i64 rd] 28) = W0
      have bx0 : W0.cell? ⟨w.heap.size, 0, none⟩ = some (.slice aF F.length cF) := by rw [← hw]; simp [go_sem]
      have bx1 : W0.cell? ⟨w.heap.size, 1, none⟩ = some (.slice aR R.length cR) := by rw [← hw]; simp [go_sem]
      have bx2 : W0.cell? ⟨w.heap.size, 2, none⟩ = some (.int .i64 rd) := by rw [← hw]; simp [go_sem]
      have hbx : w.heap.size < W0.heap.size := by rw [← hw]; simp
      have HTW : Hid (Below w.heap.size w W0) := by
        show Below _ _ _
        rw [← hw]; exact (Below.refl _ _).alloc (Nat.le_refl _) _
      have HF0 := Lib.hid (show RdI W0 (.slice aF F.length cF) F by rw [← hw]; exact HF.out.alloc _)
      have HR0 := Lib.hid (show RdI W0 (.slice aR R.length cR) R by rw [← hw]; exact HRr.out.alloc _)
      have HBX := Lib.hid (And.intro bx0 (And.intro bx1 bx2))
      have T0 := Below.refl W0.heap.size W0
      clear hw
      go_wp2_with fail
      (with_reducible refine (isGear_any _ _ F R rd _ _ _ (HF0.out.below T0) (HR0.out.below T0) hn hm).mono ?_)
      rintro e w1 ⟨rfl, hb1⟩
      have T1 : Below W0.heap.size W0 w1 := T0.trans (hb1.mono T0.size)
      clear bx0 bx1 bx2
      have bx0 := (T1.cell (p := ⟨w.heap.size, 0, none⟩) hbx).trans HBX.out.1
      have bx1 := (T1.cell (p := ⟨w.heap.size, 1, none⟩) hbx).trans HBX.out.2.1
      have bx2 := (T1.cell (p := ⟨w.heap.size, 2, none⟩) hbx).trans HBX.out.2.2
      rw [hA.out]
      go_wp2_with fail
      (with_reducible refine (crossed_any _ _ F R rd _ _ _ _ (HF0.out.below T1) (HR0.out.below T1) hn hm l0 l4).mono ?_)
      rintro e w2 ⟨rfl, hb2⟩
      have T2 : Below W0.heap.size W0 w2 := T1.trans (hb2.mono T1.size)
      clear bx0 bx1 bx2
      have bx0 := (T2.cell (p := ⟨w.heap.size, 0, none⟩) hbx).trans HBX.out.1
      have bx1 := (T2.cell (p := ⟨w.heap.size, 1, none⟩) hbx).trans HBX.out.2.1
      have bx2 := (T2.cell (p := ⟨w.heap.size, 2, none⟩) hbx).trans HBX.out.2.2
      rw [hB.out]
      go_wp2
      go_ret3
      exact ⟨sret3 HE.out, (HTW.out.trans (T2.mono (Nat.le_of_lt hbx)))⟩
    · have HE : Hid (shR F R limit 1 f r = (f + 1, r, false)) := by show _ = _; rw [HM.out]; unfold okM; rw [hA, hB]; rfl
      have hA := Lib.hid hA
      have hB := Lib.hid hB
      go_enter Try.func74, Try.ntmps74
      go_wp2_with fail
      generalize hw : w.alloc (.cells #[.slice aF F.length cF, .slice aR R.length cR, .int .i64 rd] 28) = W0
      have bx0 : W0.cell? ⟨w.heap.size, 0, none⟩ = some (.slice aF F.length cF) := by rw [← hw]; simp [go_sem]
      have bx1 : W0.cell? ⟨w.heap.size, 1, none⟩ = some (.slice aR R.length cR) := by rw [← hw]; simp [go_sem]
      have bx2 : W0.cell? ⟨w.heap.size, 2, none⟩ = some (.int .i64 rd) := by rw [← hw]; simp [go_sem]
      have hbx : w.heap.size < W0.heap.size := by rw [← hw]; simp
      have HTW : Hid (Below w.heap.size w W0) := by
        show Below _ _ _
        rw [← hw]; exact (Below.refl _ _).alloc (Nat.le_refl _) _
      have HF0 := Lib.hid (show RdI W0 (.slice aF F.length cF) F by rw [← hw]; exact HF.out.alloc _)
      have HR0 := Lib.hid (show RdI W0 (.slice aR R.length cR) R by rw [← hw]; exact HRr.out.alloc _)
      have HBX := Lib.hid (And.intro bx0 (And.intro bx1 bx2))
      have T0 := Below.refl W0.heap.size W0
      clear hw
      go_wp2_with fail
      (with_reducible refine (isGear_any _ _ F R rd _ _ _ (HF0.out.below T0) (HR0.out.below T0) hn hm).mono ?_)
      rintro e w1 ⟨rfl, hb1⟩
      have T1 : Below W0.heap.size W0 w1 := T0.trans (hb1.mono T0.size)
      clear bx0 bx1 bx2
      have bx0 := (T1.cell (p := ⟨w.heap.size, 0, none⟩) hbx).trans HBX.out.1
      have bx1 := (T1.cell (p := ⟨w.heap.size, 1, none⟩) hbx).trans HBX.out.2.1
      have bx2 := (T1.cell (p := ⟨w.heap.size, 2, none⟩) hbx).trans HBX.out.2.2
      rw [hA.out]
      go_wp2_with fail
      (with_reducible refine (crossed_any _ _ F R rd _ _ _ _ (HF0.out.below T1) (HR0.out.below T1) hn hm l0 l4).mono ?_)
      rintro e w2 ⟨rfl, hb2⟩
      have T2 : Below W0.heap.size W0 w2 := T1.trans (hb2.mono T1.size)
      clear bx0 bx1 bx2
      have bx0 := (T2.cell (p := ⟨w.heap.size, 0, none⟩) hbx).trans HBX.out.1
      have bx1 := (T2.cell (p := ⟨w.heap.size, 1, none⟩) hbx).trans HBX.out.2.1
      have bx2 := (T2.cell (p := ⟨w.heap.size, 2, none⟩) hbx).trans HBX.out.2.2
      rw [hB.out]
      go_wp2
      go_ret3
      exact ⟨sret3 HE.out, (HTW.out.trans (T2.mono (Nat.le_of_lt hbx)))⟩
  · skip
    have HM : Hid (shR F R limit 2 f r = (f, r - 1, okM F R limit (f) (r - 1))) := rfl
    cases hA : gearR F R (f) (r - 1)
    · have HE : Hid (shR F R limit 2 f r = (f, r - 1, false)) := by show _ = _; rw [HM.out]; unfold okM; rw [hA]; rfl
      have hA := Lib.hid hA
      go_enter Try.func74, Try.ntmps74
      go_wp2_with fail
      generalize hw : w.alloc (.cells #[.slice aF F.length cF, .slice aR R.length cR, .int .i64 rd] 28) = W0
      have bx0 : W0.cell? ⟨w.heap.size, 0, none⟩ = some (.slice aF F.length cF) := by rw [← hw]; simp [go_sem]
      have bx1 : W0.cell? ⟨w.heap.size, 1, none⟩ = some (.slice aR R.length cR) := by rw [← hw]; simp [go_sem]
      have bx2 : W0.cell? ⟨w.heap.size, 2, none⟩ = some (.int .i64 rd) := by rw [← hw]; simp [go_sem]
      have hbx : w.heap.size < W0.heap.size := by rw [← hw]; simp
      have HTW : Hid (Below w.heap.size w W0) := by
        show Below _ _ _
        rw [← hw]; exact (Below.refl _ _).alloc (Nat.le_refl _) _
      have HF0 := Lib.hid (show RdI W0 (.slice aF F.length cF) F by rw [← hw]; exact HF.out.alloc _)
      have HR0 := Lib.hid (show RdI W0 (.slice aR R.length cR) R by rw [← hw]; exact HRr.out.alloc _)
      have HBX := Lib.hid (And.intro bx0 (And.intro bx1 bx2))
      have T0 := Below.refl W0.heap.size W0
      clear hw
      go_wp2_with fail
      (with_reducible refine (isGear_any _ _ F R rd _ _ _ (HF0.out.below T0) (HR0.out.below T0) hn hm).mono ?_)
      rintro e w1 ⟨rfl, hb1⟩
      have T1 : Below W0.heap.size W0 w1 := T0.trans (hb1.mono T0.size)
      clear bx0 bx1 bx2
      have bx0 := (T1.cell (p := ⟨w.heap.size, 0, none⟩) hbx).trans HBX.out.1
      have bx1 := (T1.cell (p := ⟨w.heap.size, 1, none⟩) hbx).trans HBX.out.2.1
      have bx2 := (T1.cell (p := ⟨w.heap.size, 2, none⟩) hbx).trans HBX.out.2.2
      rw [hA.out]
      go_wp2
      go_ret3
      exact ⟨sret3 HE.out, (HTW.out.trans (T1.mono (Nat.le_of_lt hbx)))⟩
    cases hB : crossR F.length R.length limit (f) (r - 1)
    · have HE : Hid (shR F R limit 2 f r = (f, r - 1, true)) := by show _ = _; rw [HM.out]; unfold okM; rw [hA, hB]; rfl
      have hA := Lib.hid hA
      have hB := Lib.hid hB
      go_enter Try.func74, Try.ntmps74
      go_wp2_with fail
      generalize hw : w.alloc (.cells #[.slice aF F.length cF, .slice aR R.length cR, .int .i64 rd] 28) = W0
      have bx0 : W0.cell? ⟨w.heap.size, 0, none⟩ = some (.slice aF F.length cF) := by rw [← hw]; simp [go_sem]
      have bx1 : W0.cell? ⟨w.heap.size, 1, none⟩ = some (.slice aR R.length cR) := by rw [← hw]; simp [go_sem]
      have bx2 : W0.cell? ⟨w.heap.size, 2, none⟩ = some (.int .i64 rd) := by rw [← hw]; simp [go_sem]
      have hbx : w.heap.size < W0.heap.size := by rw [← hw]; simp
      have HTW : Hid (Below w.heap.size w W0) := by
        show Below _ _ _
        rw [← hw]; exact (Below.refl _ _).alloc (Nat.le_refl _) _
      have HF0 := Lib.hid (show RdI W0 (.slice aF F.length cF) F by rw [← hw]; exact HF.out.alloc _)
      have HR0 := Lib.hid (show RdI W0 (.slice aR R.length cR) R by rw [← hw]; exact HRr.out.alloc _)
      have HBX := Lib.hid (And.intro bx0 (And.intro bx1 bx2))
      have T0 := Below.refl W0.heap.size W0
      clear hw
      go_wp2_with fail
      (with_reducible refine (isGear_any _ _ F R rd _ _ _ (HF0.out.below T0) (HR0.out.below T0) hn hm).mono ?_)
      rintro e w1 ⟨rfl, hb1⟩
      have T1 : Below W0.heap.size W0 w1 := T0.trans (hb1.mono T0.size)
      clear bx0 bx1 bx2
      have bx0 := (T1.cell (p := ⟨w.heap.size, 0, none⟩) hbx).trans HBX.out.1
      have bx1 := (T1.cell (p := ⟨w.heap.size, 1, none⟩) hbx).trans HBX.out.2.1
      have bx2 := (T1.cell (p := ⟨w.heap.size, 2, none⟩) hbx).trans HBX.out.2.2
      rw [hA.out]
      go_wp2_with fail
      (with_reducible refine (crossed_any _ _ F R rd _ _ _ _ (HF0.out.below T1) (HR0.out.below T1) hn hm l0 l4).mono ?_)
      rintro e w2 ⟨rfl, hb2⟩
      have T2 : Below W0.heap.size W0 w2 := T1.trans (hb2.mono T1.size)
      clear bx0 bx1 bx2
      have bx0 := (T2.cell (p := ⟨w.heap.size, 0, none⟩) hbx).trans HBX.out.1
      have bx1 := (T2.cell (p := ⟨w.heap.size, 1, none⟩) hbx).trans HBX.out.2.1
      have bx2 := (T2.cell (p := ⟨w.heap.size, 2, none⟩) hbx).trans HBX.out.2.2
      rw [hB.out]
      go_wp2
      go_ret3
      exact ⟨sret3 HE.out, (HTW.out.trans (T2.mono (Nat.le_of_lt hbx)))⟩
    · have HE : Hid (shR F R limit 2 f r = (f, r - 1, false)) := by show _ = _; rw [HM.out]; unfold okM; rw [hA, hB]; rfl
      have hA := Lib.hid hA
      have hB := Lib.hid hB
      go_enter Try.func74, Try.ntmps74
      go_wp2_with fail
      generalize hw : w.alloc (.cells #[.slice aF F.length cF, .slice aR R.length cR, .int .i64 rd] 28) = W0
      have bx0 : W0.cell? ⟨w.heap.size, 0, none⟩ = some (.slice aF F.length cF) := by rw [← hw]; simp [go_sem]
      have bx1 : W0.cell? ⟨w.heap.size, 1, none⟩ = some (.slice aR R.length cR) := by rw [← hw]; simp [go_sem]
      have bx2 : W0.cell? ⟨w.heap.size, 2, none⟩ = some (.int .i64 rd) := by rw [← hw]; simp [go_sem]
      have hbx : w.heap.size < W0.heap.size := by rw [← hw]; simp
      have HTW : Hid (Below w.heap.size w W0) := by
        show Below _ _ _
        rw [← hw]; exact (Below.refl _ _).alloc (Nat.le_refl _) _
      have HF0 := Lib.hid (show RdI W0 (.slice aF F.length cF) F by rw [← hw]; exact HF.out.alloc _)
      have HR0 := Lib.hid (show RdI W0 (.slice aR R.length cR) R by rw [← hw]; exact HRr.out.alloc _)
      have HBX := Lib.hid (And.intro bx0 (And.intro bx1 bx2))
      have T0 := Below.refl W0.heap.size W0
      clear hw
      go_wp2_with fail
      (with_reducible refine (isGear_any _ _ F R rd _ _ _ (HF0.out.below T0) (HR0.out.below T0) hn hm).mono ?_)
      rintro e w1 ⟨rfl, hb1⟩
      have T1 : Below W0.heap.size W0 w1 := T0.trans (hb1.mono T0.size)
      clear bx0 bx1 bx2
      have bx0 := (T1.cell (p := ⟨w.heap.size, 0, none⟩) hbx).trans HBX.out.1
      have bx1 := (T1.cell (p := ⟨w.heap.size, 1, none⟩) hbx).trans HBX.out.2.1
      have bx2 := (T1.cell (p := ⟨w.heap.size, 2, none⟩) hbx).trans HBX.out.2.2
      rw [hA.out]
      go_wp2_with fail
      (with_reducible refine (crossed_any _ _ F R rd _ _ _ _ (HF0.out.below T1) (HR0.out.below T1) hn hm l0 l4).mono ?_)
      rintro e w2 ⟨rfl, hb2⟩
      have T2 : Below W0.heap.size W0 w2 := T1.trans (hb2.mono T1.size)
      clear bx0 bx1 bx2
      have bx0 := (T2.cell (p := ⟨w.heap.size, 0, none⟩) hbx).trans HBX.out.1
      have bx1 := (T2.cell (p := ⟨w.heap.size, 1, none⟩) hbx).trans HBX.out.2.1
      have bx2 := (T2.cell (p := ⟨w.heap.size, 2, none⟩) hbx).trans HBX.out.2.2
      rw [hB.out]
      go_wp2
      go_ret3
      exact ⟨sret3 HE.out, (HTW.out.trans (T2.mono (Nat.le_of_lt hbx)))⟩
  · skip
    have HM : Hid (shR F R limit 3 f r = (f, r + 1, okM F R limit (f) (r + 1))) := rfl
    cases hA : gearR F R (f) (r + 1)
    · have HE : Hid (shR F R limit 3 f r = (f, r + 1, false)) := by show _ = _; rw [HM.out]; unfold okM; rw [hA]; rfl
      have hA := Lib.hid hA
      go_enter Try.func74, Try.ntmps74
      go_wp2_with fail
      generalize hw : w.alloc (.cells #[.slice aF F.length cF, .slice aR R.length cR, .int .i64 rd] 28) = W0
      have bx0 : W0.cell? ⟨w.heap.size, 0, none⟩ = some (.slice aF F.length cF) := by rw [← hw]; simp [go_sem]
      have bx1 : W0.cell? ⟨w.heap.size, 1, none⟩ = some (.slice aR R.length cR) := by rw [← hw]; simp [go_sem]
      have bx2 : W0.cell? ⟨w.heap.size, 2, none⟩ = some (.int .i64 rd) := by rw [← hw]; simp [go_sem]
      have hbx : w.heap.size < W0.heap.size := by rw [← hw]; simp
      have HTW : Hid (Below w.heap.size w W0) := by
        show Below _ _ _
        rw [← hw]; exact (Below.refl _ _).alloc (Nat.le_refl _) _
      have HF0 := Lib.hid (show RdI W0 (.slice aF F.length cF) F by rw [← hw]; exact HF.out.alloc _)
      have HR0 := Lib.hid (show RdI W0 (.slice aR R.length cR) R by rw [← hw]; exact HRr.out.alloc _)
      have HBX := Lib.hid (And.intro bx0 (And.intro bx1 bx2))
      have T0 := Below.refl W0.heap.size W0
      clear hw
      go_wp2_with fail
      (with_reducible refine (isGear_any _ _ F R rd _ _ _ (HF0.out.below T0) (HR0.out.below T0) hn hm).mono ?_)
      rintro e w1 ⟨rfl, hb1⟩
      have T1 : Below W0.heap.size W0 w1 := T0.trans (hb1.mono T0.size)
      clear bx0 bx1 bx2
      have bx0 := (T1.cell (p := ⟨w.heap.size, 0, none⟩) hbx).trans HBX.out.1
      have bx1 := (T1.cell (p := ⟨w.heap.size, 1, none⟩) hbx).trans HBX.out.2.1
      have bx2 := (T1.cell (p := ⟨w.heap.size, 2, none⟩) hbx).trans HBX.out.2.2
      rw [hA.out]
      go_wp2
      go_ret3
      exact ⟨sret3 HE.out, (HTW.out.trans (T1.mono (Nat.le_of_lt hbx)))⟩
    cases hB : crossR F.length R.length limit (f) (r + 1)
    · have HE : Hid (shR F R limit 3 f r = (f, r + 1, true)) := by show _ = _; rw [HM.out]; unfold okM; rw [hA, hB]; rfl
      have hA := Lib.hid hA
      have hB := Lib.hid hB
      go_enter Try.func74, Try.ntmps74
      go_wp2_with fail
      generalize hw : w.alloc (.cells #[.slice aF F.length cF, .slice aR R.length cR, .int .i64 rd] 28) = W0
      have bx0 : W0.cell? ⟨w.heap.size, 0, none⟩ = some (.slice aF F.length cF) := by rw [← hw]; simp [go_sem]
      have bx1 : W0.cell? ⟨w.heap.size, 1, none⟩ = some (.slice aR R.length cR) := by rw [← hw]; simp [go_sem]
      have bx2 : W0.cell? ⟨w.heap.size, 2, none⟩ = some (.int .i64 rd) := by rw [← hw]; simp [go_sem]
      have hbx : w.heap.size < W0.heap.size := by rw [← hw]; simp
      have HTW : Hid (Below w.heap.size w W0) := by
        show Below _ _ _
        rw [← hw]; exact (Below.refl _ _).alloc (Nat.le_refl _) _
      have HF0 := Lib.hid (show RdI W0 (.slice aF F.length cF) F by rw [← hw]; exact HF.out.alloc _)
      have HR0 := Lib.hid (show RdI W0 (.slice aR R.length cR) R by rw [← hw]; exact HRr.out.alloc _)
      have HBX := Lib.hid (And.intro bx0 (And.intro bx1 bx2))
      have T0 := Below.refl W0.heap.size W0
      clear hw
      go_wp2_with fail
      (with_reducible refine (isGear_any _ _ F R rd _ _ _ (HF0.out.below T0) (HR0.out.below T0) hn hm).mono ?_)
      rintro e w1 ⟨rfl, hb1⟩
      have T1 : Below W0.heap.size W0 w1 := T0.trans (hb1.mono T0.size)
      clear bx0 bx1 bx2
      have bx0 := (T1.cell (p := ⟨w.heap.size, 0, none⟩) hbx).trans HBX.out.1
      have bx1 := (T1.cell (p := ⟨w.heap.size, 1, none⟩) hbx).trans HBX.out.2.1
      have bx2 := (T1.cell (p := ⟨w.heap.size, 2, none⟩) hbx).trans HBX.out.2.2
      rw [hA.out]
      go_wp2_with fail
      (with_reducible refine (crossed_any _ _ F R rd _ _ _ _ (HF0.out.below T1) (HR0.out.below T1) hn hm l0 l4).mono ?_)
      rintro e w2 ⟨rfl, hb2⟩
      have T2 : Below W0.heap.size W0 w2 := T1.trans (hb2.mono T1.size)
      clear bx0 bx1 bx2
      have bx0 := (T2.cell (p := ⟨w.heap.size, 0, none⟩) hbx).trans HBX.out.1
      have bx1 := (T2.cell (p := ⟨w.heap.size, 1, none⟩) hbx).trans HBX.out.2.1
      have bx2 := (T2.cell (p := ⟨w.heap.size, 2, none⟩) hbx).trans HBX.out.2.2
      rw [hB.out]
      go_wp2
      go_ret3
      exact ⟨sret3 HE.out, (HTW.out.trans (T2.mono (Nat.le_of_lt hbx)))⟩
    · have HE : Hid (shR F R limit 3 f r = (f, r + 1, false)) := by show _ = _; rw [HM.out]; unfold okM; rw [hA, hB]; rfl
      have hA := Lib.hid hA
      have hB := Lib.hid hB
      go_enter Try.func74, Try.ntmps74
      go_wp2_with fail
      generalize hw : w.alloc (.cells #[.slice aF F.length cF, .slice aR R.length cR, .int .i64 rd] 28) = W0
      have bx0 : W0.cell? ⟨w.heap.size, 0, none⟩ = some (.slice aF F.length cF) := by rw [← hw]; simp [go_sem]
      have bx1 : W0.cell? ⟨w.heap.size, 1, none⟩ = some (.slice aR R.length cR) := by rw [← hw]; simp [go_sem]
      have bx2 : W0.cell? ⟨w.heap.size, 2, none⟩ = some (.int .i64 rd) := by rw [← hw]; simp [go_sem]
      have hbx : w.heap.size < W0.heap.size := by rw [← hw]; simp
      have HTW : Hid (Below w.heap.size w W0) := by
        show Below _ _ _
        rw [← hw]; exact (Below.refl _ _).alloc (Nat.le_refl _) _
      have HF0 := Lib.hid (show RdI W0 (.slice aF F.length cF) F by rw [← hw]; exact HF.out.alloc _)
      have HR0 := Lib.hid (show RdI W0 (.slice aR R.length cR) R by rw [← hw]; exact HRr.out.alloc _)
      have HBX := Lib.hid (And.intro bx0 (And.intro bx1 bx2))
      have T0 := Below.refl W0.heap.size W0
      clear hw
      go_wp2_with fail
      (with_reducible refine (isGear_any _ _ F R rd _ _ _ (HF0.out.below T0) (HR0.out.below T0) hn hm).mono ?_)
      rintro e w1 ⟨rfl, hb1⟩
      have T1 : Below W0.heap.size W0 w1 := T0.trans (hb1.mono T0.size)
      clear bx0 bx1 bx2
      have bx0 := (T1.cell (p := ⟨w.heap.size, 0, none⟩) hbx).trans HBX.out.1
      have bx1 := (T1.cell (p := ⟨w.heap.size, 1, none⟩) hbx).trans HBX.out.2.1
      have bx2 := (T1.cell (p := ⟨w.heap.size, 2, none⟩) hbx).trans HBX.out.2.2
      rw [hA.out]
      go_wp2_with fail
      (with_reducible refine (crossed_any _ _ F R rd _ _ _ _ (HF0.out.below T1) (HR0.out.below T1) hn hm l0 l4).mono ?_)
      rintro e w2 ⟨rfl, hb2⟩
      have T2 : Below W0.heap.size W0 w2 := T1.trans (hb2.mono T1.size)
      clear bx0 bx1 bx2
      have bx0 := (T2.cell (p := ⟨w.heap.size, 0, none⟩) hbx).trans HBX.out.1
      have bx1 := (T2.cell (p := ⟨w.heap.size, 1, none⟩) hbx).trans HBX.out.2.1
      have bx2 := (T2.cell (p := ⟨w.heap.size, 2, none⟩) hbx).trans HBX.out.2.2
      rw [hB.out]
      go_wp2
      go_ret3
      exact ⟨sret3 HE.out, (HTW.out.trans (T2.mono (Nat.le_of_lt hbx)))⟩

set_option maxHeartbeats 800000 in
theorem l11Move_any (vF vR : Value) (F R : List Int) (rd : Int) (limit f r move : Int) (w : World) (hF : RdI w vF F) (hR : RdI w vR R) (hn : F.length ≤ 1048576) (hm : R.length ≤ 1048576) (l0 : 0 ≤ limit) (l4 : limit ≤ 4) (f0 : -1048576 ≤ f) (f1 : f ≤ 1048576) (r0 : -1048576 ≤ r) (r1 : r ≤ 1048576) (m0 : 0 ≤ move) (m3 : move ≤ 3) :
    Calls Try.prog 72 #[.agg #[vF, vR, .int .i64 rd], .int .i64 limit, .int .i64 f, .int .i64 r, .int .i64 move] w fun e w' => e = .returned (.tuple #[.int .i64 (shR F R limit move f r).1, .int .i64 (shR F R limit move f r).2.1, .bool (shR F R limit move f r).2.2]) ∧ Below w.heap.size w w' := by
  have HF := Lib.hid hF
  have HRr := Lib.hid hR
  obtain ⟨aF, cF, rfl, -⟩ := hF
  obtain ⟨aR, cR, rfl, -⟩ := hR
  obtain rfl | rfl | rfl | rfl : move = 0 ∨ move = 1 ∨ move = 2 ∨ move = 3 := by omega
  · skip
    have HM : Hid (shR F R limit 0 f r = (f - 1, r, okM F R limit (f - 1) (r))) := rfl
    have eN : f + -1 = f - 1 := by omega
    have eM : r + -1 = r - 1 := by omega
    cases hA : gearR F R (f - 1) (r)
    · have HE : Hid (shR F R limit 0 f r = (f - 1, r, false)) := by show _ = _; rw [HM.out]; unfold okM; rw [hA]; rfl
      have hA := Lib.hid hA
      go_enter Try.func72, Try.ntmps72
      go_wp2_with fail
      generalize hw : w.alloc (.cells #[.slice aF F.length cF, .slice aR R.length cR, .int .i64 rd] 28) = W0
      have bx0 : W0.cell? ⟨w.heap.size, 0, none⟩ = some (.slice aF F.length cF) := by rw [← hw]; simp [go_sem]
      have bx1 : W0.cell? ⟨w.heap.size, 1, none⟩ = some (.slice aR R.length cR) := by rw [← hw]; simp [go_sem]
      have bx2 : W0.cell? ⟨w.heap.size, 2, none⟩ = some (.int .i64 rd) := by rw [← hw]; simp [go_sem]
      have hbx : w.heap.size < W0.heap.size := by rw [← hw]; simp
      have HTW : Hid (Below w.heap.size w W0) := by
        show Below _ _ _
        rw [← hw]; exact (Below.refl _ _).alloc (Nat.le_refl _) _
      have HF0 := Lib.hid (show RdI W0 (.slice aF F.length cF) F by rw [← hw]; exact HF.out.alloc _)
      have HR0 := Lib.hid (show RdI W0 (.slice aR R.length cR) R by rw [← hw]; exact HRr.out.alloc _)
      have HBX := Lib.hid (And.intro bx0 (And.intro bx1 bx2))
      have T0 := Below.refl W0.heap.size W0
      clear hw
      go_wp2_with fail
      (with_reducible refine (l09Gear_any _ _ F R rd _ _ _ (HF0.out.below T0) (HR0.out.below T0) hn hm).mono ?_)
      rintro e w1 ⟨rfl, hb1⟩
      have T1 : Below W0.heap.size W0 w1 := T0.trans (hb1.mono T0.size)
      clear bx0 bx1 bx2
      have bx0 := (T1.cell (p := ⟨w.heap.size, 0, none⟩) hbx).trans HBX.out.1
      have bx1 := (T1.cell (p := ⟨w.heap.size, 1, none⟩) hbx).trans HBX.out.2.1
      have bx2 := (T1.cell (p := ⟨w.heap.size, 2, none⟩) hbx).trans HBX.out.2.2
      rw [hA.out]
      go_wp2
      go_ret3
      exact ⟨sret3 HE.out, (HTW.out.trans (T1.mono (Nat.le_of_lt hbx)))⟩
    cases hB : crossR F.length R.length limit (f - 1) (r)
    · have HE : Hid (shR F R limit 0 f r = (f - 1, r, true)) := by show _ = _; rw [HM.out]; unfold okM; rw [hA, hB]; rfl
      have hA := Lib.hid hA
      have hB := Lib.hid hB
      go_enter Try.func72, Try.ntmps72
      go_wp2_with fail
      generalize hw : w.alloc (.cells #[.slice aF F.length cF, .slice aR R.length cR, .int .i64 rd] 28) = W0
      have bx0 : W0.cell? ⟨w.heap.size, 0, none⟩ = some (.slice aF F.length cF) := by rw [← hw]; simp [go_sem]
      have bx1 : W0.cell? ⟨w.heap.size, 1, none⟩ = some (.slice aR R.length cR) := by rw [← hw]; simp [go_sem]
      have bx2 : W0.cell? ⟨w.heap.size, 2, none⟩ = some (.int .i64 rd) := by rw [← hw]; simp [go_sem]
      have hbx : w.heap.size < W0.heap.size := by rw [← hw]; simp
      have HTW : Hid (Below w.heap.size w W0) := by
        show Below _ _ _
        rw [← hw]; exact (Below.refl _ _).alloc (Nat.le_refl _) _
      have HF0 := Lib.hid (show RdI W0 (.slice aF F.length cF) F by rw [← hw]; exact HF.out.alloc _)
      have HR0 := Lib.hid (show RdI W0 (.slice aR R.length cR) R by rw [← hw]; exact HRr.out.alloc _)
      have HBX := Lib.hid (And.intro bx0 (And.intro bx1 bx2))
      have T0 := Below.refl W0.heap.size W0
      clear hw
      go_wp2_with fail
      (with_reducible refine (l09Gear_any _ _ F R rd _ _ _ (HF0.out.below T0) (HR0.out.below T0) hn hm).mono ?_)
      rintro e w1 ⟨rfl, hb1⟩
      have T1 : Below W0.heap.size W0 w1 := T0.trans (hb1.mono T0.size)
      clear bx0 bx1 bx2
      have bx0 := (T1.cell (p := ⟨w.heap.size, 0, none⟩) hbx).trans HBX.out.1
      have bx1 := (T1.cell (p := ⟨w.heap.size, 1, none⟩) hbx).trans HBX.out.2.1
      have bx2 := (T1.cell (p := ⟨w.heap.size, 2, none⟩) hbx).trans HBX.out.2.2
      rw [hA.out]
      go_wp2_with fail
      (with_reducible refine (l11Crossed_any _ _ F R rd _ _ _ _ (HF0.out.below T1) (HR0.out.below T1) hn hm l0 l4).mono ?_)
      rintro e w2 ⟨rfl, hb2⟩
      have T2 : Below W0.heap.size W0 w2 := T1.trans (hb2.mono T1.size)
      clear bx0 bx1 bx2
      have bx0 := (T2.cell (p := ⟨w.heap.size, 0, none⟩) hbx).trans HBX.out.1
      have bx1 := (T2.cell (p := ⟨w.heap.size, 1, none⟩) hbx).trans HBX.out.2.1
      have bx2 := (T2.cell (p := ⟨w.heap.size, 2, none⟩) hbx).trans HBX.out.2.2
      rw [hB.out]
      go_wp2
      go_ret3
      exact ⟨sret3 HE.out, (HTW.out.trans (T2.mono (Nat.le_of_lt hbx)))⟩
    · have HE : Hid (shR F R limit 0 f r = (f - 1, r, false)) := by show _ = _; rw [HM.out]; unfold okM; rw [hA, hB]; rfl
      have hA := Lib.hid hA
      have hB := Lib.hid hB
      go_enter Try.func72, Try.ntmps72
      go_wp2_with fail
      generalize hw : w.alloc (.cells #[.slice aF F.length cF, .slice aR R.length cR, .int .i64 rd] 28) = W0
      have bx0 : W0.cell? ⟨w.heap.size, 0, none⟩ = some (.slice aF F.length cF) := by rw [← hw]; simp [go_sem]
      have bx1 : W0.cell? ⟨w.heap.size, 1, none⟩ = some (.slice aR R.length cR) := by rw [← hw]; simp [go_sem]
      have bx2 : W0.cell? ⟨w.heap.size, 2, none⟩ = some (.int .i64 rd) := by rw [← hw]; simp [go_sem]
      have hbx : w.heap.size < W0.heap.size := by rw [← hw]; simp
      have HTW : Hid (Below w.heap.size w W0) := by
        show Below _ _ _
        rw [← hw]; exact (Below.refl _ _).alloc (Nat.le_refl _) _
      have HF0 := Lib.hid (show RdI W0 (.slice aF F.length cF) F by rw [← hw]; exact HF.out.alloc _)
      have HR0 := Lib.hid (show RdI W0 (.slice aR R.length cR) R by rw [← hw]; exact HRr.out.alloc _)
      have HBX := Lib.hid (And.intro bx0 (And.intro bx1 bx2))
      have T0 := Below.refl W0.heap.size W0
      clear hw
      go_wp2_with fail
      (with_reducible refine (l09Gear_any _ _ F R rd _ _ _ (HF0.out.below T0) (HR0.out.below T0) hn hm).mono ?_)
      rintro e w1 ⟨rfl, hb1⟩
      have T1 : Below W0.heap.size W0 w1 := T0.trans (hb1.mono T0.size)
      clear bx0 bx1 bx2
      have bx0 := (T1.cell (p := ⟨w.heap.size, 0, none⟩) hbx).trans HBX.out.1
      have bx1 := (T1.cell (p := ⟨w.heap.size, 1, none⟩) hbx).trans HBX.out.2.1
      have bx2 := (T1.cell (p := ⟨w.heap.size, 2, none⟩) hbx).trans HBX.out.2.2
      rw [hA.out]
      go_wp2_with fail
      (with_reducible refine (l11Crossed_any _ _ F R rd _ _ _ _ (HF0.out.below T1) (HR0.out.below T1) hn hm l0 l4).mono ?_)
      rintro e w2 ⟨rfl, hb2⟩
      have T2 : Below W0.heap.size W0 w2 := T1.trans (hb2.mono T1.size)
      clear bx0 bx1 bx2
      have bx0 := (T2.cell (p := ⟨w.heap.size, 0, none⟩) hbx).trans HBX.out.1
      have bx1 := (T2.cell (p := ⟨w.heap.size, 1, none⟩) hbx).trans HBX.out.2.1
      have bx2 := (T2.cell (p := ⟨w.heap.size, 2, none⟩) hbx).trans HBX.out.2.2
      rw [hB.out]
      go_wp2
      go_ret3
      exact ⟨sret3 HE.out, (HTW.out.trans (T2.mono (Nat.le_of_lt hbx)))⟩
  · skip
    have HM : Hid (shR F R limit 1 f r = (f + 1, r, okM F R limit (f + 1) (r))) := rfl
    have eN : f + -1 = f - 1 := by omega
    have eM : r + -1 = r - 1 := by omega
    cases hA : gearR F R (f + 1) (r)
    · have HE : Hid (shR F R limit 1 f r = (f + 1, r, false)) := by show _ = _; rw [HM.out]; unfold okM; rw [hA]; rfl
      have hA := Lib.hid hA
      go_enter Try.func72, Try.ntmps72
      go_wp2_with fail
      generalize hw : w.alloc (.cells #[.slice aF F.length cF, .slice aR R.length cR, .int .i64 rd] 28) = W0
      have bx0 : W0.cell? ⟨w.heap.size, 0, none⟩ = some (.slice aF F.length cF) := by rw [← hw]; simp [go_sem]
      have bx1 : W0.cell? ⟨w.heap.size, 1, none⟩ = some (.slice aR R.length cR) := by rw [← hw]; simp [go_sem]
      have bx2 : W0.cell? ⟨w.heap.size, 2, none⟩ = some (.int .i64 rd) := by rw [← hw]; simp [go_sem]
      have hbx : w.heap.size < W0.heap.size := by rw [← hw]; simp
      have HTW : Hid (Below w.heap.size w W0) := by
        show Below _ _ _
        rw [← hw]; exact (Below.refl _ _).alloc (Nat.le_refl _) _
      have HF0 := Lib.hid (show RdI W0 (.slice aF F.length cF) F by rw [← hw]; exact HF.out.alloc _)
      have HR0 := Lib.hid (show RdI W0 (.slice aR R.length cR) R by rw [← hw]; exact HRr.out.alloc _)
      have HBX := Lib.hid (And.intro bx0 (And.intro bx1 bx2))
      have T0 := Below.refl W0.heap.size W0
      clear hw
      go_wp2_with fail
      (with_reducible refine (l09Gear_any _ _ F R rd _ _ _ (HF0.out.below T0) (HR0.out.below T0) hn hm).mono ?_)
      rintro e w1 ⟨rfl, hb1⟩
      have T1 : Below W0.heap.size W0 w1 := T0.trans (hb1.mono T0.size)
      clear bx0 bx1 bx2
      have bx0 := (T1.cell (p := ⟨w.heap.size, 0, none⟩) hbx).trans HBX.out.1
      have bx1 := (T1.cell (p := ⟨w.heap.size, 1, none⟩) hbx).trans HBX.out.2.1
      have bx2 := (T1.cell (p := ⟨w.heap.size, 2, none⟩) hbx).trans HBX.out.2.2
      rw [hA.out]
      go_wp2
      go_ret3
      exact ⟨sret3 HE.out, (HTW.out.trans (T1.mono (Nat.le_of_lt hbx)))⟩
    cases hB : crossR F.length R.length limit (f + 1) (r)
    · have HE : Hid (shR F R limit 1 f r = (f + 1, r, true)) := by show _ = _; rw [HM.out]; unfold okM; rw [hA, hB]; rfl
      have hA := Lib.hid hA
      have hB := Lib.hid hB
      go_enter Try.func72, Try.ntmps72
      go_wp2_with fail
      generalize hw : w.alloc (.cells #[.slice aF F.length cF, .slice aR R.length cR, .int .i64 rd] 28) = W0
      have bx0 : W0.cell? ⟨w.heap.size, 0, none⟩ = some (.slice aF F.length cF) := by rw [← hw]; simp [go_sem]
      have bx1 : W0.cell? ⟨w.heap.size, 1, none⟩ = some (.slice aR R.length cR) := by rw [← hw]; simp [go_sem]
      have bx2 : W0.cell? ⟨w.heap.size, 2, none⟩ = some (.int .i64 rd) := by rw [← hw]; simp [go_sem]
      have hbx : w.heap.size < W0.heap.size := by rw [← hw]; simp
      have HTW : Hid (Below w.heap.size w W0) := by
        show Below _ _ _
        rw [← hw]; exact (Below.refl _ _).alloc (Nat.le_refl _) _
      have HF0 := Lib.hid (show RdI W0 (.slice aF F.length cF) F by rw [← hw]; exact HF.out.alloc _)
      have HR0 := Lib.hid (show RdI W0 (.slice aR R.length cR) R by rw [← hw]; exact HRr.out.alloc _)
      have HBX := Lib.hid (And.intro bx0 (And.intro bx1 bx2))
      have T0 := Below.refl W0.heap.size W0
      clear hw
      go_wp2_with fail
      (with_reducible refine (l09Gear_any _ _ F R rd _ _ _ (HF0.out.below T0) (HR0.out.below T0) hn hm).mono ?_)
      rintro e w1 ⟨rfl, hb1⟩
      have T1 : Below W0.heap.size W0 w1 := T0.trans (hb1.mono T0.size)
      clear bx0 bx1 bx2
      have bx0 := (T1.cell (p := ⟨w.heap.size, 0, none⟩) hbx).trans HBX.out.1
      have bx1 := (T1.cell (p := ⟨w.heap.size, 1, none⟩) hbx).trans HBX.out.2.1
      have bx2 := (T1.cell (p := ⟨w.heap.size, 2, none⟩) hbx).trans HBX.out.2.2
      rw [hA.out]
      go_wp2_with fail
      (with_reducible refine (l11Crossed_any _ _ F R rd _ _ _ _ (HF0.out.below T1) (HR0.out.below T1) hn hm l0 l4).mono ?_)
      rintro e w2 ⟨rfl, hb2⟩
      have T2 : Below W0.heap.size W0 w2 := T1.trans (hb2.mono T1.size)
      clear bx0 bx1 bx2
      have bx0 := (T2.cell (p := ⟨w.heap.size, 0, none⟩) hbx).trans HBX.out.1
      have bx1 := (T2.cell (p := ⟨w.heap.size, 1, none⟩) hbx).trans HBX.out.2.1
      have bx2 := (T2.cell (p := ⟨w.heap.size, 2, none⟩) hbx).trans HBX.out.2.2
      rw [hB.out]
      go_wp2
      go_ret3
      exact ⟨sret3 HE.out, (HTW.out.trans (T2.mono (Nat.le_of_lt hbx)))⟩
    · have HE : Hid (shR F R limit 1 f r = (f + 1, r, false)) := by show _ = _; rw [HM.out]; unfold okM; rw [hA, hB]; rfl
      have hA := Lib.hid hA
      have hB := Lib.hid hB
      go_enter Try.func72, Try.ntmps72
      go_wp2_with fail
      generalize hw : w.alloc (.cells #[.slice aF F.length cF, .slice aR R.length cR, .int .i64 rd] 28) = W0
      have bx0 : W0.cell? ⟨w.heap.size, 0, none⟩ = some (.slice aF F.length cF) := by rw [← hw]; simp [go_sem]
      have bx1 : W0.cell? ⟨w.heap.size, 1, none⟩ = some (.slice aR R.length cR) := by rw [← hw]; simp [go_sem]
      have bx2 : W0.cell? ⟨w.heap.size, 2, none⟩ = some (.int .i64 rd) := by rw [← hw]; simp [go_sem]
      have hbx : w.heap.size < W0.heap.size := by rw [← hw]; simp
      have HTW : Hid (Below w.heap.size w W0) := by
        show Below _ _ _
        rw [← hw]; exact (Below.refl _ _).alloc (Nat.le_refl _) _
      have HF0 := Lib.hid (show RdI W0 (.slice aF F.length cF) F by rw [← hw]; exact HF.out.alloc _)
      have HR0 := Lib.hid (show RdI W0 (.slice aR R.length cR) R by rw [← hw]; exact HRr.out.alloc _)
      have HBX := Lib.hid (And.intro bx0 (And.intro bx1 bx2))
      have T0 := Below.refl W0.heap.size W0
      clear hw
      go_wp2_with fail
      (with_reducible refine (l09Gear_any _ _ F R rd _ _ _ (HF0.out.below T0) (HR0.out.below T0) hn hm).mono ?_)
      rintro e w1 ⟨rfl, hb1⟩
      have T1 : Below W0.heap.size W0 w1 := T0.trans (hb1.mono T0.size)
      clear bx0 bx1 bx2
      have bx0 := (T1.cell (p := ⟨w.heap.size, 0, none⟩) hbx).trans HBX.out.1
      have bx1 := (T1.cell (p := ⟨w.heap.size, 1, none⟩) hbx).trans HBX.out.2.1
      have bx2 := (T1.cell (p := ⟨w.heap.size, 2, none⟩) hbx).trans HBX.out.2.2
      rw [hA.out]
      go_wp2_with fail
      (with_reducible refine (l11Crossed_any _ _ F R rd _ _ _ _ (HF0.out.below T1) (HR0.out.below T1) hn hm l0 l4).mono ?_)
      rintro e w2 ⟨rfl, hb2⟩
      have T2 : Below W0.heap.size W0 w2 := T1.trans (hb2.mono T1.size)
      clear bx0 bx1 bx2
      have bx0 := (T2.cell (p := ⟨w.heap.size, 0, none⟩) hbx).trans HBX.out.1
      have bx1 := (T2.cell (p := ⟨w.heap.size, 1, none⟩) hbx).trans HBX.out.2.1
      have bx2 := (T2.cell (p := ⟨w.heap.size, 2, none⟩) hbx).trans HBX.out.2.2
      rw [hB.out]
      go_wp2
      go_ret3
      exact ⟨sret3 HE.out, (HTW.out.trans (T2.mono (Nat.le_of_lt hbx)))⟩
  · skip
    have HM : Hid (shR F R limit 2 f r = (f, r - 1, okM F R limit (f) (r - 1))) := rfl
    have eN : f + -1 = f - 1 := by omega
    have eM : r + -1 = r - 1 := by omega
    cases hA : gearR F R (f) (r - 1)
    · have HE : Hid (shR F R limit 2 f r = (f, r - 1, false)) := by show _ = _; rw [HM.out]; unfold okM; rw [hA]; rfl
      have hA := Lib.hid hA
      go_enter Try.func72, Try.ntmps72
      go_wp2_with fail
      generalize hw : w.alloc (.cells #[.slice aF F.length cF, .slice aR R.length cR, .int .i64 rd] 28) = W0
      have bx0 : W0.cell? ⟨w.heap.size, 0, none⟩ = some (.slice aF F.length cF) := by rw [← hw]; simp [go_sem]
      have bx1 : W0.cell? ⟨w.heap.size, 1, none⟩ = some (.slice aR R.length cR) := by rw [← hw]; simp [go_sem]
      have bx2 : W0.cell? ⟨w.heap.size, 2, none⟩ = some (.int .i64 rd) := by rw [← hw]; simp [go_sem]
      have hbx : w.heap.size < W0.heap.size := by rw [← hw]; simp
      have HTW : Hid (Below w.heap.size w W0) := by
        show Below _ _ _
        rw [← hw]; exact (Below.refl _ _).alloc (Nat.le_refl _) _
      have HF0 := Lib.hid (show RdI W0 (.slice aF F.length cF) F by rw [← hw]; exact HF.out.alloc _)
      have HR0 := Lib.hid (show RdI W0 (.slice aR R.length cR) R by rw [← hw]; exact HRr.out.alloc _)
      have HBX := Lib.hid (And.intro bx0 (And.intro bx1 bx2))
      have T0 := Below.refl W0.heap.size W0
      clear hw
      go_wp2_with fail
      (with_reducible refine (l09Gear_any _ _ F R rd _ _ _ (HF0.out.below T0) (HR0.out.below T0) hn hm).mono ?_)
      rintro e w1 ⟨rfl, hb1⟩
      have T1 : Below W0.heap.size W0 w1 := T0.trans (hb1.mono T0.size)
      clear bx0 bx1 bx2
      have bx0 := (T1.cell (p := ⟨w.heap.size, 0, none⟩) hbx).trans HBX.out.1
      have bx1 := (T1.cell (p := ⟨w.heap.size, 1, none⟩) hbx).trans HBX.out.2.1
      have bx2 := (T1.cell (p := ⟨w.heap.size, 2, none⟩) hbx).trans HBX.out.2.2
      rw [hA.out]
      go_wp2
      go_ret3
      exact ⟨sret3 HE.out, (HTW.out.trans (T1.mono (Nat.le_of_lt hbx)))⟩
    cases hB : crossR F.length R.length limit (f) (r - 1)
    · have HE : Hid (shR F R limit 2 f r = (f, r - 1, true)) := by show _ = _; rw [HM.out]; unfold okM; rw [hA, hB]; rfl
      have hA := Lib.hid hA
      have hB := Lib.hid hB
      go_enter Try.func72, Try.ntmps72
      go_wp2_with fail
      generalize hw : w.alloc (.cells #[.slice aF F.length cF, .slice aR R.length cR, .int .i64 rd] 28) = W0
      have bx0 : W0.cell? ⟨w.heap.size, 0, none⟩ = some (.slice aF F.length cF) := by rw [← hw]; simp [go_sem]
      have bx1 : W0.cell? ⟨w.heap.size, 1, none⟩ = some (.slice aR R.length cR) := by rw [← hw]; simp [go_sem]
      have bx2 : W0.cell? ⟨w.heap.size, 2, none⟩ = some (.int .i64 rd) := by rw [← hw]; simp [go_sem]
      have hbx : w.heap.size < W0.heap.size := by rw [← hw]; simp
      have HTW : Hid (Below w.heap.size w W0) := by
        show Below _ _ _
        rw [← hw]; exact (Below.refl _ _).alloc (Nat.le_refl _) _
      have HF0 := Lib.hid (show RdI W0 (.slice aF F.length cF) F by rw [← hw]; exact HF.out.alloc _)
      have HR0 := Lib.hid (show RdI W0 (.slice aR R.length cR) R by rw [← hw]; exact HRr.out.alloc _)
      have HBX := Lib.hid (And.intro bx0 (And.intro bx1 bx2))
      have T0 := Below.refl W0.heap.size W0
      clear hw
      go_wp2_with fail
      (with_reducible refine (l09Gear_any _ _ F R rd _ _ _ (HF0.out.below T0) (HR0.out.below T0) hn hm).mono ?_)
      rintro e w1 ⟨rfl, hb1⟩
      have T1 : Below W0.heap.size W0 w1 := T0.trans (hb1.mono T0.size)
      clear bx0 bx1 bx2
      have bx0 := (T1.cell (p := ⟨w.heap.size, 0, none⟩) hbx).trans HBX.out.1
      have bx1 := (T1.cell (p := ⟨w.heap.size, 1, none⟩) hbx).trans HBX.out.2.1
      have bx2 := (T1.cell (p := ⟨w.heap.size, 2, none⟩) hbx).trans HBX.out.2.2
      rw [hA.out]
      go_wp2_with fail
      (with_reducible refine (l11Crossed_any _ _ F R rd _ _ _ _ (HF0.out.below T1) (HR0.out.below T1) hn hm l0 l4).mono ?_)
      rintro e w2 ⟨rfl, hb2⟩
      have T2 : Below W0.heap.size W0 w2 := T1.trans (hb2.mono T1.size)
      clear bx0 bx1 bx2
      have bx0 := (T2.cell (p := ⟨w.heap.size, 0, none⟩) hbx).trans HBX.out.1
      have bx1 := (T2.cell (p := ⟨w.heap.size, 1, none⟩) hbx).trans HBX.out.2.1
      have bx2 := (T2.cell (p := ⟨w.heap.size, 2, none⟩) hbx).trans HBX.out.2.2
      rw [hB.out]
      go_wp2
      go_ret3
      exact ⟨sret3 HE.out, (HTW.out.trans (T2.mono (Nat.le_of_lt hbx)))⟩
    · have HE : Hid (shR F R limit 2 f r = (f, r - 1, false)) := by show _ = _; rw [HM.out]; unfold okM; rw [hA, hB]; rfl
      have hA := Lib.hid hA
      have hB := Lib.hid hB
      go_enter Try.func72, Try.ntmps72
      go_wp2_with fail
      generalize hw : w.alloc (.cells #[.slice aF F.length cF, .slice aR R.length cR, .int .i64 rd] 28) = W0
      have bx0 : W0.cell? ⟨w.heap.size, 0, none⟩ = some (.slice aF F.length cF) := by rw [← hw]; simp [go_sem]
      have bx1 : W0.cell? ⟨w.heap.size, 1, none⟩ = some (.slice aR R.length cR) := by rw [← hw]; simp [go_sem]
      have bx2 : W0.cell? ⟨w.heap.size, 2, none⟩ = some (.int .i64 rd) := by rw [← hw]; simp [go_sem]
      have hbx : w.heap.size < W0.heap.size := by rw [← hw]; simp
      have HTW : Hid (Below w.heap.size w W0) := by
        show Below _ _ _
        rw [← hw]; exact (Below.refl _ _).alloc (Nat.le_refl _) _
      have HF0 := Lib.hid (show RdI W0 (.slice aF F.length cF) F by rw [← hw]; exact HF.out.alloc _)
      have HR0 := Lib.hid (show RdI W0 (.slice aR R.length cR) R by rw [← hw]; exact HRr.out.alloc _)
      have HBX := Lib.hid (And.intro bx0 (And.intro bx1 bx2))
      have T0 := Below.refl W0.heap.size W0
      clear hw
      go_wp2_with fail
      (with_reducible refine (l09Gear_any _ _ F R rd _ _ _ (HF0.out.below T0) (HR0.out.below T0) hn hm).mono ?_)
      rintro e w1 ⟨rfl, hb1⟩
      have T1 : Below W0.heap.size W0 w1 := T0.trans (hb1.mono T0.size)
      clear bx0 bx1 bx2
      have bx0 := (T1.cell (p := ⟨w.heap.size, 0, none⟩) hbx).trans HBX.out.1
      have bx1 := (T1.cell (p := ⟨w.heap.size, 1, none⟩) hbx).trans HBX.out.2.1
      have bx2 := (T1.cell (p := ⟨w.heap.size, 2, none⟩) hbx).trans HBX.out.2.2
      rw [hA.out]
      go_wp2_with fail
      (with_reducible refine (l11Crossed_any _ _ F R rd _ _ _ _ (HF0.out.below T1) (HR0.out.below T1) hn hm l0 l4).mono ?_)
      rintro e w2 ⟨rfl, hb2⟩
      have T2 : Below W0.heap.size W0 w2 := T1.trans (hb2.mono T1.size)
      clear bx0 bx1 bx2
      have bx0 := (T2.cell (p := ⟨w.heap.size, 0, none⟩) hbx).trans HBX.out.1
      have bx1 := (T2.cell (p := ⟨w.heap.size, 1, none⟩) hbx).trans HBX.out.2.1
      have bx2 := (T2.cell (p := ⟨w.heap.size, 2, none⟩) hbx).trans HBX.out.2.2
      rw [hB.out]
      go_wp2
      go_ret3
      exact ⟨sret3 HE.out, (HTW.out.trans (T2.mono (Nat.le_of_lt hbx)))⟩
  · skip
    have HM : Hid (shR F R limit 3 f r = (f, r + 1, okM F R limit (f) (r + 1))) := rfl
    have eN : f + -1 = f - 1 := by omega
    have eM : r + -1 = r - 1 := by omega
    cases hA : gearR F R (f) (r + 1)
    · have HE : Hid (shR F R limit 3 f r = (f, r + 1, false)) := by show _ = _; rw [HM.out]; unfold okM; rw [hA]; rfl
      have hA := Lib.hid hA
      go_enter Try.func72, Try.ntmps72
      go_wp2_with fail
      generalize hw : w.alloc (.cells #[.slice aF F.length cF, .slice aR R.length cR, .int .i64 rd] 28) = W0
      have bx0 : W0.cell? ⟨w.heap.size, 0, none⟩ = some (.slice aF F.length cF) := by rw [← hw]; simp [go_sem]
      have bx1 : W0.cell? ⟨w.heap.size, 1, none⟩ = some (.slice aR R.length cR) := by rw [← hw]; simp [go_sem]
      have bx2 : W0.cell? ⟨w.heap.size, 2, none⟩ = some (.int .i64 rd) := by rw [← hw]; simp [go_sem]
      have hbx : w.heap.size < W0.heap.size := by rw [← hw]; simp
      have HTW : Hid (Below w.heap.size w W0) := by
        show Below _ _ _
        rw [← hw]; exact (Below.refl _ _).alloc (Nat.le_refl _) _
      have HF0 := Lib.hid (show RdI W0 (.slice aF F.length cF) F by rw [← hw]; exact HF.out.alloc _)
      have HR0 := Lib.hid (show RdI W0 (.slice aR R.length cR) R by rw [← hw]; exact HRr.out.alloc _)
      have HBX := Lib.hid (And.intro bx0 (And.intro bx1 bx2))
      have T0 := Below.refl W0.heap.size W0
      clear hw
      go_wp2_with fail
      (with_reducible refine (l09Gear_any _ _ F R rd _ _ _ (HF0.out.below T0) (HR0.out.below T0) hn hm).mono ?_)
      rintro e w1 ⟨rfl, hb1⟩
      have T1 : Below W0.heap.size W0 w1 := T0.trans (hb1.mono T0.size)
      clear bx0 bx1 bx2
      have bx0 := (T1.cell (p := ⟨w.heap.size, 0, none⟩) hbx).trans HBX.out.1
      have bx1 := (T1.cell (p := ⟨w.heap.size, 1, none⟩) hbx).trans HBX.out.2.1
      have bx2 := (T1.cell (p := ⟨w.heap.size, 2, none⟩) hbx).trans HBX.out.2.2
      rw [hA.out]
      go_wp2
      go_ret3
      exact ⟨sret3 HE.out, (HTW.out.trans (T1.mono (Nat.le_of_lt hbx)))⟩
    cases hB : crossR F.length R.length limit (f) (r + 1)
    · have HE : Hid (shR F R limit 3 f r = (f, r + 1, true)) := by show _ = _; rw [HM.out]; unfold okM; rw [hA, hB]; rfl
      have hA := Lib.hid hA
      have hB := Lib.hid hB
      go_enter Try.func72, Try.ntmps72
      go_wp2_with fail
      generalize hw : w.alloc (.cells #[.slice aF F.length cF, .slice aR R.length cR, .int .i64 rd] 28) = W0
      have bx0 : W0.cell? ⟨w.heap.size, 0, none⟩ = some (.slice aF F.length cF) := by rw [← hw]; simp [go_sem]
      have bx1 : W0.cell? ⟨w.heap.size, 1, none⟩ = some (.slice aR R.length cR) := by rw [← hw]; simp [go_sem]
      have bx2 : W0.cell? ⟨w.heap.size, 2, none⟩ = some (.int .i64 rd) := by rw [← hw]; simp [go_sem]
      have hbx : w.heap.size < W0.heap.size := by rw [← hw]; simp
      have HTW : Hid (Below w.heap.size w W0) := by
        show Below _ _ _
        rw [← hw]; exact (Below.refl _ _).alloc (Nat.le_refl _) _
      have HF0 := Lib.hid (show RdI W0 (.slice aF F.length cF) F by rw [← hw]; exact HF.out.alloc _)
      have HR0 := Lib.hid (show RdI W0 (.slice aR R.length cR) R by rw [← hw]; exact HRr.out.alloc _)
      have HBX := Lib.hid (And.intro bx0 (And.intro bx1 bx2))
      have T0 := Below.refl W0.heap.size W0
      clear hw
      go_wp2_with fail
      (with_reducible refine (l09Gear_any _ _ F R rd _ _ _ (HF0.out.below T0) (HR0.out.below T0) hn hm).mono ?_)
      rintro e w1 ⟨rfl, hb1⟩
      have T1 : Below W0.heap.size W0 w1 := T0.trans (hb1.mono T0.size)
      clear bx0 bx1 bx2
      have bx0 := (T1.cell (p := ⟨w.heap.size, 0, none⟩) hbx).trans HBX.out.1
      have bx1 := (T1.cell (p := ⟨w.heap.size, 1, none⟩) hbx).trans HBX.out.2.1
      have bx2 := (T1.cell (p := ⟨w.heap.size, 2, none⟩) hbx).trans HBX.out.2.2
      rw [hA.out]
      go_wp2_with fail
      (with_reducible refine (l11Crossed_any _ _ F R rd _ _ _ _ (HF0.out.below T1) (HR0.out.below T1) hn hm l0 l4).mono ?_)
      rintro e w2 ⟨rfl, hb2⟩
      have T2 : Below W0.heap.size W0 w2 := T1.trans (hb2.mono T1.size)
      clear bx0 bx1 bx2
      have bx0 := (T2.cell (p := ⟨w.heap.size, 0, none⟩) hbx).trans HBX.out.1
      have bx1 := (T2.cell (p := ⟨w.heap.size, 1, none⟩) hbx).trans HBX.out.2.1
      have bx2 := (T2.cell (p := ⟨w.heap.size, 2, none⟩) hbx).trans HBX.out.2.2
      rw [hB.out]
      go_wp2
      go_ret3
      exact ⟨sret3 HE.out, (HTW.out.trans (T2.mono (Nat.le_of_lt hbx)))⟩
    · have HE : Hid (shR F R limit 3 f r = (f, r + 1, false)) := by show _ = _; rw [HM.out]; unfold okM; rw [hA, hB]; rfl
      have hA := Lib.hid hA
      have hB := Lib.hid hB
      go_enter Try.func72, Try.ntmps72
      go_wp2_with fail
      generalize hw : w.alloc (.cells #[.slice aF F.length cF, .slice aR R.length cR, .int .i64 rd] 28) = W0
      have bx0 : W0.cell? ⟨w.heap.size, 0, none⟩ = some (.slice aF F.length cF) := by rw [← hw]; simp [go_sem]
      have bx1 : W0.cell? ⟨w.heap.size, 1, none⟩ = some (.slice aR R.length cR) := by rw [← hw]; simp [go_sem]
      have bx2 : W0.cell? ⟨w.heap.size, 2, none⟩ = some (.int .i64 rd) := by rw [← hw]; simp [go_sem]
      have hbx : w.heap.size < W0.heap.size := by rw [← hw]; simp
      have HTW : Hid (Below w.heap.size w W0) := by
        show Below _ _ _
        rw [← hw]; exact (Below.refl _ _).alloc (Nat.le_refl _) _
      have HF0 := Lib.hid (show RdI W0 (.slice aF F.length cF) F by rw [← hw]; exact HF.out.alloc _)
      have HR0 := Lib.hid (show RdI W0 (.slice aR R.length cR) R by rw [← hw]; exact HRr.out.alloc _)
      have HBX := Lib.hid (And.intro bx0 (And.intro bx1 bx2))
      have T0 := Below.refl W0.heap.size W0
      clear hw
      go_wp2_with fail
      (with_reducible refine (l09Gear_any _ _ F R rd _ _ _ (HF0.out.below T0) (HR0.out.below T0) hn hm).mono ?_)
      rintro e w1 ⟨rfl, hb1⟩
      have T1 : Below W0.heap.size W0 w1 := T0.trans (hb1.mono T0.size)
      clear bx0 bx1 bx2
      have bx0 := (T1.cell (p := ⟨w.heap.size, 0, none⟩) hbx).trans HBX.out.1
      have bx1 := (T1.cell (p := ⟨w.heap.size, 1, none⟩) hbx).trans HBX.out.2.1
      have bx2 := (T1.cell (p := ⟨w.heap.size, 2, none⟩) hbx).trans HBX.out.2.2
      rw [hA.out]
      go_wp2_with fail
      (with_reducible refine (l11Crossed_any _ _ F R rd _ _ _ _ (HF0.out.below T1) (HR0.out.below T1) hn hm l0 l4).mono ?_)
      rintro e w2 ⟨rfl, hb2⟩
      have T2 : Below W0.heap.size W0 w2 := T1.trans (hb2.mono T1.size)
      clear bx0 bx1 bx2
      have bx0 := (T2.cell (p := ⟨w.heap.size, 0, none⟩) hbx).trans HBX.out.1
      have bx1 := (T2.cell (p := ⟨w.heap.size, 1, none⟩) hbx).trans HBX.out.2.1
      have bx2 := (T2.cell (p := ⟨w.heap.size, 2, none⟩) hbx).trans HBX.out.2.2
      rw [hB.out]
      go_wp2
      go_ret3
      exact ⟨sret3 HE.out, (HTW.out.trans (T2.mono (Nat.le_of_lt hbx)))⟩

end Go.Proofs.Ytfdnhamkkcmnfaa
