/- Contracts of ChainForTrain, of the program and of the reference. -/
import Derived.Test.YtfdnhamkkcmnfaaGeaC
import Derived.Test.YtfdnhamkkcmnfaaNedA
set_option linter.unusedSimpArgs false
set_option linter.unusedVariables false
namespace Go.Proofs.Ytfdnhamkkcmnfaa
open Go.RowKit

def linksOk (n : Int) : Bool := inR n 40 200 && decide (n % 2 = 0)
def code10 (F R : List Int) (rd stay links : Int) : Int := if trainR F R rd = true then (if (inR stay 3000 6000 && linksOk links) = true then 0 else 2) else 1
def chnR (F R : List Int) (rd stay : Int) : Int × Int := if trainR F R rd = true then (if inR stay 3000 6000 = true then (if linksZ stay (F.getD (F.length - 1) 0) (R.getD (R.length - 1) 0) = 0 ∨ 198 < linksZ stay (F.getD (F.length - 1) 0) (R.getD (R.length - 1) 0) then (0, 4) else (linksZ stay (F.getD (F.length - 1) 0) (R.getD (R.length - 1) 0) + 2, 0)) else (0, 2)) else (0, 1)
set_option maxHeartbeats 800000 in
theorem areLinks_any (n : Int) (w : World) : Calls Try.prog 81 #[.int .i64 n] w fun e w' => e = .returned (.bool (linksOk n)) ∧ w = w' := by
  cases hA : inR n 40 200
  · go_enter Try.func81, Try.ntmps81
    go_wp2_with (go_at_call 73; (with_reducible refine (within_any _ _ _ _).mono ?_); rintro e w' ⟨rfl, rfl⟩)
    go_ret
    exact ⟨ret_bool (by simp [linksOk, hA]), rfl⟩
  · obtain ⟨n1, n2⟩ := inR_iff.1 hA
    have HE : Hid (linksOk n = decide (n % 2 = 0)) := by show _ = _; unfold linksOk; rw [hA, Bool.true_and]
    by_cases h2 : n % 2 = 0
    · have hq : (n % 2 == 0) = true := by rw [beq_iff_eq]; exact h2
      have hq2 : (n.tmod 2 == 0) = true := by rw [Int.tmod_eq_emod_of_nonneg (by omega)]; exact hq
      have HF : Hid (linksOk n = true) := by show _ = _; rw [HE.out]; simpa using h2
      clear h2
      go_enter Try.func81, Try.ntmps81
      go_wp2_with (go_at_call 73; (with_reducible refine (within_any _ _ _ _).mono ?_); rintro e w' ⟨rfl, rfl⟩)
      go_ret
      exact ⟨ret_bool HF.out.symm, rfl⟩
    · have hq : (n % 2 == 0) = false := by rw [beq_eq_false_iff_ne]; exact h2
      have hq2 : (n.tmod 2 == 0) = false := by rw [Int.tmod_eq_emod_of_nonneg (by omega)]; exact hq
      have HF : Hid (linksOk n = false) := by show _ = _; rw [HE.out]; simpa using h2
      clear h2
      go_enter Try.func81, Try.ntmps81
      go_wp2_with (go_at_call 73; (with_reducible refine (within_any _ _ _ _).mono ?_); rintro e w' ⟨rfl, rfl⟩)
      go_ret
      exact ⟨ret_bool HF.out.symm, rfl⟩
set_option maxHeartbeats 800000 in
theorem l10Links_any (n : Int) (w : World) : Calls Try.prog 98 #[.int .i64 n] w fun e w' => e = .returned (.bool (linksOk n)) ∧ w = w' := by
  cases hA : inR n 40 200
  · go_enter Try.func98, Try.ntmps98
    go_wp2_with (go_at_call 70; (with_reducible refine (l01In_any _ _ _ _).mono ?_); rintro e w' ⟨rfl, rfl⟩)
    go_ret
    exact ⟨ret_bool (by simp [linksOk, hA]), rfl⟩
  · obtain ⟨n1, n2⟩ := inR_iff.1 hA
    have HE : Hid (linksOk n = decide (n % 2 = 0)) := by show _ = _; unfold linksOk; rw [hA, Bool.true_and]
    by_cases h2 : n % 2 = 0
    · have hq : (n % 2 == 0) = true := by rw [beq_iff_eq]; exact h2
      have hq2 : (n.tmod 2 == 0) = true := by rw [Int.tmod_eq_emod_of_nonneg (by omega)]; exact hq
      have HF : Hid (linksOk n = true) := by show _ = _; rw [HE.out]; simpa using h2
      clear h2
      go_enter Try.func98, Try.ntmps98
      go_wp2_with (go_at_call 70; (with_reducible refine (l01In_any _ _ _ _).mono ?_); rintro e w' ⟨rfl, rfl⟩)
      go_ret
      exact ⟨ret_bool HF.out.symm, rfl⟩
    · have hq : (n % 2 == 0) = false := by rw [beq_eq_false_iff_ne]; exact h2
      have hq2 : (n.tmod 2 == 0) = false := by rw [Int.tmod_eq_emod_of_nonneg (by omega)]; exact hq
      have HF : Hid (linksOk n = false) := by show _ = _; rw [HE.out]; simpa using h2
      clear h2
      go_enter Try.func98, Try.ntmps98
      go_wp2_with (go_at_call 70; (with_reducible refine (l01In_any _ _ _ _).mono ?_); rintro e w' ⟨rfl, rfl⟩)
      go_ret
      exact ⟨ret_bool HF.out.symm, rfl⟩
set_option maxHeartbeats 800000 in
theorem l10Train_any (vF vR : Value) (F R : List Int) (rd : Int) (stay links : Int) (w : World) (hF : RdI w vF F) (hR : RdI w vR R) (hn : F.length ≤ 1048576) (hm : R.length ≤ 1048576)  :
    Calls Try.prog 66 #[.agg #[vF, vR, .int .i64 rd], .int .i64 stay, .int .i64 links] w fun e w' => e = .returned (.int .i64 (code10 F R rd stay links)) ∧ Below w.heap.size w w' := by
  have HF := Lib.hid hF
  have HRr := Lib.hid hR
  obtain ⟨aF, cF, rfl, -⟩ := hF
  obtain ⟨aR, cR, rfl, -⟩ := hR
  cases hA : trainR F R rd
  · skip
    go_enter Try.func66, Try.ntmps66
    go_wp2_with fail
    generalize hw : w.alloc (.cells #[.slice aF F.length cF, .slice aR R.length cR, .int .i64 rd] 28) = W0
    have bx0 : W0.cell? ⟨w.heap.size, 0, none⟩ = some (.slice aF F.length cF) := by rw [← hw]; simp [go_sem]
    have bx1 : W0.cell? ⟨w.heap.size, 1, none⟩ = some (.slice aR R.length cR) := by rw [← hw]; simp [go_sem]
    have bx2 : W0.cell? ⟨w.heap.size, 2, none⟩ = some (.int .i64 rd) := by rw [← hw]; simp [go_sem]
    have hbx : w.heap.size < W0.heap.size := by rw [← hw]; simp
    have HTW : Hid (Below w.heap.size w W0) := by
      show Below _ _ _
      rw [← hw]; exact (Below.refl _ _).alloc (Nat.le_refl _) _
    have HF0 := Lib.hid (show RdI W0 (.slice aF F.length cF) F by rw [← hw]; exact HF.out.alloc _)
    have HR0 := Lib.hid (show RdI W0 (.slice aR R.length cR) R by rw [← hw]; exact HRr.out.alloc _)
    have HBX := Lib.hid (And.intro bx0 (And.intro bx1 bx2))
    have T0 := Below.refl W0.heap.size W0
    clear hw
    go_wp2_with fail
    (with_reducible refine (sIsTrain_any _ _ F R rd _ (HF0.out.below T0) (HR0.out.below T0) hn hm).mono ?_)
    rintro e w1 ⟨rfl, hb1⟩
    have T1 : Below W0.heap.size W0 w1 := T0.trans (hb1.mono T0.size)
    clear bx0 bx1 bx2
    have bx0 := (T1.cell (p := ⟨w.heap.size, 0, none⟩) hbx).trans HBX.out.1
    have bx1 := (T1.cell (p := ⟨w.heap.size, 1, none⟩) hbx).trans HBX.out.2.1
    have bx2 := (T1.cell (p := ⟨w.heap.size, 2, none⟩) hbx).trans HBX.out.2.2
    rw [hA]
    go_wp2
    go_ret
    exact ⟨ret_int (by simp [code10, hA]), (HTW.out.trans (T1.mono (Nat.le_of_lt hbx)))⟩
  cases hB : inR stay 3000 6000
  · skip
    go_enter Try.func66, Try.ntmps66
    go_wp2_with fail
    generalize hw : w.alloc (.cells #[.slice aF F.length cF, .slice aR R.length cR, .int .i64 rd] 28) = W0
    have bx0 : W0.cell? ⟨w.heap.size, 0, none⟩ = some (.slice aF F.length cF) := by rw [← hw]; simp [go_sem]
    have bx1 : W0.cell? ⟨w.heap.size, 1, none⟩ = some (.slice aR R.length cR) := by rw [← hw]; simp [go_sem]
    have bx2 : W0.cell? ⟨w.heap.size, 2, none⟩ = some (.int .i64 rd) := by rw [← hw]; simp [go_sem]
    have hbx : w.heap.size < W0.heap.size := by rw [← hw]; simp
    have HTW : Hid (Below w.heap.size w W0) := by
      show Below _ _ _
      rw [← hw]; exact (Below.refl _ _).alloc (Nat.le_refl _) _
    have HF0 := Lib.hid (show RdI W0 (.slice aF F.length cF) F by rw [← hw]; exact HF.out.alloc _)
    have HR0 := Lib.hid (show RdI W0 (.slice aR R.length cR) R by rw [← hw]; exact HRr.out.alloc _)
    have HBX := Lib.hid (And.intro bx0 (And.intro bx1 bx2))
    have T0 := Below.refl W0.heap.size W0
    clear hw
    go_wp2_with fail
    (with_reducible refine (sIsTrain_any _ _ F R rd _ (HF0.out.below T0) (HR0.out.below T0) hn hm).mono ?_)
    rintro e w1 ⟨rfl, hb1⟩
    have T1 : Below W0.heap.size W0 w1 := T0.trans (hb1.mono T0.size)
    clear bx0 bx1 bx2
    have bx0 := (T1.cell (p := ⟨w.heap.size, 0, none⟩) hbx).trans HBX.out.1
    have bx1 := (T1.cell (p := ⟨w.heap.size, 1, none⟩) hbx).trans HBX.out.2.1
    have bx2 := (T1.cell (p := ⟨w.heap.size, 2, none⟩) hbx).trans HBX.out.2.2
    rw [hA]
    go_wp2_with fail
    (with_reducible refine (l10Stay_any _ _).mono ?_)
    rintro e _ ⟨rfl, rfl⟩
    rw [hB]
    go_wp2
    go_ret
    exact ⟨ret_int (by simp [code10, hA, hB]), (HTW.out.trans (T1.mono (Nat.le_of_lt hbx)))⟩
  cases hC : linksOk links
  · skip
    go_enter Try.func66, Try.ntmps66
    go_wp2_with fail
    generalize hw : w.alloc (.cells #[.slice aF F.length cF, .slice aR R.length cR, .int .i64 rd] 28) = W0
    have bx0 : W0.cell? ⟨w.heap.size, 0, none⟩ = some (.slice aF F.length cF) := by rw [← hw]; simp [go_sem]
    have bx1 : W0.cell? ⟨w.heap.size, 1, none⟩ = some (.slice aR R.length cR) := by rw [← hw]; simp [go_sem]
    have bx2 : W0.cell? ⟨w.heap.size, 2, none⟩ = some (.int .i64 rd) := by rw [← hw]; simp [go_sem]
    have hbx : w.heap.size < W0.heap.size := by rw [← hw]; simp
    have HTW : Hid (Below w.heap.size w W0) := by
      show Below _ _ _
      rw [← hw]; exact (Below.refl _ _).alloc (Nat.le_refl _) _
    have HF0 := Lib.hid (show RdI W0 (.slice aF F.length cF) F by rw [← hw]; exact HF.out.alloc _)
    have HR0 := Lib.hid (show RdI W0 (.slice aR R.length cR) R by rw [← hw]; exact HRr.out.alloc _)
    have HBX := Lib.hid (And.intro bx0 (And.intro bx1 bx2))
    have T0 := Below.refl W0.heap.size W0
    clear hw
    go_wp2_with fail
    (with_reducible refine (sIsTrain_any _ _ F R rd _ (HF0.out.below T0) (HR0.out.below T0) hn hm).mono ?_)
    rintro e w1 ⟨rfl, hb1⟩
    have T1 : Below W0.heap.size W0 w1 := T0.trans (hb1.mono T0.size)
    clear bx0 bx1 bx2
    have bx0 := (T1.cell (p := ⟨w.heap.size, 0, none⟩) hbx).trans HBX.out.1
    have bx1 := (T1.cell (p := ⟨w.heap.size, 1, none⟩) hbx).trans HBX.out.2.1
    have bx2 := (T1.cell (p := ⟨w.heap.size, 2, none⟩) hbx).trans HBX.out.2.2
    rw [hA]
    go_wp2_with fail
    (with_reducible refine (l10Stay_any _ _).mono ?_)
    rintro e _ ⟨rfl, rfl⟩
    rw [hB]
    go_wp2_with fail
    (with_reducible refine (l10Links_any _ _).mono ?_)
    rintro e _ ⟨rfl, rfl⟩
    rw [hC]
    go_wp2
    go_ret
    exact ⟨ret_int (by simp [code10, hA, hB, hC]), (HTW.out.trans (T1.mono (Nat.le_of_lt hbx)))⟩
  · skip
    go_enter Try.func66, Try.ntmps66
    go_wp2_with fail
    generalize hw : w.alloc (.cells #[.slice aF F.length cF, .slice aR R.length cR, .int .i64 rd] 28) = W0
    have bx0 : W0.cell? ⟨w.heap.size, 0, none⟩ = some (.slice aF F.length cF) := by rw [← hw]; simp [go_sem]
    have bx1 : W0.cell? ⟨w.heap.size, 1, none⟩ = some (.slice aR R.length cR) := by rw [← hw]; simp [go_sem]
    have bx2 : W0.cell? ⟨w.heap.size, 2, none⟩ = some (.int .i64 rd) := by rw [← hw]; simp [go_sem]
    have hbx : w.heap.size < W0.heap.size := by rw [← hw]; simp
    have HTW : Hid (Below w.heap.size w W0) := by
      show Below _ _ _
      rw [← hw]; exact (Below.refl _ _).alloc (Nat.le_refl _) _
    have HF0 := Lib.hid (show RdI W0 (.slice aF F.length cF) F by rw [← hw]; exact HF.out.alloc _)
    have HR0 := Lib.hid (show RdI W0 (.slice aR R.length cR) R by rw [← hw]; exact HRr.out.alloc _)
    have HBX := Lib.hid (And.intro bx0 (And.intro bx1 bx2))
    have T0 := Below.refl W0.heap.size W0
    clear hw
    go_wp2_with fail
    (with_reducible refine (sIsTrain_any _ _ F R rd _ (HF0.out.below T0) (HR0.out.below T0) hn hm).mono ?_)
    rintro e w1 ⟨rfl, hb1⟩
    have T1 : Below W0.heap.size W0 w1 := T0.trans (hb1.mono T0.size)
    clear bx0 bx1 bx2
    have bx0 := (T1.cell (p := ⟨w.heap.size, 0, none⟩) hbx).trans HBX.out.1
    have bx1 := (T1.cell (p := ⟨w.heap.size, 1, none⟩) hbx).trans HBX.out.2.1
    have bx2 := (T1.cell (p := ⟨w.heap.size, 2, none⟩) hbx).trans HBX.out.2.2
    rw [hA]
    go_wp2_with fail
    (with_reducible refine (l10Stay_any _ _).mono ?_)
    rintro e _ ⟨rfl, rfl⟩
    rw [hB]
    go_wp2_with fail
    (with_reducible refine (l10Links_any _ _).mono ?_)
    rintro e _ ⟨rfl, rfl⟩
    rw [hC]
    go_wp2
    go_ret
    exact ⟨ret_int (by simp [code10, hA, hB, hC]), (HTW.out.trans (T1.mono (Nat.le_of_lt hbx)))⟩

set_option maxHeartbeats 800000 in
theorem ChainForTrain_any (vF vR : Value) (F R : List Int) (rd : Int) (stay : Int) (w : World) (hF : RdI w vF F) (hR : RdI w vR R) (hn : F.length ≤ 1048576) (hm : R.length ≤ 1048576)  :
    Calls Try.prog 24 #[.agg #[vF, vR, .int .i64 rd], .int .i64 stay] w fun e w' => e = .returned (.tuple #[.int .i64 (chnR F R rd stay).1, .int .i64 (chnR F R rd stay).2]) ∧ Below w.heap.size w w' := by
  have HF := Lib.hid hF
  have HRr := Lib.hid hR
  obtain ⟨aF, cF, rfl, -⟩ := hF
  obtain ⟨aR, cR, rfl, -⟩ := hR
  cases hA : trainR F R rd
  · have HE : Hid (chnR F R rd stay = (0, 1)) := by show _ = _; unfold chnR; rw [hA]; rfl
    have HA := Lib.hid hA
    clear hA
    go_enter Try.func24, Try.ntmps24
    go_wp2_with fail
    generalize hw : w.alloc (.cells #[.slice aF F.length cF, .slice aR R.length cR, .int .i64 rd] 28) = W0
    have bx0 : W0.cell? ⟨w.heap.size, 0, none⟩ = some (.slice aF F.length cF) := by rw [← hw]; simp [go_sem]
    have bx1 : W0.cell? ⟨w.heap.size, 1, none⟩ = some (.slice aR R.length cR) := by rw [← hw]; simp [go_sem]
    have bx2 : W0.cell? ⟨w.heap.size, 2, none⟩ = some (.int .i64 rd) := by rw [← hw]; simp [go_sem]
    have hbx : w.heap.size < W0.heap.size := by rw [← hw]; simp
    have HTW : Hid (Below w.heap.size w W0) := by
      show Below _ _ _
      rw [← hw]; exact (Below.refl _ _).alloc (Nat.le_refl _) _
    have HF0 := Lib.hid (show RdI W0 (.slice aF F.length cF) F by rw [← hw]; exact HF.out.alloc _)
    have HR0 := Lib.hid (show RdI W0 (.slice aR R.length cR) R by rw [← hw]; exact HRr.out.alloc _)
    have HBX := Lib.hid (And.intro bx0 (And.intro bx1 bx2))
    have T0 := Below.refl W0.heap.size W0
    clear hw
    go_wp2_with fail
    (with_reducible refine (IsTrain_any _ _ F R rd _ (HF0.out.below T0) (HR0.out.below T0) hn hm).mono ?_)
    rintro e w1 ⟨rfl, hb1⟩
    have T1 : Below W0.heap.size W0 w1 := T0.trans (hb1.mono T0.size)
    clear bx0 bx1 bx2
    have bx0 := (T1.cell (p := ⟨w.heap.size, 0, none⟩) hbx).trans HBX.out.1
    have bx1 := (T1.cell (p := ⟨w.heap.size, 1, none⟩) hbx).trans HBX.out.2.1
    have bx2 := (T1.cell (p := ⟨w.heap.size, 2, none⟩) hbx).trans HBX.out.2.2
    rw [HA.out]
    go_wp2
    go_ret2
    exact ⟨gret2 HE.out, (HTW.out.trans (T1.mono (Nat.le_of_lt hbx)))⟩
  cases hB : inR stay 3000 6000
  · have HE : Hid (chnR F R rd stay = (0, 2)) := by show _ = _; unfold chnR; rw [hA, hB]; rfl
    have HA := Lib.hid hA
    have HB := Lib.hid hB
    clear hA hB
    go_enter Try.func24, Try.ntmps24
    go_wp2_with fail
    generalize hw : w.alloc (.cells #[.slice aF F.length cF, .slice aR R.length cR, .int .i64 rd] 28) = W0
    have bx0 : W0.cell? ⟨w.heap.size, 0, none⟩ = some (.slice aF F.length cF) := by rw [← hw]; simp [go_sem]
    have bx1 : W0.cell? ⟨w.heap.size, 1, none⟩ = some (.slice aR R.length cR) := by rw [← hw]; simp [go_sem]
    have bx2 : W0.cell? ⟨w.heap.size, 2, none⟩ = some (.int .i64 rd) := by rw [← hw]; simp [go_sem]
    have hbx : w.heap.size < W0.heap.size := by rw [← hw]; simp
    have HTW : Hid (Below w.heap.size w W0) := by
      show Below _ _ _
      rw [← hw]; exact (Below.refl _ _).alloc (Nat.le_refl _) _
    have HF0 := Lib.hid (show RdI W0 (.slice aF F.length cF) F by rw [← hw]; exact HF.out.alloc _)
    have HR0 := Lib.hid (show RdI W0 (.slice aR R.length cR) R by rw [← hw]; exact HRr.out.alloc _)
    have HBX := Lib.hid (And.intro bx0 (And.intro bx1 bx2))
    have T0 := Below.refl W0.heap.size W0
    clear hw
    go_wp2_with fail
    (with_reducible refine (IsTrain_any _ _ F R rd _ (HF0.out.below T0) (HR0.out.below T0) hn hm).mono ?_)
    rintro e w1 ⟨rfl, hb1⟩
    have T1 : Below W0.heap.size W0 w1 := T0.trans (hb1.mono T0.size)
    clear bx0 bx1 bx2
    have bx0 := (T1.cell (p := ⟨w.heap.size, 0, none⟩) hbx).trans HBX.out.1
    have bx1 := (T1.cell (p := ⟨w.heap.size, 1, none⟩) hbx).trans HBX.out.2.1
    have bx2 := (T1.cell (p := ⟨w.heap.size, 2, none⟩) hbx).trans HBX.out.2.2
    rw [HA.out]
    go_wp2_with fail
    (with_reducible refine (isStay_any _ _).mono ?_)
    rintro e _ ⟨rfl, rfl⟩
    rw [HB.out]
    go_wp2
    go_ret2
    exact ⟨gret2 HE.out, (HTW.out.trans (T1.mono (Nat.le_of_lt hbx)))⟩
  obtain ⟨s1, s2⟩ := inR_iff.1 hB
  by_cases hz : linksZ stay (F.getD (F.length - 1) 0) (R.getD (R.length - 1) 0) = 0
  · skip
    have HE : Hid (chnR F R rd stay = (0, 4)) := by show _ = _; unfold chnR; rw [if_pos hA, if_pos hB, if_pos (Or.inl hz)]
    have HA := Lib.hid hA
    have HB := Lib.hid hB
    clear hA hB
    go_enter Try.func24, Try.ntmps24
    go_wp2_with fail
    generalize hw : w.alloc (.cells #[.slice aF F.length cF, .slice aR R.length cR, .int .i64 rd] 28) = W0
    have bx0 : W0.cell? ⟨w.heap.size, 0, none⟩ = some (.slice aF F.length cF) := by rw [← hw]; simp [go_sem]
    have bx1 : W0.cell? ⟨w.heap.size, 1, none⟩ = some (.slice aR R.length cR) := by rw [← hw]; simp [go_sem]
    have bx2 : W0.cell? ⟨w.heap.size, 2, none⟩ = some (.int .i64 rd) := by rw [← hw]; simp [go_sem]
    have hbx : w.heap.size < W0.heap.size := by rw [← hw]; simp
    have HTW : Hid (Below w.heap.size w W0) := by
      show Below _ _ _
      rw [← hw]; exact (Below.refl _ _).alloc (Nat.le_refl _) _
    have HF0 := Lib.hid (show RdI W0 (.slice aF F.length cF) F by rw [← hw]; exact HF.out.alloc _)
    have HR0 := Lib.hid (show RdI W0 (.slice aR R.length cR) R by rw [← hw]; exact HRr.out.alloc _)
    have HBX := Lib.hid (And.intro bx0 (And.intro bx1 bx2))
    have T0 := Below.refl W0.heap.size W0
    clear hw
    go_wp2_with fail
    (with_reducible refine (IsTrain_any _ _ F R rd _ (HF0.out.below T0) (HR0.out.below T0) hn hm).mono ?_)
    rintro e w1 ⟨rfl, hb1⟩
    have T1 : Below W0.heap.size W0 w1 := T0.trans (hb1.mono T0.size)
    clear bx0 bx1 bx2
    have bx0 := (T1.cell (p := ⟨w.heap.size, 0, none⟩) hbx).trans HBX.out.1
    have bx1 := (T1.cell (p := ⟨w.heap.size, 1, none⟩) hbx).trans HBX.out.2.1
    have bx2 := (T1.cell (p := ⟨w.heap.size, 2, none⟩) hbx).trans HBX.out.2.2
    rw [HA.out]
    go_wp2_with fail
    (with_reducible refine (isStay_any _ _).mono ?_)
    rintro e _ ⟨rfl, rfl⟩
    rw [HB.out]
    obtain ⟨tF, tR, -, -⟩ := trainR_at HA.out
    obtain ⟨f1, f3, fat⟩ := teethR_at tF
    obtain ⟨r1, r12, rat⟩ := teethR_at tR
    obtain ⟨x1, x2, -⟩ := fat (F.length - 1) (by omega)
    obtain ⟨y1, y2, -⟩ := fat 0 (by omega)
    obtain ⟨z1, z2, -⟩ := rat (R.length - 1) (by omega)
    obtain ⟨u1, u2, -⟩ := rat 0 (by omega)
    have hlF := f1
    obtain ⟨bF, oF, e1, p1⟩ := (HF0.out.below T1).at (F.length - 1) (by omega)
    subst e1
    obtain ⟨b2, o2, e2, p2⟩ := (HF0.out.below T1).at 0 (by omega)
    simp only [Option.some.injEq, Addr.mk.injEq] at e2
    obtain ⟨rfl, rfl, -⟩ := e2
    obtain ⟨bR, oR, e1, p3⟩ := (HR0.out.below T1).at (R.length - 1) (by omega)
    subst e1
    obtain ⟨b2, o2, e2, p4⟩ := (HR0.out.below T1).at 0 (by omega)
    simp only [Option.some.injEq, Addr.mk.injEq] at e2
    obtain ⟨rfl, rfl, -⟩ := e2
    simp only [Nat.add_zero] at p2 p4
    clear tF tR fat rat
    generalize F.getD (F.length - 1) 0 = x at *
    generalize F.getD 0 0 = y at *
    generalize R.getD (R.length - 1) 0 = z at *
    generalize R.getD 0 0 = u at *
    have hFl : IntKind.i64.wrap ((F.length : Int) - 1) = (F.length : Int) - 1 := IntWalk.i64_in _ (by omega)
    have hRl : IntKind.i64.wrap ((R.length : Int) - 1) = (R.length : Int) - 1 := IntWalk.i64_in _ (by omega)
    have hFn : ((F.length : Int) - 1).toNat = F.length - 1 := by omega
    have hRn : ((R.length : Int) - 1).toNat = R.length - 1 := by omega
    have hF1 : (0 : Int) ≤ (F.length : Int) - 1 := by omega
    have hR1 : (0 : Int) ≤ (R.length : Int) - 1 := by omega
    have hF2 : (F.length : Int) - 1 < (F.length : Int) := by omega
    have hR2 : (R.length : Int) - 1 < (R.length : Int) := by omega
    have hF3 : (0 : Int) < (F.length : Int) := by omega
    have hR3 : (0 : Int) < (R.length : Int) := by omega
    have hF4 : (1 : Int) ≤ (F.length : Int) := by omega
    have hR4 : (1 : Int) ≤ (R.length : Int) := by omega
    have hrg2 := linksZ_bd stay x z
    obtain ⟨g0, g1⟩ := hrg2
    generalize hL : linksZ stay x z = L at *
    have HL := Lib.hid hL
    clear hL
    have hz0 : (L == 0) = true := by rw [beq_iff_eq]; exact hz
    subst hz
    go_wp2
    go_quiet ((go_at_call 69; exact (by have h := linksFor_any stay x z; rw [HL.out] at h; exact quiet_eqG (h _ s1 s2 (by omega) (by omega) (by omega) (by omega)))))
    go_wp2
    go_ret2
    exact ⟨gret2 HE.out, Below.trans HTW.out ((blw_drewN (T1.mono (Nat.le_of_lt hbx)) _))⟩
  by_cases hy : 198 < linksZ stay (F.getD (F.length - 1) 0) (R.getD (R.length - 1) 0)
  · skip
    have HE : Hid (chnR F R rd stay = (0, 4)) := by show _ = _; unfold chnR; rw [if_pos hA, if_pos hB, if_pos (Or.inr hy)]
    have HA := Lib.hid hA
    have HB := Lib.hid hB
    clear hA hB
    go_enter Try.func24, Try.ntmps24
    go_wp2_with fail
    generalize hw : w.alloc (.cells #[.slice aF F.length cF, .slice aR R.length cR, .int .i64 rd] 28) = W0
    have bx0 : W0.cell? ⟨w.heap.size, 0, none⟩ = some (.slice aF F.length cF) := by rw [← hw]; simp [go_sem]
    have bx1 : W0.cell? ⟨w.heap.size, 1, none⟩ = some (.slice aR R.length cR) := by rw [← hw]; simp [go_sem]
    have bx2 : W0.cell? ⟨w.heap.size, 2, none⟩ = some (.int .i64 rd) := by rw [← hw]; simp [go_sem]
    have hbx : w.heap.size < W0.heap.size := by rw [← hw]; simp
    have HTW : Hid (Below w.heap.size w W0) := by
      show Below _ _ _
      rw [← hw]; exact (Below.refl _ _).alloc (Nat.le_refl _) _
    have HF0 := Lib.hid (show RdI W0 (.slice aF F.length cF) F by rw [← hw]; exact HF.out.alloc _)
    have HR0 := Lib.hid (show RdI W0 (.slice aR R.length cR) R by rw [← hw]; exact HRr.out.alloc _)
    have HBX := Lib.hid (And.intro bx0 (And.intro bx1 bx2))
    have T0 := Below.refl W0.heap.size W0
    clear hw
    go_wp2_with fail
    (with_reducible refine (IsTrain_any _ _ F R rd _ (HF0.out.below T0) (HR0.out.below T0) hn hm).mono ?_)
    rintro e w1 ⟨rfl, hb1⟩
    have T1 : Below W0.heap.size W0 w1 := T0.trans (hb1.mono T0.size)
    clear bx0 bx1 bx2
    have bx0 := (T1.cell (p := ⟨w.heap.size, 0, none⟩) hbx).trans HBX.out.1
    have bx1 := (T1.cell (p := ⟨w.heap.size, 1, none⟩) hbx).trans HBX.out.2.1
    have bx2 := (T1.cell (p := ⟨w.heap.size, 2, none⟩) hbx).trans HBX.out.2.2
    rw [HA.out]
    go_wp2_with fail
    (with_reducible refine (isStay_any _ _).mono ?_)
    rintro e _ ⟨rfl, rfl⟩
    rw [HB.out]
    obtain ⟨tF, tR, -, -⟩ := trainR_at HA.out
    obtain ⟨f1, f3, fat⟩ := teethR_at tF
    obtain ⟨r1, r12, rat⟩ := teethR_at tR
    obtain ⟨x1, x2, -⟩ := fat (F.length - 1) (by omega)
    obtain ⟨y1, y2, -⟩ := fat 0 (by omega)
    obtain ⟨z1, z2, -⟩ := rat (R.length - 1) (by omega)
    obtain ⟨u1, u2, -⟩ := rat 0 (by omega)
    have hlF := f1
    obtain ⟨bF, oF, e1, p1⟩ := (HF0.out.below T1).at (F.length - 1) (by omega)
    subst e1
    obtain ⟨b2, o2, e2, p2⟩ := (HF0.out.below T1).at 0 (by omega)
    simp only [Option.some.injEq, Addr.mk.injEq] at e2
    obtain ⟨rfl, rfl, -⟩ := e2
    obtain ⟨bR, oR, e1, p3⟩ := (HR0.out.below T1).at (R.length - 1) (by omega)
    subst e1
    obtain ⟨b2, o2, e2, p4⟩ := (HR0.out.below T1).at 0 (by omega)
    simp only [Option.some.injEq, Addr.mk.injEq] at e2
    obtain ⟨rfl, rfl, -⟩ := e2
    simp only [Nat.add_zero] at p2 p4
    clear tF tR fat rat
    generalize F.getD (F.length - 1) 0 = x at *
    generalize F.getD 0 0 = y at *
    generalize R.getD (R.length - 1) 0 = z at *
    generalize R.getD 0 0 = u at *
    have hFl : IntKind.i64.wrap ((F.length : Int) - 1) = (F.length : Int) - 1 := IntWalk.i64_in _ (by omega)
    have hRl : IntKind.i64.wrap ((R.length : Int) - 1) = (R.length : Int) - 1 := IntWalk.i64_in _ (by omega)
    have hFn : ((F.length : Int) - 1).toNat = F.length - 1 := by omega
    have hRn : ((R.length : Int) - 1).toNat = R.length - 1 := by omega
    have hF1 : (0 : Int) ≤ (F.length : Int) - 1 := by omega
    have hR1 : (0 : Int) ≤ (R.length : Int) - 1 := by omega
    have hF2 : (F.length : Int) - 1 < (F.length : Int) := by omega
    have hR2 : (R.length : Int) - 1 < (R.length : Int) := by omega
    have hF3 : (0 : Int) < (F.length : Int) := by omega
    have hR3 : (0 : Int) < (R.length : Int) := by omega
    have hF4 : (1 : Int) ≤ (F.length : Int) := by omega
    have hR4 : (1 : Int) ≤ (R.length : Int) := by omega
    have hrg2 := linksZ_bd stay x z
    obtain ⟨g0, g1⟩ := hrg2
    generalize hL : linksZ stay x z = L at *
    have HL := Lib.hid hL
    clear hL
    have hz0 : (L == 0) = false := by rw [beq_eq_false_iff_ne]; exact hz
    have jL : IntKind.i64.wrap (L + 2) = L + 2 := IntWalk.i64_in _ (by omega)
    go_wp2
    go_quiet ((go_at_call 69; exact (by have h := linksFor_any stay x z; rw [HL.out] at h; exact quiet_eqG (h _ s1 s2 (by omega) (by omega) (by omega) (by omega)))))
    go_wp2
    go_ret2
    exact ⟨gret2 HE.out, Below.trans HTW.out ((blw_drewN (T1.mono (Nat.le_of_lt hbx)) _))⟩
  · skip
    have HE : Hid (chnR F R rd stay = (linksZ stay (F.getD (F.length - 1) 0) (R.getD (R.length - 1) 0) + 2, 0)) := by show _ = _; unfold chnR; rw [if_pos hA, if_pos hB, if_neg (by omega)]
    have HA := Lib.hid hA
    have HB := Lib.hid hB
    clear hA hB
    go_enter Try.func24, Try.ntmps24
    go_wp2_with fail
    generalize hw : w.alloc (.cells #[.slice aF F.length cF, .slice aR R.length cR, .int .i64 rd] 28) = W0
    have bx0 : W0.cell? ⟨w.heap.size, 0, none⟩ = some (.slice aF F.length cF) := by rw [← hw]; simp [go_sem]
    have bx1 : W0.cell? ⟨w.heap.size, 1, none⟩ = some (.slice aR R.length cR) := by rw [← hw]; simp [go_sem]
    have bx2 : W0.cell? ⟨w.heap.size, 2, none⟩ = some (.int .i64 rd) := by rw [← hw]; simp [go_sem]
    have hbx : w.heap.size < W0.heap.size := by rw [← hw]; simp
    have HTW : Hid (Below w.heap.size w W0) := by
      show Below _ _ _
      rw [← hw]; exact (Below.refl _ _).alloc (Nat.le_refl _) _
    have HF0 := Lib.hid (show RdI W0 (.slice aF F.length cF) F by rw [← hw]; exact HF.out.alloc _)
    have HR0 := Lib.hid (show RdI W0 (.slice aR R.length cR) R by rw [← hw]; exact HRr.out.alloc _)
    have HBX := Lib.hid (And.intro bx0 (And.intro bx1 bx2))
    have T0 := Below.refl W0.heap.size W0
    clear hw
    go_wp2_with fail
    (with_reducible refine (IsTrain_any _ _ F R rd _ (HF0.out.below T0) (HR0.out.below T0) hn hm).mono ?_)
    rintro e w1 ⟨rfl, hb1⟩
    have T1 : Below W0.heap.size W0 w1 := T0.trans (hb1.mono T0.size)
    clear bx0 bx1 bx2
    have bx0 := (T1.cell (p := ⟨w.heap.size, 0, none⟩) hbx).trans HBX.out.1
    have bx1 := (T1.cell (p := ⟨w.heap.size, 1, none⟩) hbx).trans HBX.out.2.1
    have bx2 := (T1.cell (p := ⟨w.heap.size, 2, none⟩) hbx).trans HBX.out.2.2
    rw [HA.out]
    go_wp2_with fail
    (with_reducible refine (isStay_any _ _).mono ?_)
    rintro e _ ⟨rfl, rfl⟩
    rw [HB.out]
    obtain ⟨tF, tR, -, -⟩ := trainR_at HA.out
    obtain ⟨f1, f3, fat⟩ := teethR_at tF
    obtain ⟨r1, r12, rat⟩ := teethR_at tR
    obtain ⟨x1, x2, -⟩ := fat (F.length - 1) (by omega)
    obtain ⟨y1, y2, -⟩ := fat 0 (by omega)
    obtain ⟨z1, z2, -⟩ := rat (R.length - 1) (by omega)
    obtain ⟨u1, u2, -⟩ := rat 0 (by omega)
    have hlF := f1
    obtain ⟨bF, oF, e1, p1⟩ := (HF0.out.below T1).at (F.length - 1) (by omega)
    subst e1
    obtain ⟨b2, o2, e2, p2⟩ := (HF0.out.below T1).at 0 (by omega)
    simp only [Option.some.injEq, Addr.mk.injEq] at e2
    obtain ⟨rfl, rfl, -⟩ := e2
    obtain ⟨bR, oR, e1, p3⟩ := (HR0.out.below T1).at (R.length - 1) (by omega)
    subst e1
    obtain ⟨b2, o2, e2, p4⟩ := (HR0.out.below T1).at 0 (by omega)
    simp only [Option.some.injEq, Addr.mk.injEq] at e2
    obtain ⟨rfl, rfl, -⟩ := e2
    simp only [Nat.add_zero] at p2 p4
    clear tF tR fat rat
    generalize F.getD (F.length - 1) 0 = x at *
    generalize F.getD 0 0 = y at *
    generalize R.getD (R.length - 1) 0 = z at *
    generalize R.getD 0 0 = u at *
    have hFl : IntKind.i64.wrap ((F.length : Int) - 1) = (F.length : Int) - 1 := IntWalk.i64_in _ (by omega)
    have hRl : IntKind.i64.wrap ((R.length : Int) - 1) = (R.length : Int) - 1 := IntWalk.i64_in _ (by omega)
    have hFn : ((F.length : Int) - 1).toNat = F.length - 1 := by omega
    have hRn : ((R.length : Int) - 1).toNat = R.length - 1 := by omega
    have hF1 : (0 : Int) ≤ (F.length : Int) - 1 := by omega
    have hR1 : (0 : Int) ≤ (R.length : Int) - 1 := by omega
    have hF2 : (F.length : Int) - 1 < (F.length : Int) := by omega
    have hR2 : (R.length : Int) - 1 < (R.length : Int) := by omega
    have hF3 : (0 : Int) < (F.length : Int) := by omega
    have hR3 : (0 : Int) < (R.length : Int) := by omega
    have hF4 : (1 : Int) ≤ (F.length : Int) := by omega
    have hR4 : (1 : Int) ≤ (R.length : Int) := by omega
    have hrg2 := linksZ_bd stay x z
    obtain ⟨g0, g1⟩ := hrg2
    generalize hL : linksZ stay x z = L at *
    have HL := Lib.hid hL
    clear hL
    have hz0 : (L == 0) = false := by rw [beq_eq_false_iff_ne]; exact hz
    have jL : IntKind.i64.wrap (L + 2) = L + 2 := IntWalk.i64_in _ (by omega)
    go_wp2
    go_quiet ((go_at_call 69; exact (by have h := linksFor_any stay x z; rw [HL.out] at h; exact quiet_eqG (h _ s1 s2 (by omega) (by omega) (by omega) (by omega)))))
    go_wp2
    go_ret2
    exact ⟨gret2 HE.out, Below.trans HTW.out ((blw_drewN (T1.mono (Nat.le_of_lt hbx)) _))⟩

set_option maxHeartbeats 800000 in
theorem sChainForTrain_any (vF vR : Value) (F R : List Int) (rd : Int) (stay : Int) (w : World) (hF : RdI w vF F) (hR : RdI w vR R) (hn : F.length ≤ 1048576) (hm : R.length ≤ 1048576)  :
    Calls Try.prog 23 #[.agg #[vF, vR, .int .i64 rd], .int .i64 stay] w fun e w' => e = .returned (.tuple #[.int .i64 (chnR F R rd stay).1, .int .i64 (chnR F R rd stay).2]) ∧ Below w.heap.size w w' := by
  have HF := Lib.hid hF
  have HRr := Lib.hid hR
  obtain ⟨aF, cF, rfl, -⟩ := hF
  obtain ⟨aR, cR, rfl, -⟩ := hR
  cases hA : trainR F R rd
  · have HE : Hid (chnR F R rd stay = (0, 1)) := by show _ = _; unfold chnR; rw [hA]; rfl
    have HC : Hid (code10 F R rd stay 40 = 1) := by show _ = _; unfold code10; rw [hA]; rfl
    have HA := Lib.hid hA
    clear hA
    go_enter Try.func23, Try.ntmps23
    go_wp2_with fail
    generalize hw : w.alloc (.cells #[.slice aF F.length cF, .slice aR R.length cR, .int .i64 rd] 28) = W0
    have bx0 : W0.cell? ⟨w.heap.size, 0, none⟩ = some (.slice aF F.length cF) := by rw [← hw]; simp [go_sem]
    have bx1 : W0.cell? ⟨w.heap.size, 1, none⟩ = some (.slice aR R.length cR) := by rw [← hw]; simp [go_sem]
    have bx2 : W0.cell? ⟨w.heap.size, 2, none⟩ = some (.int .i64 rd) := by rw [← hw]; simp [go_sem]
    have hbx : w.heap.size < W0.heap.size := by rw [← hw]; simp
    have HTW : Hid (Below w.heap.size w W0) := by
      show Below _ _ _
      rw [← hw]; exact (Below.refl _ _).alloc (Nat.le_refl _) _
    have HF0 := Lib.hid (show RdI W0 (.slice aF F.length cF) F by rw [← hw]; exact HF.out.alloc _)
    have HR0 := Lib.hid (show RdI W0 (.slice aR R.length cR) R by rw [← hw]; exact HRr.out.alloc _)
    have HBX := Lib.hid (And.intro bx0 (And.intro bx1 bx2))
    have T0 := Below.refl W0.heap.size W0
    clear hw
    go_wp2_with fail
    (with_reducible refine (l10Train_any _ _ F R rd _ _ _ (HF0.out.below T0) (HR0.out.below T0) hn hm).mono ?_)
    rintro e w1 ⟨rfl, hb1⟩
    have T1 : Below W0.heap.size W0 w1 := T0.trans (hb1.mono T0.size)
    clear bx0 bx1 bx2
    have bx0 := (T1.cell (p := ⟨w.heap.size, 0, none⟩) hbx).trans HBX.out.1
    have bx1 := (T1.cell (p := ⟨w.heap.size, 1, none⟩) hbx).trans HBX.out.2.1
    have bx2 := (T1.cell (p := ⟨w.heap.size, 2, none⟩) hbx).trans HBX.out.2.2
    rw [HC.out]
    go_wp2
    go_ret2
    exact ⟨gret2 HE.out, (HTW.out.trans (T1.mono (Nat.le_of_lt hbx)))⟩
  cases hB : inR stay 3000 6000
  · have HE : Hid (chnR F R rd stay = (0, 2)) := by show _ = _; unfold chnR; rw [hA, hB]; rfl
    have HC : Hid (code10 F R rd stay 40 = 2) := by show _ = _; unfold code10; rw [hA, hB]; rfl
    have HA := Lib.hid hA
    have HB := Lib.hid hB
    clear hA hB
    go_enter Try.func23, Try.ntmps23
    go_wp2_with fail
    generalize hw : w.alloc (.cells #[.slice aF F.length cF, .slice aR R.length cR, .int .i64 rd] 28) = W0
    have bx0 : W0.cell? ⟨w.heap.size, 0, none⟩ = some (.slice aF F.length cF) := by rw [← hw]; simp [go_sem]
    have bx1 : W0.cell? ⟨w.heap.size, 1, none⟩ = some (.slice aR R.length cR) := by rw [← hw]; simp [go_sem]
    have bx2 : W0.cell? ⟨w.heap.size, 2, none⟩ = some (.int .i64 rd) := by rw [← hw]; simp [go_sem]
    have hbx : w.heap.size < W0.heap.size := by rw [← hw]; simp
    have HTW : Hid (Below w.heap.size w W0) := by
      show Below _ _ _
      rw [← hw]; exact (Below.refl _ _).alloc (Nat.le_refl _) _
    have HF0 := Lib.hid (show RdI W0 (.slice aF F.length cF) F by rw [← hw]; exact HF.out.alloc _)
    have HR0 := Lib.hid (show RdI W0 (.slice aR R.length cR) R by rw [← hw]; exact HRr.out.alloc _)
    have HBX := Lib.hid (And.intro bx0 (And.intro bx1 bx2))
    have T0 := Below.refl W0.heap.size W0
    clear hw
    go_wp2_with fail
    (with_reducible refine (l10Train_any _ _ F R rd _ _ _ (HF0.out.below T0) (HR0.out.below T0) hn hm).mono ?_)
    rintro e w1 ⟨rfl, hb1⟩
    have T1 : Below W0.heap.size W0 w1 := T0.trans (hb1.mono T0.size)
    clear bx0 bx1 bx2
    have bx0 := (T1.cell (p := ⟨w.heap.size, 0, none⟩) hbx).trans HBX.out.1
    have bx1 := (T1.cell (p := ⟨w.heap.size, 1, none⟩) hbx).trans HBX.out.2.1
    have bx2 := (T1.cell (p := ⟨w.heap.size, 2, none⟩) hbx).trans HBX.out.2.2
    rw [HC.out]
    go_wp2
    go_ret2
    exact ⟨gret2 HE.out, (HTW.out.trans (T1.mono (Nat.le_of_lt hbx)))⟩
  obtain ⟨s1, s2⟩ := inR_iff.1 hB
  by_cases hz : linksZ stay (F.getD (F.length - 1) 0) (R.getD (R.length - 1) 0) = 0
  · skip
    have HE : Hid (chnR F R rd stay = (0, 4)) := by show _ = _; unfold chnR; rw [if_pos hA, if_pos hB, if_pos (Or.inl hz)]
    have HC : Hid (code10 F R rd stay 40 = 0) := by show _ = _; unfold code10; rw [hA, hB]; rfl
    have HA := Lib.hid hA
    have HB := Lib.hid hB
    clear hA hB
    go_enter Try.func23, Try.ntmps23
    go_wp2_with fail
    generalize hw : w.alloc (.cells #[.slice aF F.length cF, .slice aR R.length cR, .int .i64 rd] 28) = W0
    have bx0 : W0.cell? ⟨w.heap.size, 0, none⟩ = some (.slice aF F.length cF) := by rw [← hw]; simp [go_sem]
    have bx1 : W0.cell? ⟨w.heap.size, 1, none⟩ = some (.slice aR R.length cR) := by rw [← hw]; simp [go_sem]
    have bx2 : W0.cell? ⟨w.heap.size, 2, none⟩ = some (.int .i64 rd) := by rw [← hw]; simp [go_sem]
    have hbx : w.heap.size < W0.heap.size := by rw [← hw]; simp
    have HTW : Hid (Below w.heap.size w W0) := by
      show Below _ _ _
      rw [← hw]; exact (Below.refl _ _).alloc (Nat.le_refl _) _
    have HF0 := Lib.hid (show RdI W0 (.slice aF F.length cF) F by rw [← hw]; exact HF.out.alloc _)
    have HR0 := Lib.hid (show RdI W0 (.slice aR R.length cR) R by rw [← hw]; exact HRr.out.alloc _)
    have HBX := Lib.hid (And.intro bx0 (And.intro bx1 bx2))
    have T0 := Below.refl W0.heap.size W0
    clear hw
    go_wp2_with fail
    (with_reducible refine (l10Train_any _ _ F R rd _ _ _ (HF0.out.below T0) (HR0.out.below T0) hn hm).mono ?_)
    rintro e w1 ⟨rfl, hb1⟩
    have T1 : Below W0.heap.size W0 w1 := T0.trans (hb1.mono T0.size)
    clear bx0 bx1 bx2
    have bx0 := (T1.cell (p := ⟨w.heap.size, 0, none⟩) hbx).trans HBX.out.1
    have bx1 := (T1.cell (p := ⟨w.heap.size, 1, none⟩) hbx).trans HBX.out.2.1
    have bx2 := (T1.cell (p := ⟨w.heap.size, 2, none⟩) hbx).trans HBX.out.2.2
    rw [HC.out]
    obtain ⟨tF, tR, -, -⟩ := trainR_at HA.out
    obtain ⟨f1, f3, fat⟩ := teethR_at tF
    obtain ⟨r1, r12, rat⟩ := teethR_at tR
    obtain ⟨x1, x2, -⟩ := fat (F.length - 1) (by omega)
    obtain ⟨y1, y2, -⟩ := fat 0 (by omega)
    obtain ⟨z1, z2, -⟩ := rat (R.length - 1) (by omega)
    obtain ⟨u1, u2, -⟩ := rat 0 (by omega)
    have hlF := f1
    obtain ⟨bF, oF, e1, p1⟩ := (HF0.out.below T1).at (F.length - 1) (by omega)
    subst e1
    obtain ⟨b2, o2, e2, p2⟩ := (HF0.out.below T1).at 0 (by omega)
    simp only [Option.some.injEq, Addr.mk.injEq] at e2
    obtain ⟨rfl, rfl, -⟩ := e2
    obtain ⟨bR, oR, e1, p3⟩ := (HR0.out.below T1).at (R.length - 1) (by omega)
    subst e1
    obtain ⟨b2, o2, e2, p4⟩ := (HR0.out.below T1).at 0 (by omega)
    simp only [Option.some.injEq, Addr.mk.injEq] at e2
    obtain ⟨rfl, rfl, -⟩ := e2
    simp only [Nat.add_zero] at p2 p4
    clear tF tR fat rat
    generalize F.getD (F.length - 1) 0 = x at *
    generalize F.getD 0 0 = y at *
    generalize R.getD (R.length - 1) 0 = z at *
    generalize R.getD 0 0 = u at *
    have hFl : IntKind.i64.wrap ((F.length : Int) - 1) = (F.length : Int) - 1 := IntWalk.i64_in _ (by omega)
    have hRl : IntKind.i64.wrap ((R.length : Int) - 1) = (R.length : Int) - 1 := IntWalk.i64_in _ (by omega)
    have hFn : ((F.length : Int) - 1).toNat = F.length - 1 := by omega
    have hRn : ((R.length : Int) - 1).toNat = R.length - 1 := by omega
    have hF1 : (0 : Int) ≤ (F.length : Int) - 1 := by omega
    have hR1 : (0 : Int) ≤ (R.length : Int) - 1 := by omega
    have hF2 : (F.length : Int) - 1 < (F.length : Int) := by omega
    have hR2 : (R.length : Int) - 1 < (R.length : Int) := by omega
    have hF3 : (0 : Int) < (F.length : Int) := by omega
    have hR3 : (0 : Int) < (R.length : Int) := by omega
    have hF4 : (1 : Int) ≤ (F.length : Int) := by omega
    have hR4 : (1 : Int) ≤ (R.length : Int) := by omega
    have hrg2 := linksZ_bd stay x z
    obtain ⟨g0, g1⟩ := hrg2
    have hrg : rangeL stay x z = true := by simp only [rangeL, Bool.and_eq_true, inR_iff]; omega
    have HLF : Hid (lfR stay x z = (0, 4)) := by show _ = _; unfold lfR; rw [if_pos hrg, if_pos hz]
    generalize hL : linksZ stay x z = L at *
    have HL := Lib.hid hL
    clear hL
    have hz0 : (L == 0) = true := by rw [beq_iff_eq]; exact hz
    subst hz
    go_wp2
    go_quiet ((go_at_call 67; exact (by have h := sLinksFor_any stay x z; rw [HLF.out] at h; exact quiet_eqG (h _))))
    go_wp2
    go_ret2
    exact ⟨gret2 HE.out, Below.trans HTW.out ((blw_drewN (T1.mono (Nat.le_of_lt hbx)) _))⟩
  by_cases hy : 198 < linksZ stay (F.getD (F.length - 1) 0) (R.getD (R.length - 1) 0)
  · skip
    have HE : Hid (chnR F R rd stay = (0, 4)) := by show _ = _; unfold chnR; rw [if_pos hA, if_pos hB, if_pos (Or.inr hy)]
    have HC : Hid (code10 F R rd stay 40 = 0) := by show _ = _; unfold code10; rw [hA, hB]; rfl
    have HA := Lib.hid hA
    have HB := Lib.hid hB
    clear hA hB
    go_enter Try.func23, Try.ntmps23
    go_wp2_with fail
    generalize hw : w.alloc (.cells #[.slice aF F.length cF, .slice aR R.length cR, .int .i64 rd] 28) = W0
    have bx0 : W0.cell? ⟨w.heap.size, 0, none⟩ = some (.slice aF F.length cF) := by rw [← hw]; simp [go_sem]
    have bx1 : W0.cell? ⟨w.heap.size, 1, none⟩ = some (.slice aR R.length cR) := by rw [← hw]; simp [go_sem]
    have bx2 : W0.cell? ⟨w.heap.size, 2, none⟩ = some (.int .i64 rd) := by rw [← hw]; simp [go_sem]
    have hbx : w.heap.size < W0.heap.size := by rw [← hw]; simp
    have HTW : Hid (Below w.heap.size w W0) := by
      show Below _ _ _
      rw [← hw]; exact (Below.refl _ _).alloc (Nat.le_refl _) _
    have HF0 := Lib.hid (show RdI W0 (.slice aF F.length cF) F by rw [← hw]; exact HF.out.alloc _)
    have HR0 := Lib.hid (show RdI W0 (.slice aR R.length cR) R by rw [← hw]; exact HRr.out.alloc _)
    have HBX := Lib.hid (And.intro bx0 (And.intro bx1 bx2))
    have T0 := Below.refl W0.heap.size W0
    clear hw
    go_wp2_with fail
    (with_reducible refine (l10Train_any _ _ F R rd _ _ _ (HF0.out.below T0) (HR0.out.below T0) hn hm).mono ?_)
    rintro e w1 ⟨rfl, hb1⟩
    have T1 : Below W0.heap.size W0 w1 := T0.trans (hb1.mono T0.size)
    clear bx0 bx1 bx2
    have bx0 := (T1.cell (p := ⟨w.heap.size, 0, none⟩) hbx).trans HBX.out.1
    have bx1 := (T1.cell (p := ⟨w.heap.size, 1, none⟩) hbx).trans HBX.out.2.1
    have bx2 := (T1.cell (p := ⟨w.heap.size, 2, none⟩) hbx).trans HBX.out.2.2
    rw [HC.out]
    obtain ⟨tF, tR, -, -⟩ := trainR_at HA.out
    obtain ⟨f1, f3, fat⟩ := teethR_at tF
    obtain ⟨r1, r12, rat⟩ := teethR_at tR
    obtain ⟨x1, x2, -⟩ := fat (F.length - 1) (by omega)
    obtain ⟨y1, y2, -⟩ := fat 0 (by omega)
    obtain ⟨z1, z2, -⟩ := rat (R.length - 1) (by omega)
    obtain ⟨u1, u2, -⟩ := rat 0 (by omega)
    have hlF := f1
    obtain ⟨bF, oF, e1, p1⟩ := (HF0.out.below T1).at (F.length - 1) (by omega)
    subst e1
    obtain ⟨b2, o2, e2, p2⟩ := (HF0.out.below T1).at 0 (by omega)
    simp only [Option.some.injEq, Addr.mk.injEq] at e2
    obtain ⟨rfl, rfl, -⟩ := e2
    obtain ⟨bR, oR, e1, p3⟩ := (HR0.out.below T1).at (R.length - 1) (by omega)
    subst e1
    obtain ⟨b2, o2, e2, p4⟩ := (HR0.out.below T1).at 0 (by omega)
    simp only [Option.some.injEq, Addr.mk.injEq] at e2
    obtain ⟨rfl, rfl, -⟩ := e2
    simp only [Nat.add_zero] at p2 p4
    clear tF tR fat rat
    generalize F.getD (F.length - 1) 0 = x at *
    generalize F.getD 0 0 = y at *
    generalize R.getD (R.length - 1) 0 = z at *
    generalize R.getD 0 0 = u at *
    have hFl : IntKind.i64.wrap ((F.length : Int) - 1) = (F.length : Int) - 1 := IntWalk.i64_in _ (by omega)
    have hRl : IntKind.i64.wrap ((R.length : Int) - 1) = (R.length : Int) - 1 := IntWalk.i64_in _ (by omega)
    have hFn : ((F.length : Int) - 1).toNat = F.length - 1 := by omega
    have hRn : ((R.length : Int) - 1).toNat = R.length - 1 := by omega
    have hF1 : (0 : Int) ≤ (F.length : Int) - 1 := by omega
    have hR1 : (0 : Int) ≤ (R.length : Int) - 1 := by omega
    have hF2 : (F.length : Int) - 1 < (F.length : Int) := by omega
    have hR2 : (R.length : Int) - 1 < (R.length : Int) := by omega
    have hF3 : (0 : Int) < (F.length : Int) := by omega
    have hR3 : (0 : Int) < (R.length : Int) := by omega
    have hF4 : (1 : Int) ≤ (F.length : Int) := by omega
    have hR4 : (1 : Int) ≤ (R.length : Int) := by omega
    have hrg2 := linksZ_bd stay x z
    obtain ⟨g0, g1⟩ := hrg2
    have hrg : rangeL stay x z = true := by simp only [rangeL, Bool.and_eq_true, inR_iff]; omega
    have HLF : Hid (lfR stay x z = (linksZ stay x z, 0)) := by show _ = _; unfold lfR; rw [if_pos hrg, if_neg hz]
    generalize hL : linksZ stay x z = L at *
    have HL := Lib.hid hL
    clear hL
    have hz0 : (L == 0) = false := by rw [beq_eq_false_iff_ne]; exact hz
    have jL : IntKind.i64.wrap (L + 2) = L + 2 := IntWalk.i64_in _ (by omega)
    go_wp2
    go_quiet ((go_at_call 67; exact (by have h := sLinksFor_any stay x z; rw [HLF.out] at h; exact quiet_eqG (h _))))
    go_wp2
    go_ret2
    exact ⟨gret2 HE.out, Below.trans HTW.out ((blw_drewN (T1.mono (Nat.le_of_lt hbx)) _))⟩
  · skip
    have HE : Hid (chnR F R rd stay = (linksZ stay (F.getD (F.length - 1) 0) (R.getD (R.length - 1) 0) + 2, 0)) := by show _ = _; unfold chnR; rw [if_pos hA, if_pos hB, if_neg (by omega)]
    have HC : Hid (code10 F R rd stay 40 = 0) := by show _ = _; unfold code10; rw [hA, hB]; rfl
    have HA := Lib.hid hA
    have HB := Lib.hid hB
    clear hA hB
    go_enter Try.func23, Try.ntmps23
    go_wp2_with fail
    generalize hw : w.alloc (.cells #[.slice aF F.length cF, .slice aR R.length cR, .int .i64 rd] 28) = W0
    have bx0 : W0.cell? ⟨w.heap.size, 0, none⟩ = some (.slice aF F.length cF) := by rw [← hw]; simp [go_sem]
    have bx1 : W0.cell? ⟨w.heap.size, 1, none⟩ = some (.slice aR R.length cR) := by rw [← hw]; simp [go_sem]
    have bx2 : W0.cell? ⟨w.heap.size, 2, none⟩ = some (.int .i64 rd) := by rw [← hw]; simp [go_sem]
    have hbx : w.heap.size < W0.heap.size := by rw [← hw]; simp
    have HTW : Hid (Below w.heap.size w W0) := by
      show Below _ _ _
      rw [← hw]; exact (Below.refl _ _).alloc (Nat.le_refl _) _
    have HF0 := Lib.hid (show RdI W0 (.slice aF F.length cF) F by rw [← hw]; exact HF.out.alloc _)
    have HR0 := Lib.hid (show RdI W0 (.slice aR R.length cR) R by rw [← hw]; exact HRr.out.alloc _)
    have HBX := Lib.hid (And.intro bx0 (And.intro bx1 bx2))
    have T0 := Below.refl W0.heap.size W0
    clear hw
    go_wp2_with fail
    (with_reducible refine (l10Train_any _ _ F R rd _ _ _ (HF0.out.below T0) (HR0.out.below T0) hn hm).mono ?_)
    rintro e w1 ⟨rfl, hb1⟩
    have T1 : Below W0.heap.size W0 w1 := T0.trans (hb1.mono T0.size)
    clear bx0 bx1 bx2
    have bx0 := (T1.cell (p := ⟨w.heap.size, 0, none⟩) hbx).trans HBX.out.1
    have bx1 := (T1.cell (p := ⟨w.heap.size, 1, none⟩) hbx).trans HBX.out.2.1
    have bx2 := (T1.cell (p := ⟨w.heap.size, 2, none⟩) hbx).trans HBX.out.2.2
    rw [HC.out]
    obtain ⟨tF, tR, -, -⟩ := trainR_at HA.out
    obtain ⟨f1, f3, fat⟩ := teethR_at tF
    obtain ⟨r1, r12, rat⟩ := teethR_at tR
    obtain ⟨x1, x2, -⟩ := fat (F.length - 1) (by omega)
    obtain ⟨y1, y2, -⟩ := fat 0 (by omega)
    obtain ⟨z1, z2, -⟩ := rat (R.length - 1) (by omega)
    obtain ⟨u1, u2, -⟩ := rat 0 (by omega)
    have hlF := f1
    obtain ⟨bF, oF, e1, p1⟩ := (HF0.out.below T1).at (F.length - 1) (by omega)
    subst e1
    obtain ⟨b2, o2, e2, p2⟩ := (HF0.out.below T1).at 0 (by omega)
    simp only [Option.some.injEq, Addr.mk.injEq] at e2
    obtain ⟨rfl, rfl, -⟩ := e2
    obtain ⟨bR, oR, e1, p3⟩ := (HR0.out.below T1).at (R.length - 1) (by omega)
    subst e1
    obtain ⟨b2, o2, e2, p4⟩ := (HR0.out.below T1).at 0 (by omega)
    simp only [Option.some.injEq, Addr.mk.injEq] at e2
    obtain ⟨rfl, rfl, -⟩ := e2
    simp only [Nat.add_zero] at p2 p4
    clear tF tR fat rat
    generalize F.getD (F.length - 1) 0 = x at *
    generalize F.getD 0 0 = y at *
    generalize R.getD (R.length - 1) 0 = z at *
    generalize R.getD 0 0 = u at *
    have hFl : IntKind.i64.wrap ((F.length : Int) - 1) = (F.length : Int) - 1 := IntWalk.i64_in _ (by omega)
    have hRl : IntKind.i64.wrap ((R.length : Int) - 1) = (R.length : Int) - 1 := IntWalk.i64_in _ (by omega)
    have hFn : ((F.length : Int) - 1).toNat = F.length - 1 := by omega
    have hRn : ((R.length : Int) - 1).toNat = R.length - 1 := by omega
    have hF1 : (0 : Int) ≤ (F.length : Int) - 1 := by omega
    have hR1 : (0 : Int) ≤ (R.length : Int) - 1 := by omega
    have hF2 : (F.length : Int) - 1 < (F.length : Int) := by omega
    have hR2 : (R.length : Int) - 1 < (R.length : Int) := by omega
    have hF3 : (0 : Int) < (F.length : Int) := by omega
    have hR3 : (0 : Int) < (R.length : Int) := by omega
    have hF4 : (1 : Int) ≤ (F.length : Int) := by omega
    have hR4 : (1 : Int) ≤ (R.length : Int) := by omega
    have hrg2 := linksZ_bd stay x z
    obtain ⟨g0, g1⟩ := hrg2
    have hrg : rangeL stay x z = true := by simp only [rangeL, Bool.and_eq_true, inR_iff]; omega
    have HLF : Hid (lfR stay x z = (linksZ stay x z, 0)) := by show _ = _; unfold lfR; rw [if_pos hrg, if_neg hz]
    generalize hL : linksZ stay x z = L at *
    have HL := Lib.hid hL
    clear hL
    have hz0 : (L == 0) = false := by rw [beq_eq_false_iff_ne]; exact hz
    have jL : IntKind.i64.wrap (L + 2) = L + 2 := IntWalk.i64_in _ (by omega)
    go_wp2
    go_quiet ((go_at_call 67; exact (by have h := sLinksFor_any stay x z; rw [HLF.out] at h; exact quiet_eqG (h _))))
    go_wp2
    go_ret2
    exact ⟨gret2 HE.out, Below.trans HTW.out ((blw_drewN (T1.mono (Nat.le_of_lt hbx)) _))⟩

end Go.Proofs.Ytfdnhamkkcmnfaa
