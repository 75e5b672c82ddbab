/- Contracts of CapacityOf, of the program and of the reference; of the laws' helpers on trains. -/
import Derived.Test.YtfdnhamkkcmnfaaGeaB
import Derived.Test.YtfdnhamkkcmnfaaIntsB
import Derived.Test.YtfdnhamkkcmnfaaIntsT
set_option linter.unusedSimpArgs false
set_option linter.unusedVariables false
namespace Go.Proofs.Ytfdnhamkkcmnfaa
open Go.RowKit

set_option maxHeartbeats 800000 in
theorem CapacityOf_any (vF vR : Value) (F R : List Int) (rd : Int)  (w : World) (hF : RdI w vF F) (hR : RdI w vR R) (hn : F.length ≤ 1048576) (hm : R.length ≤ 1048576)  :
    Calls Try.prog 19 #[.agg #[vF, vR, .int .i64 rd]] w fun e w' => e = .returned (.tuple #[.int .i64 (capR F R rd).1, .int .i64 (capR F R rd).2]) ∧ Below w.heap.size w w' := by
  have HF := Lib.hid hF
  have HRr := Lib.hid hR
  obtain ⟨aF, cF, rfl, -⟩ := hF
  obtain ⟨aR, cR, rfl, -⟩ := hR
  cases hA : trainR F R rd
  · skip
    go_enter Try.func19, Try.ntmps19
    go_wp2_with fail
    generalize hw : w.alloc (.cells #[.slice aF F.length cF, .slice aR R.length cR, .int .i64 rd] 28) = W0
    have bx0 : W0.cell? ⟨w.heap.size, 0, none⟩ = some (.slice aF F.length cF) := by rw [← hw]; simp [go_sem]
    have bx1 : W0.cell? ⟨w.heap.size, 1, none⟩ = some (.slice aR R.length cR) := by rw [← hw]; simp [go_sem]
    have bx2 : W0.cell? ⟨w.heap.size, 2, none⟩ = some (.int .i64 rd) := by rw [← hw]; simp [go_sem]
    have hbx : w.heap.size < W0.heap.size := by rw [← hw]; simp
    have HTW : Hid (Below w.heap.size w W0) := by
      show Below _ _ _
      rw [← hw]; exact (Below.refl _ _).alloc (Nat.le_refl _) _
    have HF0 := Lib.hid (show RdI W0 (.slice aF F.length cF) F by rw [← hw]; exact HF.out.alloc _)
    have HR0 := Lib.hid (show RdI W0 (.slice aR R.length cR) R by rw [← hw]; exact HRr.out.alloc _)
    have HBX := Lib.hid (And.intro bx0 (And.intro bx1 bx2))
    have T0 := Below.refl W0.heap.size W0
    clear hw
    go_wp2_with fail
    (with_reducible refine (IsTrain_any _ _ F R rd _ (HF0.out.below T0) (HR0.out.below T0) hn hm).mono ?_)
    rintro e w1 ⟨rfl, hb1⟩
    have T1 : Below W0.heap.size W0 w1 := T0.trans (hb1.mono T0.size)
    clear bx0 bx1 bx2
    have bx0 := (T1.cell (p := ⟨w.heap.size, 0, none⟩) hbx).trans HBX.out.1
    have bx1 := (T1.cell (p := ⟨w.heap.size, 1, none⟩) hbx).trans HBX.out.2.1
    have bx2 := (T1.cell (p := ⟨w.heap.size, 2, none⟩) hbx).trans HBX.out.2.2
    rw [hA]
    go_wp2
    go_ret2
    exact ⟨gret2 (by unfold capR; rw [hA]; rfl), (HTW.out.trans (T1.mono (Nat.le_of_lt hbx)))⟩
  · have HE : Hid (capR F R rd = (F.getD (F.length - 1) 0 - F.getD 0 0 + R.getD (R.length - 1) 0 - R.getD 0 0, 0)) := by show _ = _; unfold capR; rw [hA]; rfl
    have HA := Lib.hid hA
    clear hA
    go_enter Try.func19, Try.ntmps19
    go_wp2_with fail
    generalize hw : w.alloc (.cells #[.slice aF F.length cF, .slice aR R.length cR, .int .i64 rd] 28) = W0
    have bx0 : W0.cell? ⟨w.heap.size, 0, none⟩ = some (.slice aF F.length cF) := by rw [← hw]; simp [go_sem]
    have bx1 : W0.cell? ⟨w.heap.size, 1, none⟩ = some (.slice aR R.length cR) := by rw [← hw]; simp [go_sem]
    have bx2 : W0.cell? ⟨w.heap.size, 2, none⟩ = some (.int .i64 rd) := by rw [← hw]; simp [go_sem]
    have hbx : w.heap.size < W0.heap.size := by rw [← hw]; simp
    have HTW : Hid (Below w.heap.size w W0) := by
      show Below _ _ _
      rw [← hw]; exact (Below.refl _ _).alloc (Nat.le_refl _) _
    have HF0 := Lib.hid (show RdI W0 (.slice aF F.length cF) F by rw [← hw]; exact HF.out.alloc _)
    have HR0 := Lib.hid (show RdI W0 (.slice aR R.length cR) R by rw [← hw]; exact HRr.out.alloc _)
    have HBX := Lib.hid (And.intro bx0 (And.intro bx1 bx2))
    have T0 := Below.refl W0.heap.size W0
    clear hw
    go_wp2_with fail
    (with_reducible refine (IsTrain_any _ _ F R rd _ (HF0.out.below T0) (HR0.out.below T0) hn hm).mono ?_)
    rintro e w1 ⟨rfl, hb1⟩
    have T1 : Below W0.heap.size W0 w1 := T0.trans (hb1.mono T0.size)
    clear bx0 bx1 bx2
    have bx0 := (T1.cell (p := ⟨w.heap.size, 0, none⟩) hbx).trans HBX.out.1
    have bx1 := (T1.cell (p := ⟨w.heap.size, 1, none⟩) hbx).trans HBX.out.2.1
    have bx2 := (T1.cell (p := ⟨w.heap.size, 2, none⟩) hbx).trans HBX.out.2.2
    rw [HA.out]
    obtain ⟨tF, tR, -, -⟩ := trainR_at HA.out
    obtain ⟨f1, f3, fat⟩ := teethR_at tF
    obtain ⟨r1, r12, rat⟩ := teethR_at tR
    obtain ⟨x1, x2, -⟩ := fat (F.length - 1) (by omega)
    obtain ⟨y1, y2, -⟩ := fat 0 (by omega)
    obtain ⟨z1, z2, -⟩ := rat (R.length - 1) (by omega)
    obtain ⟨u1, u2, -⟩ := rat 0 (by omega)
    have hlF := f1
    obtain ⟨bF, oF, e1, p1⟩ := (HF0.out.below T1).at (F.length - 1) (by omega)
    subst e1
    obtain ⟨b2, o2, e2, p2⟩ := (HF0.out.below T1).at 0 (by omega)
    simp only [Option.some.injEq, Addr.mk.injEq] at e2
    obtain ⟨rfl, rfl, -⟩ := e2
    obtain ⟨bR, oR, e1, p3⟩ := (HR0.out.below T1).at (R.length - 1) (by omega)
    subst e1
    obtain ⟨b2, o2, e2, p4⟩ := (HR0.out.below T1).at 0 (by omega)
    simp only [Option.some.injEq, Addr.mk.injEq] at e2
    obtain ⟨rfl, rfl, -⟩ := e2
    simp only [Nat.add_zero] at p2 p4
    clear tF tR fat rat
    generalize F.getD (F.length - 1) 0 = x at *
    generalize F.getD 0 0 = y at *
    generalize R.getD (R.length - 1) 0 = z at *
    generalize R.getD 0 0 = u at *
    have hFl : IntKind.i64.wrap ((F.length : Int) - 1) = (F.length : Int) - 1 := IntWalk.i64_in _ (by omega)
    have hRl : IntKind.i64.wrap ((R.length : Int) - 1) = (R.length : Int) - 1 := IntWalk.i64_in _ (by omega)
    have hFn : ((F.length : Int) - 1).toNat = F.length - 1 := by omega
    have hRn : ((R.length : Int) - 1).toNat = R.length - 1 := by omega
    have hF1 : (0 : Int) ≤ (F.length : Int) - 1 := by omega
    have hR1 : (0 : Int) ≤ (R.length : Int) - 1 := by omega
    have hF2 : (F.length : Int) - 1 < (F.length : Int) := by omega
    have hR2 : (R.length : Int) - 1 < (R.length : Int) := by omega
    have hF3 : (0 : Int) < (F.length : Int) := by omega
    have hR3 : (0 : Int) < (R.length : Int) := by omega
    have hF4 : (1 : Int) ≤ (F.length : Int) := by omega
    have hR4 : (1 : Int) ≤ (R.length : Int) := by omega
    have j1 : IntKind.i64.wrap (x - y) = x - y := IntWalk.i64_in _ (by omega)
    have j2 : IntKind.i64.wrap (x - y + z) = x - y + z := IntWalk.i64_in _ (by omega)
    have j3 : IntKind.i64.wrap (x - y + z - u) = x - y + z - u := IntWalk.i64_in _ (by omega)
    go_wp2
    go_quiet (fail)
    go_wp2
    go_ret2
    exact ⟨gret2 HE.out, Below.trans HTW.out ((blw_drewN (T1.mono (Nat.le_of_lt hbx)) _))⟩

set_option maxHeartbeats 800000 in
theorem sCapacityOf_any (vF vR : Value) (F R : List Int) (rd : Int)  (w : World) (hF : RdI w vF F) (hR : RdI w vR R) (hn : F.length ≤ 1048576) (hm : R.length ≤ 1048576)  :
    Calls Try.prog 17 #[.agg #[vF, vR, .int .i64 rd]] w fun e w' => e = .returned (.tuple #[.int .i64 (capR F R rd).1, .int .i64 (capR F R rd).2]) ∧ Below w.heap.size w w' := by
  have HF := Lib.hid hF
  have HRr := Lib.hid hR
  obtain ⟨aF, cF, rfl, -⟩ := hF
  obtain ⟨aR, cR, rfl, -⟩ := hR
  cases hA : trainR F R rd
  · skip
    go_enter Try.func17, Try.ntmps17
    go_wp2_with fail
    generalize hw : w.alloc (.cells #[.slice aF F.length cF, .slice aR R.length cR, .int .i64 rd] 28) = W0
    have bx0 : W0.cell? ⟨w.heap.size, 0, none⟩ = some (.slice aF F.length cF) := by rw [← hw]; simp [go_sem]
    have bx1 : W0.cell? ⟨w.heap.size, 1, none⟩ = some (.slice aR R.length cR) := by rw [← hw]; simp [go_sem]
    have bx2 : W0.cell? ⟨w.heap.size, 2, none⟩ = some (.int .i64 rd) := by rw [← hw]; simp [go_sem]
    have hbx : w.heap.size < W0.heap.size := by rw [← hw]; simp
    have HTW : Hid (Below w.heap.size w W0) := by
      show Below _ _ _
      rw [← hw]; exact (Below.refl _ _).alloc (Nat.le_refl _) _
    have HF0 := Lib.hid (show RdI W0 (.slice aF F.length cF) F by rw [← hw]; exact HF.out.alloc _)
    have HR0 := Lib.hid (show RdI W0 (.slice aR R.length cR) R by rw [← hw]; exact HRr.out.alloc _)
    have HBX := Lib.hid (And.intro bx0 (And.intro bx1 bx2))
    have T0 := Below.refl W0.heap.size W0
    clear hw
    go_wp2_with fail
    (with_reducible refine (sIsTrain_any _ _ F R rd _ (HF0.out.below T0) (HR0.out.below T0) hn hm).mono ?_)
    rintro e w1 ⟨rfl, hb1⟩
    have T1 : Below W0.heap.size W0 w1 := T0.trans (hb1.mono T0.size)
    clear bx0 bx1 bx2
    have bx0 := (T1.cell (p := ⟨w.heap.size, 0, none⟩) hbx).trans HBX.out.1
    have bx1 := (T1.cell (p := ⟨w.heap.size, 1, none⟩) hbx).trans HBX.out.2.1
    have bx2 := (T1.cell (p := ⟨w.heap.size, 2, none⟩) hbx).trans HBX.out.2.2
    rw [hA]
    go_wp2
    go_ret2
    exact ⟨gret2 (by unfold capR; rw [hA]; rfl), (HTW.out.trans (T1.mono (Nat.le_of_lt hbx)))⟩
  · have HE : Hid (capR F R rd = (F.getD (F.length - 1) 0 - F.getD 0 0 + R.getD (R.length - 1) 0 - R.getD 0 0, 0)) := by show _ = _; unfold capR; rw [hA]; rfl
    have HA := Lib.hid hA
    clear hA
    go_enter Try.func17, Try.ntmps17
    go_wp2_with fail
    generalize hw : w.alloc (.cells #[.slice aF F.length cF, .slice aR R.length cR, .int .i64 rd] 28) = W0
    have bx0 : W0.cell? ⟨w.heap.size, 0, none⟩ = some (.slice aF F.length cF) := by rw [← hw]; simp [go_sem]
    have bx1 : W0.cell? ⟨w.heap.size, 1, none⟩ = some (.slice aR R.length cR) := by rw [← hw]; simp [go_sem]
    have bx2 : W0.cell? ⟨w.heap.size, 2, none⟩ = some (.int .i64 rd) := by rw [← hw]; simp [go_sem]
    have hbx : w.heap.size < W0.heap.size := by rw [← hw]; simp
    have HTW : Hid (Below w.heap.size w W0) := by
      show Below _ _ _
      rw [← hw]; exact (Below.refl _ _).alloc (Nat.le_refl _) _
    have HF0 := Lib.hid (show RdI W0 (.slice aF F.length cF) F by rw [← hw]; exact HF.out.alloc _)
    have HR0 := Lib.hid (show RdI W0 (.slice aR R.length cR) R by rw [← hw]; exact HRr.out.alloc _)
    have HBX := Lib.hid (And.intro bx0 (And.intro bx1 bx2))
    have T0 := Below.refl W0.heap.size W0
    clear hw
    go_wp2_with fail
    (with_reducible refine (sIsTrain_any _ _ F R rd _ (HF0.out.below T0) (HR0.out.below T0) hn hm).mono ?_)
    rintro e w1 ⟨rfl, hb1⟩
    have T1 : Below W0.heap.size W0 w1 := T0.trans (hb1.mono T0.size)
    clear bx0 bx1 bx2
    have bx0 := (T1.cell (p := ⟨w.heap.size, 0, none⟩) hbx).trans HBX.out.1
    have bx1 := (T1.cell (p := ⟨w.heap.size, 1, none⟩) hbx).trans HBX.out.2.1
    have bx2 := (T1.cell (p := ⟨w.heap.size, 2, none⟩) hbx).trans HBX.out.2.2
    rw [HA.out]
    obtain ⟨tF, tR, -, -⟩ := trainR_at HA.out
    obtain ⟨f1, f3, fat⟩ := teethR_at tF
    obtain ⟨r1, r12, rat⟩ := teethR_at tR
    obtain ⟨x1, x2, -⟩ := fat (F.length - 1) (by omega)
    obtain ⟨y1, y2, -⟩ := fat 0 (by omega)
    obtain ⟨z1, z2, -⟩ := rat (R.length - 1) (by omega)
    obtain ⟨u1, u2, -⟩ := rat 0 (by omega)
    have hlF := f1
    obtain ⟨bF, oF, e1, p1⟩ := (HF0.out.below T1).at (F.length - 1) (by omega)
    subst e1
    obtain ⟨b2, o2, e2, p2⟩ := (HF0.out.below T1).at 0 (by omega)
    simp only [Option.some.injEq, Addr.mk.injEq] at e2
    obtain ⟨rfl, rfl, -⟩ := e2
    obtain ⟨bR, oR, e1, p3⟩ := (HR0.out.below T1).at (R.length - 1) (by omega)
    subst e1
    obtain ⟨b2, o2, e2, p4⟩ := (HR0.out.below T1).at 0 (by omega)
    simp only [Option.some.injEq, Addr.mk.injEq] at e2
    obtain ⟨rfl, rfl, -⟩ := e2
    simp only [Nat.add_zero] at p2 p4
    clear tF tR fat rat
    generalize F.getD (F.length - 1) 0 = x at *
    generalize F.getD 0 0 = y at *
    generalize R.getD (R.length - 1) 0 = z at *
    generalize R.getD 0 0 = u at *
    have hFl : IntKind.i64.wrap ((F.length : Int) - 1) = (F.length : Int) - 1 := IntWalk.i64_in _ (by omega)
    have hRl : IntKind.i64.wrap ((R.length : Int) - 1) = (R.length : Int) - 1 := IntWalk.i64_in _ (by omega)
    have hFn : ((F.length : Int) - 1).toNat = F.length - 1 := by omega
    have hRn : ((R.length : Int) - 1).toNat = R.length - 1 := by omega
    have hF1 : (0 : Int) ≤ (F.length : Int) - 1 := by omega
    have hR1 : (0 : Int) ≤ (R.length : Int) - 1 := by omega
    have hF2 : (F.length : Int) - 1 < (F.length : Int) := by omega
    have hR2 : (R.length : Int) - 1 < (R.length : Int) := by omega
    have hF3 : (0 : Int) < (F.length : Int) := by omega
    have hR3 : (0 : Int) < (R.length : Int) := by omega
    have hF4 : (1 : Int) ≤ (F.length : Int) := by omega
    have hR4 : (1 : Int) ≤ (R.length : Int) := by omega
    have j1 : IntKind.i64.wrap (x - y) = x - y := IntWalk.i64_in _ (by omega)
    have j2 : IntKind.i64.wrap (x - y + z) = x - y + z := IntWalk.i64_in _ (by omega)
    have j3 : IntKind.i64.wrap (x - y + z - u) = x - y + z - u := IntWalk.i64_in _ (by omega)
    go_wp2
    go_quiet (fail)
    go_wp2
    go_ret2
    exact ⟨gret2 HE.out, Below.trans HTW.out ((blw_drewN (T1.mono (Nat.le_of_lt hbx)) _))⟩

set_option maxHeartbeats 800000 in
theorem szInt64S_yes (a : Option Addr) (n c : Nat) (left : Int) (w : World) (h : (n : Int) ≤ left) (h1 : left ≤ 1048576) :
    Calls Try.prog 57 #[.slice a n c, .int .i64 left] w fun e w' => e = .returned (.int .i64 (left - n)) ∧ w = w' := by
  go_enter Try.func57, Try.ntmps57
  go_wp2
  go_ret
  exact ⟨rfl, rfl⟩
set_option maxHeartbeats 800000 in
theorem szInt64S_no (a : Option Addr) (n c : Nat) (left : Int) (w : World) (h : left < n) (h0 : 0 ≤ left) (h1 : left ≤ 1048576) (hn : n ≤ maxLen) :
    Calls Try.prog 57 #[.slice a n c, .int .i64 left] w fun e w' => e = .returned (.int .i64 (-1)) ∧ w = w' := by
  unfold maxLen at hn
  go_enter Try.func57, Try.ntmps57
  go_wp2
  go_ret
  exact ⟨rfl, rfl⟩

set_option maxHeartbeats 800000 in
theorem szTrain_yes (aF aR : Option Addr) (nF cF nR cR : Nat) (rd : Int) (w : World) (h : (nF : Int) + nR ≤ 1048576) :
    Calls Try.prog 16 #[.agg #[.slice aF nF cF, .slice aR nR cR, .int .i64 rd], .int .i64 1048576] w fun e w' => e = .returned (.int .i64 (1048576 - nF - nR)) ∧ Below w.heap.size w w' := by
  have k1 : ¬ (1048576 - (nF : Int)) < 0 := by omega
  have k2 : ¬ (1048576 - (nF : Int) - nR) < 0 := by omega
  go_enter Try.func16, Try.ntmps16
  go_wp2_with fail
  (with_reducible refine (szInt64S_yes _ _ _ _ _ (by omega) (by omega)).mono ?_)
  rintro e _ ⟨rfl, rfl⟩
  go_wp2_with fail
  (with_reducible refine (szInt64S_yes _ _ _ _ _ (by omega) (by omega)).mono ?_)
  rintro e _ ⟨rfl, rfl⟩
  go_wp2
  go_ret
  exact ⟨rfl, (by repeat (first | (with_reducible assumption) | (with_reducible exact Below.refl _ _) | (with_reducible refine Below.drew ?_) | (with_reducible refine blw_al ?_ _) | (with_reducible refine blw_stp (by with_reducible assumption) ?_) | (with_reducible refine blw_set ?_ (by dsimp only; omega) _)))⟩
set_option maxHeartbeats 800000 in
theorem szTrain_noF (aF aR : Option Addr) (nF cF nR cR : Nat) (rd : Int) (w : World) (h : 1048576 < nF) (hn : nF ≤ maxLen) :
    Calls Try.prog 16 #[.agg #[.slice aF nF cF, .slice aR nR cR, .int .i64 rd], .int .i64 1048576] w fun e w' => e = .returned (.int .i64 (-1)) ∧ Below w.heap.size w w' := by
  go_enter Try.func16, Try.ntmps16
  go_wp2_with fail
  (with_reducible refine (szInt64S_no _ _ _ _ _ (by omega) (by omega) (by omega) hn).mono ?_)
  rintro e _ ⟨rfl, rfl⟩
  go_wp2
  go_ret
  exact ⟨rfl, (by repeat (first | (with_reducible assumption) | (with_reducible exact Below.refl _ _) | (with_reducible refine Below.drew ?_) | (with_reducible refine blw_al ?_ _) | (with_reducible refine blw_stp (by with_reducible assumption) ?_) | (with_reducible refine blw_set ?_ (by dsimp only; omega) _)))⟩
set_option maxHeartbeats 800000 in
theorem szTrain_noR (aF aR : Option Addr) (nF cF nR cR : Nat) (rd : Int) (w : World) (h0 : nF ≤ 1048576) (h : 1048576 < nF + nR) (hn : nR ≤ maxLen) :
    Calls Try.prog 16 #[.agg #[.slice aF nF cF, .slice aR nR cR, .int .i64 rd], .int .i64 1048576] w fun e w' => e = .returned (.int .i64 (-1)) ∧ Below w.heap.size w w' := by
  have k1 : ¬ (1048576 - (nF : Int)) < 0 := by omega
  go_enter Try.func16, Try.ntmps16
  go_wp2_with fail
  (with_reducible refine (szInt64S_yes _ _ _ _ _ (by omega) (by omega)).mono ?_)
  rintro e _ ⟨rfl, rfl⟩
  go_wp2_with fail
  (with_reducible refine (szInt64S_no _ _ _ _ _ (by omega) (by omega) (by omega) hn).mono ?_)
  rintro e _ ⟨rfl, rfl⟩
  go_wp2
  go_ret
  exact ⟨rfl, (by repeat (first | (with_reducible assumption) | (with_reducible exact Below.refl _ _) | (with_reducible refine Below.drew ?_) | (with_reducible refine blw_al ?_ _) | (with_reducible refine blw_stp (by with_reducible assumption) ?_) | (with_reducible refine blw_set ?_ (by dsimp only; omega) _)))⟩

end Go.Proofs.Ytfdnhamkkcmnfaa
