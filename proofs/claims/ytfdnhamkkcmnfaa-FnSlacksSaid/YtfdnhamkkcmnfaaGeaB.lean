/- Contracts on gears: isGear, crossed, IsCrossed, CapacityOf, of the program and of the reference. -/
import Derived.Test.YtfdnhamkkcmnfaaGeaA
import Derived.Test.YtfdnhamkkcmnfaaIntsC
set_option linter.unusedSimpArgs false
set_option linter.unusedVariables false
namespace Go.Proofs.Ytfdnhamkkcmnfaa
open Go.RowKit

def gearR (F R : List Int) (f r : Int) : Bool := inR f 0 ((F.length : Int) - 1) && inR r 0 ((R.length : Int) - 1)
def crossR (m n : Nat) (limit f r : Int) : Bool := decide (2 ≤ m) && ((decide (f = (m : Int) - 1) && decide ((n : Int) - limit ≤ r)) || (decide (f = 0) && decide (r < limit)))
def code09 (F R : List Int) (rd f r : Int) : Int := if trainR F R rd = true then (if gearR F R f r = true then 0 else 2) else 1
def code11 (F R : List Int) (rd limit f r : Int) : Int := if trainR F R rd = true then (if (gearR F R f r && inR limit 0 4) = true then 0 else 2) else 1
def icR (F R : List Int) (rd limit f r : Int) : Bool × Int := if trainR F R rd = true then (if (gearR F R f r && inR limit 0 4) = true then (crossR F.length R.length limit f r, 0) else (false, 2)) else (false, 1)
def capR (F R : List Int) (rd : Int) : Int × Int := if trainR F R rd = true then (F.getD (F.length - 1) 0 - F.getD 0 0 + R.getD (R.length - 1) 0 - R.getD 0 0, 0) else (0, 1)
theorem gret2 {r : Int × Int} {x c : Int} (h : r = (x, c)) : Ending.returned (.tuple #[.int .i64 x, .int .i64 c]) = .returned (.tuple #[.int .i64 r.1, .int .i64 r.2]) := by rw [h]
theorem gret2b {r : Bool × Int} {x : Bool} {c : Int} (h : r = (x, c)) : Ending.returned (.tuple #[.bool x, .int .i64 c]) = .returned (.tuple #[.bool r.1, .int .i64 r.2]) := by rw [h]

set_option maxHeartbeats 800000 in
theorem isLimit_any (n : Int) (w : World) : Calls Try.prog 63 #[.int .i64 n] w fun e w' => e = .returned (.bool (inR n 0 4)) ∧ w = w' := by
  go_enter Try.func63, Try.ntmps63
  go_wp2_with (go_at_call 73; (with_reducible refine (within_any _ _ _ _).mono ?_); rintro e w' ⟨rfl, rfl⟩)
  go_ret
  exact ⟨rfl, rfl⟩

set_option maxHeartbeats 800000 in
theorem isGear_any (vF vR : Value) (F R : List Int) (rd : Int) (f r : Int) (w : World) (hF : RdI w vF F) (hR : RdI w vR R) (hn : F.length ≤ 1048576) (hm : R.length ≤ 1048576)  :
    Calls Try.prog 64 #[.agg #[vF, vR, .int .i64 rd], .int .i64 f, .int .i64 r] w fun e w' => e = .returned (.bool (gearR F R f r)) ∧ Below w.heap.size w w' := by
  have HF := Lib.hid hF
  have HRr := Lib.hid hR
  obtain ⟨aF, cF, rfl, -⟩ := hF
  obtain ⟨aR, cR, rfl, -⟩ := hR
  cases hA : inR f 0 ((F.length : Int) - 1)
  · skip
    go_enter Try.func64, Try.ntmps64
    go_wp2_with fail
    generalize hw : w.alloc (.cells #[.slice aF F.length cF, .slice aR R.length cR, .int .i64 rd] 28) = W0
    have bx0 : W0.cell? ⟨w.heap.size, 0, none⟩ = some (.slice aF F.length cF) := by rw [← hw]; simp [go_sem]
    have bx1 : W0.cell? ⟨w.heap.size, 1, none⟩ = some (.slice aR R.length cR) := by rw [← hw]; simp [go_sem]
    have bx2 : W0.cell? ⟨w.heap.size, 2, none⟩ = some (.int .i64 rd) := by rw [← hw]; simp [go_sem]
    have hbx : w.heap.size < W0.heap.size := by rw [← hw]; simp
    have HTW : Hid (Below w.heap.size w W0) := by
      show Below _ _ _
      rw [← hw]; exact (Below.refl _ _).alloc (Nat.le_refl _) _
    have HF0 := Lib.hid (show RdI W0 (.slice aF F.length cF) F by rw [← hw]; exact HF.out.alloc _)
    have HR0 := Lib.hid (show RdI W0 (.slice aR R.length cR) R by rw [← hw]; exact HRr.out.alloc _)
    have HBX := Lib.hid (And.intro bx0 (And.intro bx1 bx2))
    have T0 := Below.refl W0.heap.size W0
    clear hw
    go_wp2_with fail
    (with_reducible refine (within_any _ _ _ _).mono ?_)
    rintro e _ ⟨rfl, rfl⟩
    rw [hA]
    go_wp2
    go_ret
    exact ⟨ret_bool (by simp [gearR, hA]), (HTW.out.trans (T0.mono (Nat.le_of_lt hbx)))⟩
  · skip
    go_enter Try.func64, Try.ntmps64
    go_wp2_with fail
    generalize hw : w.alloc (.cells #[.slice aF F.length cF, .slice aR R.length cR, .int .i64 rd] 28) = W0
    have bx0 : W0.cell? ⟨w.heap.size, 0, none⟩ = some (.slice aF F.length cF) := by rw [← hw]; simp [go_sem]
    have bx1 : W0.cell? ⟨w.heap.size, 1, none⟩ = some (.slice aR R.length cR) := by rw [← hw]; simp [go_sem]
    have bx2 : W0.cell? ⟨w.heap.size, 2, none⟩ = some (.int .i64 rd) := by rw [← hw]; simp [go_sem]
    have hbx : w.heap.size < W0.heap.size := by rw [← hw]; simp
    have HTW : Hid (Below w.heap.size w W0) := by
      show Below _ _ _
      rw [← hw]; exact (Below.refl _ _).alloc (Nat.le_refl _) _
    have HF0 := Lib.hid (show RdI W0 (.slice aF F.length cF) F by rw [← hw]; exact HF.out.alloc _)
    have HR0 := Lib.hid (show RdI W0 (.slice aR R.length cR) R by rw [← hw]; exact HRr.out.alloc _)
    have HBX := Lib.hid (And.intro bx0 (And.intro bx1 bx2))
    have T0 := Below.refl W0.heap.size W0
    clear hw
    go_wp2_with fail
    (with_reducible refine (within_any _ _ _ _).mono ?_)
    rintro e _ ⟨rfl, rfl⟩
    rw [hA]
    go_wp2_with fail
    (with_reducible refine (within_any _ _ _ _).mono ?_)
    rintro e _ ⟨rfl, rfl⟩
    go_wp2
    go_ret
    exact ⟨ret_bool (by simp [gearR, hA]), (HTW.out.trans (T0.mono (Nat.le_of_lt hbx)))⟩

set_option maxHeartbeats 800000 in
theorem l09Gear_any (vF vR : Value) (F R : List Int) (rd : Int) (f r : Int) (w : World) (hF : RdI w vF F) (hR : RdI w vR R) (hn : F.length ≤ 1048576) (hm : R.length ≤ 1048576)  :
    Calls Try.prog 102 #[.agg #[vF, vR, .int .i64 rd], .int .i64 f, .int .i64 r] w fun e w' => e = .returned (.bool (gearR F R f r)) ∧ Below w.heap.size w w' := by
  have HF := Lib.hid hF
  have HRr := Lib.hid hR
  obtain ⟨aF, cF, rfl, -⟩ := hF
  obtain ⟨aR, cR, rfl, -⟩ := hR
  cases hA : inR f 0 ((F.length : Int) - 1)
  · skip
    go_enter Try.func102, Try.ntmps102
    go_wp2_with fail
    generalize hw : w.alloc (.cells #[.slice aF F.length cF, .slice aR R.length cR, .int .i64 rd] 28) = W0
    have bx0 : W0.cell? ⟨w.heap.size, 0, none⟩ = some (.slice aF F.length cF) := by rw [← hw]; simp [go_sem]
    have bx1 : W0.cell? ⟨w.heap.size, 1, none⟩ = some (.slice aR R.length cR) := by rw [← hw]; simp [go_sem]
    have bx2 : W0.cell? ⟨w.heap.size, 2, none⟩ = some (.int .i64 rd) := by rw [← hw]; simp [go_sem]
    have hbx : w.heap.size < W0.heap.size := by rw [← hw]; simp
    have HTW : Hid (Below w.heap.size w W0) := by
      show Below _ _ _
      rw [← hw]; exact (Below.refl _ _).alloc (Nat.le_refl _) _
    have HF0 := Lib.hid (show RdI W0 (.slice aF F.length cF) F by rw [← hw]; exact HF.out.alloc _)
    have HR0 := Lib.hid (show RdI W0 (.slice aR R.length cR) R by rw [← hw]; exact HRr.out.alloc _)
    have HBX := Lib.hid (And.intro bx0 (And.intro bx1 bx2))
    have T0 := Below.refl W0.heap.size W0
    clear hw
    go_wp2_with fail
    (with_reducible refine (l01In_any _ _ _ _).mono ?_)
    rintro e _ ⟨rfl, rfl⟩
    rw [hA]
    go_wp2
    go_ret
    exact ⟨ret_bool (by simp [gearR, hA]), (HTW.out.trans (T0.mono (Nat.le_of_lt hbx)))⟩
  · skip
    go_enter Try.func102, Try.ntmps102
    go_wp2_with fail
    generalize hw : w.alloc (.cells #[.slice aF F.length cF, .slice aR R.length cR, .int .i64 rd] 28) = W0
    have bx0 : W0.cell? ⟨w.heap.size, 0, none⟩ = some (.slice aF F.length cF) := by rw [← hw]; simp [go_sem]
    have bx1 : W0.cell? ⟨w.heap.size, 1, none⟩ = some (.slice aR R.length cR) := by rw [← hw]; simp [go_sem]
    have bx2 : W0.cell? ⟨w.heap.size, 2, none⟩ = some (.int .i64 rd) := by rw [← hw]; simp [go_sem]
    have hbx : w.heap.size < W0.heap.size := by rw [← hw]; simp
    have HTW : Hid (Below w.heap.size w W0) := by
      show Below _ _ _
      rw [← hw]; exact (Below.refl _ _).alloc (Nat.le_refl _) _
    have HF0 := Lib.hid (show RdI W0 (.slice aF F.length cF) F by rw [← hw]; exact HF.out.alloc _)
    have HR0 := Lib.hid (show RdI W0 (.slice aR R.length cR) R by rw [← hw]; exact HRr.out.alloc _)
    have HBX := Lib.hid (And.intro bx0 (And.intro bx1 bx2))
    have T0 := Below.refl W0.heap.size W0
    clear hw
    go_wp2_with fail
    (with_reducible refine (l01In_any _ _ _ _).mono ?_)
    rintro e _ ⟨rfl, rfl⟩
    rw [hA]
    go_wp2_with fail
    (with_reducible refine (l01In_any _ _ _ _).mono ?_)
    rintro e _ ⟨rfl, rfl⟩
    go_wp2
    go_ret
    exact ⟨ret_bool (by simp [gearR, hA]), (HTW.out.trans (T0.mono (Nat.le_of_lt hbx)))⟩

set_option maxHeartbeats 800000 in
theorem crossed_any (vF vR : Value) (F R : List Int) (rd : Int) (limit f r : Int) (w : World) (hF : RdI w vF F) (hR : RdI w vR R) (hn : F.length ≤ 1048576) (hm : R.length ≤ 1048576) (l0 : 0 ≤ limit) (l4 : limit ≤ 4) :
    Calls Try.prog 65 #[.agg #[vF, vR, .int .i64 rd], .int .i64 limit, .int .i64 f, .int .i64 r] w fun e w' => e = .returned (.bool (crossR F.length R.length limit f r)) ∧ Below w.heap.size w w' := by
  have HF := Lib.hid hF
  have HRr := Lib.hid hR
  obtain ⟨aF, cF, rfl, -⟩ := hF
  obtain ⟨aR, cR, rfl, -⟩ := hR
  by_cases h2 : 2 ≤ F.length
  rotate_left
  · have h2' : F.length < 2 := by omega
    go_enter Try.func65, Try.ntmps65
    go_wp2_with fail
    generalize hw : w.alloc (.cells #[.slice aF F.length cF, .slice aR R.length cR, .int .i64 rd] 28) = W0
    have bx0 : W0.cell? ⟨w.heap.size, 0, none⟩ = some (.slice aF F.length cF) := by rw [← hw]; simp [go_sem]
    have bx1 : W0.cell? ⟨w.heap.size, 1, none⟩ = some (.slice aR R.length cR) := by rw [← hw]; simp [go_sem]
    have bx2 : W0.cell? ⟨w.heap.size, 2, none⟩ = some (.int .i64 rd) := by rw [← hw]; simp [go_sem]
    have hbx : w.heap.size < W0.heap.size := by rw [← hw]; simp
    have HTW : Hid (Below w.heap.size w W0) := by
      show Below _ _ _
      rw [← hw]; exact (Below.refl _ _).alloc (Nat.le_refl _) _
    have HF0 := Lib.hid (show RdI W0 (.slice aF F.length cF) F by rw [← hw]; exact HF.out.alloc _)
    have HR0 := Lib.hid (show RdI W0 (.slice aR R.length cR) R by rw [← hw]; exact HRr.out.alloc _)
    have HBX := Lib.hid (And.intro bx0 (And.intro bx1 bx2))
    have T0 := Below.refl W0.heap.size W0
    clear hw
    go_quiet (fail)
    go_wp2
    go_ret
    exact ⟨ret_bool (by (simp [crossR, h2]) <;> (intros; omega)), Below.trans HTW.out ((blw_drewN (T0.mono (Nat.le_of_lt hbx)) _))⟩
  have hW1 : IntKind.i64.wrap ((F.length : Int) - 1) = (F.length : Int) - 1 := IntWalk.i64_in _ (by omega)
  have hW2 : IntKind.i64.wrap ((R.length : Int) - limit) = (R.length : Int) - limit := IntWalk.i64_in _ (by omega)
  by_cases ha : f = (F.length : Int) - 1
  · have ha' : (f == (F.length : Int) - 1) = true := by rw [beq_iff_eq]; exact ha
    by_cases hb : (R.length : Int) - limit ≤ r
    · skip
      go_enter Try.func65, Try.ntmps65
      go_wp2_with fail
      generalize hw : w.alloc (.cells #[.slice aF F.length cF, .slice aR R.length cR, .int .i64 rd] 28) = W0
      have bx0 : W0.cell? ⟨w.heap.size, 0, none⟩ = some (.slice aF F.length cF) := by rw [← hw]; simp [go_sem]
      have bx1 : W0.cell? ⟨w.heap.size, 1, none⟩ = some (.slice aR R.length cR) := by rw [← hw]; simp [go_sem]
      have bx2 : W0.cell? ⟨w.heap.size, 2, none⟩ = some (.int .i64 rd) := by rw [← hw]; simp [go_sem]
      have hbx : w.heap.size < W0.heap.size := by rw [← hw]; simp
      have HTW : Hid (Below w.heap.size w W0) := by
        show Below _ _ _
        rw [← hw]; exact (Below.refl _ _).alloc (Nat.le_refl _) _
      have HF0 := Lib.hid (show RdI W0 (.slice aF F.length cF) F by rw [← hw]; exact HF.out.alloc _)
      have HR0 := Lib.hid (show RdI W0 (.slice aR R.length cR) R by rw [← hw]; exact HRr.out.alloc _)
      have HBX := Lib.hid (And.intro bx0 (And.intro bx1 bx2))
      have T0 := Below.refl W0.heap.size W0
      clear hw
      go_quiet (fail)
      go_wp2
      go_ret
      exact ⟨ret_bool (by (simp [crossR, h2, ha, hb]) <;> (intros; omega)), Below.trans HTW.out ((blw_drewN (T0.mono (Nat.le_of_lt hbx)) _))⟩
    · have hz : ¬ f = 0 := by omega
      have hz' : (f == 0) = false := by rw [beq_eq_false_iff_ne]; exact hz
      go_enter Try.func65, Try.ntmps65
      go_wp2_with fail
      generalize hw : w.alloc (.cells #[.slice aF F.length cF, .slice aR R.length cR, .int .i64 rd] 28) = W0
      have bx0 : W0.cell? ⟨w.heap.size, 0, none⟩ = some (.slice aF F.length cF) := by rw [← hw]; simp [go_sem]
      have bx1 : W0.cell? ⟨w.heap.size, 1, none⟩ = some (.slice aR R.length cR) := by rw [← hw]; simp [go_sem]
      have bx2 : W0.cell? ⟨w.heap.size, 2, none⟩ = some (.int .i64 rd) := by rw [← hw]; simp [go_sem]
      have hbx : w.heap.size < W0.heap.size := by rw [← hw]; simp
      have HTW : Hid (Below w.heap.size w W0) := by
        show Below _ _ _
        rw [← hw]; exact (Below.refl _ _).alloc (Nat.le_refl _) _
      have HF0 := Lib.hid (show RdI W0 (.slice aF F.length cF) F by rw [← hw]; exact HF.out.alloc _)
      have HR0 := Lib.hid (show RdI W0 (.slice aR R.length cR) R by rw [← hw]; exact HRr.out.alloc _)
      have HBX := Lib.hid (And.intro bx0 (And.intro bx1 bx2))
      have T0 := Below.refl W0.heap.size W0
      clear hw
      go_quiet (fail)
      go_wp2
      go_ret
      exact ⟨ret_bool (by (simp [crossR, h2, ha, hb, hz]) <;> (intros; omega)), Below.trans HTW.out ((blw_drewN (T0.mono (Nat.le_of_lt hbx)) _))⟩
  · have ha' : (f == (F.length : Int) - 1) = false := by rw [beq_eq_false_iff_ne]; exact ha
    by_cases hz : f = 0
    · have hz' : (f == 0) = true := by rw [beq_iff_eq]; exact hz
      by_cases hl : r < limit
      · skip
        go_enter Try.func65, Try.ntmps65
        go_wp2_with fail
        generalize hw : w.alloc (.cells #[.slice aF F.length cF, .slice aR R.length cR, .int .i64 rd] 28) = W0
        have bx0 : W0.cell? ⟨w.heap.size, 0, none⟩ = some (.slice aF F.length cF) := by rw [← hw]; simp [go_sem]
        have bx1 : W0.cell? ⟨w.heap.size, 1, none⟩ = some (.slice aR R.length cR) := by rw [← hw]; simp [go_sem]
        have bx2 : W0.cell? ⟨w.heap.size, 2, none⟩ = some (.int .i64 rd) := by rw [← hw]; simp [go_sem]
        have hbx : w.heap.size < W0.heap.size := by rw [← hw]; simp
        have HTW : Hid (Below w.heap.size w W0) := by
          show Below _ _ _
          rw [← hw]; exact (Below.refl _ _).alloc (Nat.le_refl _) _
        have HF0 := Lib.hid (show RdI W0 (.slice aF F.length cF) F by rw [← hw]; exact HF.out.alloc _)
        have HR0 := Lib.hid (show RdI W0 (.slice aR R.length cR) R by rw [← hw]; exact HRr.out.alloc _)
        have HBX := Lib.hid (And.intro bx0 (And.intro bx1 bx2))
        have T0 := Below.refl W0.heap.size W0
        clear hw
        go_quiet (fail)
        go_wp2
        go_ret
        exact ⟨ret_bool (by (simp [crossR, h2, ha, hz, hl]) <;> (intros; omega)), Below.trans HTW.out ((blw_drewN (T0.mono (Nat.le_of_lt hbx)) _))⟩
      · skip
        go_enter Try.func65, Try.ntmps65
        go_wp2_with fail
        generalize hw : w.alloc (.cells #[.slice aF F.length cF, .slice aR R.length cR, .int .i64 rd] 28) = W0
        have bx0 : W0.cell? ⟨w.heap.size, 0, none⟩ = some (.slice aF F.length cF) := by rw [← hw]; simp [go_sem]
        have bx1 : W0.cell? ⟨w.heap.size, 1, none⟩ = some (.slice aR R.length cR) := by rw [← hw]; simp [go_sem]
        have bx2 : W0.cell? ⟨w.heap.size, 2, none⟩ = some (.int .i64 rd) := by rw [← hw]; simp [go_sem]
        have hbx : w.heap.size < W0.heap.size := by rw [← hw]; simp
        have HTW : Hid (Below w.heap.size w W0) := by
          show Below _ _ _
          rw [← hw]; exact (Below.refl _ _).alloc (Nat.le_refl _) _
        have HF0 := Lib.hid (show RdI W0 (.slice aF F.length cF) F by rw [← hw]; exact HF.out.alloc _)
        have HR0 := Lib.hid (show RdI W0 (.slice aR R.length cR) R by rw [← hw]; exact HRr.out.alloc _)
        have HBX := Lib.hid (And.intro bx0 (And.intro bx1 bx2))
        have T0 := Below.refl W0.heap.size W0
        clear hw
        go_quiet (fail)
        go_wp2
        go_ret
        exact ⟨ret_bool (by (simp [crossR, h2, ha, hz, hl]) <;> (intros; omega)), Below.trans HTW.out ((blw_drewN (T0.mono (Nat.le_of_lt hbx)) _))⟩
    · have hz' : (f == 0) = false := by rw [beq_eq_false_iff_ne]; exact hz
      go_enter Try.func65, Try.ntmps65
      go_wp2_with fail
      generalize hw : w.alloc (.cells #[.slice aF F.length cF, .slice aR R.length cR, .int .i64 rd] 28) = W0
      have bx0 : W0.cell? ⟨w.heap.size, 0, none⟩ = some (.slice aF F.length cF) := by rw [← hw]; simp [go_sem]
      have bx1 : W0.cell? ⟨w.heap.size, 1, none⟩ = some (.slice aR R.length cR) := by rw [← hw]; simp [go_sem]
      have bx2 : W0.cell? ⟨w.heap.size, 2, none⟩ = some (.int .i64 rd) := by rw [← hw]; simp [go_sem]
      have hbx : w.heap.size < W0.heap.size := by rw [← hw]; simp
      have HTW : Hid (Below w.heap.size w W0) := by
        show Below _ _ _
        rw [← hw]; exact (Below.refl _ _).alloc (Nat.le_refl _) _
      have HF0 := Lib.hid (show RdI W0 (.slice aF F.length cF) F by rw [← hw]; exact HF.out.alloc _)
      have HR0 := Lib.hid (show RdI W0 (.slice aR R.length cR) R by rw [← hw]; exact HRr.out.alloc _)
      have HBX := Lib.hid (And.intro bx0 (And.intro bx1 bx2))
      have T0 := Below.refl W0.heap.size W0
      clear hw
      go_quiet (fail)
      go_wp2
      go_ret
      exact ⟨ret_bool (by (simp [crossR, h2, ha, hz]) <;> (intros; omega)), Below.trans HTW.out ((blw_drewN (T0.mono (Nat.le_of_lt hbx)) _))⟩

set_option maxHeartbeats 800000 in
theorem l11Crossed_any (vF vR : Value) (F R : List Int) (rd : Int) (limit f r : Int) (w : World) (hF : RdI w vF F) (hR : RdI w vR R) (hn : F.length ≤ 1048576) (hm : R.length ≤ 1048576) (l0 : 0 ≤ limit) (l4 : limit ≤ 4) :
    Calls Try.prog 62 #[.agg #[vF, vR, .int .i64 rd], .int .i64 limit, .int .i64 f, .int .i64 r] w fun e w' => e = .returned (.bool (crossR F.length R.length limit f r)) ∧ Below w.heap.size w w' := by
  have HF := Lib.hid hF
  have HRr := Lib.hid hR
  obtain ⟨aF, cF, rfl, -⟩ := hF
  obtain ⟨aR, cR, rfl, -⟩ := hR
  by_cases h2 : 2 ≤ F.length
  rotate_left
  · have h2' : F.length < 2 := by omega
    go_enter Try.func62, Try.ntmps62
    go_wp2_with fail
    generalize hw : w.alloc (.cells #[.slice aF F.length cF, .slice aR R.length cR, .int .i64 rd] 28) = W0
    have bx0 : W0.cell? ⟨w.heap.size, 0, none⟩ = some (.slice aF F.length cF) := by rw [← hw]; simp [go_sem]
    have bx1 : W0.cell? ⟨w.heap.size, 1, none⟩ = some (.slice aR R.length cR) := by rw [← hw]; simp [go_sem]
    have bx2 : W0.cell? ⟨w.heap.size, 2, none⟩ = some (.int .i64 rd) := by rw [← hw]; simp [go_sem]
    have hbx : w.heap.size < W0.heap.size := by rw [← hw]; simp
    have HTW : Hid (Below w.heap.size w W0) := by
      show Below _ _ _
      rw [← hw]; exact (Below.refl _ _).alloc (Nat.le_refl _) _
    have HF0 := Lib.hid (show RdI W0 (.slice aF F.length cF) F by rw [← hw]; exact HF.out.alloc _)
    have HR0 := Lib.hid (show RdI W0 (.slice aR R.length cR) R by rw [← hw]; exact HRr.out.alloc _)
    have HBX := Lib.hid (And.intro bx0 (And.intro bx1 bx2))
    have T0 := Below.refl W0.heap.size W0
    clear hw
    go_quiet (fail)
    go_wp2
    go_ret
    exact ⟨ret_bool (by (simp [crossR, h2]) <;> (intros; omega)), Below.trans HTW.out ((blw_drewN (T0.mono (Nat.le_of_lt hbx)) _))⟩
  have hW1 : IntKind.i64.wrap ((F.length : Int) - 1) = (F.length : Int) - 1 := IntWalk.i64_in _ (by omega)
  have hW2 : IntKind.i64.wrap ((R.length : Int) - limit) = (R.length : Int) - limit := IntWalk.i64_in _ (by omega)
  by_cases ha : f = (F.length : Int) - 1
  · have ha' : (f == (F.length : Int) - 1) = true := by rw [beq_iff_eq]; exact ha
    by_cases hb : (R.length : Int) - limit ≤ r
    · skip
      go_enter Try.func62, Try.ntmps62
      go_wp2_with fail
      generalize hw : w.alloc (.cells #[.slice aF F.length cF, .slice aR R.length cR, .int .i64 rd] 28) = W0
      have bx0 : W0.cell? ⟨w.heap.size, 0, none⟩ = some (.slice aF F.length cF) := by rw [← hw]; simp [go_sem]
      have bx1 : W0.cell? ⟨w.heap.size, 1, none⟩ = some (.slice aR R.length cR) := by rw [← hw]; simp [go_sem]
      have bx2 : W0.cell? ⟨w.heap.size, 2, none⟩ = some (.int .i64 rd) := by rw [← hw]; simp [go_sem]
      have hbx : w.heap.size < W0.heap.size := by rw [← hw]; simp
      have HTW : Hid (Below w.heap.size w W0) := by
        show Below _ _ _
        rw [← hw]; exact (Below.refl _ _).alloc (Nat.le_refl _) _
      have HF0 := Lib.hid (show RdI W0 (.slice aF F.length cF) F by rw [← hw]; exact HF.out.alloc _)
      have HR0 := Lib.hid (show RdI W0 (.slice aR R.length cR) R by rw [← hw]; exact HRr.out.alloc _)
      have HBX := Lib.hid (And.intro bx0 (And.intro bx1 bx2))
      have T0 := Below.refl W0.heap.size W0
      clear hw
      go_quiet (fail)
      go_wp2
      go_ret
      exact ⟨ret_bool (by (simp [crossR, h2, ha, hb]) <;> (intros; omega)), Below.trans HTW.out ((blw_drewN (T0.mono (Nat.le_of_lt hbx)) _))⟩
    · have hz : ¬ f = 0 := by omega
      have hz' : (f == 0) = false := by rw [beq_eq_false_iff_ne]; exact hz
      go_enter Try.func62, Try.ntmps62
      go_wp2_with fail
      generalize hw : w.alloc (.cells #[.slice aF F.length cF, .slice aR R.length cR, .int .i64 rd] 28) = W0
      have bx0 : W0.cell? ⟨w.heap.size, 0, none⟩ = some (.slice aF F.length cF) := by rw [← hw]; simp [go_sem]
      have bx1 : W0.cell? ⟨w.heap.size, 1, none⟩ = some (.slice aR R.length cR) := by rw [← hw]; simp [go_sem]
      have bx2 : W0.cell? ⟨w.heap.size, 2, none⟩ = some (.int .i64 rd) := by rw [← hw]; simp [go_sem]
      have hbx : w.heap.size < W0.heap.size := by rw [← hw]; simp
      have HTW : Hid (Below w.heap.size w W0) := by
        show Below _ _ _
        rw [← hw]; exact (Below.refl _ _).alloc (Nat.le_refl _) _
      have HF0 := Lib.hid (show RdI W0 (.slice aF F.length cF) F by rw [← hw]; exact HF.out.alloc _)
      have HR0 := Lib.hid (show RdI W0 (.slice aR R.length cR) R by rw [← hw]; exact HRr.out.alloc _)
      have HBX := Lib.hid (And.intro bx0 (And.intro bx1 bx2))
      have T0 := Below.refl W0.heap.size W0
      clear hw
      go_quiet (fail)
      go_wp2
      go_ret
      exact ⟨ret_bool (by (simp [crossR, h2, ha, hb, hz]) <;> (intros; omega)), Below.trans HTW.out ((blw_drewN (T0.mono (Nat.le_of_lt hbx)) _))⟩
  · have ha' : (f == (F.length : Int) - 1) = false := by rw [beq_eq_false_iff_ne]; exact ha
    by_cases hz : f = 0
    · have hz' : (f == 0) = true := by rw [beq_iff_eq]; exact hz
      by_cases hl : r < limit
      · skip
        go_enter Try.func62, Try.ntmps62
        go_wp2_with fail
        generalize hw : w.alloc (.cells #[.slice aF F.length cF, .slice aR R.length cR, .int .i64 rd] 28) = W0
        have bx0 : W0.cell? ⟨w.heap.size, 0, none⟩ = some (.slice aF F.length cF) := by rw [← hw]; simp [go_sem]
        have bx1 : W0.cell? ⟨w.heap.size, 1, none⟩ = some (.slice aR R.length cR) := by rw [← hw]; simp [go_sem]
        have bx2 : W0.cell? ⟨w.heap.size, 2, none⟩ = some (.int .i64 rd) := by rw [← hw]; simp [go_sem]
        have hbx : w.heap.size < W0.heap.size := by rw [← hw]; simp
        have HTW : Hid (Below w.heap.size w W0) := by
          show Below _ _ _
          rw [← hw]; exact (Below.refl _ _).alloc (Nat.le_refl _) _
        have HF0 := Lib.hid (show RdI W0 (.slice aF F.length cF) F by rw [← hw]; exact HF.out.alloc _)
        have HR0 := Lib.hid (show RdI W0 (.slice aR R.length cR) R by rw [← hw]; exact HRr.out.alloc _)
        have HBX := Lib.hid (And.intro bx0 (And.intro bx1 bx2))
        have T0 := Below.refl W0.heap.size W0
        clear hw
        go_quiet (fail)
        go_wp2
        go_ret
        exact ⟨ret_bool (by (simp [crossR, h2, ha, hz, hl]) <;> (intros; omega)), Below.trans HTW.out ((blw_drewN (T0.mono (Nat.le_of_lt hbx)) _))⟩
      · skip
        go_enter Try.func62, Try.ntmps62
        go_wp2_with fail
        generalize hw : w.alloc (.cells #[.slice aF F.length cF, .slice aR R.length cR, .int .i64 rd] 28) = W0
        have bx0 : W0.cell? ⟨w.heap.size, 0, none⟩ = some (.slice aF F.length cF) := by rw [← hw]; simp [go_sem]
        have bx1 : W0.cell? ⟨w.heap.size, 1, none⟩ = some (.slice aR R.length cR) := by rw [← hw]; simp [go_sem]
        have bx2 : W0.cell? ⟨w.heap.size, 2, none⟩ = some (.int .i64 rd) := by rw [← hw]; simp [go_sem]
        have hbx : w.heap.size < W0.heap.size := by rw [← hw]; simp
        have HTW : Hid (Below w.heap.size w W0) := by
          show Below _ _ _
          rw [← hw]; exact (Below.refl _ _).alloc (Nat.le_refl _) _
        have HF0 := Lib.hid (show RdI W0 (.slice aF F.length cF) F by rw [← hw]; exact HF.out.alloc _)
        have HR0 := Lib.hid (show RdI W0 (.slice aR R.length cR) R by rw [← hw]; exact HRr.out.alloc _)
        have HBX := Lib.hid (And.intro bx0 (And.intro bx1 bx2))
        have T0 := Below.refl W0.heap.size W0
        clear hw
        go_quiet (fail)
        go_wp2
        go_ret
        exact ⟨ret_bool (by (simp [crossR, h2, ha, hz, hl]) <;> (intros; omega)), Below.trans HTW.out ((blw_drewN (T0.mono (Nat.le_of_lt hbx)) _))⟩
    · have hz' : (f == 0) = false := by rw [beq_eq_false_iff_ne]; exact hz
      go_enter Try.func62, Try.ntmps62
      go_wp2_with fail
      generalize hw : w.alloc (.cells #[.slice aF F.length cF, .slice aR R.length cR, .int .i64 rd] 28) = W0
      have bx0 : W0.cell? ⟨w.heap.size, 0, none⟩ = some (.slice aF F.length cF) := by rw [← hw]; simp [go_sem]
      have bx1 : W0.cell? ⟨w.heap.size, 1, none⟩ = some (.slice aR R.length cR) := by rw [← hw]; simp [go_sem]
      have bx2 : W0.cell? ⟨w.heap.size, 2, none⟩ = some (.int .i64 rd) := by rw [← hw]; simp [go_sem]
      have hbx : w.heap.size < W0.heap.size := by rw [← hw]; simp
      have HTW : Hid (Below w.heap.size w W0) := by
        show Below _ _ _
        rw [← hw]; exact (Below.refl _ _).alloc (Nat.le_refl _) _
      have HF0 := Lib.hid (show RdI W0 (.slice aF F.length cF) F by rw [← hw]; exact HF.out.alloc _)
      have HR0 := Lib.hid (show RdI W0 (.slice aR R.length cR) R by rw [← hw]; exact HRr.out.alloc _)
      have HBX := Lib.hid (And.intro bx0 (And.intro bx1 bx2))
      have T0 := Below.refl W0.heap.size W0
      clear hw
      go_quiet (fail)
      go_wp2
      go_ret
      exact ⟨ret_bool (by (simp [crossR, h2, ha, hz]) <;> (intros; omega)), Below.trans HTW.out ((blw_drewN (T0.mono (Nat.le_of_lt hbx)) _))⟩

set_option maxHeartbeats 800000 in
theorem l09Code_any (vF vR : Value) (F R : List Int) (rd : Int) (f r : Int) (w : World) (hF : RdI w vF F) (hR : RdI w vR R) (hn : F.length ≤ 1048576) (hm : R.length ≤ 1048576)  :
    Calls Try.prog 96 #[.agg #[vF, vR, .int .i64 rd], .int .i64 f, .int .i64 r] w fun e w' => e = .returned (.int .i64 (code09 F R rd f r)) ∧ Below w.heap.size w w' := by
  have HF := Lib.hid hF
  have HRr := Lib.hid hR
  obtain ⟨aF, cF, rfl, -⟩ := hF
  obtain ⟨aR, cR, rfl, -⟩ := hR
  cases hA : trainR F R rd
  · skip
    go_enter Try.func96, Try.ntmps96
    go_wp2_with fail
    generalize hw : w.alloc (.cells #[.slice aF F.length cF, .slice aR R.length cR, .int .i64 rd] 28) = W0
    have bx0 : W0.cell? ⟨w.heap.size, 0, none⟩ = some (.slice aF F.length cF) := by rw [← hw]; simp [go_sem]
    have bx1 : W0.cell? ⟨w.heap.size, 1, none⟩ = some (.slice aR R.length cR) := by rw [← hw]; simp [go_sem]
    have bx2 : W0.cell? ⟨w.heap.size, 2, none⟩ = some (.int .i64 rd) := by rw [← hw]; simp [go_sem]
    have hbx : w.heap.size < W0.heap.size := by rw [← hw]; simp
    have HTW : Hid (Below w.heap.size w W0) := by
      show Below _ _ _
      rw [← hw]; exact (Below.refl _ _).alloc (Nat.le_refl _) _
    have HF0 := Lib.hid (show RdI W0 (.slice aF F.length cF) F by rw [← hw]; exact HF.out.alloc _)
    have HR0 := Lib.hid (show RdI W0 (.slice aR R.length cR) R by rw [← hw]; exact HRr.out.alloc _)
    have HBX := Lib.hid (And.intro bx0 (And.intro bx1 bx2))
    have T0 := Below.refl W0.heap.size W0
    clear hw
    go_wp2_with fail
    (with_reducible refine (sIsTrain_any _ _ F R rd _ (HF0.out.below T0) (HR0.out.below T0) hn hm).mono ?_)
    rintro e w1 ⟨rfl, hb1⟩
    have T1 : Below W0.heap.size W0 w1 := T0.trans (hb1.mono T0.size)
    clear bx0 bx1 bx2
    have bx0 := (T1.cell (p := ⟨w.heap.size, 0, none⟩) hbx).trans HBX.out.1
    have bx1 := (T1.cell (p := ⟨w.heap.size, 1, none⟩) hbx).trans HBX.out.2.1
    have bx2 := (T1.cell (p := ⟨w.heap.size, 2, none⟩) hbx).trans HBX.out.2.2
    rw [hA]
    go_wp2
    go_ret
    exact ⟨ret_int (by simp [code09, hA]), (HTW.out.trans (T1.mono (Nat.le_of_lt hbx)))⟩
  cases hB : gearR F R f r
  · skip
    go_enter Try.func96, Try.ntmps96
    go_wp2_with fail
    generalize hw : w.alloc (.cells #[.slice aF F.length cF, .slice aR R.length cR, .int .i64 rd] 28) = W0
    have bx0 : W0.cell? ⟨w.heap.size, 0, none⟩ = some (.slice aF F.length cF) := by rw [← hw]; simp [go_sem]
    have bx1 : W0.cell? ⟨w.heap.size, 1, none⟩ = some (.slice aR R.length cR) := by rw [← hw]; simp [go_sem]
    have bx2 : W0.cell? ⟨w.heap.size, 2, none⟩ = some (.int .i64 rd) := by rw [← hw]; simp [go_sem]
    have hbx : w.heap.size < W0.heap.size := by rw [← hw]; simp
    have HTW : Hid (Below w.heap.size w W0) := by
      show Below _ _ _
      rw [← hw]; exact (Below.refl _ _).alloc (Nat.le_refl _) _
    have HF0 := Lib.hid (show RdI W0 (.slice aF F.length cF) F by rw [← hw]; exact HF.out.alloc _)
    have HR0 := Lib.hid (show RdI W0 (.slice aR R.length cR) R by rw [← hw]; exact HRr.out.alloc _)
    have HBX := Lib.hid (And.intro bx0 (And.intro bx1 bx2))
    have T0 := Below.refl W0.heap.size W0
    clear hw
    go_wp2_with fail
    (with_reducible refine (sIsTrain_any _ _ F R rd _ (HF0.out.below T0) (HR0.out.below T0) hn hm).mono ?_)
    rintro e w1 ⟨rfl, hb1⟩
    have T1 : Below W0.heap.size W0 w1 := T0.trans (hb1.mono T0.size)
    clear bx0 bx1 bx2
    have bx0 := (T1.cell (p := ⟨w.heap.size, 0, none⟩) hbx).trans HBX.out.1
    have bx1 := (T1.cell (p := ⟨w.heap.size, 1, none⟩) hbx).trans HBX.out.2.1
    have bx2 := (T1.cell (p := ⟨w.heap.size, 2, none⟩) hbx).trans HBX.out.2.2
    rw [hA]
    go_wp2_with fail
    (with_reducible refine (l09Gear_any _ _ F R rd _ _ _ (HF0.out.below T1) (HR0.out.below T1) hn hm).mono ?_)
    rintro e w2 ⟨rfl, hb2⟩
    have T2 : Below W0.heap.size W0 w2 := T1.trans (hb2.mono T1.size)
    clear bx0 bx1 bx2
    have bx0 := (T2.cell (p := ⟨w.heap.size, 0, none⟩) hbx).trans HBX.out.1
    have bx1 := (T2.cell (p := ⟨w.heap.size, 1, none⟩) hbx).trans HBX.out.2.1
    have bx2 := (T2.cell (p := ⟨w.heap.size, 2, none⟩) hbx).trans HBX.out.2.2
    rw [hB]
    go_wp2
    go_ret
    exact ⟨ret_int (by simp [code09, hA, hB]), (HTW.out.trans (T2.mono (Nat.le_of_lt hbx)))⟩
  · skip
    go_enter Try.func96, Try.ntmps96
    go_wp2_with fail
    generalize hw : w.alloc (.cells #[.slice aF F.length cF, .slice aR R.length cR, .int .i64 rd] 28) = W0
    have bx0 : W0.cell? ⟨w.heap.size, 0, none⟩ = some (.slice aF F.length cF) := by rw [← hw]; simp [go_sem]
    have bx1 : W0.cell? ⟨w.heap.size, 1, none⟩ = some (.slice aR R.length cR) := by rw [← hw]; simp [go_sem]
    have bx2 : W0.cell? ⟨w.heap.size, 2, none⟩ = some (.int .i64 rd) := by rw [← hw]; simp [go_sem]
    have hbx : w.heap.size < W0.heap.size := by rw [← hw]; simp
    have HTW : Hid (Below w.heap.size w W0) := by
      show Below _ _ _
      rw [← hw]; exact (Below.refl _ _).alloc (Nat.le_refl _) _
    have HF0 := Lib.hid (show RdI W0 (.slice aF F.length cF) F by rw [← hw]; exact HF.out.alloc _)
    have HR0 := Lib.hid (show RdI W0 (.slice aR R.length cR) R by rw [← hw]; exact HRr.out.alloc _)
    have HBX := Lib.hid (And.intro bx0 (And.intro bx1 bx2))
    have T0 := Below.refl W0.heap.size W0
    clear hw
    go_wp2_with fail
    (with_reducible refine (sIsTrain_any _ _ F R rd _ (HF0.out.below T0) (HR0.out.below T0) hn hm).mono ?_)
    rintro e w1 ⟨rfl, hb1⟩
    have T1 : Below W0.heap.size W0 w1 := T0.trans (hb1.mono T0.size)
    clear bx0 bx1 bx2
    have bx0 := (T1.cell (p := ⟨w.heap.size, 0, none⟩) hbx).trans HBX.out.1
    have bx1 := (T1.cell (p := ⟨w.heap.size, 1, none⟩) hbx).trans HBX.out.2.1
    have bx2 := (T1.cell (p := ⟨w.heap.size, 2, none⟩) hbx).trans HBX.out.2.2
    rw [hA]
    go_wp2_with fail
    (with_reducible refine (l09Gear_any _ _ F R rd _ _ _ (HF0.out.below T1) (HR0.out.below T1) hn hm).mono ?_)
    rintro e w2 ⟨rfl, hb2⟩
    have T2 : Below W0.heap.size W0 w2 := T1.trans (hb2.mono T1.size)
    clear bx0 bx1 bx2
    have bx0 := (T2.cell (p := ⟨w.heap.size, 0, none⟩) hbx).trans HBX.out.1
    have bx1 := (T2.cell (p := ⟨w.heap.size, 1, none⟩) hbx).trans HBX.out.2.1
    have bx2 := (T2.cell (p := ⟨w.heap.size, 2, none⟩) hbx).trans HBX.out.2.2
    rw [hB]
    go_wp2
    go_ret
    exact ⟨ret_int (by simp [code09, hA, hB]), (HTW.out.trans (T2.mono (Nat.le_of_lt hbx)))⟩

theorem code11_eq (F R : List Int) (rd limit f r : Int) : code11 F R rd limit f r = if code09 F R rd f r = 0 then (if inR limit 0 4 = true then 0 else 2) else code09 F R rd f r := by
  unfold code11 code09
  cases trainR F R rd <;> cases gearR F R f r <;> cases inR limit 0 4 <;> rfl

set_option maxHeartbeats 800000 in
theorem l11Code_any (vF vR : Value) (F R : List Int) (rd : Int) (limit f r : Int) (w : World) (hF : RdI w vF F) (hR : RdI w vR R) (hn : F.length ≤ 1048576) (hm : R.length ≤ 1048576)  :
    Calls Try.prog 61 #[.agg #[vF, vR, .int .i64 rd], .int .i64 limit, .int .i64 f, .int .i64 r] w fun e w' => e = .returned (.int .i64 (code11 F R rd limit f r)) ∧ Below w.heap.size w w' := by
  have HF := Lib.hid hF
  have HRr := Lib.hid hR
  obtain ⟨aF, cF, rfl, -⟩ := hF
  obtain ⟨aR, cR, rfl, -⟩ := hR
  by_cases hA : code09 F R rd f r = 0
  rotate_left
  · have hE : Hid (code11 F R rd limit f r = code09 F R rd f r) := by show _ = _; rw [code11_eq, if_neg hA]
    go_enter Try.func61, Try.ntmps61
    go_wp2_with fail
    generalize hw : w.alloc (.cells #[.slice aF F.length cF, .slice aR R.length cR, .int .i64 rd] 28) = W0
    have bx0 : W0.cell? ⟨w.heap.size, 0, none⟩ = some (.slice aF F.length cF) := by rw [← hw]; simp [go_sem]
    have bx1 : W0.cell? ⟨w.heap.size, 1, none⟩ = some (.slice aR R.length cR) := by rw [← hw]; simp [go_sem]
    have bx2 : W0.cell? ⟨w.heap.size, 2, none⟩ = some (.int .i64 rd) := by rw [← hw]; simp [go_sem]
    have hbx : w.heap.size < W0.heap.size := by rw [← hw]; simp
    have HTW : Hid (Below w.heap.size w W0) := by
      show Below _ _ _
      rw [← hw]; exact (Below.refl _ _).alloc (Nat.le_refl _) _
    have HF0 := Lib.hid (show RdI W0 (.slice aF F.length cF) F by rw [← hw]; exact HF.out.alloc _)
    have HR0 := Lib.hid (show RdI W0 (.slice aR R.length cR) R by rw [← hw]; exact HRr.out.alloc _)
    have HBX := Lib.hid (And.intro bx0 (And.intro bx1 bx2))
    have T0 := Below.refl W0.heap.size W0
    clear hw
    go_wp2_with fail
    (with_reducible refine (l09Code_any _ _ F R rd _ _ _ (HF0.out.below T0) (HR0.out.below T0) hn hm).mono ?_)
    rintro e w1 ⟨rfl, hb1⟩
    have T1 : Below W0.heap.size W0 w1 := T0.trans (hb1.mono T0.size)
    clear bx0 bx1 bx2
    have bx0 := (T1.cell (p := ⟨w.heap.size, 0, none⟩) hbx).trans HBX.out.1
    have bx1 := (T1.cell (p := ⟨w.heap.size, 1, none⟩) hbx).trans HBX.out.2.1
    have bx2 := (T1.cell (p := ⟨w.heap.size, 2, none⟩) hbx).trans HBX.out.2.2
    have h0 : (code09 F R rd f r == 0) = false := by rw [beq_eq_false_iff_ne]; exact hA
    generalize code09 F R rd f r = q at *
    go_wp2
    go_ret
    exact ⟨ret_int hE.out.symm, (HTW.out.trans (T1.mono (Nat.le_of_lt hbx)))⟩
  cases hL : inR limit 0 4
  · have hE : Hid (code11 F R rd limit f r = 2) := by show _ = _; rw [code11_eq, if_pos hA, hL]; rfl
    have hA := Lib.hid hA
    go_enter Try.func61, Try.ntmps61
    go_wp2_with fail
    generalize hw : w.alloc (.cells #[.slice aF F.length cF, .slice aR R.length cR, .int .i64 rd] 28) = W0
    have bx0 : W0.cell? ⟨w.heap.size, 0, none⟩ = some (.slice aF F.length cF) := by rw [← hw]; simp [go_sem]
    have bx1 : W0.cell? ⟨w.heap.size, 1, none⟩ = some (.slice aR R.length cR) := by rw [← hw]; simp [go_sem]
    have bx2 : W0.cell? ⟨w.heap.size, 2, none⟩ = some (.int .i64 rd) := by rw [← hw]; simp [go_sem]
    have hbx : w.heap.size < W0.heap.size := by rw [← hw]; simp
    have HTW : Hid (Below w.heap.size w W0) := by
      show Below _ _ _
      rw [← hw]; exact (Below.refl _ _).alloc (Nat.le_refl _) _
    have HF0 := Lib.hid (show RdI W0 (.slice aF F.length cF) F by rw [← hw]; exact HF.out.alloc _)
    have HR0 := Lib.hid (show RdI W0 (.slice aR R.length cR) R by rw [← hw]; exact HRr.out.alloc _)
    have HBX := Lib.hid (And.intro bx0 (And.intro bx1 bx2))
    have T0 := Below.refl W0.heap.size W0
    clear hw
    go_wp2_with fail
    (with_reducible refine (l09Code_any _ _ F R rd _ _ _ (HF0.out.below T0) (HR0.out.below T0) hn hm).mono ?_)
    rintro e w1 ⟨rfl, hb1⟩
    have T1 : Below W0.heap.size W0 w1 := T0.trans (hb1.mono T0.size)
    clear bx0 bx1 bx2
    have bx0 := (T1.cell (p := ⟨w.heap.size, 0, none⟩) hbx).trans HBX.out.1
    have bx1 := (T1.cell (p := ⟨w.heap.size, 1, none⟩) hbx).trans HBX.out.2.1
    have bx2 := (T1.cell (p := ⟨w.heap.size, 2, none⟩) hbx).trans HBX.out.2.2
    rw [hA.out]
    go_wp2_with fail
    (with_reducible refine (l01In_any _ _ _ _).mono ?_)
    rintro e _ ⟨rfl, rfl⟩
    rw [hL]
    go_wp2
    go_ret
    exact ⟨ret_int hE.out.symm, (HTW.out.trans (T1.mono (Nat.le_of_lt hbx)))⟩
  skip
  · have hE : Hid (code11 F R rd limit f r = 0) := by show _ = _; rw [code11_eq, if_pos hA, hL]; rfl
    have hA := Lib.hid hA
    go_enter Try.func61, Try.ntmps61
    go_wp2_with fail
    generalize hw : w.alloc (.cells #[.slice aF F.length cF, .slice aR R.length cR, .int .i64 rd] 28) = W0
    have bx0 : W0.cell? ⟨w.heap.size, 0, none⟩ = some (.slice aF F.length cF) := by rw [← hw]; simp [go_sem]
    have bx1 : W0.cell? ⟨w.heap.size, 1, none⟩ = some (.slice aR R.length cR) := by rw [← hw]; simp [go_sem]
    have bx2 : W0.cell? ⟨w.heap.size, 2, none⟩ = some (.int .i64 rd) := by rw [← hw]; simp [go_sem]
    have hbx : w.heap.size < W0.heap.size := by rw [← hw]; simp
    have HTW : Hid (Below w.heap.size w W0) := by
      show Below _ _ _
      rw [← hw]; exact (Below.refl _ _).alloc (Nat.le_refl _) _
    have HF0 := Lib.hid (show RdI W0 (.slice aF F.length cF) F by rw [← hw]; exact HF.out.alloc _)
    have HR0 := Lib.hid (show RdI W0 (.slice aR R.length cR) R by rw [← hw]; exact HRr.out.alloc _)
    have HBX := Lib.hid (And.intro bx0 (And.intro bx1 bx2))
    have T0 := Below.refl W0.heap.size W0
    clear hw
    go_wp2_with fail
    (with_reducible refine (l09Code_any _ _ F R rd _ _ _ (HF0.out.below T0) (HR0.out.below T0) hn hm).mono ?_)
    rintro e w1 ⟨rfl, hb1⟩
    have T1 : Below W0.heap.size W0 w1 := T0.trans (hb1.mono T0.size)
    clear bx0 bx1 bx2
    have bx0 := (T1.cell (p := ⟨w.heap.size, 0, none⟩) hbx).trans HBX.out.1
    have bx1 := (T1.cell (p := ⟨w.heap.size, 1, none⟩) hbx).trans HBX.out.2.1
    have bx2 := (T1.cell (p := ⟨w.heap.size, 2, none⟩) hbx).trans HBX.out.2.2
    rw [hA.out]
    go_wp2_with fail
    (with_reducible refine (l01In_any _ _ _ _).mono ?_)
    rintro e _ ⟨rfl, rfl⟩
    rw [hL]
    go_wp2
    go_ret
    exact ⟨ret_int hE.out.symm, (HTW.out.trans (T1.mono (Nat.le_of_lt hbx)))⟩

set_option maxHeartbeats 800000 in
theorem IsCrossed_any (vF vR : Value) (F R : List Int) (rd : Int) (limit f r : Int) (w : World) (hF : RdI w vF F) (hR : RdI w vR R) (hn : F.length ≤ 1048576) (hm : R.length ≤ 1048576)  :
    Calls Try.prog 22 #[.agg #[vF, vR, .int .i64 rd], .int .i64 limit, .int .i64 f, .int .i64 r] w fun e w' => e = .returned (.tuple #[.bool (icR F R rd limit f r).1, .int .i64 (icR F R rd limit f r).2]) ∧ Below w.heap.size w w' := by
  have HF := Lib.hid hF
  have HRr := Lib.hid hR
  obtain ⟨aF, cF, rfl, -⟩ := hF
  obtain ⟨aR, cR, rfl, -⟩ := hR
  cases hA : trainR F R rd
  · have HE : Hid (icR F R rd limit f r = (false, 1)) := by show _ = _; unfold icR; rw [hA]; rfl
    go_enter Try.func22, Try.ntmps22
    go_wp2_with fail
    generalize hw : w.alloc (.cells #[.slice aF F.length cF, .slice aR R.length cR, .int .i64 rd] 28) = W0
    have bx0 : W0.cell? ⟨w.heap.size, 0, none⟩ = some (.slice aF F.length cF) := by rw [← hw]; simp [go_sem]
    have bx1 : W0.cell? ⟨w.heap.size, 1, none⟩ = some (.slice aR R.length cR) := by rw [← hw]; simp [go_sem]
    have bx2 : W0.cell? ⟨w.heap.size, 2, none⟩ = some (.int .i64 rd) := by rw [← hw]; simp [go_sem]
    have hbx : w.heap.size < W0.heap.size := by rw [← hw]; simp
    have HTW : Hid (Below w.heap.size w W0) := by
      show Below _ _ _
      rw [← hw]; exact (Below.refl _ _).alloc (Nat.le_refl _) _
    have HF0 := Lib.hid (show RdI W0 (.slice aF F.length cF) F by rw [← hw]; exact HF.out.alloc _)
    have HR0 := Lib.hid (show RdI W0 (.slice aR R.length cR) R by rw [← hw]; exact HRr.out.alloc _)
    have HBX := Lib.hid (And.intro bx0 (And.intro bx1 bx2))
    have T0 := Below.refl W0.heap.size W0
    clear hw
    go_wp2_with fail
    (with_reducible refine (IsTrain_any _ _ F R rd _ (HF0.out.below T0) (HR0.out.below T0) hn hm).mono ?_)
    rintro e w1 ⟨rfl, hb1⟩
    have T1 : Below W0.heap.size W0 w1 := T0.trans (hb1.mono T0.size)
    clear bx0 bx1 bx2
    have bx0 := (T1.cell (p := ⟨w.heap.size, 0, none⟩) hbx).trans HBX.out.1
    have bx1 := (T1.cell (p := ⟨w.heap.size, 1, none⟩) hbx).trans HBX.out.2.1
    have bx2 := (T1.cell (p := ⟨w.heap.size, 2, none⟩) hbx).trans HBX.out.2.2
    rw [hA]
    go_wp2
    go_ret2
    exact ⟨gret2b HE.out, (HTW.out.trans (T1.mono (Nat.le_of_lt hbx)))⟩
  cases hL : inR limit 0 4
  · have HE : Hid (icR F R rd limit f r = (false, 2)) := by show _ = _; unfold icR; rw [hA, hL, Bool.and_false]; rfl
    go_enter Try.func22, Try.ntmps22
    go_wp2_with fail
    generalize hw : w.alloc (.cells #[.slice aF F.length cF, .slice aR R.length cR, .int .i64 rd] 28) = W0
    have bx0 : W0.cell? ⟨w.heap.size, 0, none⟩ = some (.slice aF F.length cF) := by rw [← hw]; simp [go_sem]
    have bx1 : W0.cell? ⟨w.heap.size, 1, none⟩ = some (.slice aR R.length cR) := by rw [← hw]; simp [go_sem]
    have bx2 : W0.cell? ⟨w.heap.size, 2, none⟩ = some (.int .i64 rd) := by rw [← hw]; simp [go_sem]
    have hbx : w.heap.size < W0.heap.size := by rw [← hw]; simp
    have HTW : Hid (Below w.heap.size w W0) := by
      show Below _ _ _
      rw [← hw]; exact (Below.refl _ _).alloc (Nat.le_refl _) _
    have HF0 := Lib.hid (show RdI W0 (.slice aF F.length cF) F by rw [← hw]; exact HF.out.alloc _)
    have HR0 := Lib.hid (show RdI W0 (.slice aR R.length cR) R by rw [← hw]; exact HRr.out.alloc _)
    have HBX := Lib.hid (And.intro bx0 (And.intro bx1 bx2))
    have T0 := Below.refl W0.heap.size W0
    clear hw
    go_wp2_with fail
    (with_reducible refine (IsTrain_any _ _ F R rd _ (HF0.out.below T0) (HR0.out.below T0) hn hm).mono ?_)
    rintro e w1 ⟨rfl, hb1⟩
    have T1 : Below W0.heap.size W0 w1 := T0.trans (hb1.mono T0.size)
    clear bx0 bx1 bx2
    have bx0 := (T1.cell (p := ⟨w.heap.size, 0, none⟩) hbx).trans HBX.out.1
    have bx1 := (T1.cell (p := ⟨w.heap.size, 1, none⟩) hbx).trans HBX.out.2.1
    have bx2 := (T1.cell (p := ⟨w.heap.size, 2, none⟩) hbx).trans HBX.out.2.2
    rw [hA]
    go_wp2_with fail
    (with_reducible refine (isLimit_any _ _).mono ?_)
    rintro e _ ⟨rfl, rfl⟩
    rw [hL]
    go_wp2
    go_ret2
    exact ⟨gret2b HE.out, (HTW.out.trans (T1.mono (Nat.le_of_lt hbx)))⟩
  obtain ⟨l0, l4⟩ := inR_iff.1 hL
  cases hB : gearR F R f r
  · have HE : Hid (icR F R rd limit f r = (false, 2)) := by show _ = _; unfold icR; rw [hA, hB, Bool.false_and]; rfl
    go_enter Try.func22, Try.ntmps22
    go_wp2_with fail
    generalize hw : w.alloc (.cells #[.slice aF F.length cF, .slice aR R.length cR, .int .i64 rd] 28) = W0
    have bx0 : W0.cell? ⟨w.heap.size, 0, none⟩ = some (.slice aF F.length cF) := by rw [← hw]; simp [go_sem]
    have bx1 : W0.cell? ⟨w.heap.size, 1, none⟩ = some (.slice aR R.length cR) := by rw [← hw]; simp [go_sem]
    have bx2 : W0.cell? ⟨w.heap.size, 2, none⟩ = some (.int .i64 rd) := by rw [← hw]; simp [go_sem]
    have hbx : w.heap.size < W0.heap.size := by rw [← hw]; simp
    have HTW : Hid (Below w.heap.size w W0) := by
      show Below _ _ _
      rw [← hw]; exact (Below.refl _ _).alloc (Nat.le_refl _) _
    have HF0 := Lib.hid (show RdI W0 (.slice aF F.length cF) F by rw [← hw]; exact HF.out.alloc _)
    have HR0 := Lib.hid (show RdI W0 (.slice aR R.length cR) R by rw [← hw]; exact HRr.out.alloc _)
    have HBX := Lib.hid (And.intro bx0 (And.intro bx1 bx2))
    have T0 := Below.refl W0.heap.size W0
    clear hw
    go_wp2_with fail
    (with_reducible refine (IsTrain_any _ _ F R rd _ (HF0.out.below T0) (HR0.out.below T0) hn hm).mono ?_)
    rintro e w1 ⟨rfl, hb1⟩
    have T1 : Below W0.heap.size W0 w1 := T0.trans (hb1.mono T0.size)
    clear bx0 bx1 bx2
    have bx0 := (T1.cell (p := ⟨w.heap.size, 0, none⟩) hbx).trans HBX.out.1
    have bx1 := (T1.cell (p := ⟨w.heap.size, 1, none⟩) hbx).trans HBX.out.2.1
    have bx2 := (T1.cell (p := ⟨w.heap.size, 2, none⟩) hbx).trans HBX.out.2.2
    rw [hA]
    go_wp2_with fail
    (with_reducible refine (isLimit_any _ _).mono ?_)
    rintro e _ ⟨rfl, rfl⟩
    rw [hL]
    go_wp2_with fail
    (with_reducible refine (isGear_any _ _ F R rd _ _ _ (HF0.out.below T1) (HR0.out.below T1) hn hm).mono ?_)
    rintro e w2 ⟨rfl, hb2⟩
    have T2 : Below W0.heap.size W0 w2 := T1.trans (hb2.mono T1.size)
    clear bx0 bx1 bx2
    have bx0 := (T2.cell (p := ⟨w.heap.size, 0, none⟩) hbx).trans HBX.out.1
    have bx1 := (T2.cell (p := ⟨w.heap.size, 1, none⟩) hbx).trans HBX.out.2.1
    have bx2 := (T2.cell (p := ⟨w.heap.size, 2, none⟩) hbx).trans HBX.out.2.2
    rw [hB]
    go_wp2
    go_ret2
    exact ⟨gret2b HE.out, (HTW.out.trans (T2.mono (Nat.le_of_lt hbx)))⟩
  · have HE : Hid (icR F R rd limit f r = (crossR F.length R.length limit f r, 0)) := by show _ = _; unfold icR; rw [hA, hB, hL]; rfl
    go_enter Try.func22, Try.ntmps22
    go_wp2_with fail
    generalize hw : w.alloc (.cells #[.slice aF F.length cF, .slice aR R.length cR, .int .i64 rd] 28) = W0
    have bx0 : W0.cell? ⟨w.heap.size, 0, none⟩ = some (.slice aF F.length cF) := by rw [← hw]; simp [go_sem]
    have bx1 : W0.cell? ⟨w.heap.size, 1, none⟩ = some (.slice aR R.length cR) := by rw [← hw]; simp [go_sem]
    have bx2 : W0.cell? ⟨w.heap.size, 2, none⟩ = some (.int .i64 rd) := by rw [← hw]; simp [go_sem]
    have hbx : w.heap.size < W0.heap.size := by rw [← hw]; simp
    have HTW : Hid (Below w.heap.size w W0) := by
      show Below _ _ _
      rw [← hw]; exact (Below.refl _ _).alloc (Nat.le_refl _) _
    have HF0 := Lib.hid (show RdI W0 (.slice aF F.length cF) F by rw [← hw]; exact HF.out.alloc _)
    have HR0 := Lib.hid (show RdI W0 (.slice aR R.length cR) R by rw [← hw]; exact HRr.out.alloc _)
    have HBX := Lib.hid (And.intro bx0 (And.intro bx1 bx2))
    have T0 := Below.refl W0.heap.size W0
    clear hw
    go_wp2_with fail
    (with_reducible refine (IsTrain_any _ _ F R rd _ (HF0.out.below T0) (HR0.out.below T0) hn hm).mono ?_)
    rintro e w1 ⟨rfl, hb1⟩
    have T1 : Below W0.heap.size W0 w1 := T0.trans (hb1.mono T0.size)
    clear bx0 bx1 bx2
    have bx0 := (T1.cell (p := ⟨w.heap.size, 0, none⟩) hbx).trans HBX.out.1
    have bx1 := (T1.cell (p := ⟨w.heap.size, 1, none⟩) hbx).trans HBX.out.2.1
    have bx2 := (T1.cell (p := ⟨w.heap.size, 2, none⟩) hbx).trans HBX.out.2.2
    rw [hA]
    go_wp2_with fail
    (with_reducible refine (isLimit_any _ _).mono ?_)
    rintro e _ ⟨rfl, rfl⟩
    rw [hL]
    go_wp2_with fail
    (with_reducible refine (isGear_any _ _ F R rd _ _ _ (HF0.out.below T1) (HR0.out.below T1) hn hm).mono ?_)
    rintro e w2 ⟨rfl, hb2⟩
    have T2 : Below W0.heap.size W0 w2 := T1.trans (hb2.mono T1.size)
    clear bx0 bx1 bx2
    have bx0 := (T2.cell (p := ⟨w.heap.size, 0, none⟩) hbx).trans HBX.out.1
    have bx1 := (T2.cell (p := ⟨w.heap.size, 1, none⟩) hbx).trans HBX.out.2.1
    have bx2 := (T2.cell (p := ⟨w.heap.size, 2, none⟩) hbx).trans HBX.out.2.2
    rw [hB]
    go_wp2_with fail
    (with_reducible refine (crossed_any _ _ F R rd _ _ _ _ (HF0.out.below T2) (HR0.out.below T2) hn hm l0 l4).mono ?_)
    rintro e w3 ⟨rfl, hb3⟩
    have T3 : Below W0.heap.size W0 w3 := T2.trans (hb3.mono T2.size)
    clear bx0 bx1 bx2
    have bx0 := (T3.cell (p := ⟨w.heap.size, 0, none⟩) hbx).trans HBX.out.1
    have bx1 := (T3.cell (p := ⟨w.heap.size, 1, none⟩) hbx).trans HBX.out.2.1
    have bx2 := (T3.cell (p := ⟨w.heap.size, 2, none⟩) hbx).trans HBX.out.2.2
    go_wp2
    go_ret2
    exact ⟨gret2b HE.out, (HTW.out.trans (T3.mono (Nat.le_of_lt hbx)))⟩

set_option maxHeartbeats 800000 in
theorem sIsCrossed_any (vF vR : Value) (F R : List Int) (rd : Int) (limit f r : Int) (w : World) (hF : RdI w vF F) (hR : RdI w vR R) (hn : F.length ≤ 1048576) (hm : R.length ≤ 1048576)  :
    Calls Try.prog 21 #[.agg #[vF, vR, .int .i64 rd], .int .i64 limit, .int .i64 f, .int .i64 r] w fun e w' => e = .returned (.tuple #[.bool (icR F R rd limit f r).1, .int .i64 (icR F R rd limit f r).2]) ∧ Below w.heap.size w w' := by
  have HF := Lib.hid hF
  have HRr := Lib.hid hR
  obtain ⟨aF, cF, rfl, -⟩ := hF
  obtain ⟨aR, cR, rfl, -⟩ := hR
  cases hA : trainR F R rd
  · skip
    have HE : Hid (icR F R rd limit f r = (false, 1)) := by show _ = _; unfold icR; rw [hA]; rfl
    have HC : Hid (code11 F R rd limit f r = 1) := by show _ = _; unfold code11; rw [hA]; rfl
    go_enter Try.func21, Try.ntmps21
    go_wp2_with fail
    generalize hw : w.alloc (.cells #[.slice aF F.length cF, .slice aR R.length cR, .int .i64 rd] 28) = W0
    have bx0 : W0.cell? ⟨w.heap.size, 0, none⟩ = some (.slice aF F.length cF) := by rw [← hw]; simp [go_sem]
    have bx1 : W0.cell? ⟨w.heap.size, 1, none⟩ = some (.slice aR R.length cR) := by rw [← hw]; simp [go_sem]
    have bx2 : W0.cell? ⟨w.heap.size, 2, none⟩ = some (.int .i64 rd) := by rw [← hw]; simp [go_sem]
    have hbx : w.heap.size < W0.heap.size := by rw [← hw]; simp
    have HTW : Hid (Below w.heap.size w W0) := by
      show Below _ _ _
      rw [← hw]; exact (Below.refl _ _).alloc (Nat.le_refl _) _
    have HF0 := Lib.hid (show RdI W0 (.slice aF F.length cF) F by rw [← hw]; exact HF.out.alloc _)
    have HR0 := Lib.hid (show RdI W0 (.slice aR R.length cR) R by rw [← hw]; exact HRr.out.alloc _)
    have HBX := Lib.hid (And.intro bx0 (And.intro bx1 bx2))
    have T0 := Below.refl W0.heap.size W0
    clear hw
    go_wp2_with fail
    (with_reducible refine (l11Code_any _ _ F R rd _ _ _ _ (HF0.out.below T0) (HR0.out.below T0) hn hm).mono ?_)
    rintro e w1 ⟨rfl, hb1⟩
    have T1 : Below W0.heap.size W0 w1 := T0.trans (hb1.mono T0.size)
    clear bx0 bx1 bx2
    have bx0 := (T1.cell (p := ⟨w.heap.size, 0, none⟩) hbx).trans HBX.out.1
    have bx1 := (T1.cell (p := ⟨w.heap.size, 1, none⟩) hbx).trans HBX.out.2.1
    have bx2 := (T1.cell (p := ⟨w.heap.size, 2, none⟩) hbx).trans HBX.out.2.2
    rw [HC.out]
    go_wp2
    go_ret2
    exact ⟨gret2b HE.out, (HTW.out.trans (T1.mono (Nat.le_of_lt hbx)))⟩
  cases hB : gearR F R f r
  · skip
    have HE : Hid (icR F R rd limit f r = (false, 2)) := by show _ = _; unfold icR; rw [hA, hB, Bool.false_and]; rfl
    have HC : Hid (code11 F R rd limit f r = 2) := by show _ = _; unfold code11; rw [hA, hB, Bool.false_and]; rfl
    go_enter Try.func21, Try.ntmps21
    go_wp2_with fail
    generalize hw : w.alloc (.cells #[.slice aF F.length cF, .slice aR R.length cR, .int .i64 rd] 28) = W0
    have bx0 : W0.cell? ⟨w.heap.size, 0, none⟩ = some (.slice aF F.length cF) := by rw [← hw]; simp [go_sem]
    have bx1 : W0.cell? ⟨w.heap.size, 1, none⟩ = some (.slice aR R.length cR) := by rw [← hw]; simp [go_sem]
    have bx2 : W0.cell? ⟨w.heap.size, 2, none⟩ = some (.int .i64 rd) := by rw [← hw]; simp [go_sem]
    have hbx : w.heap.size < W0.heap.size := by rw [← hw]; simp
    have HTW : Hid (Below w.heap.size w W0) := by
      show Below _ _ _
      rw [← hw]; exact (Below.refl _ _).alloc (Nat.le_refl _) _
    have HF0 := Lib.hid (show RdI W0 (.slice aF F.length cF) F by rw [← hw]; exact HF.out.alloc _)
    have HR0 := Lib.hid (show RdI W0 (.slice aR R.length cR) R by rw [← hw]; exact HRr.out.alloc _)
    have HBX := Lib.hid (And.intro bx0 (And.intro bx1 bx2))
    have T0 := Below.refl W0.heap.size W0
    clear hw
    go_wp2_with fail
    (with_reducible refine (l11Code_any _ _ F R rd _ _ _ _ (HF0.out.below T0) (HR0.out.below T0) hn hm).mono ?_)
    rintro e w1 ⟨rfl, hb1⟩
    have T1 : Below W0.heap.size W0 w1 := T0.trans (hb1.mono T0.size)
    clear bx0 bx1 bx2
    have bx0 := (T1.cell (p := ⟨w.heap.size, 0, none⟩) hbx).trans HBX.out.1
    have bx1 := (T1.cell (p := ⟨w.heap.size, 1, none⟩) hbx).trans HBX.out.2.1
    have bx2 := (T1.cell (p := ⟨w.heap.size, 2, none⟩) hbx).trans HBX.out.2.2
    rw [HC.out]
    go_wp2
    go_ret2
    exact ⟨gret2b HE.out, (HTW.out.trans (T1.mono (Nat.le_of_lt hbx)))⟩
  cases hL : inR limit 0 4
  · skip
    have HE : Hid (icR F R rd limit f r = (false, 2)) := by show _ = _; unfold icR; rw [hA, hB, hL, Bool.and_false]; rfl
    have HC : Hid (code11 F R rd limit f r = 2) := by show _ = _; unfold code11; rw [hA, hB, hL, Bool.and_false]; rfl
    go_enter Try.func21, Try.ntmps21
    go_wp2_with fail
    generalize hw : w.alloc (.cells #[.slice aF F.length cF, .slice aR R.length cR, .int .i64 rd] 28) = W0
    have bx0 : W0.cell? ⟨w.heap.size, 0, none⟩ = some (.slice aF F.length cF) := by rw [← hw]; simp [go_sem]
    have bx1 : W0.cell? ⟨w.heap.size, 1, none⟩ = some (.slice aR R.length cR) := by rw [← hw]; simp [go_sem]
    have bx2 : W0.cell? ⟨w.heap.size, 2, none⟩ = some (.int .i64 rd) := by rw [← hw]; simp [go_sem]
    have hbx : w.heap.size < W0.heap.size := by rw [← hw]; simp
    have HTW : Hid (Below w.heap.size w W0) := by
      show Below _ _ _
      rw [← hw]; exact (Below.refl _ _).alloc (Nat.le_refl _) _
    have HF0 := Lib.hid (show RdI W0 (.slice aF F.length cF) F by rw [← hw]; exact HF.out.alloc _)
    have HR0 := Lib.hid (show RdI W0 (.slice aR R.length cR) R by rw [← hw]; exact HRr.out.alloc _)
    have HBX := Lib.hid (And.intro bx0 (And.intro bx1 bx2))
    have T0 := Below.refl W0.heap.size W0
    clear hw
    go_wp2_with fail
    (with_reducible refine (l11Code_any _ _ F R rd _ _ _ _ (HF0.out.below T0) (HR0.out.below T0) hn hm).mono ?_)
    rintro e w1 ⟨rfl, hb1⟩
    have T1 : Below W0.heap.size W0 w1 := T0.trans (hb1.mono T0.size)
    clear bx0 bx1 bx2
    have bx0 := (T1.cell (p := ⟨w.heap.size, 0, none⟩) hbx).trans HBX.out.1
    have bx1 := (T1.cell (p := ⟨w.heap.size, 1, none⟩) hbx).trans HBX.out.2.1
    have bx2 := (T1.cell (p := ⟨w.heap.size, 2, none⟩) hbx).trans HBX.out.2.2
    rw [HC.out]
    go_wp2
    go_ret2
    exact ⟨gret2b HE.out, (HTW.out.trans (T1.mono (Nat.le_of_lt hbx)))⟩
  obtain ⟨l0, l4⟩ := inR_iff.1 hL
  have HE : Hid (icR F R rd limit f r = (crossR F.length R.length limit f r, 0)) := by show _ = _; unfold icR; rw [hA, hB, hL]; rfl
  have HC : Hid (code11 F R rd limit f r = 0) := by show _ = _; unfold code11; rw [hA, hB, hL]; rfl
  go_enter Try.func21, Try.ntmps21
  go_wp2_with fail
  generalize hw : w.alloc (.cells #[.slice aF F.length cF, .slice aR R.length cR, .int .i64 rd] 28) = W0
  have bx0 : W0.cell? ⟨w.heap.size, 0, none⟩ = some (.slice aF F.length cF) := by rw [← hw]; simp [go_sem]
  have bx1 : W0.cell? ⟨w.heap.size, 1, none⟩ = some (.slice aR R.length cR) := by rw [← hw]; simp [go_sem]
  have bx2 : W0.cell? ⟨w.heap.size, 2, none⟩ = some (.int .i64 rd) := by rw [← hw]; simp [go_sem]
  have hbx : w.heap.size < W0.heap.size := by rw [← hw]; simp
  have HTW : Hid (Below w.heap.size w W0) := by
    show Below _ _ _
    rw [← hw]; exact (Below.refl _ _).alloc (Nat.le_refl _) _
  have HF0 := Lib.hid (show RdI W0 (.slice aF F.length cF) F by rw [← hw]; exact HF.out.alloc _)
  have HR0 := Lib.hid (show RdI W0 (.slice aR R.length cR) R by rw [← hw]; exact HRr.out.alloc _)
  have HBX := Lib.hid (And.intro bx0 (And.intro bx1 bx2))
  have T0 := Below.refl W0.heap.size W0
  clear hw
  go_wp2_with fail
  (with_reducible refine (l11Code_any _ _ F R rd _ _ _ _ (HF0.out.below T0) (HR0.out.below T0) hn hm).mono ?_)
  rintro e w1 ⟨rfl, hb1⟩
  have T1 : Below W0.heap.size W0 w1 := T0.trans (hb1.mono T0.size)
  clear bx0 bx1 bx2
  have bx0 := (T1.cell (p := ⟨w.heap.size, 0, none⟩) hbx).trans HBX.out.1
  have bx1 := (T1.cell (p := ⟨w.heap.size, 1, none⟩) hbx).trans HBX.out.2.1
  have bx2 := (T1.cell (p := ⟨w.heap.size, 2, none⟩) hbx).trans HBX.out.2.2
  rw [HC.out]
  go_wp2_with fail
  (with_reducible refine (l11Crossed_any _ _ F R rd _ _ _ _ (HF0.out.below T1) (HR0.out.below T1) hn hm l0 l4).mono ?_)
  rintro e w2 ⟨rfl, hb2⟩
  have T2 : Below W0.heap.size W0 w2 := T1.trans (hb2.mono T1.size)
  clear bx0 bx1 bx2
  have bx0 := (T2.cell (p := ⟨w.heap.size, 0, none⟩) hbx).trans HBX.out.1
  have bx1 := (T2.cell (p := ⟨w.heap.size, 1, none⟩) hbx).trans HBX.out.2.1
  have bx2 := (T2.cell (p := ⟨w.heap.size, 2, none⟩) hbx).trans HBX.out.2.2
  go_wp2
  go_ret2
  exact ⟨gret2b HE.out, (HTW.out.trans (T2.mono (Nat.le_of_lt hbx)))⟩

end Go.Proofs.Ytfdnhamkkcmnfaa
