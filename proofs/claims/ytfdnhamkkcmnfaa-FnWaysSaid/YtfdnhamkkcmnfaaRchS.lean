/- Contract of the reference's ReachableGears. -/
import Derived.Test.YtfdnhamkkcmnfaaRgP
import Derived.Test.YtfdnhamkkcmnfaaWayA
import Derived.Test.YtfdnhamkkcmnfaaGeaF
set_option linter.unusedSimpArgs false
set_option linter.unusedVariables false
namespace Go.Proofs.Ytfdnhamkkcmnfaa
open Go.RowKit

set_option maxHeartbeats 800000 in
theorem sReachableGears_any (vF vR : Value) (F R : List Int) (rd : Int) (limit f r : Int) (w : World) (hF : RdI w vF F) (hR : RdI w vR R) (hn : F.length ≤ 1048576) (hm : R.length ≤ 1048576)  :
    Calls Try.prog 37 #[.agg #[vF, vR, .int .i64 rd], .int .i64 limit, .int .i64 f, .int .i64 r] w fun e w' => e = .returned (.tuple #[.int .i64 (rgR F R rd limit f r).1, .int .i64 (rgR F R rd limit f r).2]) ∧ Below w.heap.size w w' := by
  have HF := Lib.hid hF
  have HRr := Lib.hid hR
  obtain ⟨aF, cF, rfl, -⟩ := hF
  obtain ⟨aR, cR, rfl, -⟩ := hR
  by_cases hc : codeS F R rd limit f r = 0
  rotate_left
  · have HE : Hid (rgR F R rd limit f r = (0, codeS F R rd limit f r)) := by show _ = _; unfold rgR; rw [if_neg hc]
    go_enter Try.func37, Try.ntmps37
    go_wp2_with fail
    generalize hw : w.alloc (.cells #[.slice aF F.length cF, .slice aR R.length cR, .int .i64 rd] 28) = W0
    have bx0 : W0.cell? ⟨w.heap.size, 0, none⟩ = some (.slice aF F.length cF) := by rw [← hw]; simp [go_sem]
    have bx1 : W0.cell? ⟨w.heap.size, 1, none⟩ = some (.slice aR R.length cR) := by rw [← hw]; simp [go_sem]
    have bx2 : W0.cell? ⟨w.heap.size, 2, none⟩ = some (.int .i64 rd) := by rw [← hw]; simp [go_sem]
    have hbx : w.heap.size < W0.heap.size := by rw [← hw]; simp
    have HTW : Hid (Below w.heap.size w W0) := by
      show Below _ _ _
      rw [← hw]; exact (Below.refl _ _).alloc (Nat.le_refl _) _
    have HF0 := Lib.hid (show RdI W0 (.slice aF F.length cF) F by rw [← hw]; exact HF.out.alloc _)
    have HR0 := Lib.hid (show RdI W0 (.slice aR R.length cR) R by rw [← hw]; exact HRr.out.alloc _)
    have HBX := Lib.hid (And.intro bx0 (And.intro bx1 bx2))
    have T0 := Below.refl W0.heap.size W0
    clear hw
    go_wp2_with fail
    (with_reducible refine (l11Start_any _ _ F R rd _ _ _ _ (HF0.out.below T0) (HR0.out.below T0) hn hm).mono ?_)
    rintro e w1 ⟨rfl, hb1⟩
    have T1 : Below W0.heap.size W0 w1 := T0.trans (hb1.mono T0.size)
    clear bx0 bx1 bx2
    have bx0 := (T1.cell (p := ⟨w.heap.size, 0, none⟩) hbx).trans HBX.out.1
    have bx1 := (T1.cell (p := ⟨w.heap.size, 1, none⟩) hbx).trans HBX.out.2.1
    have bx2 := (T1.cell (p := ⟨w.heap.size, 2, none⟩) hbx).trans HBX.out.2.2
    have h0 : (codeS F R rd limit f r != 0) = true := by rw [bne_iff_ne]; exact hc
    generalize codeS F R rd limit f r = q at *
    go_wp2
    go_ret2
    exact ⟨gret2 HE.out, (HTW.out.trans (T1.mono (Nat.le_of_lt hbx)))⟩
  · skip
    obtain ⟨hA, hB, hL, hX⟩ := codeS_ok hc
    obtain ⟨l0, l4⟩ := inR_iff.1 hL
    obtain ⟨tF, tR, -, -⟩ := trainR_at hA
    have h3 : F.length ≤ 3 := by have := (teethR_at tF).2.1; omega
    have h12 : R.length ≤ 12 := by have := (teethR_at tR).2.1; omega
    have hok := okB_of (limit := limit) hB hX
    have HC := Lib.hid hc
    have HOK := Lib.hid hok
    clear hA hB hL hX hok hc tF tR
    go_enter Try.func37, Try.ntmps37
    go_wp2_with fail
    generalize hw : w.alloc (.cells #[.slice aF F.length cF, .slice aR R.length cR, .int .i64 rd] 28) = W0
    have bx0 : W0.cell? ⟨w.heap.size, 0, none⟩ = some (.slice aF F.length cF) := by rw [← hw]; simp [go_sem]
    have bx1 : W0.cell? ⟨w.heap.size, 1, none⟩ = some (.slice aR R.length cR) := by rw [← hw]; simp [go_sem]
    have bx2 : W0.cell? ⟨w.heap.size, 2, none⟩ = some (.int .i64 rd) := by rw [← hw]; simp [go_sem]
    have hbx : w.heap.size < W0.heap.size := by rw [← hw]; simp
    have HTW : Hid (Below w.heap.size w W0) := by
      show Below _ _ _
      rw [← hw]; exact (Below.refl _ _).alloc (Nat.le_refl _) _
    have HF0 := Lib.hid (show RdI W0 (.slice aF F.length cF) F by rw [← hw]; exact HF.out.alloc _)
    have HR0 := Lib.hid (show RdI W0 (.slice aR R.length cR) R by rw [← hw]; exact HRr.out.alloc _)
    have HBX := Lib.hid (And.intro bx0 (And.intro bx1 bx2))
    have T0 := Below.refl W0.heap.size W0
    clear hw
    go_wp2_with fail
    (with_reducible refine (l11Start_any _ _ F R rd _ _ _ _ (HF0.out.below T0) (HR0.out.below T0) hn hm).mono ?_)
    rintro e w1 ⟨rfl, hb1⟩
    have T1 : Below W0.heap.size W0 w1 := T0.trans (hb1.mono T0.size)
    clear bx0 bx1 bx2
    have bx0 := (T1.cell (p := ⟨w.heap.size, 0, none⟩) hbx).trans HBX.out.1
    have bx1 := (T1.cell (p := ⟨w.heap.size, 1, none⟩) hbx).trans HBX.out.2.1
    have bx2 := (T1.cell (p := ⟨w.heap.size, 2, none⟩) hbx).trans HBX.out.2.2
    rw [HC.out]
    go_wp2_with fail
    (with_reducible refine (l11Ways_any _ _ F R rd limit f r _ (HF0.out.below T1) (HR0.out.below T1) hn hm l0 l4 h3 h12 HOK.out).mono ?_)
    rintro e w2 ⟨sv, wv, V, rfl, hD, hst, hb2⟩
    have T2 : Below W0.heap.size W0 w2 := T1.trans (hb2.mono T1.size)
    clear bx0 bx1 bx2
    have bx0 := (T2.cell (p := ⟨w.heap.size, 0, none⟩) hbx).trans HBX.out.1
    have bx1 := (T2.cell (p := ⟨w.heap.size, 1, none⟩) hbx).trans HBX.out.2.1
    have bx2 := (T2.cell (p := ⟨w.heap.size, 2, none⟩) hbx).trans HBX.out.2.2
    obtain ⟨gs, cs, gw, cw, e5, e6⟩ := hst.shape (getq_lt hD.first)
    subst e5 e6
    have HE : Hid (rgR F R rd limit f r = ((V.length : Int), 0)) := by
      show _ = _
      unfold rgR
      rw [if_pos HC.out, (fnd_done HOK.out h3 h12).len hD]
    clear hD hst
    go_wp2
    go_ret2
    exact ⟨gret2 HE.out, (HTW.out.trans (T2.mono (Nat.le_of_lt hbx)))⟩

end Go.Proofs.Ytfdnhamkkcmnfaa
