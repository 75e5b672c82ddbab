/- Contract of the program's ReachableGears. -/
import Derived.Test.YtfdnhamkkcmnfaaRgP
import Derived.Test.YtfdnhamkkcmnfaaStpB
import Derived.Test.YtfdnhamkkcmnfaaGeaC
set_option linter.unusedSimpArgs false
set_option linter.unusedVariables false
namespace Go.Proofs.Ytfdnhamkkcmnfaa
open Go.RowKit

set_option maxRecDepth 100000 in
set_option maxHeartbeats 4000000 in
theorem ReachableGears_any (vF vR : Value) (F R : List Int) (rd : Int) (limit f r : Int) (w : World) (hF : RdI w vF F) (hR : RdI w vR R) (hn : F.length ≤ 1048576) (hm : R.length ≤ 1048576)  :
    Calls Try.prog 38 #[.agg #[vF, vR, .int .i64 rd], .int .i64 limit, .int .i64 f, .int .i64 r] w fun e w' => e = .returned (.tuple #[.int .i64 (rgR F R rd limit f r).1, .int .i64 (rgR F R rd limit f r).2]) ∧ Below w.heap.size w w' := by
  have HF := Lib.hid hF
  have HRr := Lib.hid hR
  obtain ⟨aF, cF, rfl, -⟩ := hF
  obtain ⟨aR, cR, rfl, -⟩ := hR
  cases hA : trainR F R rd
  · skip
    have HE : Hid (rgR F R rd limit f r = (0, 1)) := by
      show _ = _
      have hc : codeS F R rd limit f r = 1 := by unfold codeS; rw [hA]; rfl
      unfold rgR
      rw [hc]
      rfl
    have HA := Lib.hid hA
    clear hA
    go_enter Try.func38, Try.ntmps38
    go_wp2_with fail
    generalize hw : w.alloc (.cells #[.slice aF F.length cF, .slice aR R.length cR, .int .i64 rd] 28) = W0
    have bx0 : W0.cell? ⟨w.heap.size, 0, none⟩ = some (.slice aF F.length cF) := by rw [← hw]; simp [go_sem]
    have bx1 : W0.cell? ⟨w.heap.size, 1, none⟩ = some (.slice aR R.length cR) := by rw [← hw]; simp [go_sem]
    have bx2 : W0.cell? ⟨w.heap.size, 2, none⟩ = some (.int .i64 rd) := by rw [← hw]; simp [go_sem]
    have hbx : w.heap.size < W0.heap.size := by rw [← hw]; simp
    have HTW : Hid (Below w.heap.size w W0) := by
      show Below _ _ _
      rw [← hw]; exact (Below.refl _ _).alloc (Nat.le_refl _) _
    have HF0 := Lib.hid (show RdI W0 (.slice aF F.length cF) F by rw [← hw]; exact HF.out.alloc _)
    have HR0 := Lib.hid (show RdI W0 (.slice aR R.length cR) R by rw [← hw]; exact HRr.out.alloc _)
    have HBX := Lib.hid (And.intro bx0 (And.intro bx1 bx2))
    have T0 := Below.refl W0.heap.size W0
    clear hw
    go_wp2_with fail
    (with_reducible refine (IsTrain_any _ _ F R rd _ (HF0.out.below T0) (HR0.out.below T0) hn hm).mono ?_)
    rintro e w1 ⟨rfl, hb1⟩
    have T1 : Below W0.heap.size W0 w1 := T0.trans (hb1.mono T0.size)
    clear bx0 bx1 bx2
    have bx0 := (T1.cell (p := ⟨w.heap.size, 0, none⟩) hbx).trans HBX.out.1
    have bx1 := (T1.cell (p := ⟨w.heap.size, 1, none⟩) hbx).trans HBX.out.2.1
    have bx2 := (T1.cell (p := ⟨w.heap.size, 2, none⟩) hbx).trans HBX.out.2.2
    rw [HA.out]
    go_wp2
    go_ret2
    exact ⟨gret2 HE.out, (HTW.out.trans (T1.mono (Nat.le_of_lt hbx)))⟩
  cases hL : inR limit 0 4
  · skip
    have HE : Hid (rgR F R rd limit f r = (0, 2)) := by
      show _ = _
      have hc : codeS F R rd limit f r = 2 := by unfold codeS; rw [hA, hL, Bool.and_false]; rfl
      unfold rgR
      rw [hc]
      rfl
    have HA := Lib.hid hA
    have HL := Lib.hid hL
    clear hA hL
    go_enter Try.func38, Try.ntmps38
    go_wp2_with fail
    generalize hw : w.alloc (.cells #[.slice aF F.length cF, .slice aR R.length cR, .int .i64 rd] 28) = W0
    have bx0 : W0.cell? ⟨w.heap.size, 0, none⟩ = some (.slice aF F.length cF) := by rw [← hw]; simp [go_sem]
    have bx1 : W0.cell? ⟨w.heap.size, 1, none⟩ = some (.slice aR R.length cR) := by rw [← hw]; simp [go_sem]
    have bx2 : W0.cell? ⟨w.heap.size, 2, none⟩ = some (.int .i64 rd) := by rw [← hw]; simp [go_sem]
    have hbx : w.heap.size < W0.heap.size := by rw [← hw]; simp
    have HTW : Hid (Below w.heap.size w W0) := by
      show Below _ _ _
      rw [← hw]; exact (Below.refl _ _).alloc (Nat.le_refl _) _
    have HF0 := Lib.hid (show RdI W0 (.slice aF F.length cF) F by rw [← hw]; exact HF.out.alloc _)
    have HR0 := Lib.hid (show RdI W0 (.slice aR R.length cR) R by rw [← hw]; exact HRr.out.alloc _)
    have HBX := Lib.hid (And.intro bx0 (And.intro bx1 bx2))
    have T0 := Below.refl W0.heap.size W0
    clear hw
    go_wp2_with fail
    (with_reducible refine (IsTrain_any _ _ F R rd _ (HF0.out.below T0) (HR0.out.below T0) hn hm).mono ?_)
    rintro e w1 ⟨rfl, hb1⟩
    have T1 : Below W0.heap.size W0 w1 := T0.trans (hb1.mono T0.size)
    clear bx0 bx1 bx2
    have bx0 := (T1.cell (p := ⟨w.heap.size, 0, none⟩) hbx).trans HBX.out.1
    have bx1 := (T1.cell (p := ⟨w.heap.size, 1, none⟩) hbx).trans HBX.out.2.1
    have bx2 := (T1.cell (p := ⟨w.heap.size, 2, none⟩) hbx).trans HBX.out.2.2
    rw [HA.out]
    go_wp2_with fail
    (with_reducible refine (isLimit_any _ _).mono ?_)
    rintro e _ ⟨rfl, rfl⟩
    rw [HL.out]
    go_wp2
    go_ret2
    exact ⟨gret2 HE.out, (HTW.out.trans (T1.mono (Nat.le_of_lt hbx)))⟩
  cases hB : gearR F R f r
  · skip
    have HE : Hid (rgR F R rd limit f r = (0, 2)) := by
      show _ = _
      have hc : codeS F R rd limit f r = 2 := by unfold codeS; rw [hA, hB, Bool.false_and]; rfl
      unfold rgR
      rw [hc]
      rfl
    have HA := Lib.hid hA
    have HL := Lib.hid hL
    have HB := Lib.hid hB
    clear hA hL hB
    go_enter Try.func38, Try.ntmps38
    go_wp2_with fail
    generalize hw : w.alloc (.cells #[.slice aF F.length cF, .slice aR R.length cR, .int .i64 rd] 28) = W0
    have bx0 : W0.cell? ⟨w.heap.size, 0, none⟩ = some (.slice aF F.length cF) := by rw [← hw]; simp [go_sem]
    have bx1 : W0.cell? ⟨w.heap.size, 1, none⟩ = some (.slice aR R.length cR) := by rw [← hw]; simp [go_sem]
    have bx2 : W0.cell? ⟨w.heap.size, 2, none⟩ = some (.int .i64 rd) := by rw [← hw]; simp [go_sem]
    have hbx : w.heap.size < W0.heap.size := by rw [← hw]; simp
    have HTW : Hid (Below w.heap.size w W0) := by
      show Below _ _ _
      rw [← hw]; exact (Below.refl _ _).alloc (Nat.le_refl _) _
    have HF0 := Lib.hid (show RdI W0 (.slice aF F.length cF) F by rw [← hw]; exact HF.out.alloc _)
    have HR0 := Lib.hid (show RdI W0 (.slice aR R.length cR) R by rw [← hw]; exact HRr.out.alloc _)
    have HBX := Lib.hid (And.intro bx0 (And.intro bx1 bx2))
    have T0 := Below.refl W0.heap.size W0
    clear hw
    go_wp2_with fail
    (with_reducible refine (IsTrain_any _ _ F R rd _ (HF0.out.below T0) (HR0.out.below T0) hn hm).mono ?_)
    rintro e w1 ⟨rfl, hb1⟩
    have T1 : Below W0.heap.size W0 w1 := T0.trans (hb1.mono T0.size)
    clear bx0 bx1 bx2
    have bx0 := (T1.cell (p := ⟨w.heap.size, 0, none⟩) hbx).trans HBX.out.1
    have bx1 := (T1.cell (p := ⟨w.heap.size, 1, none⟩) hbx).trans HBX.out.2.1
    have bx2 := (T1.cell (p := ⟨w.heap.size, 2, none⟩) hbx).trans HBX.out.2.2
    rw [HA.out]
    go_wp2_with fail
    (with_reducible refine (isLimit_any _ _).mono ?_)
    rintro e _ ⟨rfl, rfl⟩
    rw [HL.out]
    go_wp2_with fail
    (with_reducible refine (isGear_any _ _ F R rd _ _ _ (HF0.out.below T1) (HR0.out.below T1) hn hm).mono ?_)
    rintro e w2 ⟨rfl, hb2⟩
    have T2 : Below W0.heap.size W0 w2 := T1.trans (hb2.mono T1.size)
    clear bx0 bx1 bx2
    have bx0 := (T2.cell (p := ⟨w.heap.size, 0, none⟩) hbx).trans HBX.out.1
    have bx1 := (T2.cell (p := ⟨w.heap.size, 1, none⟩) hbx).trans HBX.out.2.1
    have bx2 := (T2.cell (p := ⟨w.heap.size, 2, none⟩) hbx).trans HBX.out.2.2
    rw [HB.out]
    go_wp2
    go_ret2
    exact ⟨gret2 HE.out, (HTW.out.trans (T2.mono (Nat.le_of_lt hbx)))⟩
  obtain ⟨l0, l4⟩ := inR_iff.1 hL
  cases hX : crossR F.length R.length limit f r
  rotate_left
  · skip
    have HE : Hid (rgR F R rd limit f r = (0, 5)) := by
      show _ = _
      have hc : codeS F R rd limit f r = 5 := by unfold codeS; rw [hA, hB, hL, hX]; rfl
      unfold rgR
      rw [hc]
      rfl
    have HA := Lib.hid hA
    have HL := Lib.hid hL
    have HB := Lib.hid hB
    have HX := Lib.hid hX
    clear hA hL hB hX
    go_enter Try.func38, Try.ntmps38
    go_wp2_with fail
    generalize hw : w.alloc (.cells #[.slice aF F.length cF, .slice aR R.length cR, .int .i64 rd] 28) = W0
    have bx0 : W0.cell? ⟨w.heap.size, 0, none⟩ = some (.slice aF F.length cF) := by rw [← hw]; simp [go_sem]
    have bx1 : W0.cell? ⟨w.heap.size, 1, none⟩ = some (.slice aR R.length cR) := by rw [← hw]; simp [go_sem]
    have bx2 : W0.cell? ⟨w.heap.size, 2, none⟩ = some (.int .i64 rd) := by rw [← hw]; simp [go_sem]
    have hbx : w.heap.size < W0.heap.size := by rw [← hw]; simp
    have HTW : Hid (Below w.heap.size w W0) := by
      show Below _ _ _
      rw [← hw]; exact (Below.refl _ _).alloc (Nat.le_refl _) _
    have HF0 := Lib.hid (show RdI W0 (.slice aF F.length cF) F by rw [← hw]; exact HF.out.alloc _)
    have HR0 := Lib.hid (show RdI W0 (.slice aR R.length cR) R by rw [← hw]; exact HRr.out.alloc _)
    have HBX := Lib.hid (And.intro bx0 (And.intro bx1 bx2))
    have T0 := Below.refl W0.heap.size W0
    clear hw
    go_wp2_with fail
    (with_reducible refine (IsTrain_any _ _ F R rd _ (HF0.out.below T0) (HR0.out.below T0) hn hm).mono ?_)
    rintro e w1 ⟨rfl, hb1⟩
    have T1 : Below W0.heap.size W0 w1 := T0.trans (hb1.mono T0.size)
    clear bx0 bx1 bx2
    have bx0 := (T1.cell (p := ⟨w.heap.size, 0, none⟩) hbx).trans HBX.out.1
    have bx1 := (T1.cell (p := ⟨w.heap.size, 1, none⟩) hbx).trans HBX.out.2.1
    have bx2 := (T1.cell (p := ⟨w.heap.size, 2, none⟩) hbx).trans HBX.out.2.2
    rw [HA.out]
    go_wp2_with fail
    (with_reducible refine (isLimit_any _ _).mono ?_)
    rintro e _ ⟨rfl, rfl⟩
    rw [HL.out]
    go_wp2_with fail
    (with_reducible refine (isGear_any _ _ F R rd _ _ _ (HF0.out.below T1) (HR0.out.below T1) hn hm).mono ?_)
    rintro e w2 ⟨rfl, hb2⟩
    have T2 : Below W0.heap.size W0 w2 := T1.trans (hb2.mono T1.size)
    clear bx0 bx1 bx2
    have bx0 := (T2.cell (p := ⟨w.heap.size, 0, none⟩) hbx).trans HBX.out.1
    have bx1 := (T2.cell (p := ⟨w.heap.size, 1, none⟩) hbx).trans HBX.out.2.1
    have bx2 := (T2.cell (p := ⟨w.heap.size, 2, none⟩) hbx).trans HBX.out.2.2
    rw [HB.out]
    go_wp2_with fail
    (with_reducible refine (crossed_any _ _ F R rd _ _ _ _ (HF0.out.below T2) (HR0.out.below T2) hn hm l0 l4).mono ?_)
    rintro e w3 ⟨rfl, hb3⟩
    have T3 : Below W0.heap.size W0 w3 := T2.trans (hb3.mono T2.size)
    clear bx0 bx1 bx2
    have bx0 := (T3.cell (p := ⟨w.heap.size, 0, none⟩) hbx).trans HBX.out.1
    have bx1 := (T3.cell (p := ⟨w.heap.size, 1, none⟩) hbx).trans HBX.out.2.1
    have bx2 := (T3.cell (p := ⟨w.heap.size, 2, none⟩) hbx).trans HBX.out.2.2
    rw [HX.out]
    go_wp2
    go_ret2
    exact ⟨gret2 HE.out, (HTW.out.trans (T3.mono (Nat.le_of_lt hbx)))⟩
  · have hc := codeS_zero hA hB hL hX
    have HC := Lib.hid hc
    obtain ⟨tF, tR, -, -⟩ := trainR_at hA
    have h3 : F.length ≤ 3 := by have := (teethR_at tF).2.1; omega
    have h12 : R.length ≤ 12 := by have := (teethR_at tR).2.1; omega
    have hok := okB_of (limit := limit) hB hX
    have HOK := Lib.hid hok
    have hgd := gearR_bd hB
    clear hok hc tF tR
    obtain ⟨f, rfl⟩ : ∃ f0 : Nat, f = (f0 : Int) := ⟨f.toNat, by omega⟩
    obtain ⟨r, rfl⟩ : ∃ r0 : Nat, r = (r0 : Int) := ⟨r.toNat, by omega⟩
    have HA := Lib.hid hA
    have HL := Lib.hid hL
    have HB := Lib.hid hB
    have HX := Lib.hid hX
    clear hA hL hB hX
    go_enter Try.func38, Try.ntmps38
    go_wp2_with fail
    generalize hw : w.alloc (.cells #[.slice aF F.length cF, .slice aR R.length cR, .int .i64 rd] 28) = W0
    have bx0 : W0.cell? ⟨w.heap.size, 0, none⟩ = some (.slice aF F.length cF) := by rw [← hw]; simp [go_sem]
    have bx1 : W0.cell? ⟨w.heap.size, 1, none⟩ = some (.slice aR R.length cR) := by rw [← hw]; simp [go_sem]
    have bx2 : W0.cell? ⟨w.heap.size, 2, none⟩ = some (.int .i64 rd) := by rw [← hw]; simp [go_sem]
    have hbx : w.heap.size < W0.heap.size := by rw [← hw]; simp
    have HTW : Hid (Below w.heap.size w W0) := by
      show Below _ _ _
      rw [← hw]; exact (Below.refl _ _).alloc (Nat.le_refl _) _
    have HF0 := Lib.hid (show RdI W0 (.slice aF F.length cF) F by rw [← hw]; exact HF.out.alloc _)
    have HR0 := Lib.hid (show RdI W0 (.slice aR R.length cR) R by rw [← hw]; exact HRr.out.alloc _)
    have HBX := Lib.hid (And.intro bx0 (And.intro bx1 bx2))
    have T0 := Below.refl W0.heap.size W0
    clear hw
    go_wp2_with fail
    (with_reducible refine (IsTrain_any _ _ F R rd _ (HF0.out.below T0) (HR0.out.below T0) hn hm).mono ?_)
    rintro e w1 ⟨rfl, hb1⟩
    have T1 : Below W0.heap.size W0 w1 := T0.trans (hb1.mono T0.size)
    clear bx0 bx1 bx2
    have bx0 := (T1.cell (p := ⟨w.heap.size, 0, none⟩) hbx).trans HBX.out.1
    have bx1 := (T1.cell (p := ⟨w.heap.size, 1, none⟩) hbx).trans HBX.out.2.1
    have bx2 := (T1.cell (p := ⟨w.heap.size, 2, none⟩) hbx).trans HBX.out.2.2
    rw [HA.out]
    go_wp2_with fail
    (with_reducible refine (isLimit_any _ _).mono ?_)
    rintro e _ ⟨rfl, rfl⟩
    rw [HL.out]
    go_wp2_with fail
    (with_reducible refine (isGear_any _ _ F R rd _ _ _ (HF0.out.below T1) (HR0.out.below T1) hn hm).mono ?_)
    rintro e w2 ⟨rfl, hb2⟩
    have T2 : Below W0.heap.size W0 w2 := T1.trans (hb2.mono T1.size)
    clear bx0 bx1 bx2
    have bx0 := (T2.cell (p := ⟨w.heap.size, 0, none⟩) hbx).trans HBX.out.1
    have bx1 := (T2.cell (p := ⟨w.heap.size, 1, none⟩) hbx).trans HBX.out.2.1
    have bx2 := (T2.cell (p := ⟨w.heap.size, 2, none⟩) hbx).trans HBX.out.2.2
    rw [HB.out]
    go_wp2_with fail
    (with_reducible refine (crossed_any _ _ F R rd _ _ _ _ (HF0.out.below T2) (HR0.out.below T2) hn hm l0 l4).mono ?_)
    rintro e w3 ⟨rfl, hb3⟩
    have T3 : Below W0.heap.size W0 w3 := T2.trans (hb3.mono T2.size)
    clear bx0 bx1 bx2
    have bx0 := (T3.cell (p := ⟨w.heap.size, 0, none⟩) hbx).trans HBX.out.1
    have bx1 := (T3.cell (p := ⟨w.heap.size, 1, none⟩) hbx).trans HBX.out.2.1
    have bx2 := (T3.cell (p := ⟨w.heap.size, 2, none⟩) hbx).trans HBX.out.2.2
    rw [HX.out]
    go_wp2_with fail
    (with_reducible refine (stepsTo_any _ _ F R rd limit f r _ (HF0.out.below T3) (HR0.out.below T3) hn hm l0 l4 h3 h12 HOK.out).mono ?_)
    rintro e w4 ⟨go, bs, D, V, rfl, hM, hbl, hdm, hD, hb4⟩
    have T4 : Below W0.heap.size W0 w4 := T3.trans (hb4.mono T3.size)
    clear bx0 bx1 bx2
    have bx0 := (T4.cell (p := ⟨w.heap.size, 0, none⟩) hbx).trans HBX.out.1
    have bx1 := (T4.cell (p := ⟨w.heap.size, 1, none⟩) hbx).trans HBX.out.2.1
    have bx2 := (T4.cell (p := ⟨w.heap.size, 2, none⟩) hbx).trans HBX.out.2.2
    clear bx0 bx1 bx2
    have HE : Hid (rgR F R rd limit f r = (cntG D R.length F.length, 0)) := by
      show _ = _
      unfold rgR
      rw [if_pos HC.out, (fnd_done HOK.out h3 h12).len hD, hD.cntD HOK.out hdm]
    have HM := Lib.hid hM
    have HBL := Lib.hid hbl
    clear hM hbl hdm hD
    go_wp2
    go_loopw [10, 39] (fun cv iv wr => ∃ k : Nat, k ≤ F.length ∧ iv = .int .i64 k ∧ cv = .int .i64 (cntG D R.length k) ∧ Below w4.heap.size w4 wr) (fun _ iv _ => F.length - (intOf iv).toNat)
    case atStart => exact ⟨0, Nat.zero_le _, rfl, rfl, Below.refl _ _⟩
    case round =>
      obtain ⟨k, hk, rfl, rfl, hbw⟩ := hrel
      by_cases hlt : k < F.length
      · obtain ⟨b, hb⟩ : ∃ b, bs[k]? = some b := ⟨_, List.getElem?_eq_getElem (by rw [HBL.out]; exact hlt)⟩
        have HB := Lib.hid hb
        have hkI : (k : Int) < (F.length : Int) := by omega
        have hk0 : (0 : Int) ≤ (k : Int) := by omega
        have cO := (HM.out.below hbw).cellO hb
        have hg := cntG_bd D h12 k
        have HG : Hid (cntG D R.length (k + 1) = cntG D R.length k + cntRow D k R.length) := rfl
        clear hb
        generalize cntG D R.length k = ck at *
        go_wp2
        clear cO
        go_loopw [10, 45] (fun cv jv wr => ∃ j : Nat, j ≤ R.length ∧ jv = .int .i64 j ∧ cv = .int .i64 (ck + cntRow D k j) ∧ Below w4.heap.size w4 wr) (fun _ jv _ => R.length - (intOf jv).toNat)
        case atStart => exact ⟨0, Nat.zero_le _, rfl, by simp [cntRow], hbw⟩
        case round =>
          clear hbw
          obtain ⟨j, hj, rfl, rfl, hbw⟩ := hrel
          by_cases hlj : j < R.length
          · have hjI : (j : Int) < (R.length : Int) := by omega
            have hj0 : (0 : Int) ≤ (j : Int) := by omega
            have cR := ((HM.out.below hbw).cellR HB.out hlj).1
            have hr := cntRow_bd D k j
            have HR1 : Hid (cntRow D k (j + 1) = cntRow D k j + (if 0 ≤ D k j then 1 else 0)) := rfl
            generalize cntRow D k j = rj at *
            by_cases hd : 0 ≤ D k j
            · have HR2 : Hid (cntRow D k (j + 1) = rj + 1) := by show _ = _; rw [HR1.out, if_pos hd]
              have hdd : decide (0 ≤ D k j) = true := decide_eq_true hd
              have hw1 : IntKind.i64.wrap (ck + rj + 1) = ck + rj + 1 := IntWalk.i64_in _ (by omega)
              clear HR1
              generalize D k j = dv at *
              go_wp2
              go_roundw
              case rel => exact ⟨j + 1, by omega, by go_num, by rw [HR2.out, Int.add_assoc], hbw⟩
              case measure => simp [intOf]; omega
            · have HR2 : Hid (cntRow D k (j + 1) = rj) := by show _ = _; rw [HR1.out, if_neg hd, Int.add_zero]
              have hdd : decide (0 ≤ D k j) = false := decide_eq_false hd
              clear HR1
              generalize D k j = dv at *
              go_wp2
              go_roundw
              case rel => exact ⟨j + 1, by omega, by go_num, by rw [HR2.out], hbw⟩
              case measure => simp [intOf]; omega
          · obtain rfl : j = R.length := by omega
            go_wp2
            go_roundw
            case rel => exact ⟨k + 1, by omega, by go_num, by rw [HG.out], hbw⟩
            case measure => simp [intOf]; omega
      · obtain rfl : k = F.length := by omega
        go_wp2
        go_ret2
        exact ⟨gret2 HE.out, (HTW.out.trans ((T4.trans (hbw.mono T4.size)).mono (Nat.le_of_lt hbx)))⟩
end Go.Proofs.Ytfdnhamkkcmnfaa
