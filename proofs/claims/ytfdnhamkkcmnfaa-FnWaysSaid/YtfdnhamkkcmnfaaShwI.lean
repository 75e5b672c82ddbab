/- Contract of the program's ShortestWay. -/
import Derived.Test.YtfdnhamkkcmnfaaShwP
import Derived.Test.YtfdnhamkkcmnfaaStpB
import Derived.Test.YtfdnhamkkcmnfaaGeaC
import Derived.Deep.QuietTactic
import Derived.BigQuiet
set_option linter.unusedSimpArgs false
set_option linter.unusedVariables false
namespace Go.Proofs.Ytfdnhamkkcmnfaa
open Go.RowKit

theorem Done.chain {F R : List Int} {limit : Int} {t : Gr} {U : Fnd} (hU : Done mvB (okB F R limit) t U) (ht : okB F R limit t = true) : ∀ (k : Nat) (g : Gr), dOf U g = k → ∃ l : List Gr, l.length = k + 1 ∧ l.Nodup ∧ ∀ x ∈ l, 0 ≤ dOf U x ∧ dOf U x ≤ k := by
  intro k
  induction k with
  | zero => intro g hg; exact ⟨[g], rfl, by simp, fun x hx => by simp at hx; subst hx; omega⟩
  | succ k ih =>
    intro g hg
    obtain ⟨q, q0, q3, hq, hqd⟩ := hU.move mvB_back ht (k := k) (g := g) (by omega)
    obtain ⟨l, h1, h2, h3⟩ := ih _ hqd
    refine ⟨g :: l, by simp [h1], ?_, fun x hx => ?_⟩
    · rw [List.nodup_cons]
      refine ⟨fun hm => ?_, h2⟩
      have := h3 g hm
      omega
    · rcases List.mem_cons.1 hx with rfl | hx
      · omega
      · have := h3 x hx
        omega
theorem Done.bound {F R : List Int} {limit : Int} {t g : Gr} {U : Fnd} (hU : Done mvB (okB F R limit) t U) (ht : okB F R limit t = true) (h3 : F.length ≤ 3) (h12 : R.length ≤ 12) : dOf U g ≤ 36 := by
  rcases Int.lt_or_le (dOf U g) 0 with h | h
  · omega
  · obtain ⟨k, hk⟩ : ∃ k : Nat, dOf U g = k := ⟨(dOf U g).toNat, by omega⟩
    obtain ⟨l, h1, h2, h4⟩ := hU.chain ht k g hk
    have h5 := nodup_le l (gridG F.length R.length) h2 (fun x hx => by
      obtain ⟨j, y, hy, e⟩ := hasP_iff.1 (dOf_nn.1 (h4 x hx).1)
      rw [← e]
      exact gridG_mem.2 (okB_grid ((hU.path j y hy).good ht)))
    rw [gridG_len] at h5
    have := Nat.mul_le_mul h3 h12
    omega
theorem blw_drewNS {B : Nat} {a w : World} (h : Below B a w) (n : Nat) : Below B a (w.drewN n) := ⟨h.os, h.tape, h.output, h.size, h.block⟩
set_option maxRecDepth 100000 in
set_option maxHeartbeats 8000000 in
theorem ShortestWay_any (vF vR : Value) (F R : List Int) (rd : Int) (limit f r tf tr : Int) (w : World) (hF : RdI w vF F) (hR : RdI w vR R) (hn : F.length ≤ 1048576) (hm : R.length ≤ 1048576)  :
    Calls Try.prog 45 #[.agg #[vF, vR, .int .i64 rd], .int .i64 limit, .int .i64 f, .int .i64 r, .int .i64 tf, .int .i64 tr] w (RetI w (swR F R rd limit f r tf tr)) := by
  have HF := Lib.hid hF
  have HRr := Lib.hid hR
  obtain ⟨aF, cF, rfl, -⟩ := hF
  obtain ⟨aR, cR, rfl, -⟩ := hR
  cases hA : trainR F R rd
  · skip
    have HE : Hid (swR F R rd limit f r tf tr = ([], 1)) := by show _ = _; unfold swR; rw [hA]; rfl
    have HA := Lib.hid hA
    clear hA
    go_enter Try.func45, Try.ntmps45
    go_wp2_with fail
    generalize hw : w.alloc (.cells #[.slice aF F.length cF, .slice aR R.length cR, .int .i64 rd] 28) = W0
    have bx0 : W0.cell? ⟨w.heap.size, 0, none⟩ = some (.slice aF F.length cF) := by rw [← hw]; simp [go_sem]
    have bx1 : W0.cell? ⟨w.heap.size, 1, none⟩ = some (.slice aR R.length cR) := by rw [← hw]; simp [go_sem]
    have bx2 : W0.cell? ⟨w.heap.size, 2, none⟩ = some (.int .i64 rd) := by rw [← hw]; simp [go_sem]
    have hbx : w.heap.size < W0.heap.size := by rw [← hw]; simp
    have HTW : Hid (Below w.heap.size w W0) := by
      show Below _ _ _
      rw [← hw]; exact (Below.refl _ _).alloc (Nat.le_refl _) _
    have HF0 := Lib.hid (show RdI W0 (.slice aF F.length cF) F by rw [← hw]; exact HF.out.alloc _)
    have HR0 := Lib.hid (show RdI W0 (.slice aR R.length cR) R by rw [← hw]; exact HRr.out.alloc _)
    have HBX := Lib.hid (And.intro bx0 (And.intro bx1 bx2))
    have T0 := Below.refl W0.heap.size W0
    clear hw
    go_wp2_with fail
    (with_reducible refine (IsTrain_any _ _ F R rd _ (HF0.out.below T0) (HR0.out.below T0) hn hm).mono ?_)
    rintro e w1 ⟨rfl, hb1⟩
    have T1 : Below W0.heap.size W0 w1 := T0.trans (hb1.mono T0.size)
    clear bx0 bx1 bx2
    have bx0 := (T1.cell (p := ⟨w.heap.size, 0, none⟩) hbx).trans HBX.out.1
    have bx1 := (T1.cell (p := ⟨w.heap.size, 1, none⟩) hbx).trans HBX.out.2.1
    have bx2 := (T1.cell (p := ⟨w.heap.size, 2, none⟩) hbx).trans HBX.out.2.2
    rw [HA.out]
    go_wp2
    go_ret2
    exact RetI.mk HE.out (OwI.nil _ _) (HTW.out.trans (T1.mono (Nat.le_of_lt hbx)))
  cases hL : inR limit 0 4
  · skip
    have HE : Hid (swR F R rd limit f r tf tr = ([], 2)) := by show _ = _; unfold swR; rw [hA, hL, Bool.and_false]; rfl
    have HA := Lib.hid hA
    have HL := Lib.hid hL
    clear hA hL
    go_enter Try.func45, Try.ntmps45
    go_wp2_with fail
    generalize hw : w.alloc (.cells #[.slice aF F.length cF, .slice aR R.length cR, .int .i64 rd] 28) = W0
    have bx0 : W0.cell? ⟨w.heap.size, 0, none⟩ = some (.slice aF F.length cF) := by rw [← hw]; simp [go_sem]
    have bx1 : W0.cell? ⟨w.heap.size, 1, none⟩ = some (.slice aR R.length cR) := by rw [← hw]; simp [go_sem]
    have bx2 : W0.cell? ⟨w.heap.size, 2, none⟩ = some (.int .i64 rd) := by rw [← hw]; simp [go_sem]
    have hbx : w.heap.size < W0.heap.size := by rw [← hw]; simp
    have HTW : Hid (Below w.heap.size w W0) := by
      show Below _ _ _
      rw [← hw]; exact (Below.refl _ _).alloc (Nat.le_refl _) _
    have HF0 := Lib.hid (show RdI W0 (.slice aF F.length cF) F by rw [← hw]; exact HF.out.alloc _)
    have HR0 := Lib.hid (show RdI W0 (.slice aR R.length cR) R by rw [← hw]; exact HRr.out.alloc _)
    have HBX := Lib.hid (And.intro bx0 (And.intro bx1 bx2))
    have T0 := Below.refl W0.heap.size W0
    clear hw
    go_wp2_with fail
    (with_reducible refine (IsTrain_any _ _ F R rd _ (HF0.out.below T0) (HR0.out.below T0) hn hm).mono ?_)
    rintro e w1 ⟨rfl, hb1⟩
    have T1 : Below W0.heap.size W0 w1 := T0.trans (hb1.mono T0.size)
    clear bx0 bx1 bx2
    have bx0 := (T1.cell (p := ⟨w.heap.size, 0, none⟩) hbx).trans HBX.out.1
    have bx1 := (T1.cell (p := ⟨w.heap.size, 1, none⟩) hbx).trans HBX.out.2.1
    have bx2 := (T1.cell (p := ⟨w.heap.size, 2, none⟩) hbx).trans HBX.out.2.2
    rw [HA.out]
    go_wp2_with fail
    (with_reducible refine (isLimit_any _ _).mono ?_)
    rintro e _ ⟨rfl, rfl⟩
    rw [HL.out]
    go_wp2
    go_ret2
    exact RetI.mk HE.out (OwI.nil _ _) (HTW.out.trans (T1.mono (Nat.le_of_lt hbx)))
  cases hB : gearR F R f r
  · skip
    have HE : Hid (swR F R rd limit f r tf tr = ([], 2)) := by show _ = _; unfold swR; rw [hA, hB, Bool.false_and, Bool.false_and]; rfl
    have HA := Lib.hid hA
    have HL := Lib.hid hL
    have HB := Lib.hid hB
    clear hA hL hB
    go_enter Try.func45, Try.ntmps45
    go_wp2_with fail
    generalize hw : w.alloc (.cells #[.slice aF F.length cF, .slice aR R.length cR, .int .i64 rd] 28) = W0
    have bx0 : W0.cell? ⟨w.heap.size, 0, none⟩ = some (.slice aF F.length cF) := by rw [← hw]; simp [go_sem]
    have bx1 : W0.cell? ⟨w.heap.size, 1, none⟩ = some (.slice aR R.length cR) := by rw [← hw]; simp [go_sem]
    have bx2 : W0.cell? ⟨w.heap.size, 2, none⟩ = some (.int .i64 rd) := by rw [← hw]; simp [go_sem]
    have hbx : w.heap.size < W0.heap.size := by rw [← hw]; simp
    have HTW : Hid (Below w.heap.size w W0) := by
      show Below _ _ _
      rw [← hw]; exact (Below.refl _ _).alloc (Nat.le_refl _) _
    have HF0 := Lib.hid (show RdI W0 (.slice aF F.length cF) F by rw [← hw]; exact HF.out.alloc _)
    have HR0 := Lib.hid (show RdI W0 (.slice aR R.length cR) R by rw [← hw]; exact HRr.out.alloc _)
    have HBX := Lib.hid (And.intro bx0 (And.intro bx1 bx2))
    have T0 := Below.refl W0.heap.size W0
    clear hw
    go_wp2_with fail
    (with_reducible refine (IsTrain_any _ _ F R rd _ (HF0.out.below T0) (HR0.out.below T0) hn hm).mono ?_)
    rintro e w1 ⟨rfl, hb1⟩
    have T1 : Below W0.heap.size W0 w1 := T0.trans (hb1.mono T0.size)
    clear bx0 bx1 bx2
    have bx0 := (T1.cell (p := ⟨w.heap.size, 0, none⟩) hbx).trans HBX.out.1
    have bx1 := (T1.cell (p := ⟨w.heap.size, 1, none⟩) hbx).trans HBX.out.2.1
    have bx2 := (T1.cell (p := ⟨w.heap.size, 2, none⟩) hbx).trans HBX.out.2.2
    rw [HA.out]
    go_wp2_with fail
    (with_reducible refine (isLimit_any _ _).mono ?_)
    rintro e _ ⟨rfl, rfl⟩
    rw [HL.out]
    go_wp2_with fail
    (with_reducible refine (isGear_any _ _ F R rd f r _ (HF0.out.below T1) (HR0.out.below T1) hn hm).mono ?_)
    rintro e w2 ⟨rfl, hb2⟩
    have T2 : Below W0.heap.size W0 w2 := T1.trans (hb2.mono T1.size)
    clear bx0 bx1 bx2
    have bx0 := (T2.cell (p := ⟨w.heap.size, 0, none⟩) hbx).trans HBX.out.1
    have bx1 := (T2.cell (p := ⟨w.heap.size, 1, none⟩) hbx).trans HBX.out.2.1
    have bx2 := (T2.cell (p := ⟨w.heap.size, 2, none⟩) hbx).trans HBX.out.2.2
    rw [HB.out]
    go_wp2
    go_ret2
    exact RetI.mk HE.out (OwI.nil _ _) (HTW.out.trans (T2.mono (Nat.le_of_lt hbx)))
  cases hG : gearR F R tf tr
  · skip
    have HE : Hid (swR F R rd limit f r tf tr = ([], 2)) := by show _ = _; unfold swR; rw [hA, hB, hG, hL]; rfl
    have HA := Lib.hid hA
    have HL := Lib.hid hL
    have HB := Lib.hid hB
    have HG := Lib.hid hG
    clear hA hL hB hG
    go_enter Try.func45, Try.ntmps45
    go_wp2_with fail
    generalize hw : w.alloc (.cells #[.slice aF F.length cF, .slice aR R.length cR, .int .i64 rd] 28) = W0
    have bx0 : W0.cell? ⟨w.heap.size, 0, none⟩ = some (.slice aF F.length cF) := by rw [← hw]; simp [go_sem]
    have bx1 : W0.cell? ⟨w.heap.size, 1, none⟩ = some (.slice aR R.length cR) := by rw [← hw]; simp [go_sem]
    have bx2 : W0.cell? ⟨w.heap.size, 2, none⟩ = some (.int .i64 rd) := by rw [← hw]; simp [go_sem]
    have hbx : w.heap.size < W0.heap.size := by rw [← hw]; simp
    have HTW : Hid (Below w.heap.size w W0) := by
      show Below _ _ _
      rw [← hw]; exact (Below.refl _ _).alloc (Nat.le_refl _) _
    have HF0 := Lib.hid (show RdI W0 (.slice aF F.length cF) F by rw [← hw]; exact HF.out.alloc _)
    have HR0 := Lib.hid (show RdI W0 (.slice aR R.length cR) R by rw [← hw]; exact HRr.out.alloc _)
    have HBX := Lib.hid (And.intro bx0 (And.intro bx1 bx2))
    have T0 := Below.refl W0.heap.size W0
    clear hw
    go_wp2_with fail
    (with_reducible refine (IsTrain_any _ _ F R rd _ (HF0.out.below T0) (HR0.out.below T0) hn hm).mono ?_)
    rintro e w1 ⟨rfl, hb1⟩
    have T1 : Below W0.heap.size W0 w1 := T0.trans (hb1.mono T0.size)
    clear bx0 bx1 bx2
    have bx0 := (T1.cell (p := ⟨w.heap.size, 0, none⟩) hbx).trans HBX.out.1
    have bx1 := (T1.cell (p := ⟨w.heap.size, 1, none⟩) hbx).trans HBX.out.2.1
    have bx2 := (T1.cell (p := ⟨w.heap.size, 2, none⟩) hbx).trans HBX.out.2.2
    rw [HA.out]
    go_wp2_with fail
    (with_reducible refine (isLimit_any _ _).mono ?_)
    rintro e _ ⟨rfl, rfl⟩
    rw [HL.out]
    go_wp2_with fail
    (with_reducible refine (isGear_any _ _ F R rd f r _ (HF0.out.below T1) (HR0.out.below T1) hn hm).mono ?_)
    rintro e w2 ⟨rfl, hb2⟩
    have T2 : Below W0.heap.size W0 w2 := T1.trans (hb2.mono T1.size)
    clear bx0 bx1 bx2
    have bx0 := (T2.cell (p := ⟨w.heap.size, 0, none⟩) hbx).trans HBX.out.1
    have bx1 := (T2.cell (p := ⟨w.heap.size, 1, none⟩) hbx).trans HBX.out.2.1
    have bx2 := (T2.cell (p := ⟨w.heap.size, 2, none⟩) hbx).trans HBX.out.2.2
    rw [HB.out]
    go_wp2_with fail
    (with_reducible refine (isGear_any _ _ F R rd tf tr _ (HF0.out.below T2) (HR0.out.below T2) hn hm).mono ?_)
    rintro e w3 ⟨rfl, hb3⟩
    have T3 : Below W0.heap.size W0 w3 := T2.trans (hb3.mono T2.size)
    clear bx0 bx1 bx2
    have bx0 := (T3.cell (p := ⟨w.heap.size, 0, none⟩) hbx).trans HBX.out.1
    have bx1 := (T3.cell (p := ⟨w.heap.size, 1, none⟩) hbx).trans HBX.out.2.1
    have bx2 := (T3.cell (p := ⟨w.heap.size, 2, none⟩) hbx).trans HBX.out.2.2
    rw [HG.out]
    go_wp2
    go_ret2
    exact RetI.mk HE.out (OwI.nil _ _) (HTW.out.trans (T3.mono (Nat.le_of_lt hbx)))
  obtain ⟨l0, l4⟩ := inR_iff.1 hL
  cases hX : crossR F.length R.length limit f r
  rotate_left
  · skip
    have HE : Hid (swR F R rd limit f r tf tr = ([], 5)) := by show _ = _; unfold swR; rw [hA, hB, hG, hL, hX, Bool.true_or]; rfl
    have HA := Lib.hid hA
    have HL := Lib.hid hL
    have HB := Lib.hid hB
    have HG := Lib.hid hG
    have HX := Lib.hid hX
    clear hA hL hB hG hX
    go_enter Try.func45, Try.ntmps45
    go_wp2_with fail
    generalize hw : w.alloc (.cells #[.slice aF F.length cF, .slice aR R.length cR, .int .i64 rd] 28) = W0
    have bx0 : W0.cell? ⟨w.heap.size, 0, none⟩ = some (.slice aF F.length cF) := by rw [← hw]; simp [go_sem]
    have bx1 : W0.cell? ⟨w.heap.size, 1, none⟩ = some (.slice aR R.length cR) := by rw [← hw]; simp [go_sem]
    have bx2 : W0.cell? ⟨w.heap.size, 2, none⟩ = some (.int .i64 rd) := by rw [← hw]; simp [go_sem]
    have hbx : w.heap.size < W0.heap.size := by rw [← hw]; simp
    have HTW : Hid (Below w.heap.size w W0) := by
      show Below _ _ _
      rw [← hw]; exact (Below.refl _ _).alloc (Nat.le_refl _) _
    have HF0 := Lib.hid (show RdI W0 (.slice aF F.length cF) F by rw [← hw]; exact HF.out.alloc _)
    have HR0 := Lib.hid (show RdI W0 (.slice aR R.length cR) R by rw [← hw]; exact HRr.out.alloc _)
    have HBX := Lib.hid (And.intro bx0 (And.intro bx1 bx2))
    have T0 := Below.refl W0.heap.size W0
    clear hw
    go_wp2_with fail
    (with_reducible refine (IsTrain_any _ _ F R rd _ (HF0.out.below T0) (HR0.out.below T0) hn hm).mono ?_)
    rintro e w1 ⟨rfl, hb1⟩
    have T1 : Below W0.heap.size W0 w1 := T0.trans (hb1.mono T0.size)
    clear bx0 bx1 bx2
    have bx0 := (T1.cell (p := ⟨w.heap.size, 0, none⟩) hbx).trans HBX.out.1
    have bx1 := (T1.cell (p := ⟨w.heap.size, 1, none⟩) hbx).trans HBX.out.2.1
    have bx2 := (T1.cell (p := ⟨w.heap.size, 2, none⟩) hbx).trans HBX.out.2.2
    rw [HA.out]
    go_wp2_with fail
    (with_reducible refine (isLimit_any _ _).mono ?_)
    rintro e _ ⟨rfl, rfl⟩
    rw [HL.out]
    go_wp2_with fail
    (with_reducible refine (isGear_any _ _ F R rd f r _ (HF0.out.below T1) (HR0.out.below T1) hn hm).mono ?_)
    rintro e w2 ⟨rfl, hb2⟩
    have T2 : Below W0.heap.size W0 w2 := T1.trans (hb2.mono T1.size)
    clear bx0 bx1 bx2
    have bx0 := (T2.cell (p := ⟨w.heap.size, 0, none⟩) hbx).trans HBX.out.1
    have bx1 := (T2.cell (p := ⟨w.heap.size, 1, none⟩) hbx).trans HBX.out.2.1
    have bx2 := (T2.cell (p := ⟨w.heap.size, 2, none⟩) hbx).trans HBX.out.2.2
    rw [HB.out]
    go_wp2_with fail
    (with_reducible refine (isGear_any _ _ F R rd tf tr _ (HF0.out.below T2) (HR0.out.below T2) hn hm).mono ?_)
    rintro e w3 ⟨rfl, hb3⟩
    have T3 : Below W0.heap.size W0 w3 := T2.trans (hb3.mono T2.size)
    clear bx0 bx1 bx2
    have bx0 := (T3.cell (p := ⟨w.heap.size, 0, none⟩) hbx).trans HBX.out.1
    have bx1 := (T3.cell (p := ⟨w.heap.size, 1, none⟩) hbx).trans HBX.out.2.1
    have bx2 := (T3.cell (p := ⟨w.heap.size, 2, none⟩) hbx).trans HBX.out.2.2
    rw [HG.out]
    go_wp2_with fail
    (with_reducible refine (crossed_any _ _ F R rd limit f r _ (HF0.out.below T3) (HR0.out.below T3) hn hm l0 l4).mono ?_)
    rintro e w4 ⟨rfl, hb4⟩
    have T4 : Below W0.heap.size W0 w4 := T3.trans (hb4.mono T3.size)
    clear bx0 bx1 bx2
    have bx0 := (T4.cell (p := ⟨w.heap.size, 0, none⟩) hbx).trans HBX.out.1
    have bx1 := (T4.cell (p := ⟨w.heap.size, 1, none⟩) hbx).trans HBX.out.2.1
    have bx2 := (T4.cell (p := ⟨w.heap.size, 2, none⟩) hbx).trans HBX.out.2.2
    rw [HX.out]
    go_wp2
    go_ret2
    exact RetI.mk HE.out (OwI.nil _ _) (HTW.out.trans (T4.mono (Nat.le_of_lt hbx)))
  cases hY : crossR F.length R.length limit tf tr
  rotate_left
  · skip
    have HE : Hid (swR F R rd limit f r tf tr = ([], 5)) := by show _ = _; unfold swR; rw [hA, hB, hG, hL, hX, hY]; rfl
    have HA := Lib.hid hA
    have HL := Lib.hid hL
    have HB := Lib.hid hB
    have HG := Lib.hid hG
    have HX := Lib.hid hX
    have HY := Lib.hid hY
    clear hA hL hB hG hX hY
    go_enter Try.func45, Try.ntmps45
    go_wp2_with fail
    generalize hw : w.alloc (.cells #[.slice aF F.length cF, .slice aR R.length cR, .int .i64 rd] 28) = W0
    have bx0 : W0.cell? ⟨w.heap.size, 0, none⟩ = some (.slice aF F.length cF) := by rw [← hw]; simp [go_sem]
    have bx1 : W0.cell? ⟨w.heap.size, 1, none⟩ = some (.slice aR R.length cR) := by rw [← hw]; simp [go_sem]
    have bx2 : W0.cell? ⟨w.heap.size, 2, none⟩ = some (.int .i64 rd) := by rw [← hw]; simp [go_sem]
    have hbx : w.heap.size < W0.heap.size := by rw [← hw]; simp
    have HTW : Hid (Below w.heap.size w W0) := by
      show Below _ _ _
      rw [← hw]; exact (Below.refl _ _).alloc (Nat.le_refl _) _
    have HF0 := Lib.hid (show RdI W0 (.slice aF F.length cF) F by rw [← hw]; exact HF.out.alloc _)
    have HR0 := Lib.hid (show RdI W0 (.slice aR R.length cR) R by rw [← hw]; exact HRr.out.alloc _)
    have HBX := Lib.hid (And.intro bx0 (And.intro bx1 bx2))
    have T0 := Below.refl W0.heap.size W0
    clear hw
    go_wp2_with fail
    (with_reducible refine (IsTrain_any _ _ F R rd _ (HF0.out.below T0) (HR0.out.below T0) hn hm).mono ?_)
    rintro e w1 ⟨rfl, hb1⟩
    have T1 : Below W0.heap.size W0 w1 := T0.trans (hb1.mono T0.size)
    clear bx0 bx1 bx2
    have bx0 := (T1.cell (p := ⟨w.heap.size, 0, none⟩) hbx).trans HBX.out.1
    have bx1 := (T1.cell (p := ⟨w.heap.size, 1, none⟩) hbx).trans HBX.out.2.1
    have bx2 := (T1.cell (p := ⟨w.heap.size, 2, none⟩) hbx).trans HBX.out.2.2
    rw [HA.out]
    go_wp2_with fail
    (with_reducible refine (isLimit_any _ _).mono ?_)
    rintro e _ ⟨rfl, rfl⟩
    rw [HL.out]
    go_wp2_with fail
    (with_reducible refine (isGear_any _ _ F R rd f r _ (HF0.out.below T1) (HR0.out.below T1) hn hm).mono ?_)
    rintro e w2 ⟨rfl, hb2⟩
    have T2 : Below W0.heap.size W0 w2 := T1.trans (hb2.mono T1.size)
    clear bx0 bx1 bx2
    have bx0 := (T2.cell (p := ⟨w.heap.size, 0, none⟩) hbx).trans HBX.out.1
    have bx1 := (T2.cell (p := ⟨w.heap.size, 1, none⟩) hbx).trans HBX.out.2.1
    have bx2 := (T2.cell (p := ⟨w.heap.size, 2, none⟩) hbx).trans HBX.out.2.2
    rw [HB.out]
    go_wp2_with fail
    (with_reducible refine (isGear_any _ _ F R rd tf tr _ (HF0.out.below T2) (HR0.out.below T2) hn hm).mono ?_)
    rintro e w3 ⟨rfl, hb3⟩
    have T3 : Below W0.heap.size W0 w3 := T2.trans (hb3.mono T2.size)
    clear bx0 bx1 bx2
    have bx0 := (T3.cell (p := ⟨w.heap.size, 0, none⟩) hbx).trans HBX.out.1
    have bx1 := (T3.cell (p := ⟨w.heap.size, 1, none⟩) hbx).trans HBX.out.2.1
    have bx2 := (T3.cell (p := ⟨w.heap.size, 2, none⟩) hbx).trans HBX.out.2.2
    rw [HG.out]
    go_wp2_with fail
    (with_reducible refine (crossed_any _ _ F R rd limit f r _ (HF0.out.below T3) (HR0.out.below T3) hn hm l0 l4).mono ?_)
    rintro e w4 ⟨rfl, hb4⟩
    have T4 : Below W0.heap.size W0 w4 := T3.trans (hb4.mono T3.size)
    clear bx0 bx1 bx2
    have bx0 := (T4.cell (p := ⟨w.heap.size, 0, none⟩) hbx).trans HBX.out.1
    have bx1 := (T4.cell (p := ⟨w.heap.size, 1, none⟩) hbx).trans HBX.out.2.1
    have bx2 := (T4.cell (p := ⟨w.heap.size, 2, none⟩) hbx).trans HBX.out.2.2
    rw [HX.out]
    go_wp2_with fail
    (with_reducible refine (crossed_any _ _ F R rd limit tf tr _ (HF0.out.below T4) (HR0.out.below T4) hn hm l0 l4).mono ?_)
    rintro e w5 ⟨rfl, hb5⟩
    have T5 : Below W0.heap.size W0 w5 := T4.trans (hb5.mono T4.size)
    clear bx0 bx1 bx2
    have bx0 := (T5.cell (p := ⟨w.heap.size, 0, none⟩) hbx).trans HBX.out.1
    have bx1 := (T5.cell (p := ⟨w.heap.size, 1, none⟩) hbx).trans HBX.out.2.1
    have bx2 := (T5.cell (p := ⟨w.heap.size, 2, none⟩) hbx).trans HBX.out.2.2
    rw [HY.out]
    go_wp2
    go_ret2
    exact RetI.mk HE.out (OwI.nil _ _) (HTW.out.trans (T5.mono (Nat.le_of_lt hbx)))
  have HSW := Lib.hid (sw_ok hA hB hG hL hX hY)
  obtain ⟨tF, tR, -, -⟩ := trainR_at hA
  have h3 : F.length ≤ 3 := by have := (teethR_at tF).2.1; omega
  have h12 : R.length ≤ 12 := by have := (teethR_at tR).2.1; omega
  have hok := okB_of (limit := limit) hB hX
  have hot := okB_of (limit := limit) hG hY
  have hgt := gearR_bd hG
  have hgf := gearR_bd hB
  have HOK := Lib.hid hok
  have HOT := Lib.hid hot
  clear hok hot tF tR
  obtain ⟨tf, rfl⟩ : ∃ x : Nat, tf = (x : Int) := ⟨tf.toNat, by omega⟩
  obtain ⟨tr, rfl⟩ : ∃ x : Nat, tr = (x : Int) := ⟨tr.toNat, by omega⟩
  obtain ⟨f, rfl⟩ : ∃ x : Nat, f = (x : Int) := ⟨f.toNat, by omega⟩
  obtain ⟨r, rfl⟩ : ∃ x : Nat, r = (x : Int) := ⟨r.toNat, by omega⟩
  have HA := Lib.hid hA
  have HL := Lib.hid hL
  have HB := Lib.hid hB
  have HG := Lib.hid hG
  have HX := Lib.hid hX
  have HY := Lib.hid hY
  clear hA hL hB hG hX hY
  go_enter Try.func45, Try.ntmps45
  go_wp2_with fail
  generalize hw : w.alloc (.cells #[.slice aF F.length cF, .slice aR R.length cR, .int .i64 rd] 28) = W0
  have bx0 : W0.cell? ⟨w.heap.size, 0, none⟩ = some (.slice aF F.length cF) := by rw [← hw]; simp [go_sem]
  have bx1 : W0.cell? ⟨w.heap.size, 1, none⟩ = some (.slice aR R.length cR) := by rw [← hw]; simp [go_sem]
  have bx2 : W0.cell? ⟨w.heap.size, 2, none⟩ = some (.int .i64 rd) := by rw [← hw]; simp [go_sem]
  have hbx : w.heap.size < W0.heap.size := by rw [← hw]; simp
  have HTW : Hid (Below w.heap.size w W0) := by
    show Below _ _ _
    rw [← hw]; exact (Below.refl _ _).alloc (Nat.le_refl _) _
  have HF0 := Lib.hid (show RdI W0 (.slice aF F.length cF) F by rw [← hw]; exact HF.out.alloc _)
  have HR0 := Lib.hid (show RdI W0 (.slice aR R.length cR) R by rw [← hw]; exact HRr.out.alloc _)
  have HBX := Lib.hid (And.intro bx0 (And.intro bx1 bx2))
  have T0 := Below.refl W0.heap.size W0
  clear hw
  go_wp2_with fail
  (with_reducible refine (IsTrain_any _ _ F R rd _ (HF0.out.below T0) (HR0.out.below T0) hn hm).mono ?_)
  rintro e w1 ⟨rfl, hb1⟩
  have T1 : Below W0.heap.size W0 w1 := T0.trans (hb1.mono T0.size)
  clear bx0 bx1 bx2
  have bx0 := (T1.cell (p := ⟨w.heap.size, 0, none⟩) hbx).trans HBX.out.1
  have bx1 := (T1.cell (p := ⟨w.heap.size, 1, none⟩) hbx).trans HBX.out.2.1
  have bx2 := (T1.cell (p := ⟨w.heap.size, 2, none⟩) hbx).trans HBX.out.2.2
  rw [HA.out]
  go_wp2_with fail
  (with_reducible refine (isLimit_any _ _).mono ?_)
  rintro e _ ⟨rfl, rfl⟩
  rw [HL.out]
  go_wp2_with fail
  (with_reducible refine (isGear_any _ _ F R rd f r _ (HF0.out.below T1) (HR0.out.below T1) hn hm).mono ?_)
  rintro e w2 ⟨rfl, hb2⟩
  have T2 : Below W0.heap.size W0 w2 := T1.trans (hb2.mono T1.size)
  clear bx0 bx1 bx2
  have bx0 := (T2.cell (p := ⟨w.heap.size, 0, none⟩) hbx).trans HBX.out.1
  have bx1 := (T2.cell (p := ⟨w.heap.size, 1, none⟩) hbx).trans HBX.out.2.1
  have bx2 := (T2.cell (p := ⟨w.heap.size, 2, none⟩) hbx).trans HBX.out.2.2
  rw [HB.out]
  go_wp2_with fail
  (with_reducible refine (isGear_any _ _ F R rd tf tr _ (HF0.out.below T2) (HR0.out.below T2) hn hm).mono ?_)
  rintro e w3 ⟨rfl, hb3⟩
  have T3 : Below W0.heap.size W0 w3 := T2.trans (hb3.mono T2.size)
  clear bx0 bx1 bx2
  have bx0 := (T3.cell (p := ⟨w.heap.size, 0, none⟩) hbx).trans HBX.out.1
  have bx1 := (T3.cell (p := ⟨w.heap.size, 1, none⟩) hbx).trans HBX.out.2.1
  have bx2 := (T3.cell (p := ⟨w.heap.size, 2, none⟩) hbx).trans HBX.out.2.2
  rw [HG.out]
  go_wp2_with fail
  (with_reducible refine (crossed_any _ _ F R rd limit f r _ (HF0.out.below T3) (HR0.out.below T3) hn hm l0 l4).mono ?_)
  rintro e w4 ⟨rfl, hb4⟩
  have T4 : Below W0.heap.size W0 w4 := T3.trans (hb4.mono T3.size)
  clear bx0 bx1 bx2
  have bx0 := (T4.cell (p := ⟨w.heap.size, 0, none⟩) hbx).trans HBX.out.1
  have bx1 := (T4.cell (p := ⟨w.heap.size, 1, none⟩) hbx).trans HBX.out.2.1
  have bx2 := (T4.cell (p := ⟨w.heap.size, 2, none⟩) hbx).trans HBX.out.2.2
  rw [HX.out]
  go_wp2_with fail
  (with_reducible refine (crossed_any _ _ F R rd limit tf tr _ (HF0.out.below T4) (HR0.out.below T4) hn hm l0 l4).mono ?_)
  rintro e w5 ⟨rfl, hb5⟩
  have T5 : Below W0.heap.size W0 w5 := T4.trans (hb5.mono T4.size)
  clear bx0 bx1 bx2
  have bx0 := (T5.cell (p := ⟨w.heap.size, 0, none⟩) hbx).trans HBX.out.1
  have bx1 := (T5.cell (p := ⟨w.heap.size, 1, none⟩) hbx).trans HBX.out.2.1
  have bx2 := (T5.cell (p := ⟨w.heap.size, 2, none⟩) hbx).trans HBX.out.2.2
  rw [HY.out]
  go_wp2_with fail
  (with_reducible refine (stepsTo_any _ _ F R rd limit tf tr _ (HF0.out.below T5) (HR0.out.below T5) hn hm l0 l4 h3 h12 HOT.out).mono ?_)
  rintro e w6 ⟨go, bs, D, U, rfl, hM, hbl, hdm, hD, hb6⟩
  have T6 : Below W0.heap.size W0 w6 := T5.trans (hb6.mono T5.size)
  clear bx0 bx1 bx2
  have bx0 := (T6.cell (p := ⟨w.heap.size, 0, none⟩) hbx).trans HBX.out.1
  have bx1 := (T6.cell (p := ⟨w.heap.size, 1, none⟩) hbx).trans HBX.out.2.1
  have bx2 := (T6.cell (p := ⟨w.heap.size, 2, none⟩) hbx).trans HBX.out.2.2
  clear bx0 bx1 bx2
  have HM := Lib.hid hM
  have HBL := Lib.hid hbl
  have HDM := Lib.hid hdm
  have HD := Lib.hid hD
  have hbd : dOf U ((f : Int), (r : Int)) ≤ 36 := hD.bound HOT.out h3 h12
  have hd0 : D f r = dOf U ((f : Int), (r : Int)) := hdm f r (by omega) (by omega)
  obtain ⟨b0, hb0⟩ : ∃ b0, bs[f]? = some b0 := ⟨_, List.getElem?_eq_getElem (by rw [hbl]; omega)⟩
  have cO := hM.cellO hb0
  have cR := (hM.cellR hb0 (show r < R.length by omega)).1
  rw [hd0] at cR
  have hfI : (f : Int) < (F.length : Int) := by omega
  have hrI : (r : Int) < (R.length : Int) := by omega
  have hf0 : (0 : Int) ≤ (f : Int) := by omega
  have hr0 : (0 : Int) ≤ (r : Int) := by omega
  clear hM hbl hdm hD hd0 hb0
  have HEND : Hid (Below w.heap.size w w6) := HTW.out.trans (T6.mono (Nat.le_of_lt hbx))
  by_cases hneg : dOf U ((f : Int), (r : Int)) < 0
  · have HE : Hid (swR F R rd limit f r tf tr = ([], 4)) := sw_none HSW.out (way_nodown HOK.out HOT.out h3 h12 HD.out (by omega))
    have hdd : decide (dOf U ((f : Int), (r : Int)) < 0) = true := decide_eq_true hneg
    generalize dOf U ((f : Int), (r : Int)) = dv at *
    go_wp2
    go_ret2
    exact RetI.mk HE.out (OwI.nil _ _) HEND.out
  have hdd : decide (dOf U ((f : Int), (r : Int)) < 0) = false := decide_eq_false hneg
  obtain ⟨k0, hk0⟩ : ∃ k0 : Nat, dOf U ((f : Int), (r : Int)) = (k0 : Int) := ⟨(dOf U ((f : Int), (r : Int))).toNat, by omega⟩
  have HK0 := Lib.hid hk0
  have HFIN : Hid (swR F R rd limit f r tf tr = (down mvB (okB F R limit) U k0 ((f : Int), (r : Int)), 0)) := by
    have := sw_some HSW.out (way_down HOK.out HOT.out h3 h12 HD.out (by omega))
    rw [hk0, Int.toNat_natCast] at this
    exact this
  have HPL : Hid ((down mvB (okB F R limit) U k0 ((f : Int), (r : Int))).length = k0) := (HD.out.down_path mvB_back HOT.out k0 _ hk0).2
  have hk36 : k0 ≤ 36 := by omega
  rw [hk0] at cR hdd
  clear hneg hbd hk0
  go_wp2
  clear cO cR hdd
  go_loopg [2, 3, 15] k0 (fun k fv rv ov wr => ∃ (cf cr : Nat) (ao : Option Addr) (co : Nat) (xs : List Int), fv = .int .i64 (cf : Int) ∧ rv = .int .i64 (cr : Int) ∧ ov = .slice ao xs.length co ∧ cf < F.length ∧ cr < R.length ∧ Below w6.heap.size w6 wr ∧ Hid (dOf U ((cf : Int), (cr : Int)) = (k : Int)) ∧ Hid (OwI wr w6.heap.size (.slice ao xs.length co) xs) ∧ Hid (xs ++ down mvB (okB F R limit) U k ((cf : Int), (cr : Int)) = down mvB (okB F R limit) U k0 ((f : Int), (r : Int))))
  case atStart => exact ⟨f, r, none, 0, [], rfl, rfl, rfl, by omega, by omega, Below.refl _ _, HK0, OwI.nil _ _, rfl⟩
  case round =>
    obtain ⟨cf, cr, ao, co, xs, rfl, rfl, rfl, hcf, hcr, hbw, hdk, hown, htot⟩ := hrel
    have hxl : xs.length ≤ 36 := by
      have h1 := congrArg List.length htot.out
      rw [List.length_append, HPL.out] at h1
      omega
    obtain ⟨b1, hb1⟩ : ∃ b1, bs[cf]? = some b1 := ⟨_, List.getElem?_eq_getElem (by rw [HBL.out]; exact hcf)⟩
    have HB1 := Lib.hid hb1
    have cO0 := (HM.out.below hbw).cellO hb1
    have cR0 := ((HM.out.below hbw).cellR hb1 hcr).1
    rw [HDM.out cf cr hcf hcr, hdk.out] at cR0
    have hfI : (cf : Int) < (F.length : Int) := by omega
    have hrI : (cr : Int) < (R.length : Int) := by omega
    have hf0 : (0 : Int) ≤ (cf : Int) := by omega
    have hr0 : (0 : Int) ≤ (cr : Int) := by omega
    clear hb1
    cases gk with
    | zero =>
      have HX : Hid (xs = down mvB (okB F R limit) U k0 ((f : Int), (r : Int))) := by
        show _ = _
        have := htot.out
        simpa [down] using this
      have HEND2 : Hid (Below w.heap.size w wr) := HTW.out.trans ((T6.trans (hbw.mono T6.size)).mono (Nat.le_of_lt hbx))
      have HF9 : Hid (swR F R rd limit f r tf tr = (xs, 0)) := by show _ = _; rw [HFIN.out, ← HX.out]
      have hWz : w.heap.size ≤ w6.heap.size := HEND.out.size
      clear HX HFIN
      go_wp2
      go_ret2
      exact RetI.mk HF9.out (hown.out.mono hWz) HEND2.out
    | succ k' =>
      have hkI : (0 : Int) < ((k' + 1 : Nat) : Int) := by omega
      have hkI2 : (0 : Int) < (k' : Int) + 1 := by omega
      have HEX : Hid (∃ q : Int, 0 ≤ q ∧ q ≤ 3 ∧ okB F R limit (mvB q ((cf : Int), (cr : Int))) = true ∧ dOf U (mvB q ((cf : Int), (cr : Int))) = (k' : Int)) := HD.out.move mvB_back HOT.out (by rw [hdk.out]; simp)
      go_wp2
      clear cO0 cR0 hkI2
      go_loopw [2, 3, 15, 16] (fun fv rv ov mv wr => ∃ m : Nat, fv = .int .i64 (cf : Int) ∧ rv = .int .i64 (cr : Int) ∧ ov = .slice ao xs.length co ∧ mv = .int .i64 m ∧ m ≤ 3 ∧ Below w6.heap.size w6 wr ∧ Hid (OwI wr w6.heap.size (.slice ao xs.length co) xs) ∧ Hid (∀ q : Int, 0 ≤ q → q < (m : Int) → ¬ (okB F R limit (mvB q ((cf : Int), (cr : Int))) = true ∧ dOf U (mvB q ((cf : Int), (cr : Int))) = (k' : Int)))) (fun _ _ _ mv _ => 4 - (intOf mv).toNat)
      case atStart => exact ⟨0, rfl, rfl, rfl, rfl, by omega, hbw, hown, fun q q0 q1 => by omega⟩
      case round =>
        clear hbw hown
        obtain ⟨m, rfl, rfl, rfl, rfl, hm3, hbw, hown, HN⟩ := hrel
        have hm0 : (0 : Int) ≤ (m : Int) := by omega
        have hm3I : (m : Int) ≤ 3 := by omega
        have hle : decide ((m : Int) ≤ 3) = true := decide_eq_true hm3I
        have hbwW : Below W0.heap.size W0 wr := T6.trans (hbw.mono T6.size)
        obtain ⟨⟨qf, qr, kk⟩, hq⟩ : ∃ rr__, rr__ = shR F R limit m cf cr := ⟨_, rfl⟩
        have HQ := Lib.hid hq
        clear hq
        have bx0 := (hbwW.cell (p := ⟨w.heap.size, 0, none⟩) hbx).trans HBX.out.1
        have bx1 := (hbwW.cell (p := ⟨w.heap.size, 1, none⟩) hbx).trans HBX.out.2.1
        have bx2 := (hbwW.cell (p := ⟨w.heap.size, 2, none⟩) hbx).trans HBX.out.2.2
        go_wp2_with fail
        (with_reducible refine (shifted_r _ _ F R rd limit cf cr m qf qr kk _ (HF0.out.below hbwW) (HR0.out.below hbwW) hn hm l0 l4 (by omega) (by omega) (by omega) (by omega) hm0 hm3I HQ.out).mono ?_)
        rintro e w1x ⟨rfl, hbq1⟩
        clear bx0 bx1 bx2 hbwW
        have HBW1 := Lib.hid (hbw.trans (hbq1.mono hbw.size))
        have HO1 := Lib.hid (hown.out.below hbq1)
        have hqe : (qf, qr) = mvB (m : Int) ((cf : Int), (cr : Int)) ∧ kk = okB F R limit (mvB (m : Int) ((cf : Int), (cr : Int))) := by
          have := HQ.out
          unfold shR at this
          simp only [Prod.mk.injEq] at this
          obtain ⟨e1, e2, e3⟩ := this
          exact ⟨Prod.ext e1 e2, e3⟩
        obtain ⟨hqe, hke⟩ := hqe
        have cO0 := (HM.out.below HBW1.out).cellO HB1.out
        have cR0 := ((HM.out.below HBW1.out).cellR HB1.out hcr).1
        rw [HDM.out cf cr hcf hcr, hdk.out] at cR0
        have hkw : IntKind.i64.wrap ((k' : Int) + 1 - 1) = (k' : Int) := by rw [Int.add_sub_cancel]; exact IntWalk.i64_in _ (by have h1 := congrArg List.length htot.out; rw [List.length_append, HPL.out] at h1; have h2 := (HD.out.down_path mvB_back HOT.out (k' + 1) _ hdk.out).2; omega)
        have hkw2 : IntKind.i64.wrap (k' : Int) = (k' : Int) := by have := hkw; rw [Int.add_sub_cancel] at this; exact this
        clear hbw hown hbq1
        cases kk
        · have HNOT : Hid (¬ (okB F R limit (mvB (m : Int) ((cf : Int), (cr : Int))) = true ∧ dOf U (mvB (m : Int) ((cf : Int), (cr : Int))) = (k' : Int))) := fun h => by
            have := hke.trans h.1
            cases this
          have HN2 : Hid (∀ q : Int, 0 ≤ q → q < ((m + 1 : Nat) : Int) → ¬ (okB F R limit (mvB q ((cf : Int), (cr : Int))) = true ∧ dOf U (mvB q ((cf : Int), (cr : Int))) = (k' : Int))) := by
            show ∀ q : Int, _
            intro q q0 q1 hq
            by_cases e : q = (m : Int)
            · subst e
              exact HNOT.out hq
            · exact HN.out q q0 (by omega) hq
          have hm4 : m + 1 ≤ 3 := by
            obtain ⟨q, q0, q3, hq1, hq2⟩ := HEX.out
            have := HN2.out q q0
            have h9 : ¬ q < ((m + 1 : Nat) : Int) := fun h => this h ⟨hq1, hq2⟩
            omega
          clear hqe hke
          go_wp2
          go_quiet (fail)
          clear cO0 cR0 
          go_wp2
          go_roundw
          case rel => exact ⟨m + 1, rfl, rfl, rfl, by go_num, hm4, blw_drewNS HBW1.out _, HO1.out.drewN _, HN2⟩
          case measure => simp [intOf]; omega
        · have hqg := okB_grid hke.symm
          rw [← hqe] at hqg hke
          (try simp only at hqg)
          obtain ⟨fa, rfl⟩ : ∃ fa : Nat, qf = (fa : Int) := ⟨qf.toNat, by omega⟩
          obtain ⟨ra, rfl⟩ : ∃ ra : Nat, qr = (ra : Int) := ⟨qr.toNat, by omega⟩
          have hfa : fa < F.length := by omega
          have hra : ra < R.length := by omega
          have hfaI : (fa : Int) < (F.length : Int) := by omega
          have hraI : (ra : Int) < (R.length : Int) := by omega
          have hfa0 : (0 : Int) ≤ (fa : Int) := by omega
          have hra0 : (0 : Int) ≤ (ra : Int) := by omega
          obtain ⟨b2, hb2⟩ : ∃ b2, bs[fa]? = some b2 := ⟨_, List.getElem?_eq_getElem (by rw [HBL.out]; exact hfa)⟩
          have cO1 := (HM.out.below HBW1.out).cellO hb2
          have cR1 := ((HM.out.below HBW1.out).cellR hb2 hra).1
          rw [HDM.out fa ra hfa hra] at cR1
          by_cases hd : dOf U ((fa : Int), (ra : Int)) = (k' : Int)
          · have HFST : Hid (fstM mvB (okB F R limit) U ((cf : Int), (cr : Int)) (k' : Int) 4 0 = (m : Int)) := fst_first hm0 hm3I (by rw [← hqe]; exact hke.symm) (by rw [← hqe]; exact hd) HN.out
            have HTOT : Hid ((xs ++ [(m : Int)]) ++ down mvB (okB F R limit) U k' ((fa : Int), (ra : Int)) = down mvB (okB F R limit) U k0 ((f : Int), (r : Int))) := by
              show _ = _
              rw [← htot.out]
              have e : down mvB (okB F R limit) U (k' + 1) ((cf : Int), (cr : Int)) = (m : Int) :: down mvB (okB F R limit) U k' ((fa : Int), (ra : Int)) := by
                show fstM mvB (okB F R limit) U ((cf : Int), (cr : Int)) (k' : Int) 4 0 :: _ = _
                rw [HFST.out, ← hqe]
              rw [e]
              simp
            have HDK2 : Hid (dOf U ((fa : Int), (ra : Int)) = (k' : Int)) := hd
            have hBz := HBW1.out.size
            rw [hd] at cR1
            clear hqe hke hd hb2
            go_wp2
            go_quiet (fail)
            clear cO0 cR0 cO1 cR1
            have HO2 := Lib.hid (HO1.out.drewN nq)
            have HBW2 := Lib.hid (blw_drewNS HBW1.out nq)
            obtain ⟨w2x, hw2x⟩ : ∃ w2x, w2x = w1x.drewN nq := ⟨_, rfl⟩
            rw [← hw2x] at HO2 HBW2
            have hBz2 := HBW2.out.size
            rw [← hw2x]
            clear hw2x
            go_wp2_with (at_builtin; refine wpList_appI _ rfl _ _ rfl w6.heap.size _ _ xs [(m : Int)] rfl rfl (HO2.out.alloc _) (RdI.one _ _) (by simp; omega) (by (try simp); omega) ?_; intro v3 w3x ho3 hg3)
            have hb3 := OwI.grown (HO2.out.alloc (.cells #[.int .i64 (m : Int)] 2)) (HBW2.out.alloc hBz2 _) (by simp; omega) hg3
            obtain ⟨ao3, co3, e3, -⟩ := ho3.rd.shape
            subst e3
            have HO3 := Lib.hid ho3
            clear ho3 hg3
            go_wp2
            go_roundg k'
            case measure => exact Nat.lt_succ_self _
            case rel => exact ⟨fa, ra, ao3, co3, xs ++ [(m : Int)], rfl, rfl, rfl, hfa, hra, hb3, HDK2, HO3, HTOT⟩
          · have HNOT : Hid (¬ (okB F R limit (mvB (m : Int) ((cf : Int), (cr : Int))) = true ∧ dOf U (mvB (m : Int) ((cf : Int), (cr : Int))) = (k' : Int))) := fun h => by
              have h2 := h.2
              rw [← hqe] at h2
              exact hd h2
            have HN2 : Hid (∀ q : Int, 0 ≤ q → q < ((m + 1 : Nat) : Int) → ¬ (okB F R limit (mvB q ((cf : Int), (cr : Int))) = true ∧ dOf U (mvB q ((cf : Int), (cr : Int))) = (k' : Int))) := by
              show ∀ q : Int, _
              intro q q0 q1 hq
              by_cases e : q = (m : Int)
              · subst e
                exact HNOT.out hq
              · exact HN.out q q0 (by omega) hq
            have hm4 : m + 1 ≤ 3 := by
              obtain ⟨q, q0, q3, hq1, hq2⟩ := HEX.out
              have := HN2.out q q0
              have h9 : ¬ q < ((m + 1 : Nat) : Int) := fun h => this h ⟨hq1, hq2⟩
              omega
            have hdq : (dOf U ((fa : Int), (ra : Int)) == (k' : Int)) = false := by rw [beq_eq_false_iff_ne]; exact hd
            generalize dOf U ((fa : Int), (ra : Int)) = dv at *
            clear hqe hke hd hb2
            go_wp2
            go_quiet (fail)
            clear cO0 cR0 cO1 cR1
            go_wp2
            go_roundw
            case rel => exact ⟨m + 1, rfl, rfl, rfl, by go_num, hm4, blw_drewNS HBW1.out _, HO1.out.drewN _, HN2⟩
            case measure => simp [intOf]; omega
end Go.Proofs.Ytfdnhamkkcmnfaa
