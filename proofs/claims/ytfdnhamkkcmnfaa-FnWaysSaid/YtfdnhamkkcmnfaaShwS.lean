/- Contract of the reference's ShortestWay. -/
import Derived.Test.YtfdnhamkkcmnfaaShwP
import Derived.Test.YtfdnhamkkcmnfaaRchS
set_option linter.unusedSimpArgs false
set_option linter.unusedVariables false
namespace Go.Proofs.Ytfdnhamkkcmnfaa
open Go.RowKit

theorem l11Start_c (vF vR : Value) (F R : List Int) (rd limit f r c : Int) (w : World) (hF : RdI w vF F) (hR : RdI w vR R) (hn : F.length ≤ 1048576) (hm : R.length ≤ 1048576) (h : codeS F R rd limit f r = c) :
    Calls Try.prog 71 #[.agg #[vF, vR, .int .i64 rd], .int .i64 limit, .int .i64 f, .int .i64 r] w fun e w' => e = .returned (.int .i64 c) ∧ Below w.heap.size w w' :=
  (l11Start_any vF vR F R rd limit f r w hF hR hn hm).mono fun e w' q => by rw [q.1, ← h]; exact ⟨rfl, q.2⟩
set_option maxRecDepth 100000 in
set_option maxHeartbeats 8000000 in
theorem sShortestWay_any (vF vR : Value) (F R : List Int) (rd : Int) (limit f r tf tr : Int) (w : World) (hF : RdI w vF F) (hR : RdI w vR R) (hn : F.length ≤ 1048576) (hm : R.length ≤ 1048576)  :
    Calls Try.prog 44 #[.agg #[vF, vR, .int .i64 rd], .int .i64 limit, .int .i64 f, .int .i64 r, .int .i64 tf, .int .i64 tr] w (RetI w (swR F R rd limit f r tf tr)) := by
  have HF := Lib.hid hF
  have HRr := Lib.hid hR
  obtain ⟨aF, cF, rfl, -⟩ := hF
  obtain ⟨aR, cR, rfl, -⟩ := hR
  cases hA : trainR F R rd
  · skip
    have HC1 : Hid (code11 F R rd limit f r = 1) := by show _ = _; unfold code11; rw [hA]; rfl
    have HE : Hid (swR F R rd limit f r tf tr = ([], 1)) := by show _ = _; unfold swR; rw [hA]; rfl
    have HA := Lib.hid hA
    clear hA
    go_enter Try.func44, Try.ntmps44
    go_wp2_with fail
    generalize hw : w.alloc (.cells #[.slice aF F.length cF, .slice aR R.length cR, .int .i64 rd] 28) = W0
    have bx0 : W0.cell? ⟨w.heap.size, 0, none⟩ = some (.slice aF F.length cF) := by rw [← hw]; simp [go_sem]
    have bx1 : W0.cell? ⟨w.heap.size, 1, none⟩ = some (.slice aR R.length cR) := by rw [← hw]; simp [go_sem]
    have bx2 : W0.cell? ⟨w.heap.size, 2, none⟩ = some (.int .i64 rd) := by rw [← hw]; simp [go_sem]
    have hbx : w.heap.size < W0.heap.size := by rw [← hw]; simp
    have HTW : Hid (Below w.heap.size w W0) := by
      show Below _ _ _
      rw [← hw]; exact (Below.refl _ _).alloc (Nat.le_refl _) _
    have HF0 := Lib.hid (show RdI W0 (.slice aF F.length cF) F by rw [← hw]; exact HF.out.alloc _)
    have HR0 := Lib.hid (show RdI W0 (.slice aR R.length cR) R by rw [← hw]; exact HRr.out.alloc _)
    have HBX := Lib.hid (And.intro bx0 (And.intro bx1 bx2))
    have T0 := Below.refl W0.heap.size W0
    clear hw
    go_wp2_with fail
    (with_reducible refine (l11Code_any _ _ F R rd limit f r _ (HF0.out.below T0) (HR0.out.below T0) hn hm).mono ?_)
    rintro e w1 ⟨rfl, hb1⟩
    have T1 : Below W0.heap.size W0 w1 := T0.trans (hb1.mono T0.size)
    clear bx0 bx1 bx2
    have bx0 := (T1.cell (p := ⟨w.heap.size, 0, none⟩) hbx).trans HBX.out.1
    have bx1 := (T1.cell (p := ⟨w.heap.size, 1, none⟩) hbx).trans HBX.out.2.1
    have bx2 := (T1.cell (p := ⟨w.heap.size, 2, none⟩) hbx).trans HBX.out.2.2
    rw [HC1.out]
    go_wp2
    go_ret2
    exact RetI.mk HE.out (OwI.nil _ _) (HTW.out.trans (T1.mono (Nat.le_of_lt hbx)))
  cases hB : gearR F R f r
  · skip
    have HC1 : Hid (code11 F R rd limit f r = 2) := by show _ = _; unfold code11; rw [hA, hB, Bool.false_and]; rfl
    have HE : Hid (swR F R rd limit f r tf tr = ([], 2)) := by show _ = _; unfold swR; rw [hA, hB, Bool.false_and, Bool.false_and]; rfl
    have HA := Lib.hid hA
    have HB := Lib.hid hB
    clear hA hB
    go_enter Try.func44, Try.ntmps44
    go_wp2_with fail
    generalize hw : w.alloc (.cells #[.slice aF F.length cF, .slice aR R.length cR, .int .i64 rd] 28) = W0
    have bx0 : W0.cell? ⟨w.heap.size, 0, none⟩ = some (.slice aF F.length cF) := by rw [← hw]; simp [go_sem]
    have bx1 : W0.cell? ⟨w.heap.size, 1, none⟩ = some (.slice aR R.length cR) := by rw [← hw]; simp [go_sem]
    have bx2 : W0.cell? ⟨w.heap.size, 2, none⟩ = some (.int .i64 rd) := by rw [← hw]; simp [go_sem]
    have hbx : w.heap.size < W0.heap.size := by rw [← hw]; simp
    have HTW : Hid (Below w.heap.size w W0) := by
      show Below _ _ _
      rw [← hw]; exact (Below.refl _ _).alloc (Nat.le_refl _) _
    have HF0 := Lib.hid (show RdI W0 (.slice aF F.length cF) F by rw [← hw]; exact HF.out.alloc _)
    have HR0 := Lib.hid (show RdI W0 (.slice aR R.length cR) R by rw [← hw]; exact HRr.out.alloc _)
    have HBX := Lib.hid (And.intro bx0 (And.intro bx1 bx2))
    have T0 := Below.refl W0.heap.size W0
    clear hw
    go_wp2_with fail
    (with_reducible refine (l11Code_any _ _ F R rd limit f r _ (HF0.out.below T0) (HR0.out.below T0) hn hm).mono ?_)
    rintro e w1 ⟨rfl, hb1⟩
    have T1 : Below W0.heap.size W0 w1 := T0.trans (hb1.mono T0.size)
    clear bx0 bx1 bx2
    have bx0 := (T1.cell (p := ⟨w.heap.size, 0, none⟩) hbx).trans HBX.out.1
    have bx1 := (T1.cell (p := ⟨w.heap.size, 1, none⟩) hbx).trans HBX.out.2.1
    have bx2 := (T1.cell (p := ⟨w.heap.size, 2, none⟩) hbx).trans HBX.out.2.2
    rw [HC1.out]
    go_wp2
    go_ret2
    exact RetI.mk HE.out (OwI.nil _ _) (HTW.out.trans (T1.mono (Nat.le_of_lt hbx)))
  cases hL : inR limit 0 4
  · skip
    have HC1 : Hid (code11 F R rd limit f r = 2) := by show _ = _; unfold code11; rw [hA, hB, hL, Bool.and_false]; rfl
    have HE : Hid (swR F R rd limit f r tf tr = ([], 2)) := by show _ = _; unfold swR; rw [hA, hB, hL, Bool.and_false]; rfl
    have HA := Lib.hid hA
    have HB := Lib.hid hB
    have HL := Lib.hid hL
    clear hA hB hL
    go_enter Try.func44, Try.ntmps44
    go_wp2_with fail
    generalize hw : w.alloc (.cells #[.slice aF F.length cF, .slice aR R.length cR, .int .i64 rd] 28) = W0
    have bx0 : W0.cell? ⟨w.heap.size, 0, none⟩ = some (.slice aF F.length cF) := by rw [← hw]; simp [go_sem]
    have bx1 : W0.cell? ⟨w.heap.size, 1, none⟩ = some (.slice aR R.length cR) := by rw [← hw]; simp [go_sem]
    have bx2 : W0.cell? ⟨w.heap.size, 2, none⟩ = some (.int .i64 rd) := by rw [← hw]; simp [go_sem]
    have hbx : w.heap.size < W0.heap.size := by rw [← hw]; simp
    have HTW : Hid (Below w.heap.size w W0) := by
      show Below _ _ _
      rw [← hw]; exact (Below.refl _ _).alloc (Nat.le_refl _) _
    have HF0 := Lib.hid (show RdI W0 (.slice aF F.length cF) F by rw [← hw]; exact HF.out.alloc _)
    have HR0 := Lib.hid (show RdI W0 (.slice aR R.length cR) R by rw [← hw]; exact HRr.out.alloc _)
    have HBX := Lib.hid (And.intro bx0 (And.intro bx1 bx2))
    have T0 := Below.refl W0.heap.size W0
    clear hw
    go_wp2_with fail
    (with_reducible refine (l11Code_any _ _ F R rd limit f r _ (HF0.out.below T0) (HR0.out.below T0) hn hm).mono ?_)
    rintro e w1 ⟨rfl, hb1⟩
    have T1 : Below W0.heap.size W0 w1 := T0.trans (hb1.mono T0.size)
    clear bx0 bx1 bx2
    have bx0 := (T1.cell (p := ⟨w.heap.size, 0, none⟩) hbx).trans HBX.out.1
    have bx1 := (T1.cell (p := ⟨w.heap.size, 1, none⟩) hbx).trans HBX.out.2.1
    have bx2 := (T1.cell (p := ⟨w.heap.size, 2, none⟩) hbx).trans HBX.out.2.2
    rw [HC1.out]
    go_wp2
    go_ret2
    exact RetI.mk HE.out (OwI.nil _ _) (HTW.out.trans (T1.mono (Nat.le_of_lt hbx)))
  cases hG : gearR F R tf tr
  · skip
    have HC1 : Hid (code11 F R rd limit f r = 0) := by show _ = _; unfold code11; rw [hA, hB, hL]; rfl
    have HC2 : Hid (code11 F R rd limit tf tr = 2) := by show _ = _; unfold code11; rw [hA, hG, hL]; rfl
    have HE : Hid (swR F R rd limit f r tf tr = ([], 2)) := by show _ = _; unfold swR; rw [hA, hB, hG, hL]; rfl
    have HA := Lib.hid hA
    have HB := Lib.hid hB
    have HL := Lib.hid hL
    have HG := Lib.hid hG
    clear hA hB hL hG
    go_enter Try.func44, Try.ntmps44
    go_wp2_with fail
    generalize hw : w.alloc (.cells #[.slice aF F.length cF, .slice aR R.length cR, .int .i64 rd] 28) = W0
    have bx0 : W0.cell? ⟨w.heap.size, 0, none⟩ = some (.slice aF F.length cF) := by rw [← hw]; simp [go_sem]
    have bx1 : W0.cell? ⟨w.heap.size, 1, none⟩ = some (.slice aR R.length cR) := by rw [← hw]; simp [go_sem]
    have bx2 : W0.cell? ⟨w.heap.size, 2, none⟩ = some (.int .i64 rd) := by rw [← hw]; simp [go_sem]
    have hbx : w.heap.size < W0.heap.size := by rw [← hw]; simp
    have HTW : Hid (Below w.heap.size w W0) := by
      show Below _ _ _
      rw [← hw]; exact (Below.refl _ _).alloc (Nat.le_refl _) _
    have HF0 := Lib.hid (show RdI W0 (.slice aF F.length cF) F by rw [← hw]; exact HF.out.alloc _)
    have HR0 := Lib.hid (show RdI W0 (.slice aR R.length cR) R by rw [← hw]; exact HRr.out.alloc _)
    have HBX := Lib.hid (And.intro bx0 (And.intro bx1 bx2))
    have T0 := Below.refl W0.heap.size W0
    clear hw
    go_wp2_with fail
    (with_reducible refine (l11Code_any _ _ F R rd limit f r _ (HF0.out.below T0) (HR0.out.below T0) hn hm).mono ?_)
    rintro e w1 ⟨rfl, hb1⟩
    have T1 : Below W0.heap.size W0 w1 := T0.trans (hb1.mono T0.size)
    clear bx0 bx1 bx2
    have bx0 := (T1.cell (p := ⟨w.heap.size, 0, none⟩) hbx).trans HBX.out.1
    have bx1 := (T1.cell (p := ⟨w.heap.size, 1, none⟩) hbx).trans HBX.out.2.1
    have bx2 := (T1.cell (p := ⟨w.heap.size, 2, none⟩) hbx).trans HBX.out.2.2
    rw [HC1.out]
    go_wp2_with fail
    (with_reducible refine (l11Code_any _ _ F R rd limit tf tr _ (HF0.out.below T1) (HR0.out.below T1) hn hm).mono ?_)
    rintro e w2 ⟨rfl, hb2⟩
    have T2 : Below W0.heap.size W0 w2 := T1.trans (hb2.mono T1.size)
    clear bx0 bx1 bx2
    have bx0 := (T2.cell (p := ⟨w.heap.size, 0, none⟩) hbx).trans HBX.out.1
    have bx1 := (T2.cell (p := ⟨w.heap.size, 1, none⟩) hbx).trans HBX.out.2.1
    have bx2 := (T2.cell (p := ⟨w.heap.size, 2, none⟩) hbx).trans HBX.out.2.2
    rw [HC2.out]
    go_wp2
    go_ret2
    exact RetI.mk HE.out (OwI.nil _ _) (HTW.out.trans (T2.mono (Nat.le_of_lt hbx)))
  have HC1 : Hid (code11 F R rd limit f r = 0) := by show _ = _; unfold code11; rw [hA, hB, hL]; rfl
  have HC2 : Hid (code11 F R rd limit tf tr = 0) := by show _ = _; unfold code11; rw [hA, hG, hL]; rfl
  cases hX : crossR F.length R.length limit f r
  · cases hY : crossR F.length R.length limit tf tr
    · skip
      have HS1 : Hid (codeS F R rd limit f r = 0) := by show _ = _; unfold codeS; rw [hA, hB, hL, hX]; rfl
      have HS2 : Hid (codeS F R rd limit tf tr = 0) := by show _ = _; unfold codeS; rw [hA, hG, hL, hY]; rfl
      have HSW := Lib.hid (sw_ok hA hB hG hL hX hY)
      obtain ⟨l0, l4⟩ := inR_iff.1 hL
      obtain ⟨tF, tR, -, -⟩ := trainR_at hA
      have h3 : F.length ≤ 3 := by have := (teethR_at tF).2.1; omega
      have h12 : R.length ≤ 12 := by have := (teethR_at tR).2.1; omega
      have hok := okB_of (limit := limit) hB hX
      have hot := okB_of (limit := limit) hG hY
      have hgt := gearR_bd hG
      have HOK := Lib.hid hok
      have HOT := Lib.hid hot
      clear hok hot tF tR
      have HA := Lib.hid hA
      have HB := Lib.hid hB
      have HL := Lib.hid hL
      have HG := Lib.hid hG
      have HX := Lib.hid hX
      have HY := Lib.hid hY
      clear hA hB hL hG hX hY
      go_enter Try.func44, Try.ntmps44
      go_wp2_with fail
      generalize hw : w.alloc (.cells #[.slice aF F.length cF, .slice aR R.length cR, .int .i64 rd] 28) = W0
      have bx0 : W0.cell? ⟨w.heap.size, 0, none⟩ = some (.slice aF F.length cF) := by rw [← hw]; simp [go_sem]
      have bx1 : W0.cell? ⟨w.heap.size, 1, none⟩ = some (.slice aR R.length cR) := by rw [← hw]; simp [go_sem]
      have bx2 : W0.cell? ⟨w.heap.size, 2, none⟩ = some (.int .i64 rd) := by rw [← hw]; simp [go_sem]
      have hbx : w.heap.size < W0.heap.size := by rw [← hw]; simp
      have HTW : Hid (Below w.heap.size w W0) := by
        show Below _ _ _
        rw [← hw]; exact (Below.refl _ _).alloc (Nat.le_refl _) _
      have HF0 := Lib.hid (show RdI W0 (.slice aF F.length cF) F by rw [← hw]; exact HF.out.alloc _)
      have HR0 := Lib.hid (show RdI W0 (.slice aR R.length cR) R by rw [← hw]; exact HRr.out.alloc _)
      have HBX := Lib.hid (And.intro bx0 (And.intro bx1 bx2))
      have T0 := Below.refl W0.heap.size W0
      clear hw
      go_wp2_with fail
      (with_reducible refine (l11Code_any _ _ F R rd limit f r _ (HF0.out.below T0) (HR0.out.below T0) hn hm).mono ?_)
      rintro e w1 ⟨rfl, hb1⟩
      have T1 : Below W0.heap.size W0 w1 := T0.trans (hb1.mono T0.size)
      clear bx0 bx1 bx2
      have bx0 := (T1.cell (p := ⟨w.heap.size, 0, none⟩) hbx).trans HBX.out.1
      have bx1 := (T1.cell (p := ⟨w.heap.size, 1, none⟩) hbx).trans HBX.out.2.1
      have bx2 := (T1.cell (p := ⟨w.heap.size, 2, none⟩) hbx).trans HBX.out.2.2
      rw [HC1.out]
      go_wp2_with fail
      (with_reducible refine (l11Code_any _ _ F R rd limit tf tr _ (HF0.out.below T1) (HR0.out.below T1) hn hm).mono ?_)
      rintro e w2 ⟨rfl, hb2⟩
      have T2 : Below W0.heap.size W0 w2 := T1.trans (hb2.mono T1.size)
      clear bx0 bx1 bx2
      have bx0 := (T2.cell (p := ⟨w.heap.size, 0, none⟩) hbx).trans HBX.out.1
      have bx1 := (T2.cell (p := ⟨w.heap.size, 1, none⟩) hbx).trans HBX.out.2.1
      have bx2 := (T2.cell (p := ⟨w.heap.size, 2, none⟩) hbx).trans HBX.out.2.2
      rw [HC2.out]
      have KP : Hid (∀ W' : World, Below w2.heap.size w2 W' → (W'.cell? ⟨w.heap.size, 0, none⟩ = some (.slice aF F.length cF) ∧ W'.cell? ⟨w.heap.size, 1, none⟩ = some (.slice aR R.length cR) ∧ W'.cell? ⟨w.heap.size, 2, none⟩ = some (.int .i64 rd))) := by
        show ∀ W' : World, _
        intro W' hb
        have h1 := Nat.lt_of_lt_of_le hbx T2.size
        exact ⟨(hb.cell (p := ⟨w.heap.size, 0, none⟩) h1).trans bx0, (hb.cell (p := ⟨w.heap.size, 1, none⟩) h1).trans bx1, (hb.cell (p := ⟨w.heap.size, 2, none⟩) h1).trans bx2⟩
      have HFq := Lib.hid (HF0.out.below T2)
      have HRq := Lib.hid (HR0.out.below T2)
      go_wp2_with fail
      go_region_held3 (fun W' => W'.cell? ⟨w.heap.size, 0, none⟩ = some (.slice aF F.length cF) ∧ W'.cell? ⟨w.heap.size, 1, none⟩ = some (.slice aR R.length cR) ∧ W'.cell? ⟨w.heap.size, 2, none⟩ = some (.int .i64 rd))
        (first | exact ⟨bx0, bx1, bx2⟩ | exact KP.out _ hq2 | exact KP.out _ hq1)
        ((first
          | (go_at_call 71
             (with_reducible refine (l11Start_c _ _ F R rd limit f r 0 _ (by first | exact HFq.out | exact HFq.out.drew | exact HFq.out.below hq1 | exact (HFq.out.below hq1).drew) (by first | exact HRq.out | exact HRq.out.drew | exact HRq.out.below hq1 | exact (HRq.out.below hq1).drew) hn hm HS1.out).mono ?_)
             rintro e wq ⟨rfl, hbx9⟩
             first
               | have hq2 : Below w2.heap.size w2 wq := hq1.trans ((by first | exact hbx9 | exact blw_ofDrewX hbx9 : Below _ _ wq).mono hq1.size)
               | have hq1 : Below w2.heap.size w2 wq := by first | exact hbx9 | exact blw_ofDrewX hbx9
             clear hbx9)
          | (go_at_call 71
             (with_reducible refine (l11Start_c _ _ F R rd limit tf tr 0 _ (by first | exact HFq.out | exact HFq.out.drew | exact HFq.out.below hq1 | exact (HFq.out.below hq1).drew) (by first | exact HRq.out | exact HRq.out.drew | exact HRq.out.below hq1 | exact (HRq.out.below hq1).drew) hn hm HS2.out).mono ?_)
             rintro e wq ⟨rfl, hbx9⟩
             first
               | have hq2 : Below w2.heap.size w2 wq := hq1.trans ((by first | exact hbx9 | exact blw_ofDrewX hbx9 : Below _ _ wq).mono hq1.size)
               | have hq1 : Below w2.heap.size w2 wq := by first | exact hbx9 | exact blw_ofDrewX hbx9
             clear hbx9)
          | fail))
      all_goals
        rename_i hHeld
        obtain ⟨bx0, bx1, bx2⟩ := hHeld
        have T9 : Below W0.heap.size W0 wq := T2.trans (hq2.mono T2.size)
        have hv1 : IntKind.i64.wrap (tf * 12) = tf * 12 := IntWalk.i64_in _ (by omega)
        have hv2 : IntKind.i64.wrap (tf * 12 + tr) = tf * 12 + tr := IntWalk.i64_in _ (by omega)
        go_wp2_with fail
        (with_reducible refine (l11Ways_any _ _ F R rd limit f r _ (HF0.out.below T9) (HR0.out.below T9) hn hm l0 l4 h3 h12 HOK.out).mono ?_)
        rintro e wv ⟨sv, wv', V, rfl, hD, hst, hbv⟩
        have T10 : Below W0.heap.size W0 wv := T9.trans (hbv.mono T9.size)
        have hwz : w.heap.size ≤ wq.heap.size := Nat.le_trans (Nat.le_of_lt hbx) T9.size
        obtain ⟨gs, cs, gw, cw, e5, e6⟩ := hst.shape (getq_lt hD.first)
        subst e5 e6
        have HD := Lib.hid hD
        have HST := Lib.hid (hst.mono hwz)
        have HEND : Hid (Below w.heap.size w wv) := HTW.out.trans (T10.mono (Nat.le_of_lt hbx))
        have HID : Hid ((idsV V).length = V.length) := by show _ = _; unfold idsV; rw [List.length_map]
        have hVl : V.length ≤ 36 := by
          have h1 := nodup_le (V.map Prod.fst) (gridG F.length R.length) hD.nodupL (fun g hg => by
            rw [List.mem_map] at hg
            obtain ⟨x, hx, rfl⟩ := hg
            obtain ⟨j, hj⟩ := List.getElem?_of_mem hx
            exact gridG_mem.2 (okB_grid ((hD.path j x hj).good HOK.out)))
          rw [List.length_map, gridG_len] at h1
          have := Nat.mul_le_mul h3 h12
          omega
        clear hD hst bx0 bx1 bx2 hbv T9 T10 hwz KP
        go_wp2
        go_loop [17] (fun iv => ∃ k : Nat, k ≤ V.length ∧ iv = .int .i64 k ∧ Hid (((idsV V).take k).any (fun y => decide (y = numG (tf, tr))) = false)) (fun iv => V.length - (intOf iv).toNat)
        case atStart => exact ⟨0, Nat.zero_le _, rfl, rfl⟩
        case round =>
          obtain ⟨k, hk, rfl, hall⟩ := hrel
          by_cases hlt : k < V.length
          · obtain ⟨⟨⟨xf, xr⟩, xw⟩, hx⟩ : ∃ x, V[k]? = some x := ⟨_, List.getElem?_eq_getElem hlt⟩
            obtain ⟨us, hS, hW, hEl, -⟩ := HST.out
            obtain ⟨ui, hui⟩ : ∃ u, us[k]? = some u := ⟨_, List.getElem?_eq_getElem (by rw [hEl.1]; exact hlt)⟩
            have hUi := (hEl.2 k _ _ hx hui).1
            have cW := OwV.cell hW hui
            have cS := OwI.cell hS (k := k) (by rw [HID.out]; exact hlt)
            have hgd := mem_ids hx
            rw [hgd] at cS
            have hkI : (k : Int) < (V.length : Int) := by omega
            have hk0 : (0 : Int) ≤ (k : Int) := by omega
            by_cases hE : numG (xf, xr) = numG (tf, tr)
            · have HWAY : Hid (swR F R rd limit f r tf tr = (xw, 0)) := sw_some HSW.out (way_found HOK.out HOT.out h3 h12 HD.out hx (by
                have h1 := okB_grid ((HD.out.path k _ hx).good HOK.out)
                unfold numG at hE
                simp only at hE h1 ⊢
                exact Prod.ext (by simp only; omega) (by simp only; omega)))
              have HUI := Lib.hid hUi
              rw [hE] at cS
              have e9 : numG (tf, tr) = tf * 12 + tr := rfl
              rw [e9] at cS
              clear hE e9 hgd hx hui hS hW hEl hUi
              go_wp2
              go_ret2
              exact RetI.mk HWAY.out HUI.out HEND.out
            · have HALL := Lib.hid (any_take (by rw [HID.out]; exact hlt) hall.out (by rw [hgd]; exact hE))
              have hq9 : (numG (xf, xr) == tf * 12 + tr) = false := by rw [beq_eq_false_iff_ne]; exact hE
              generalize numG (xf, xr) = nx at *
              clear hE hgd hx hui hS hW hEl hUi
              go_wp2
              go_round
              case rel => exact ⟨k + 1, by omega, by go_num, HALL⟩
              case measure => simp [intOf]; omega
          · obtain rfl : k = V.length := by omega
            have HE : Hid (swR F R rd limit f r tf tr = ([], 4)) := sw_none HSW.out (way_none (by
              rw [← HD.out.has (fnd_done HOK.out h3 h12)]
              have h1 := hall.out
              rw [List.take_of_length_le (by rw [HID.out]; exact Nat.le_refl _)] at h1
              have h2 := has_id (V := V) (g := (tf, tr)) (fun j x hx => (HD.out.path j x hx).good HOK.out) HOT.out h12
              rw [← h2]
              exact h1))
            go_wp2
            go_ret2
            exact RetI.mk HE.out (OwI.nil _ _) HEND.out
    · skip
      have HS1 : Hid (codeS F R rd limit f r = 0) := by show _ = _; unfold codeS; rw [hA, hB, hL, hX]; rfl
      have HS2 : Hid (codeS F R rd limit tf tr = 5) := by show _ = _; unfold codeS; rw [hA, hG, hL, hY]; rfl
      have HE : Hid (swR F R rd limit f r tf tr = ([], 5)) := by show _ = _; unfold swR; rw [hA, hB, hG, hL, hX, hY]; rfl
      have HA := Lib.hid hA
      have HB := Lib.hid hB
      have HL := Lib.hid hL
      have HG := Lib.hid hG
      have HX := Lib.hid hX
      have HY := Lib.hid hY
      clear hA hB hL hG hX hY
      go_enter Try.func44, Try.ntmps44
      go_wp2_with fail
      generalize hw : w.alloc (.cells #[.slice aF F.length cF, .slice aR R.length cR, .int .i64 rd] 28) = W0
      have bx0 : W0.cell? ⟨w.heap.size, 0, none⟩ = some (.slice aF F.length cF) := by rw [← hw]; simp [go_sem]
      have bx1 : W0.cell? ⟨w.heap.size, 1, none⟩ = some (.slice aR R.length cR) := by rw [← hw]; simp [go_sem]
      have bx2 : W0.cell? ⟨w.heap.size, 2, none⟩ = some (.int .i64 rd) := by rw [← hw]; simp [go_sem]
      have hbx : w.heap.size < W0.heap.size := by rw [← hw]; simp
      have HTW : Hid (Below w.heap.size w W0) := by
        show Below _ _ _
        rw [← hw]; exact (Below.refl _ _).alloc (Nat.le_refl _) _
      have HF0 := Lib.hid (show RdI W0 (.slice aF F.length cF) F by rw [← hw]; exact HF.out.alloc _)
      have HR0 := Lib.hid (show RdI W0 (.slice aR R.length cR) R by rw [← hw]; exact HRr.out.alloc _)
      have HBX := Lib.hid (And.intro bx0 (And.intro bx1 bx2))
      have T0 := Below.refl W0.heap.size W0
      clear hw
      go_wp2_with fail
      (with_reducible refine (l11Code_any _ _ F R rd limit f r _ (HF0.out.below T0) (HR0.out.below T0) hn hm).mono ?_)
      rintro e w1 ⟨rfl, hb1⟩
      have T1 : Below W0.heap.size W0 w1 := T0.trans (hb1.mono T0.size)
      clear bx0 bx1 bx2
      have bx0 := (T1.cell (p := ⟨w.heap.size, 0, none⟩) hbx).trans HBX.out.1
      have bx1 := (T1.cell (p := ⟨w.heap.size, 1, none⟩) hbx).trans HBX.out.2.1
      have bx2 := (T1.cell (p := ⟨w.heap.size, 2, none⟩) hbx).trans HBX.out.2.2
      rw [HC1.out]
      go_wp2_with fail
      (with_reducible refine (l11Code_any _ _ F R rd limit tf tr _ (HF0.out.below T1) (HR0.out.below T1) hn hm).mono ?_)
      rintro e w2 ⟨rfl, hb2⟩
      have T2 : Below W0.heap.size W0 w2 := T1.trans (hb2.mono T1.size)
      clear bx0 bx1 bx2
      have bx0 := (T2.cell (p := ⟨w.heap.size, 0, none⟩) hbx).trans HBX.out.1
      have bx1 := (T2.cell (p := ⟨w.heap.size, 1, none⟩) hbx).trans HBX.out.2.1
      have bx2 := (T2.cell (p := ⟨w.heap.size, 2, none⟩) hbx).trans HBX.out.2.2
      rw [HC2.out]
      have KP : Hid (∀ W' : World, Below w2.heap.size w2 W' → (W'.cell? ⟨w.heap.size, 0, none⟩ = some (.slice aF F.length cF) ∧ W'.cell? ⟨w.heap.size, 1, none⟩ = some (.slice aR R.length cR) ∧ W'.cell? ⟨w.heap.size, 2, none⟩ = some (.int .i64 rd))) := by
        show ∀ W' : World, _
        intro W' hb
        have h1 := Nat.lt_of_lt_of_le hbx T2.size
        exact ⟨(hb.cell (p := ⟨w.heap.size, 0, none⟩) h1).trans bx0, (hb.cell (p := ⟨w.heap.size, 1, none⟩) h1).trans bx1, (hb.cell (p := ⟨w.heap.size, 2, none⟩) h1).trans bx2⟩
      have HFq := Lib.hid (HF0.out.below T2)
      have HRq := Lib.hid (HR0.out.below T2)
      go_wp2_with fail
      go_region_held3 (fun W' => W'.cell? ⟨w.heap.size, 0, none⟩ = some (.slice aF F.length cF) ∧ W'.cell? ⟨w.heap.size, 1, none⟩ = some (.slice aR R.length cR) ∧ W'.cell? ⟨w.heap.size, 2, none⟩ = some (.int .i64 rd))
        (first | exact ⟨bx0, bx1, bx2⟩ | exact KP.out _ hq2 | exact KP.out _ hq1)
        ((first
          | (go_at_call 71
             (with_reducible refine (l11Start_c _ _ F R rd limit f r 0 _ (by first | exact HFq.out | exact HFq.out.drew | exact HFq.out.below hq1 | exact (HFq.out.below hq1).drew) (by first | exact HRq.out | exact HRq.out.drew | exact HRq.out.below hq1 | exact (HRq.out.below hq1).drew) hn hm HS1.out).mono ?_)
             rintro e wq ⟨rfl, hbx9⟩
             first
               | have hq2 : Below w2.heap.size w2 wq := hq1.trans ((by first | exact hbx9 | exact blw_ofDrewX hbx9 : Below _ _ wq).mono hq1.size)
               | have hq1 : Below w2.heap.size w2 wq := by first | exact hbx9 | exact blw_ofDrewX hbx9
             clear hbx9)
          | (go_at_call 71
             (with_reducible refine (l11Start_c _ _ F R rd limit tf tr 5 _ (by first | exact HFq.out | exact HFq.out.drew | exact HFq.out.below hq1 | exact (HFq.out.below hq1).drew) (by first | exact HRq.out | exact HRq.out.drew | exact HRq.out.below hq1 | exact (HRq.out.below hq1).drew) hn hm HS2.out).mono ?_)
             rintro e wq ⟨rfl, hbx9⟩
             first
               | have hq2 : Below w2.heap.size w2 wq := hq1.trans ((by first | exact hbx9 | exact blw_ofDrewX hbx9 : Below _ _ wq).mono hq1.size)
               | have hq1 : Below w2.heap.size w2 wq := by first | exact hbx9 | exact blw_ofDrewX hbx9
             clear hbx9)
          | fail))
      all_goals
        clear bx0 bx1 bx2 KP
        go_wp2
        go_ret2
        exact RetI.mk HE.out (OwI.nil _ _) (HTW.out.trans ((T2.trans (hq2.mono T2.size)).mono (Nat.le_of_lt hbx)))
  · cases hY : crossR F.length R.length limit tf tr
    · skip
      have HS1 : Hid (codeS F R rd limit f r = 5) := by show _ = _; unfold codeS; rw [hA, hB, hL, hX]; rfl
      have HS2 : Hid (codeS F R rd limit tf tr = 0) := by show _ = _; unfold codeS; rw [hA, hG, hL, hY]; rfl
      have HE : Hid (swR F R rd limit f r tf tr = ([], 5)) := by show _ = _; unfold swR; rw [hA, hB, hG, hL, hX, hY]; rfl
      have HA := Lib.hid hA
      have HB := Lib.hid hB
      have HL := Lib.hid hL
      have HG := Lib.hid hG
      have HX := Lib.hid hX
      have HY := Lib.hid hY
      clear hA hB hL hG hX hY
      go_enter Try.func44, Try.ntmps44
      go_wp2_with fail
      generalize hw : w.alloc (.cells #[.slice aF F.length cF, .slice aR R.length cR, .int .i64 rd] 28) = W0
      have bx0 : W0.cell? ⟨w.heap.size, 0, none⟩ = some (.slice aF F.length cF) := by rw [← hw]; simp [go_sem]
      have bx1 : W0.cell? ⟨w.heap.size, 1, none⟩ = some (.slice aR R.length cR) := by rw [← hw]; simp [go_sem]
      have bx2 : W0.cell? ⟨w.heap.size, 2, none⟩ = some (.int .i64 rd) := by rw [← hw]; simp [go_sem]
      have hbx : w.heap.size < W0.heap.size := by rw [← hw]; simp
      have HTW : Hid (Below w.heap.size w W0) := by
        show Below _ _ _
        rw [← hw]; exact (Below.refl _ _).alloc (Nat.le_refl _) _
      have HF0 := Lib.hid (show RdI W0 (.slice aF F.length cF) F by rw [← hw]; exact HF.out.alloc _)
      have HR0 := Lib.hid (show RdI W0 (.slice aR R.length cR) R by rw [← hw]; exact HRr.out.alloc _)
      have HBX := Lib.hid (And.intro bx0 (And.intro bx1 bx2))
      have T0 := Below.refl W0.heap.size W0
      clear hw
      go_wp2_with fail
      (with_reducible refine (l11Code_any _ _ F R rd limit f r _ (HF0.out.below T0) (HR0.out.below T0) hn hm).mono ?_)
      rintro e w1 ⟨rfl, hb1⟩
      have T1 : Below W0.heap.size W0 w1 := T0.trans (hb1.mono T0.size)
      clear bx0 bx1 bx2
      have bx0 := (T1.cell (p := ⟨w.heap.size, 0, none⟩) hbx).trans HBX.out.1
      have bx1 := (T1.cell (p := ⟨w.heap.size, 1, none⟩) hbx).trans HBX.out.2.1
      have bx2 := (T1.cell (p := ⟨w.heap.size, 2, none⟩) hbx).trans HBX.out.2.2
      rw [HC1.out]
      go_wp2_with fail
      (with_reducible refine (l11Code_any _ _ F R rd limit tf tr _ (HF0.out.below T1) (HR0.out.below T1) hn hm).mono ?_)
      rintro e w2 ⟨rfl, hb2⟩
      have T2 : Below W0.heap.size W0 w2 := T1.trans (hb2.mono T1.size)
      clear bx0 bx1 bx2
      have bx0 := (T2.cell (p := ⟨w.heap.size, 0, none⟩) hbx).trans HBX.out.1
      have bx1 := (T2.cell (p := ⟨w.heap.size, 1, none⟩) hbx).trans HBX.out.2.1
      have bx2 := (T2.cell (p := ⟨w.heap.size, 2, none⟩) hbx).trans HBX.out.2.2
      rw [HC2.out]
      have KP : Hid (∀ W' : World, Below w2.heap.size w2 W' → (W'.cell? ⟨w.heap.size, 0, none⟩ = some (.slice aF F.length cF) ∧ W'.cell? ⟨w.heap.size, 1, none⟩ = some (.slice aR R.length cR) ∧ W'.cell? ⟨w.heap.size, 2, none⟩ = some (.int .i64 rd))) := by
        show ∀ W' : World, _
        intro W' hb
        have h1 := Nat.lt_of_lt_of_le hbx T2.size
        exact ⟨(hb.cell (p := ⟨w.heap.size, 0, none⟩) h1).trans bx0, (hb.cell (p := ⟨w.heap.size, 1, none⟩) h1).trans bx1, (hb.cell (p := ⟨w.heap.size, 2, none⟩) h1).trans bx2⟩
      have HFq := Lib.hid (HF0.out.below T2)
      have HRq := Lib.hid (HR0.out.below T2)
      go_wp2_with fail
      go_region_held3 (fun W' => W'.cell? ⟨w.heap.size, 0, none⟩ = some (.slice aF F.length cF) ∧ W'.cell? ⟨w.heap.size, 1, none⟩ = some (.slice aR R.length cR) ∧ W'.cell? ⟨w.heap.size, 2, none⟩ = some (.int .i64 rd))
        (first | exact ⟨bx0, bx1, bx2⟩ | exact KP.out _ hq2 | exact KP.out _ hq1)
        ((first
          | (go_at_call 71
             (with_reducible refine (l11Start_c _ _ F R rd limit f r 5 _ (by first | exact HFq.out | exact HFq.out.drew | exact HFq.out.below hq1 | exact (HFq.out.below hq1).drew) (by first | exact HRq.out | exact HRq.out.drew | exact HRq.out.below hq1 | exact (HRq.out.below hq1).drew) hn hm HS1.out).mono ?_)
             rintro e wq ⟨rfl, hbx9⟩
             first
               | have hq2 : Below w2.heap.size w2 wq := hq1.trans ((by first | exact hbx9 | exact blw_ofDrewX hbx9 : Below _ _ wq).mono hq1.size)
               | have hq1 : Below w2.heap.size w2 wq := by first | exact hbx9 | exact blw_ofDrewX hbx9
             clear hbx9)
          | (go_at_call 71
             (with_reducible refine (l11Start_c _ _ F R rd limit tf tr 0 _ (by first | exact HFq.out | exact HFq.out.drew | exact HFq.out.below hq1 | exact (HFq.out.below hq1).drew) (by first | exact HRq.out | exact HRq.out.drew | exact HRq.out.below hq1 | exact (HRq.out.below hq1).drew) hn hm HS2.out).mono ?_)
             rintro e wq ⟨rfl, hbx9⟩
             first
               | have hq2 : Below w2.heap.size w2 wq := hq1.trans ((by first | exact hbx9 | exact blw_ofDrewX hbx9 : Below _ _ wq).mono hq1.size)
               | have hq1 : Below w2.heap.size w2 wq := by first | exact hbx9 | exact blw_ofDrewX hbx9
             clear hbx9)
          | fail))
      all_goals
        clear bx0 bx1 bx2 KP
        go_wp2
        go_ret2
        exact RetI.mk HE.out (OwI.nil _ _) (HTW.out.trans ((T2.trans (hq2.mono T2.size)).mono (Nat.le_of_lt hbx)))
    · skip
      have HS1 : Hid (codeS F R rd limit f r = 5) := by show _ = _; unfold codeS; rw [hA, hB, hL, hX]; rfl
      have HS2 : Hid (codeS F R rd limit tf tr = 5) := by show _ = _; unfold codeS; rw [hA, hG, hL, hY]; rfl
      have HE : Hid (swR F R rd limit f r tf tr = ([], 5)) := by show _ = _; unfold swR; rw [hA, hB, hG, hL, hX, hY]; rfl
      have HA := Lib.hid hA
      have HB := Lib.hid hB
      have HL := Lib.hid hL
      have HG := Lib.hid hG
      have HX := Lib.hid hX
      have HY := Lib.hid hY
      clear hA hB hL hG hX hY
      go_enter Try.func44, Try.ntmps44
      go_wp2_with fail
      generalize hw : w.alloc (.cells #[.slice aF F.length cF, .slice aR R.length cR, .int .i64 rd] 28) = W0
      have bx0 : W0.cell? ⟨w.heap.size, 0, none⟩ = some (.slice aF F.length cF) := by rw [← hw]; simp [go_sem]
      have bx1 : W0.cell? ⟨w.heap.size, 1, none⟩ = some (.slice aR R.length cR) := by rw [← hw]; simp [go_sem]
      have bx2 : W0.cell? ⟨w.heap.size, 2, none⟩ = some (.int .i64 rd) := by rw [← hw]; simp [go_sem]
      have hbx : w.heap.size < W0.heap.size := by rw [← hw]; simp
      have HTW : Hid (Below w.heap.size w W0) := by
        show Below _ _ _
        rw [← hw]; exact (Below.refl _ _).alloc (Nat.le_refl _) _
      have HF0 := Lib.hid (show RdI W0 (.slice aF F.length cF) F by rw [← hw]; exact HF.out.alloc _)
      have HR0 := Lib.hid (show RdI W0 (.slice aR R.length cR) R by rw [← hw]; exact HRr.out.alloc _)
      have HBX := Lib.hid (And.intro bx0 (And.intro bx1 bx2))
      have T0 := Below.refl W0.heap.size W0
      clear hw
      go_wp2_with fail
      (with_reducible refine (l11Code_any _ _ F R rd limit f r _ (HF0.out.below T0) (HR0.out.below T0) hn hm).mono ?_)
      rintro e w1 ⟨rfl, hb1⟩
      have T1 : Below W0.heap.size W0 w1 := T0.trans (hb1.mono T0.size)
      clear bx0 bx1 bx2
      have bx0 := (T1.cell (p := ⟨w.heap.size, 0, none⟩) hbx).trans HBX.out.1
      have bx1 := (T1.cell (p := ⟨w.heap.size, 1, none⟩) hbx).trans HBX.out.2.1
      have bx2 := (T1.cell (p := ⟨w.heap.size, 2, none⟩) hbx).trans HBX.out.2.2
      rw [HC1.out]
      go_wp2_with fail
      (with_reducible refine (l11Code_any _ _ F R rd limit tf tr _ (HF0.out.below T1) (HR0.out.below T1) hn hm).mono ?_)
      rintro e w2 ⟨rfl, hb2⟩
      have T2 : Below W0.heap.size W0 w2 := T1.trans (hb2.mono T1.size)
      clear bx0 bx1 bx2
      have bx0 := (T2.cell (p := ⟨w.heap.size, 0, none⟩) hbx).trans HBX.out.1
      have bx1 := (T2.cell (p := ⟨w.heap.size, 1, none⟩) hbx).trans HBX.out.2.1
      have bx2 := (T2.cell (p := ⟨w.heap.size, 2, none⟩) hbx).trans HBX.out.2.2
      rw [HC2.out]
      have KP : Hid (∀ W' : World, Below w2.heap.size w2 W' → (W'.cell? ⟨w.heap.size, 0, none⟩ = some (.slice aF F.length cF) ∧ W'.cell? ⟨w.heap.size, 1, none⟩ = some (.slice aR R.length cR) ∧ W'.cell? ⟨w.heap.size, 2, none⟩ = some (.int .i64 rd))) := by
        show ∀ W' : World, _
        intro W' hb
        have h1 := Nat.lt_of_lt_of_le hbx T2.size
        exact ⟨(hb.cell (p := ⟨w.heap.size, 0, none⟩) h1).trans bx0, (hb.cell (p := ⟨w.heap.size, 1, none⟩) h1).trans bx1, (hb.cell (p := ⟨w.heap.size, 2, none⟩) h1).trans bx2⟩
      have HFq := Lib.hid (HF0.out.below T2)
      have HRq := Lib.hid (HR0.out.below T2)
      go_wp2_with fail
      go_region_held3 (fun W' => W'.cell? ⟨w.heap.size, 0, none⟩ = some (.slice aF F.length cF) ∧ W'.cell? ⟨w.heap.size, 1, none⟩ = some (.slice aR R.length cR) ∧ W'.cell? ⟨w.heap.size, 2, none⟩ = some (.int .i64 rd))
        (first | exact ⟨bx0, bx1, bx2⟩ | exact KP.out _ hq2 | exact KP.out _ hq1)
        ((first
          | (go_at_call 71
             (with_reducible refine (l11Start_c _ _ F R rd limit f r 5 _ (by first | exact HFq.out | exact HFq.out.drew | exact HFq.out.below hq1 | exact (HFq.out.below hq1).drew) (by first | exact HRq.out | exact HRq.out.drew | exact HRq.out.below hq1 | exact (HRq.out.below hq1).drew) hn hm HS1.out).mono ?_)
             rintro e wq ⟨rfl, hbx9⟩
             first
               | have hq2 : Below w2.heap.size w2 wq := hq1.trans ((by first | exact hbx9 | exact blw_ofDrewX hbx9 : Below _ _ wq).mono hq1.size)
               | have hq1 : Below w2.heap.size w2 wq := by first | exact hbx9 | exact blw_ofDrewX hbx9
             clear hbx9)
          | (go_at_call 71
             (with_reducible refine (l11Start_c _ _ F R rd limit tf tr 5 _ (by first | exact HFq.out | exact HFq.out.drew | exact HFq.out.below hq1 | exact (HFq.out.below hq1).drew) (by first | exact HRq.out | exact HRq.out.drew | exact HRq.out.below hq1 | exact (HRq.out.below hq1).drew) hn hm HS2.out).mono ?_)
             rintro e wq ⟨rfl, hbx9⟩
             first
               | have hq2 : Below w2.heap.size w2 wq := hq1.trans ((by first | exact hbx9 | exact blw_ofDrewX hbx9 : Below _ _ wq).mono hq1.size)
               | have hq1 : Below w2.heap.size w2 wq := by first | exact hbx9 | exact blw_ofDrewX hbx9
             clear hbx9)
          | fail))
      all_goals
        clear bx0 bx1 bx2 KP
        go_wp2
        go_ret2
        exact RetI.mk HE.out (OwI.nil _ _) (HTW.out.trans ((T2.trans (hq2.mono T2.size)).mono (Nat.le_of_lt hbx)))
end Go.Proofs.Ytfdnhamkkcmnfaa
