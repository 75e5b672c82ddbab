/- The walk of the exact law on ReachableGears. -/
import Derived.Test.YtfdnhamkkcmnfaaGeaT
import Derived.Test.YtfdnhamkkcmnfaaRchS
import Derived.Test.YtfdnhamkkcmnfaaRchI
set_option linter.unusedSimpArgs false
set_option linter.unusedVariables false
namespace Go.Proofs.Ytfdnhamkkcmnfaa
open Go.RowKit

set_option maxHeartbeats 800000 in
theorem FnExactReachableGears_walk (vF vR : Value) (F R : List Int) (rd : Int) (limit f r : Int) (w : World) (hF : RdI w vF F) (hR : RdI w vR R) (hlF : F.length ≤ maxLen) (hlR : R.length ≤ maxLen) :
    Calls Try.prog 10 #[.agg #[vF, vR, .int .i64 rd], .int .i64 limit, .int .i64 f, .int .i64 r] w fun e w' => e = .returned (.bool true) ∧ Below w.heap.size w w' := by
  have HF := Lib.hid hF
  have HRr := Lib.hid hR
  obtain ⟨aF, cF, rfl, -⟩ := hF
  obtain ⟨aR, cR, rfl, -⟩ := hR
  by_cases hF1 : F.length ≤ 1048576
  rotate_left
  · skip
    go_enter Try.func10, Try.ntmps10
    go_wp2_with fail
    generalize hw : w.alloc (.cells #[.slice aF F.length cF, .slice aR R.length cR, .int .i64 rd] 24) = W0
    have bx0 : W0.cell? ⟨w.heap.size, 0, none⟩ = some (.slice aF F.length cF) := by rw [← hw]; simp [go_sem]
    have bx1 : W0.cell? ⟨w.heap.size, 1, none⟩ = some (.slice aR R.length cR) := by rw [← hw]; simp [go_sem]
    have bx2 : W0.cell? ⟨w.heap.size, 2, none⟩ = some (.int .i64 rd) := by rw [← hw]; simp [go_sem]
    have hbx : w.heap.size < W0.heap.size := by rw [← hw]; simp
    have HTW : Hid (Below w.heap.size w W0) := by
      show Below _ _ _
      rw [← hw]; exact (Below.refl _ _).alloc (Nat.le_refl _) _
    have HF0 := Lib.hid (show RdI W0 (.slice aF F.length cF) F by rw [← hw]; exact HF.out.alloc _)
    have HR0 := Lib.hid (show RdI W0 (.slice aR R.length cR) R by rw [← hw]; exact HRr.out.alloc _)
    have HBX := Lib.hid (And.intro bx0 (And.intro bx1 bx2))
    have T0 := Below.refl W0.heap.size W0
    clear hw
    go_wp2_with fail
    (with_reducible refine (szTrain_noF _ _ _ _ _ _ _ _ (by omega) hlF).mono ?_)
    rintro e w1 ⟨rfl, hb1⟩
    have T1 : Below W0.heap.size W0 w1 := T0.trans (hb1.mono T0.size)
    clear bx0 bx1 bx2
    have bx0 := (T1.cell (p := ⟨w.heap.size, 0, none⟩) hbx).trans HBX.out.1
    have bx1 := (T1.cell (p := ⟨w.heap.size, 1, none⟩) hbx).trans HBX.out.2.1
    have bx2 := (T1.cell (p := ⟨w.heap.size, 2, none⟩) hbx).trans HBX.out.2.2
    go_wp2
    go_ret
    exact ⟨rfl, (HTW.out.trans (T1.mono (Nat.le_of_lt hbx)))⟩
  by_cases hFR : F.length + R.length ≤ 1048576
  rotate_left
  · skip
    go_enter Try.func10, Try.ntmps10
    go_wp2_with fail
    generalize hw : w.alloc (.cells #[.slice aF F.length cF, .slice aR R.length cR, .int .i64 rd] 24) = W0
    have bx0 : W0.cell? ⟨w.heap.size, 0, none⟩ = some (.slice aF F.length cF) := by rw [← hw]; simp [go_sem]
    have bx1 : W0.cell? ⟨w.heap.size, 1, none⟩ = some (.slice aR R.length cR) := by rw [← hw]; simp [go_sem]
    have bx2 : W0.cell? ⟨w.heap.size, 2, none⟩ = some (.int .i64 rd) := by rw [← hw]; simp [go_sem]
    have hbx : w.heap.size < W0.heap.size := by rw [← hw]; simp
    have HTW : Hid (Below w.heap.size w W0) := by
      show Below _ _ _
      rw [← hw]; exact (Below.refl _ _).alloc (Nat.le_refl _) _
    have HF0 := Lib.hid (show RdI W0 (.slice aF F.length cF) F by rw [← hw]; exact HF.out.alloc _)
    have HR0 := Lib.hid (show RdI W0 (.slice aR R.length cR) R by rw [← hw]; exact HRr.out.alloc _)
    have HBX := Lib.hid (And.intro bx0 (And.intro bx1 bx2))
    have T0 := Below.refl W0.heap.size W0
    clear hw
    go_wp2_with fail
    (with_reducible refine (szTrain_noR _ _ _ _ _ _ _ _ hF1 (by omega) hlR).mono ?_)
    rintro e w1 ⟨rfl, hb1⟩
    have T1 : Below W0.heap.size W0 w1 := T0.trans (hb1.mono T0.size)
    clear bx0 bx1 bx2
    have bx0 := (T1.cell (p := ⟨w.heap.size, 0, none⟩) hbx).trans HBX.out.1
    have bx1 := (T1.cell (p := ⟨w.heap.size, 1, none⟩) hbx).trans HBX.out.2.1
    have bx2 := (T1.cell (p := ⟨w.heap.size, 2, none⟩) hbx).trans HBX.out.2.2
    go_wp2
    go_ret
    exact ⟨rfl, (HTW.out.trans (T1.mono (Nat.le_of_lt hbx)))⟩
  have hn := hF1
  have hm : R.length ≤ 1048576 := by omega
  have hneg : ¬ (1048576 - (F.length : Int) - (R.length : Int)) < 0 := by omega
  go_enter Try.func10, Try.ntmps10
  go_wp2_with fail
  generalize hw : w.alloc (.cells #[.slice aF F.length cF, .slice aR R.length cR, .int .i64 rd] 24) = W0
  have bx0 : W0.cell? ⟨w.heap.size, 0, none⟩ = some (.slice aF F.length cF) := by rw [← hw]; simp [go_sem]
  have bx1 : W0.cell? ⟨w.heap.size, 1, none⟩ = some (.slice aR R.length cR) := by rw [← hw]; simp [go_sem]
  have bx2 : W0.cell? ⟨w.heap.size, 2, none⟩ = some (.int .i64 rd) := by rw [← hw]; simp [go_sem]
  have hbx : w.heap.size < W0.heap.size := by rw [← hw]; simp
  have HTW : Hid (Below w.heap.size w W0) := by
    show Below _ _ _
    rw [← hw]; exact (Below.refl _ _).alloc (Nat.le_refl _) _
  have HF0 := Lib.hid (show RdI W0 (.slice aF F.length cF) F by rw [← hw]; exact HF.out.alloc _)
  have HR0 := Lib.hid (show RdI W0 (.slice aR R.length cR) R by rw [← hw]; exact HRr.out.alloc _)
  have HBX := Lib.hid (And.intro bx0 (And.intro bx1 bx2))
  have T0 := Below.refl W0.heap.size W0
  clear hw
  go_wp2_with fail
  (with_reducible refine (szTrain_yes _ _ _ _ _ _ _ _ (by omega)).mono ?_)
  rintro e w1 ⟨rfl, hb1⟩
  have T1 : Below W0.heap.size W0 w1 := T0.trans (hb1.mono T0.size)
  clear bx0 bx1 bx2
  have bx0 := (T1.cell (p := ⟨w.heap.size, 0, none⟩) hbx).trans HBX.out.1
  have bx1 := (T1.cell (p := ⟨w.heap.size, 1, none⟩) hbx).trans HBX.out.2.1
  have bx2 := (T1.cell (p := ⟨w.heap.size, 2, none⟩) hbx).trans HBX.out.2.2
  go_wp2_with fail
  (with_reducible refine (toTrain_any _ _ F R rd _ (HF0.out.below T1) (HR0.out.below T1) hn hm).mono ?_)
  rintro e w2 ⟨uF2, uR2, B2, rfl, hoF2, hoR2, hB2, hq2, hb2⟩
  have T2 : Below W0.heap.size W0 w2 := T1.trans (hb2.mono T1.size)
  clear bx0 bx1 bx2
  have bx0 := (T2.cell (p := ⟨w.heap.size, 0, none⟩) hbx).trans HBX.out.1
  have bx1 := (T2.cell (p := ⟨w.heap.size, 1, none⟩) hbx).trans HBX.out.2.1
  have bx2 := (T2.cell (p := ⟨w.heap.size, 2, none⟩) hbx).trans HBX.out.2.2
  obtain ⟨fa2, fc2, rfl, -⟩ := hoF2.rd.shape
  obtain ⟨ra2, rc2, rfl, -⟩ := hoR2.rd.shape
  have OF2 := Lib.hid hoF2
  have OR2 := Lib.hid hoR2
  clear hoF2 hoR2
  go_wp2_with fail
  (with_reducible refine (sReachableGears_any _ _ F R rd _ _ _ _ OF2.out.rd OR2.out.rd hn hm).mono ?_)
  rintro e w3 ⟨rfl, hb3⟩
  have T3 : Below W0.heap.size W0 w3 := T2.trans (hb3.mono T2.size)
  clear bx0 bx1 bx2
  have bx0 := (T3.cell (p := ⟨w.heap.size, 0, none⟩) hbx).trans HBX.out.1
  have bx1 := (T3.cell (p := ⟨w.heap.size, 1, none⟩) hbx).trans HBX.out.2.1
  have bx2 := (T3.cell (p := ⟨w.heap.size, 2, none⟩) hbx).trans HBX.out.2.2
  go_wp2_with fail
  (with_reducible refine (toTrain_any _ _ F R rd _ (HF0.out.below T3) (HR0.out.below T3) hn hm).mono ?_)
  rintro e w4 ⟨uF4, uR4, B4, rfl, hoF4, hoR4, hB4, hq4, hb4⟩
  have T4 : Below W0.heap.size W0 w4 := T3.trans (hb4.mono T3.size)
  clear bx0 bx1 bx2
  have bx0 := (T4.cell (p := ⟨w.heap.size, 0, none⟩) hbx).trans HBX.out.1
  have bx1 := (T4.cell (p := ⟨w.heap.size, 1, none⟩) hbx).trans HBX.out.2.1
  have bx2 := (T4.cell (p := ⟨w.heap.size, 2, none⟩) hbx).trans HBX.out.2.2
  obtain ⟨fa4, fc4, rfl, -⟩ := hoF4.rd.shape
  obtain ⟨ra4, rc4, rfl, -⟩ := hoR4.rd.shape
  have OF4 := Lib.hid hoF4
  have OR4 := Lib.hid hoR4
  clear hoF4 hoR4
  go_wp2_with fail
  generalize hx : w4.alloc (.cells #[(.slice fa4 F.length fc4), (.slice ra4 R.length rc4), .int .i64 rd] 28) = w5
  have hb5 : Below w4.heap.size w4 w5 := by rw [← hx]; exact (Below.refl _ _).alloc (Nat.le_refl _) _
  have HX : Hid (w5.cell? ⟨w4.heap.size, 0, none⟩ = some (.slice fa4 F.length fc4) ∧ w5.cell? ⟨w4.heap.size, 1, none⟩ = some (.slice ra4 R.length rc4) ∧ w5.cell? ⟨w4.heap.size, 2, none⟩ = some (.int .i64 rd)) := by
    show _ ∧ _ ∧ _
    rw [← hx]
    exact ⟨by simp [go_sem], by simp [go_sem], by simp [go_sem]⟩
  have hxl : w4.heap.size < w5.heap.size := by rw [← hx]; simp
  clear hx
  have T5 : Below W0.heap.size W0 w5 := T4.trans (hb5.mono T4.size)
  have XT5 := Below.refl w5.heap.size w5
  have XF := Lib.hid (OF4.out.rd.below hb5)
  have XR := Lib.hid (OR4.out.rd.below hb5)
  clear bx0 bx1 bx2
  have bx0 := (T5.cell (p := ⟨w.heap.size, 0, none⟩) hbx).trans HBX.out.1
  have bx1 := (T5.cell (p := ⟨w.heap.size, 1, none⟩) hbx).trans HBX.out.2.1
  have bx2 := (T5.cell (p := ⟨w.heap.size, 2, none⟩) hbx).trans HBX.out.2.2
  have cx0 := HX.out.1
  have cx1 := HX.out.2.1
  have cx2 := HX.out.2.2
  go_wp2_with fail
  (with_reducible refine (ReachableGears_any _ _ F R rd _ _ _ _ (XF.out.below XT5) (XR.out.below XT5) hn hm).mono ?_)
  rintro e w6 ⟨rfl, hb6⟩
  have T6 : Below W0.heap.size W0 w6 := T5.trans (hb6.mono T5.size)
  clear bx0 bx1 bx2
  have bx0 := (T6.cell (p := ⟨w.heap.size, 0, none⟩) hbx).trans HBX.out.1
  have bx1 := (T6.cell (p := ⟨w.heap.size, 1, none⟩) hbx).trans HBX.out.2.1
  have bx2 := (T6.cell (p := ⟨w.heap.size, 2, none⟩) hbx).trans HBX.out.2.2
  have XT6 : Below w5.heap.size w5 w6 := XT5.trans (hb6.mono XT5.size)
  clear cx0 cx1 cx2
  have cx0 := (XT6.cell (p := ⟨w4.heap.size, 0, none⟩) hxl).trans HX.out.1
  have cx1 := (XT6.cell (p := ⟨w4.heap.size, 1, none⟩) hxl).trans HX.out.2.1
  have cx2 := (XT6.cell (p := ⟨w4.heap.size, 2, none⟩) hxl).trans HX.out.2.2
  go_wp2_with fail
  have KP : Hid (∀ W' : World, Below w6.heap.size w6 W' → (W'.cell? ⟨w.heap.size, 0, none⟩ = some (.slice aF F.length cF) ∧ W'.cell? ⟨w.heap.size, 1, none⟩ = some (.slice aR R.length cR) ∧ W'.cell? ⟨w.heap.size, 2, none⟩ = some (.int .i64 rd) ∧ W'.cell? ⟨w4.heap.size, 0, none⟩ = some (.slice fa4 F.length fc4) ∧ W'.cell? ⟨w4.heap.size, 1, none⟩ = some (.slice ra4 R.length rc4) ∧ W'.cell? ⟨w4.heap.size, 2, none⟩ = some (.int .i64 rd))) := by
    show ∀ W' : World, _
    intro W' hb
    have h1 := Nat.lt_of_lt_of_le hbx T6.size
    have h2 := Nat.lt_of_lt_of_le hxl XT6.size
    exact ⟨(hb.cell (p := ⟨w.heap.size, 0, none⟩) h1).trans bx0, (hb.cell (p := ⟨w.heap.size, 1, none⟩) h1).trans bx1, (hb.cell (p := ⟨w.heap.size, 2, none⟩) h1).trans bx2, (hb.cell (p := ⟨w4.heap.size, 0, none⟩) h2).trans cx0, (hb.cell (p := ⟨w4.heap.size, 1, none⟩) h2).trans cx1, (hb.cell (p := ⟨w4.heap.size, 2, none⟩) h2).trans cx2⟩
  go_region_held3 (fun W' => W'.cell? ⟨w.heap.size, 0, none⟩ = some (.slice aF F.length cF) ∧ W'.cell? ⟨w.heap.size, 1, none⟩ = some (.slice aR R.length cR) ∧ W'.cell? ⟨w.heap.size, 2, none⟩ = some (.int .i64 rd) ∧ W'.cell? ⟨w4.heap.size, 0, none⟩ = some (.slice fa4 F.length fc4) ∧ W'.cell? ⟨w4.heap.size, 1, none⟩ = some (.slice ra4 R.length rc4) ∧ W'.cell? ⟨w4.heap.size, 2, none⟩ = some (.int .i64 rd))
    (first | exact ⟨bx0, bx1, bx2, cx0, cx1, cx2⟩ | exact KP.out _ (hb7.trans (hb8.mono hb7.size)) | exact KP.out _ hb7)
    ((first
     | (go_at_call 18
        refine (toTrain_any _ _ F R rd _ ?_ ?_ hn hm).mono ?_
        · first | exact HF0.out.below T6 | exact (HF0.out.below T6).drew
        · first | exact HR0.out.below T6 | exact (HR0.out.below T6).drew
        rintro e w7 ⟨uF7, uR7, B7, rfl, hoF7, hoR7, hB7, hq7, hbx7⟩
        have hb7 : Below w6.heap.size w6 w7 := by first | exact hbx7 | exact blw_ofDrew hbx7
        obtain ⟨fa7, fc7, rfl, -⟩ := hoF7.rd.shape
        obtain ⟨ra7, rc7, rfl, -⟩ := hoR7.rd.shape
        have OF7 := Lib.hid hoF7
        have OR7 := Lib.hid hoR7
        clear hbx7 hoF7 hoR7)
     | (go_at_call 20
        refine (eqTrain_same _ _ _ _ F R rd _ ?_ ?_ ?_ ?_ hn hm).mono ?_
        · exact (XF.out.below XT6).below hb7
        · exact (XR.out.below XT6).below hb7
        · exact OF7.out.rd
        · exact OR7.out.rd
        rintro e w8 ⟨rfl, hb8⟩)
     | fail))
  clear bx0 bx1 bx2 cx0 cx1 cx2
  have T7 : Below W0.heap.size W0 w7 := T6.trans (hb7.mono T6.size)
  have T8 : Below W0.heap.size W0 w8 := T7.trans (hb8.mono T7.size)
  have XT8 : Below w5.heap.size w5 w8 := XT6.trans ((hb7.trans (hb8.mono hb7.size)).mono XT6.size)
  go_wp2
  go_ret
  exact ⟨rfl, (HTW.out.trans (T8.mono (Nat.le_of_lt hbx)))⟩

end Go.Proofs.Ytfdnhamkkcmnfaa
