/- The walk of the exact law on ShortestWay. -/
import Derived.Test.YtfdnhamkkcmnfaaGeaT
import Derived.Test.YtfdnhamkkcmnfaaShwS
import Derived.Test.YtfdnhamkkcmnfaaShwI
set_option linter.unusedSimpArgs false
set_option linter.unusedVariables false
namespace Go.Proofs.Ytfdnhamkkcmnfaa
open Go.RowKit

set_option maxHeartbeats 800000 in
theorem markTrain_any (vF vR : Value) (F R : List Int) (rd k0 : Int) (bF bR : Nat) (w : World) (hF : OwI w bF vF F) (hR : OwI w bR vR R) (hn : F.length ≤ 1048576) (hm : R.length ≤ 1048576) (hne : ∀ q, vR.ownBlock = some q → vF.ownBlock ≠ some q) (hk1 : 0 ≤ k0) (hk2 : k0 ≤ 1048576) :
    Calls Try.prog 34 #[.agg #[vF, vR, .int .i64 rd], .int .i64 k0] w fun e w' => e = .returned (.int .i64 (k0 + F.length + R.length)) ∧ ∃ wa wb, Below w.heap.size w wa ∧ wa.grownBy wb vF.ownBlock ∧ wb.grownBy w' vR.ownBlock := by
  have HF := Lib.hid hF
  have HRr := Lib.hid hR
  have HNE := Lib.hid hne
  clear hne
  obtain ⟨aF, cF, eF, -⟩ := hF.rd.shape
  subst eF
  obtain ⟨aR, cR, eR, -⟩ := hR.rd.shape
  subst eR
  clear hF hR
  go_enter Try.func34, Try.ntmps34
  go_wp2_with fail
  generalize hw : w.alloc (.cells #[.slice aF F.length cF, .slice aR R.length cR, .int .i64 rd] 28) = wa
  have HBa : Hid (Below w.heap.size w wa) := by show Below _ _ _; rw [← hw]; exact (Below.refl _ _).alloc (Nat.le_refl _) _
  have bx1 : wa.cell? ⟨w.heap.size, 1, none⟩ = some (.slice aR R.length cR) := by rw [← hw]; simp [go_sem]
  have hbx : w.heap.size < wa.heap.size := by rw [← hw]; simp
  clear hw
  (with_reducible refine (markInt64S_any _ F k0 _ _ (HF.out.below HBa.out) hn hk1 (by omega)).mono ?_)
  rintro e wb ⟨rfl, ho, hg⟩
  have HGa := Lib.hid hg
  have hFl : ∀ q, (Value.slice aF F.length cF).ownBlock = some q → q < w.heap.size := fun q hq => (World.ownsRow.lt HF.out q hq).2
  have bx1' : wb.cell? ⟨w.heap.size, 1, none⟩ = some (.slice aR R.length cR) := hg.cell bx1 (fun e => by have := hFl w.heap.size e.symm; omega)
  have HRb : Hid (OwI wb bR (.slice aR R.length cR) R) := (HRr.out.below HBa.out).far hg (fun q hq => HNE.out q hq)
  clear ho hg bx1 hFl
  go_wp2_with fail
  (with_reducible refine (markInt64S_any _ R _ _ _ HRb.out hm (by omega) (by omega)).mono ?_)
  rintro e wc ⟨rfl, ho, hg⟩
  have HGb := Lib.hid hg
  clear ho hg
  go_wp2
  go_ret
  exact ⟨rfl, wa, wb, HBa.out, HGa.out, HGb.out⟩

theorem ShortestWay_r (vF vR : Value) (F R : List Int) (rd : Int) (limit f r tf tr : Int) (w : World) (hF : RdI w vF F) (hR : RdI w vR R) (hn : F.length ≤ 1048576) (hm : R.length ≤ 1048576) (rr : List Int × Int) (he : rr = swR F R rd limit f r tf tr) : Calls Try.prog 45 #[.agg #[vF, vR, .int .i64 rd], .int .i64 limit, .int .i64 f, .int .i64 r, .int .i64 tf, .int .i64 tr] w (RetI w rr) := by rw [he]; exact ShortestWay_any vF vR F R rd limit f r tf tr w hF hR hn hm
theorem sShortestWay_r (vF vR : Value) (F R : List Int) (rd : Int) (limit f r tf tr : Int) (w : World) (hF : RdI w vF F) (hR : RdI w vR R) (hn : F.length ≤ 1048576) (hm : R.length ≤ 1048576) (rr : List Int × Int) (he : rr = swR F R rd limit f r tf tr) : Calls Try.prog 44 #[.agg #[vF, vR, .int .i64 rd], .int .i64 limit, .int .i64 f, .int .i64 r, .int .i64 tf, .int .i64 tr] w (RetI w rr) := by rw [he]; exact sShortestWay_any vF vR F R rd limit f r tf tr w hF hR hn hm
theorem swR_len (F R : List Int) (rd limit f r tf tr : Int) : (swR F R rd limit f r tf tr).1.length ≤ 1048576 := by
  cases h1 : trainR F R rd
  · unfold swR; rw [h1]; simp
  cases h2 : gearR F R f r
  · unfold swR; rw [h1, h2]; simp
  cases h3 : gearR F R tf tr
  · unfold swR; rw [h1, h2, h3]; simp
  cases h4 : inR limit 0 4
  · unfold swR; rw [h1, h2, h3, h4]; simp
  cases h5 : crossR F.length R.length limit f r
  · cases h6 : crossR F.length R.length limit tf tr
    · rw [sw_ok h1 h2 h3 h4 h5 h6]
      obtain ⟨tF, tR, -, -⟩ := trainR_at h1
      have g3 : F.length ≤ 3 := by have := (teethR_at tF).2.1; omega
      have g12 : R.length ≤ 12 := by have := (teethR_at tR).2.1; omega
      have hok := okB_of (limit := limit) h2 h5
      have hot := okB_of (limit := limit) h3 h6
      have hU := fnd_done hot g3 g12
      by_cases hd : 0 ≤ dOf (fndG F R limit (tf, tr)) (f, r)
      · rw [way_down hok hot g3 g12 hU hd]
        have hb := hU.bound (g := (f, r)) hot g3 g12
        obtain ⟨k, hk⟩ : ∃ k : Nat, dOf (fndG F R limit (tf, tr)) (f, r) = k := ⟨(dOf (fndG F R limit (tf, tr)) (f, r)).toNat, by omega⟩
        have hp := (hU.down_path mvB_back hot k (f, r) hk).2
        rw [hk, Int.toNat_natCast]
        show (down mvB (okB F R limit) (fndG F R limit (tf, tr)) k (f, r)).length ≤ _
        omega
      · rw [way_nodown hok hot g3 g12 hU hd]
        simp
    · unfold swR; rw [h1, h2, h3, h4, h5, h6]; simp
  · unfold swR; rw [h1, h2, h3, h4, h5]; simp
set_option maxHeartbeats 800000 in
theorem FnExactShortestWay_walk (vF vR : Value) (F R : List Int) (rd : Int) (limit f r tf tr : Int) (w : World) (hF : RdI w vF F) (hR : RdI w vR R) (hlF : F.length ≤ maxLen) (hlR : R.length ≤ maxLen) :
    Calls Try.prog 12 #[.agg #[vF, vR, .int .i64 rd], .int .i64 limit, .int .i64 f, .int .i64 r, .int .i64 tf, .int .i64 tr] w fun e w' => e = .returned (.bool true) ∧ Below w.heap.size w w' := by
  have HF := Lib.hid hF
  have HRr := Lib.hid hR
  obtain ⟨aF, cF, rfl, -⟩ := hF
  obtain ⟨aR, cR, rfl, -⟩ := hR
  by_cases hF1 : F.length ≤ 1048576
  rotate_left
  · skip
    go_enter Try.func12, Try.ntmps12
    go_wp2_with fail
    generalize hw : w.alloc (.cells #[.slice aF F.length cF, .slice aR R.length cR, .int .i64 rd] 24) = W0
    have bx0 : W0.cell? ⟨w.heap.size, 0, none⟩ = some (.slice aF F.length cF) := by rw [← hw]; simp [go_sem]
    have bx1 : W0.cell? ⟨w.heap.size, 1, none⟩ = some (.slice aR R.length cR) := by rw [← hw]; simp [go_sem]
    have bx2 : W0.cell? ⟨w.heap.size, 2, none⟩ = some (.int .i64 rd) := by rw [← hw]; simp [go_sem]
    have hbx : w.heap.size < W0.heap.size := by rw [← hw]; simp
    have HTW : Hid (Below w.heap.size w W0) := by
      show Below _ _ _
      rw [← hw]; exact (Below.refl _ _).alloc (Nat.le_refl _) _
    have HF0 := Lib.hid (show RdI W0 (.slice aF F.length cF) F by rw [← hw]; exact HF.out.alloc _)
    have HR0 := Lib.hid (show RdI W0 (.slice aR R.length cR) R by rw [← hw]; exact HRr.out.alloc _)
    have HBX := Lib.hid (And.intro bx0 (And.intro bx1 bx2))
    have T0 := Below.refl W0.heap.size W0
    clear hw
    go_wp2_with fail
    (with_reducible refine (szTrain_noF _ _ _ _ _ _ _ _ (by omega) hlF).mono ?_)
    rintro e w1 ⟨rfl, hb1⟩
    have T1 : Below W0.heap.size W0 w1 := T0.trans (hb1.mono T0.size)
    clear bx0 bx1 bx2
    have bx0 := (T1.cell (p := ⟨w.heap.size, 0, none⟩) hbx).trans HBX.out.1
    have bx1 := (T1.cell (p := ⟨w.heap.size, 1, none⟩) hbx).trans HBX.out.2.1
    have bx2 := (T1.cell (p := ⟨w.heap.size, 2, none⟩) hbx).trans HBX.out.2.2
    go_wp2
    go_ret
    exact ⟨rfl, (HTW.out.trans (T1.mono (Nat.le_of_lt hbx)))⟩
  by_cases hFR : F.length + R.length ≤ 1048576
  rotate_left
  · skip
    go_enter Try.func12, Try.ntmps12
    go_wp2_with fail
    generalize hw : w.alloc (.cells #[.slice aF F.length cF, .slice aR R.length cR, .int .i64 rd] 24) = W0
    have bx0 : W0.cell? ⟨w.heap.size, 0, none⟩ = some (.slice aF F.length cF) := by rw [← hw]; simp [go_sem]
    have bx1 : W0.cell? ⟨w.heap.size, 1, none⟩ = some (.slice aR R.length cR) := by rw [← hw]; simp [go_sem]
    have bx2 : W0.cell? ⟨w.heap.size, 2, none⟩ = some (.int .i64 rd) := by rw [← hw]; simp [go_sem]
    have hbx : w.heap.size < W0.heap.size := by rw [← hw]; simp
    have HTW : Hid (Below w.heap.size w W0) := by
      show Below _ _ _
      rw [← hw]; exact (Below.refl _ _).alloc (Nat.le_refl _) _
    have HF0 := Lib.hid (show RdI W0 (.slice aF F.length cF) F by rw [← hw]; exact HF.out.alloc _)
    have HR0 := Lib.hid (show RdI W0 (.slice aR R.length cR) R by rw [← hw]; exact HRr.out.alloc _)
    have HBX := Lib.hid (And.intro bx0 (And.intro bx1 bx2))
    have T0 := Below.refl W0.heap.size W0
    clear hw
    go_wp2_with fail
    (with_reducible refine (szTrain_noR _ _ _ _ _ _ _ _ hF1 (by omega) hlR).mono ?_)
    rintro e w1 ⟨rfl, hb1⟩
    have T1 : Below W0.heap.size W0 w1 := T0.trans (hb1.mono T0.size)
    clear bx0 bx1 bx2
    have bx0 := (T1.cell (p := ⟨w.heap.size, 0, none⟩) hbx).trans HBX.out.1
    have bx1 := (T1.cell (p := ⟨w.heap.size, 1, none⟩) hbx).trans HBX.out.2.1
    have bx2 := (T1.cell (p := ⟨w.heap.size, 2, none⟩) hbx).trans HBX.out.2.2
    go_wp2
    go_ret
    exact ⟨rfl, (HTW.out.trans (T1.mono (Nat.le_of_lt hbx)))⟩
  have hn := hF1
  have hm : R.length ≤ 1048576 := by omega
  have hneg : ¬ (1048576 - (F.length : Int) - (R.length : Int)) < 0 := by omega
  obtain ⟨rr, hrr⟩ : ∃ rr, rr = swR F R rd limit f r tf tr := ⟨_, rfl⟩
  have hrl : rr.1.length ≤ 1048576 := by rw [hrr]; exact swR_len _ _ _ _ _ _ _ _
  have HRE := Lib.hid hrr
  clear hrr
  go_enter Try.func12, Try.ntmps12
  go_wp2_with fail
  generalize hw : w.alloc (.cells #[.slice aF F.length cF, .slice aR R.length cR, .int .i64 rd] 24) = W0
  have bx0 : W0.cell? ⟨w.heap.size, 0, none⟩ = some (.slice aF F.length cF) := by rw [← hw]; simp [go_sem]
  have bx1 : W0.cell? ⟨w.heap.size, 1, none⟩ = some (.slice aR R.length cR) := by rw [← hw]; simp [go_sem]
  have bx2 : W0.cell? ⟨w.heap.size, 2, none⟩ = some (.int .i64 rd) := by rw [← hw]; simp [go_sem]
  have hbx : w.heap.size < W0.heap.size := by rw [← hw]; simp
  have HTW : Hid (Below w.heap.size w W0) := by
    show Below _ _ _
    rw [← hw]; exact (Below.refl _ _).alloc (Nat.le_refl _) _
  have HF0 := Lib.hid (show RdI W0 (.slice aF F.length cF) F by rw [← hw]; exact HF.out.alloc _)
  have HR0 := Lib.hid (show RdI W0 (.slice aR R.length cR) R by rw [← hw]; exact HRr.out.alloc _)
  have HBX := Lib.hid (And.intro bx0 (And.intro bx1 bx2))
  have T0 := Below.refl W0.heap.size W0
  clear hw
  go_wp2_with fail
  (with_reducible refine (szTrain_yes _ _ _ _ _ _ _ _ (by omega)).mono ?_)
  rintro e w1 ⟨rfl, hb1⟩
  have T1 : Below W0.heap.size W0 w1 := T0.trans (hb1.mono T0.size)
  clear bx0 bx1 bx2
  have bx0 := (T1.cell (p := ⟨w.heap.size, 0, none⟩) hbx).trans HBX.out.1
  have bx1 := (T1.cell (p := ⟨w.heap.size, 1, none⟩) hbx).trans HBX.out.2.1
  have bx2 := (T1.cell (p := ⟨w.heap.size, 2, none⟩) hbx).trans HBX.out.2.2
  go_wp2_with fail
  (with_reducible refine (toTrain_any _ _ F R rd _ (HF0.out.below T1) (HR0.out.below T1) hn hm).mono ?_)
  rintro e w2 ⟨uF2, uR2, B2, rfl, hoF2, hoR2, hB2, hq2, hb2⟩
  have T2 : Below W0.heap.size W0 w2 := T1.trans (hb2.mono T1.size)
  clear bx0 bx1 bx2
  have bx0 := (T2.cell (p := ⟨w.heap.size, 0, none⟩) hbx).trans HBX.out.1
  have bx1 := (T2.cell (p := ⟨w.heap.size, 1, none⟩) hbx).trans HBX.out.2.1
  have bx2 := (T2.cell (p := ⟨w.heap.size, 2, none⟩) hbx).trans HBX.out.2.2
  obtain ⟨fa2, fc2, rfl, -⟩ := hoF2.rd.shape
  obtain ⟨ra2, rc2, rfl, -⟩ := hoR2.rd.shape
  have OF2 := Lib.hid hoF2
  have OR2 := Lib.hid hoR2
  clear hoF2 hoR2
  go_wp2_with fail
  (with_reducible refine (sShortestWay_r _ _ F R rd limit f r tf tr _ OF2.out.rd OR2.out.rd hn hm rr HRE.out).mono ?_)
  rintro e w3 ⟨v3, rfl, ho3, hb3⟩
  have T3 : Below W0.heap.size W0 w3 := T2.trans (hb3.mono T2.size)
  clear bx0 bx1 bx2
  have bx0 := (T3.cell (p := ⟨w.heap.size, 0, none⟩) hbx).trans HBX.out.1
  have bx1 := (T3.cell (p := ⟨w.heap.size, 1, none⟩) hbx).trans HBX.out.2.1
  have bx2 := (T3.cell (p := ⟨w.heap.size, 2, none⟩) hbx).trans HBX.out.2.2
  have FW_3 : Hid (RdI w3 v3 rr.1) := ho3.rd
  have BW : Hid (RdI w3 v3 rr.1) := ho3.rd
  clear ho3
  go_wp2_with fail
  (with_reducible refine (toTrain_any _ _ F R rd _ (HF0.out.below T3) (HR0.out.below T3) hn hm).mono ?_)
  rintro e w4 ⟨uF4, uR4, B4, rfl, hoF4, hoR4, hB4, hq4, hb4⟩
  have T4 : Below W0.heap.size W0 w4 := T3.trans (hb4.mono T3.size)
  clear bx0 bx1 bx2
  have bx0 := (T4.cell (p := ⟨w.heap.size, 0, none⟩) hbx).trans HBX.out.1
  have bx1 := (T4.cell (p := ⟨w.heap.size, 1, none⟩) hbx).trans HBX.out.2.1
  have bx2 := (T4.cell (p := ⟨w.heap.size, 2, none⟩) hbx).trans HBX.out.2.2
  obtain ⟨fa4, fc4, rfl, -⟩ := hoF4.rd.shape
  obtain ⟨ra4, rc4, rfl, -⟩ := hoR4.rd.shape
  have OF4 := Lib.hid hoF4
  have OR4 := Lib.hid hoR4
  clear hoF4 hoR4
  have FW_4 : Hid (RdI w4 v3 rr.1) := FW_3.out.below hb4
  clear FW_3
  go_wp2_with fail
  generalize hx : w4.alloc (.cells #[(.slice fa4 F.length fc4), (.slice ra4 R.length rc4), .int .i64 rd] 28) = w5
  have hb5 : Below w4.heap.size w4 w5 := by rw [← hx]; exact (Below.refl _ _).alloc (Nat.le_refl _) _
  have HX : Hid (w5.cell? ⟨w4.heap.size, 0, none⟩ = some (.slice fa4 F.length fc4) ∧ w5.cell? ⟨w4.heap.size, 1, none⟩ = some (.slice ra4 R.length rc4) ∧ w5.cell? ⟨w4.heap.size, 2, none⟩ = some (.int .i64 rd)) := by
    show _ ∧ _ ∧ _
    rw [← hx]
    exact ⟨by simp [go_sem], by simp [go_sem], by simp [go_sem]⟩
  have hxl : w4.heap.size < w5.heap.size := by rw [← hx]; simp
  clear hx
  have T5 : Below W0.heap.size W0 w5 := T4.trans (hb5.mono T4.size)
  have XT5 := Below.refl w5.heap.size w5
  have XF := Lib.hid (OF4.out.rd.below hb5)
  have XR := Lib.hid (OR4.out.rd.below hb5)
  clear bx0 bx1 bx2
  have bx0 := (T5.cell (p := ⟨w.heap.size, 0, none⟩) hbx).trans HBX.out.1
  have bx1 := (T5.cell (p := ⟨w.heap.size, 1, none⟩) hbx).trans HBX.out.2.1
  have bx2 := (T5.cell (p := ⟨w.heap.size, 2, none⟩) hbx).trans HBX.out.2.2
  have cx0 := HX.out.1
  have cx1 := HX.out.2.1
  have cx2 := HX.out.2.2
  have FW_5 : Hid (RdI w5 v3 rr.1) := FW_4.out.below hb5
  clear FW_4
  go_wp2_with fail
  (with_reducible refine (ShortestWay_r _ _ F R rd limit f r tf tr _ (XF.out.below XT5) (XR.out.below XT5) hn hm rr HRE.out).mono ?_)
  rintro e w6 ⟨v6, rfl, ho6, hb6⟩
  have T6 : Below W0.heap.size W0 w6 := T5.trans (hb6.mono T5.size)
  clear bx0 bx1 bx2
  have bx0 := (T6.cell (p := ⟨w.heap.size, 0, none⟩) hbx).trans HBX.out.1
  have bx1 := (T6.cell (p := ⟨w.heap.size, 1, none⟩) hbx).trans HBX.out.2.1
  have bx2 := (T6.cell (p := ⟨w.heap.size, 2, none⟩) hbx).trans HBX.out.2.2
  have XT6 : Below w5.heap.size w5 w6 := XT5.trans (hb6.mono XT5.size)
  clear cx0 cx1 cx2
  have cx0 := (XT6.cell (p := ⟨w4.heap.size, 0, none⟩) hxl).trans HX.out.1
  have cx1 := (XT6.cell (p := ⟨w4.heap.size, 1, none⟩) hxl).trans HX.out.2.1
  have cx2 := (XT6.cell (p := ⟨w4.heap.size, 2, none⟩) hxl).trans HX.out.2.2
  have FW_6 : Hid (RdI w6 v3 rr.1) := FW_5.out.below hb6
  clear FW_5
  have FG_6 : Hid (OwI w6 w5.heap.size v6 rr.1) := ho6
  clear ho6
  go_wp2_with fail
  (with_reducible refine (eqInt64S_same _ _ rr.1 _ (FG_6.out.rd) (FW_6.out) hrl).mono ?_)
  rintro e w7 ⟨rfl, hb7⟩
  have T7 : Below W0.heap.size W0 w7 := T6.trans (hb7.mono T6.size)
  clear bx0 bx1 bx2
  have bx0 := (T7.cell (p := ⟨w.heap.size, 0, none⟩) hbx).trans HBX.out.1
  have bx1 := (T7.cell (p := ⟨w.heap.size, 1, none⟩) hbx).trans HBX.out.2.1
  have bx2 := (T7.cell (p := ⟨w.heap.size, 2, none⟩) hbx).trans HBX.out.2.2
  have XT7 : Below w5.heap.size w5 w7 := XT6.trans (hb7.mono XT6.size)
  clear cx0 cx1 cx2
  have cx0 := (XT7.cell (p := ⟨w4.heap.size, 0, none⟩) hxl).trans HX.out.1
  have cx1 := (XT7.cell (p := ⟨w4.heap.size, 1, none⟩) hxl).trans HX.out.2.1
  have cx2 := (XT7.cell (p := ⟨w4.heap.size, 2, none⟩) hxl).trans HX.out.2.2
  have FW_7 : Hid (RdI w7 v3 rr.1) := FW_6.out.below hb7
  have FG_7 : Hid (OwI w7 w5.heap.size v6 rr.1) := FG_6.out.below hb7
  clear FW_6 FG_6
  go_wp2_with fail
  have KP : Hid (∀ W' : World, Below w7.heap.size w7 W' → (W'.cell? ⟨w.heap.size, 0, none⟩ = some (.slice aF F.length cF) ∧ W'.cell? ⟨w.heap.size, 1, none⟩ = some (.slice aR R.length cR) ∧ W'.cell? ⟨w.heap.size, 2, none⟩ = some (.int .i64 rd) ∧ W'.cell? ⟨w4.heap.size, 0, none⟩ = some (.slice fa4 F.length fc4) ∧ W'.cell? ⟨w4.heap.size, 1, none⟩ = some (.slice ra4 R.length rc4) ∧ W'.cell? ⟨w4.heap.size, 2, none⟩ = some (.int .i64 rd))) := by
    show ∀ W' : World, _
    intro W' hb
    have h1 := Nat.lt_of_lt_of_le hbx T7.size
    have h2 := Nat.lt_of_lt_of_le hxl XT7.size
    exact ⟨(hb.cell (p := ⟨w.heap.size, 0, none⟩) h1).trans bx0, (hb.cell (p := ⟨w.heap.size, 1, none⟩) h1).trans bx1, (hb.cell (p := ⟨w.heap.size, 2, none⟩) h1).trans bx2, (hb.cell (p := ⟨w4.heap.size, 0, none⟩) h2).trans cx0, (hb.cell (p := ⟨w4.heap.size, 1, none⟩) h2).trans cx1, (hb.cell (p := ⟨w4.heap.size, 2, none⟩) h2).trans cx2⟩
  go_region_held3 (fun W' => W'.cell? ⟨w.heap.size, 0, none⟩ = some (.slice aF F.length cF) ∧ W'.cell? ⟨w.heap.size, 1, none⟩ = some (.slice aR R.length cR) ∧ W'.cell? ⟨w.heap.size, 2, none⟩ = some (.int .i64 rd) ∧ W'.cell? ⟨w4.heap.size, 0, none⟩ = some (.slice fa4 F.length fc4) ∧ W'.cell? ⟨w4.heap.size, 1, none⟩ = some (.slice ra4 R.length rc4) ∧ W'.cell? ⟨w4.heap.size, 2, none⟩ = some (.int .i64 rd))
    (first | exact ⟨bx0, bx1, bx2, cx0, cx1, cx2⟩ | exact KP.out _ (hb8.trans (hb9.mono hb8.size)) | exact KP.out _ hb8)
    ((first
     | (go_at_call 18
        refine (toTrain_any _ _ F R rd _ ?_ ?_ hn hm).mono ?_
        · first | exact HF0.out.below T7 | exact (HF0.out.below T7).drew
        · first | exact HR0.out.below T7 | exact (HR0.out.below T7).drew
        rintro e w8 ⟨uF8, uR8, B8, rfl, hoF8, hoR8, hB8, hq8, hbx8⟩
        have hb8 : Below w7.heap.size w7 w8 := by first | exact hbx8 | exact blw_ofDrew hbx8
        obtain ⟨fa8, fc8, rfl, -⟩ := hoF8.rd.shape
        obtain ⟨ra8, rc8, rfl, -⟩ := hoR8.rd.shape
        have OF8 := Lib.hid hoF8
        have OR8 := Lib.hid hoR8
        clear hbx8 hoF8 hoR8)
     | (go_at_call 20
        refine (eqTrain_same _ _ _ _ F R rd _ ?_ ?_ ?_ ?_ hn hm).mono ?_
        · exact (XF.out.below XT7).below hb8
        · exact (XR.out.below XT7).below hb8
        · exact OF8.out.rd
        · exact OR8.out.rd
        rintro e w9 ⟨rfl, hb9⟩)
     | fail))
  clear bx0 bx1 bx2 cx0 cx1 cx2
  have T8 : Below W0.heap.size W0 w8 := T7.trans (hb8.mono T7.size)
  have T9 : Below W0.heap.size W0 w9 := T8.trans (hb9.mono T8.size)
  have XT9 : Below w5.heap.size w5 w9 := XT7.trans ((hb8.trans (hb9.mono hb8.size)).mono XT7.size)
  have bx0 := (T9.cell (p := ⟨w.heap.size, 0, none⟩) hbx).trans HBX.out.1
  have bx1 := (T9.cell (p := ⟨w.heap.size, 1, none⟩) hbx).trans HBX.out.2.1
  have bx2 := (T9.cell (p := ⟨w.heap.size, 2, none⟩) hbx).trans HBX.out.2.2
  have FW_9 : Hid (RdI w9 v3 rr.1) := FW_7.out.below (hb8.trans (hb9.mono hb8.size))
  have FG_9 : Hid (OwI w9 w5.heap.size v6 rr.1) := FG_7.out.below (hb8.trans (hb9.mono hb8.size))
  clear FW_7 FG_7
  have cx0 := (XT9.cell (p := ⟨w4.heap.size, 0, none⟩) hxl).trans HX.out.1
  have cx1 := (XT9.cell (p := ⟨w4.heap.size, 1, none⟩) hxl).trans HX.out.2.1
  have cx2 := (XT9.cell (p := ⟨w4.heap.size, 2, none⟩) hxl).trans HX.out.2.2
  have hqF : ∀ q, (Value.slice fa4 F.length fc4).ownBlock = some q → w3.heap.size ≤ q ∧ q < w4.heap.size := fun q hq => (World.ownsRow.lt OF4.out q hq)
  have hqR : ∀ q, (Value.slice ra4 R.length rc4).ownBlock = some q → w3.heap.size ≤ q ∧ q < w4.heap.size := fun q hq => ⟨Nat.le_trans hB4 (World.ownsRow.lt OR4.out q hq).1, (World.ownsRow.lt OR4.out q hq).2⟩
  have hqB : ∀ q, (Value.slice ra4 R.length rc4).ownBlock = some q → B4 ≤ q := fun q hq => (World.ownsRow.lt OR4.out q hq).1
  have HQF := Lib.hid hqF
  have HQR := Lib.hid hqR
  clear hqF hqR
  go_wp2_with fail
  (with_reducible refine (markTrain_any _ _ F R rd 1 _ _ _ ((OF4.out.below hb5).below XT9) ((OR4.out.below hb5).below XT9) hn hm (fun q hq e => by have h1 := hq4 q e; have h2 := hqB q hq; omega) (by omega) (by omega)).mono ?_)
  rintro e w10 ⟨rfl, wa, wb, hba, hga, hgb⟩
  have hzn := XT9.size
  have hzj := hb5.size
  have hzT := T9.size
  have hz0 := T3.size
  have hza := hba.size
  have hzb := hga.size
  have hzM : w9.heap.size ≤ w10.heap.size := Nat.le_trans (Nat.le_trans hza hzb) hgb.size
  have T10 : Below W0.heap.size W0 w10 := ((T9.trans (hba.mono T9.size)).grown hga (by omega) (fun q hq => by have := HQF.out q hq; omega)).grown hgb (by omega) (fun q hq => by have := HQR.out q hq; omega)
  clear cx0 cx1 cx2
  have hmk : ¬ (1 + (F.length : Int) + (R.length : Int)) < 0 := by omega
  clear bx0 bx1 bx2
  have bx0 := (T10.cell (p := ⟨w.heap.size, 0, none⟩) hbx).trans HBX.out.1
  have bx1 := (T10.cell (p := ⟨w.heap.size, 1, none⟩) hbx).trans HBX.out.2.1
  have bx2 := (T10.cell (p := ⟨w.heap.size, 2, none⟩) hbx).trans HBX.out.2.2
  have FW_10 : Hid (RdI w10 v3 rr.1) := ((FW_9.out.below hba).farB BW.out hga (fun q hq => (HQF.out q hq).1)).farB BW.out hgb (fun q hq => (HQR.out q hq).1)
  have FG_10 : Hid (OwI w10 w5.heap.size v6 rr.1) := ((FG_9.out.below hba).farLt hga (fun q hq => by have := (HQF.out q hq).2; omega)).farLt hgb (fun q hq => by have := (HQR.out q hq).2; omega)
  clear FW_9 FG_9 hba hga hgb
  go_wp2_with fail
  (with_reducible refine (eqInt64S_same _ _ rr.1 _ (FG_10.out.rd) (FW_10.out) hrl).mono ?_)
  rintro e w11 ⟨rfl, hb11⟩
  have T11 : Below W0.heap.size W0 w11 := T10.trans (hb11.mono T10.size)
  clear bx0 bx1 bx2
  have bx0 := (T11.cell (p := ⟨w.heap.size, 0, none⟩) hbx).trans HBX.out.1
  have bx1 := (T11.cell (p := ⟨w.heap.size, 1, none⟩) hbx).trans HBX.out.2.1
  have bx2 := (T11.cell (p := ⟨w.heap.size, 2, none⟩) hbx).trans HBX.out.2.2
  have FW_11 : Hid (RdI w11 v3 rr.1) := FW_10.out.below hb11
  have FG_11 : Hid (OwI w11 w5.heap.size v6 rr.1) := FG_10.out.below hb11
  clear FW_10 FG_10
  go_wp2_with fail
  (with_reducible refine (markInt64S_any _ rr.1 1 _ _ FG_11.out hrl (by omega) (by omega)).mono ?_)
  rintro e w12 ⟨rfl, ho12, hg12⟩
  have hQ : ∀ q, (v6).ownBlock = some q → w5.heap.size ≤ q := fun q hq => (World.ownsRow.lt FG_11.out q hq).1
  have hzB := T5.size
  have hzW : w3.heap.size ≤ w5.heap.size := Nat.le_trans hb4.size hb5.size
  have T12 : Below W0.heap.size W0 w12 := T11.grown hg12 T11.size (fun q hq => by have := hQ q hq; omega)
  have FW_12 : Hid (RdI w12 v3 rr.1) := FW_11.out.farB BW.out hg12 (fun q hq => by have := hQ q hq; omega)
  have FG_12 : Hid (OwI w12 w5.heap.size v6 (marks 1 rr.1.length)) := ho12
  clear ho12 hg12 hQ FW_11 FG_11
  have hmn : ¬ (1 + (rr.1.length : Int)) < 0 := by omega
  clear bx0 bx1 bx2
  have bx0 := (T12.cell (p := ⟨w.heap.size, 0, none⟩) hbx).trans HBX.out.1
  have bx1 := (T12.cell (p := ⟨w.heap.size, 1, none⟩) hbx).trans HBX.out.2.1
  have bx2 := (T12.cell (p := ⟨w.heap.size, 2, none⟩) hbx).trans HBX.out.2.2
  go_wp2_with fail
  (with_reducible refine (heldInt64S_any _ rr.1.length 1 _ FG_12.out.rd (by omega) (by omega) (by omega)).mono ?_)
  rintro e _ ⟨rfl, rfl⟩
  go_wp2_with fail
  (with_reducible refine (toTrain_any _ _ F R rd _ (HF0.out.below T12) (HR0.out.below T12) hn hm).mono ?_)
  rintro e w13 ⟨uF13, uR13, B13, rfl, hoF13, hoR13, hB13, hq13, hb13⟩
  have T13 : Below W0.heap.size W0 w13 := T12.trans (hb13.mono T12.size)
  clear bx0 bx1 bx2
  have bx0 := (T13.cell (p := ⟨w.heap.size, 0, none⟩) hbx).trans HBX.out.1
  have bx1 := (T13.cell (p := ⟨w.heap.size, 1, none⟩) hbx).trans HBX.out.2.1
  have bx2 := (T13.cell (p := ⟨w.heap.size, 2, none⟩) hbx).trans HBX.out.2.2
  obtain ⟨fa13, fc13, rfl, -⟩ := hoF13.rd.shape
  obtain ⟨ra13, rc13, rfl, -⟩ := hoR13.rd.shape
  have OF13 := Lib.hid hoF13
  have OR13 := Lib.hid hoR13
  clear hoF13 hoR13
  have FW_13 : Hid (RdI w13 v3 rr.1) := FW_12.out.below hb13
  have FG_13 : Hid (OwI w13 w5.heap.size v6 (marks 1 rr.1.length)) := FG_12.out.below hb13
  clear FW_12 FG_12
  go_wp2_with fail
  (with_reducible refine (ShortestWay_r _ _ F R rd limit f r tf tr _ OF13.out.rd OR13.out.rd hn hm rr HRE.out).mono ?_)
  rintro e w14 ⟨v14, rfl, ho14, hb14⟩
  have T14 : Below W0.heap.size W0 w14 := T13.trans (hb14.mono T13.size)
  clear bx0 bx1 bx2
  have bx0 := (T14.cell (p := ⟨w.heap.size, 0, none⟩) hbx).trans HBX.out.1
  have bx1 := (T14.cell (p := ⟨w.heap.size, 1, none⟩) hbx).trans HBX.out.2.1
  have bx2 := (T14.cell (p := ⟨w.heap.size, 2, none⟩) hbx).trans HBX.out.2.2
  have FW_14 : Hid (RdI w14 v3 rr.1) := FW_13.out.below hb14
  have FG_14 : Hid (OwI w14 w5.heap.size v6 (marks 1 rr.1.length)) := FG_13.out.below hb14
  clear FW_13 FG_13
  have FH_14 : Hid (RdI w14 v14 rr.1) := ho14.rd
  have BH : Hid (RdI w14 v14 rr.1) := ho14.rd
  clear ho14
  go_wp2_with fail
  (with_reducible refine (eqInt64S_same _ _ rr.1 _ (FH_14.out) (FW_14.out) hrl).mono ?_)
  rintro e w15 ⟨rfl, hb15⟩
  have T15 : Below W0.heap.size W0 w15 := T14.trans (hb15.mono T14.size)
  clear bx0 bx1 bx2
  have bx0 := (T15.cell (p := ⟨w.heap.size, 0, none⟩) hbx).trans HBX.out.1
  have bx1 := (T15.cell (p := ⟨w.heap.size, 1, none⟩) hbx).trans HBX.out.2.1
  have bx2 := (T15.cell (p := ⟨w.heap.size, 2, none⟩) hbx).trans HBX.out.2.2
  have FW_15 : Hid (RdI w15 v3 rr.1) := FW_14.out.below hb15
  have FG_15 : Hid (OwI w15 w5.heap.size v6 (marks 1 rr.1.length)) := FG_14.out.below hb15
  have FH_15 : Hid (RdI w15 v14 rr.1) := FH_14.out.below hb15
  clear FW_14 FG_14 FH_14
  go_wp2_with fail
  (with_reducible refine (heldInt64S_any _ rr.1.length 1 _ FG_15.out.rd (by omega) (by omega) (by omega)).mono ?_)
  rintro e _ ⟨rfl, rfl⟩
  go_wp2
  go_ret
  exact ⟨rfl, (HTW.out.trans (T15.mono (Nat.le_of_lt hbx)))⟩

end Go.Proofs.Ytfdnhamkkcmnfaa
