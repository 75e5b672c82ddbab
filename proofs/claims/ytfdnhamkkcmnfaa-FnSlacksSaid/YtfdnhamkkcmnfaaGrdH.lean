/- Contracts of RingShifts, of the program and of the reference. -/
import Derived.Test.YtfdnhamkkcmnfaaGrdG
set_option linter.unusedSimpArgs false
set_option linter.unusedVariables false
namespace Go.Proofs.Ytfdnhamkkcmnfaa
open Go.RowKit

set_option maxRecDepth 100000 in
set_option maxHeartbeats 4000000 in
theorem RingShifts_any (vF vR : Value) (F R : List Int) (rd : Int) (limit : Int) (w : World) (hF : RdI w vF F) (hR : RdI w vR R) (hn : F.length ≤ 1048576) (hm : R.length ≤ 1048576)  :
    Calls Try.prog 28 #[.agg #[vF, vR, .int .i64 rd], .int .i64 limit] w fun e w' => e = .returned (.tuple #[.int .i64 (shfR F R rd limit).1, .int .i64 (shfR F R rd limit).2]) ∧ Below w.heap.size w w' := by
  have HF := Lib.hid hF
  have HRr := Lib.hid hR
  obtain ⟨aF, cF, rfl, -⟩ := hF
  obtain ⟨aR, cR, rfl, -⟩ := hR
  cases hA : trainR F R rd
  · have HE : Hid (shfR F R rd limit = (0, 1)) := by show _ = _; unfold shfR; rw [hA]; rfl
    have HA := Lib.hid hA
    clear hA
    go_enter Try.func28, Try.ntmps28
    go_wp2_with fail
    generalize hw : w.alloc (.cells #[.slice aF F.length cF, .slice aR R.length cR, .int .i64 rd] 28) = W0
    have bx0 : W0.cell? ⟨w.heap.size, 0, none⟩ = some (.slice aF F.length cF) := by rw [← hw]; simp [go_sem]
    have bx1 : W0.cell? ⟨w.heap.size, 1, none⟩ = some (.slice aR R.length cR) := by rw [← hw]; simp [go_sem]
    have bx2 : W0.cell? ⟨w.heap.size, 2, none⟩ = some (.int .i64 rd) := by rw [← hw]; simp [go_sem]
    have hbx : w.heap.size < W0.heap.size := by rw [← hw]; simp
    have HTW : Hid (Below w.heap.size w W0) := by
      show Below _ _ _
      rw [← hw]; exact (Below.refl _ _).alloc (Nat.le_refl _) _
    have HF0 := Lib.hid (show RdI W0 (.slice aF F.length cF) F by rw [← hw]; exact HF.out.alloc _)
    have HR0 := Lib.hid (show RdI W0 (.slice aR R.length cR) R by rw [← hw]; exact HRr.out.alloc _)
    have HBX := Lib.hid (And.intro bx0 (And.intro bx1 bx2))
    have T0 := Below.refl W0.heap.size W0
    clear hw
    go_wp2_with fail
    (with_reducible refine (IsTrain_any _ _ F R rd _ (HF0.out.below T0) (HR0.out.below T0) hn hm).mono ?_)
    rintro e w1 ⟨rfl, hb1⟩
    have T1 : Below W0.heap.size W0 w1 := T0.trans (hb1.mono T0.size)
    clear bx0 bx1 bx2
    have bx0 := (T1.cell (p := ⟨w.heap.size, 0, none⟩) hbx).trans HBX.out.1
    have bx1 := (T1.cell (p := ⟨w.heap.size, 1, none⟩) hbx).trans HBX.out.2.1
    have bx2 := (T1.cell (p := ⟨w.heap.size, 2, none⟩) hbx).trans HBX.out.2.2
    rw [HA.out]
    go_wp2
    go_ret2
    exact ⟨gret2 HE.out, (HTW.out.trans (T1.mono (Nat.le_of_lt hbx)))⟩
  cases hL : inR limit 0 4
  · have HE : Hid (shfR F R rd limit = (0, 2)) := by show _ = _; unfold shfR; rw [hA, hL]; rfl
    have HA := Lib.hid hA
    have HL := Lib.hid hL
    clear hA hL
    go_enter Try.func28, Try.ntmps28
    go_wp2_with fail
    generalize hw : w.alloc (.cells #[.slice aF F.length cF, .slice aR R.length cR, .int .i64 rd] 28) = W0
    have bx0 : W0.cell? ⟨w.heap.size, 0, none⟩ = some (.slice aF F.length cF) := by rw [← hw]; simp [go_sem]
    have bx1 : W0.cell? ⟨w.heap.size, 1, none⟩ = some (.slice aR R.length cR) := by rw [← hw]; simp [go_sem]
    have bx2 : W0.cell? ⟨w.heap.size, 2, none⟩ = some (.int .i64 rd) := by rw [← hw]; simp [go_sem]
    have hbx : w.heap.size < W0.heap.size := by rw [← hw]; simp
    have HTW : Hid (Below w.heap.size w W0) := by
      show Below _ _ _
      rw [← hw]; exact (Below.refl _ _).alloc (Nat.le_refl _) _
    have HF0 := Lib.hid (show RdI W0 (.slice aF F.length cF) F by rw [← hw]; exact HF.out.alloc _)
    have HR0 := Lib.hid (show RdI W0 (.slice aR R.length cR) R by rw [← hw]; exact HRr.out.alloc _)
    have HBX := Lib.hid (And.intro bx0 (And.intro bx1 bx2))
    have T0 := Below.refl W0.heap.size W0
    clear hw
    go_wp2_with fail
    (with_reducible refine (IsTrain_any _ _ F R rd _ (HF0.out.below T0) (HR0.out.below T0) hn hm).mono ?_)
    rintro e w1 ⟨rfl, hb1⟩
    have T1 : Below W0.heap.size W0 w1 := T0.trans (hb1.mono T0.size)
    clear bx0 bx1 bx2
    have bx0 := (T1.cell (p := ⟨w.heap.size, 0, none⟩) hbx).trans HBX.out.1
    have bx1 := (T1.cell (p := ⟨w.heap.size, 1, none⟩) hbx).trans HBX.out.2.1
    have bx2 := (T1.cell (p := ⟨w.heap.size, 2, none⟩) hbx).trans HBX.out.2.2
    rw [HA.out]
    go_wp2_with fail
    (with_reducible refine (isLimit_any _ _).mono ?_)
    rintro e _ ⟨rfl, rfl⟩
    rw [HL.out]
    go_wp2
    go_ret2
    exact ⟨gret2 HE.out, (HTW.out.trans (T1.mono (Nat.le_of_lt hbx)))⟩
  obtain ⟨tF, tR, -, -⟩ := trainR_at hA
  obtain ⟨f1, f3, -⟩ := teethR_at tF
  obtain ⟨r1, r12, -⟩ := teethR_at tR
  obtain ⟨l0, l4⟩ := inR_iff.1 hL
  have HA := Lib.hid hA
  have HL := Lib.hid hL
  clear hA hL
  go_enter Try.func28, Try.ntmps28
  go_wp2_with fail
  generalize hw : w.alloc (.cells #[.slice aF F.length cF, .slice aR R.length cR, .int .i64 rd] 28) = W0
  have bx0 : W0.cell? ⟨w.heap.size, 0, none⟩ = some (.slice aF F.length cF) := by rw [← hw]; simp [go_sem]
  have bx1 : W0.cell? ⟨w.heap.size, 1, none⟩ = some (.slice aR R.length cR) := by rw [← hw]; simp [go_sem]
  have bx2 : W0.cell? ⟨w.heap.size, 2, none⟩ = some (.int .i64 rd) := by rw [← hw]; simp [go_sem]
  have hbx : w.heap.size < W0.heap.size := by rw [← hw]; simp
  have HTW : Hid (Below w.heap.size w W0) := by
    show Below _ _ _
    rw [← hw]; exact (Below.refl _ _).alloc (Nat.le_refl _) _
  have HF0 := Lib.hid (show RdI W0 (.slice aF F.length cF) F by rw [← hw]; exact HF.out.alloc _)
  have HR0 := Lib.hid (show RdI W0 (.slice aR R.length cR) R by rw [← hw]; exact HRr.out.alloc _)
  have HBX := Lib.hid (And.intro bx0 (And.intro bx1 bx2))
  have T0 := Below.refl W0.heap.size W0
  clear hw
  go_wp2_with fail
  (with_reducible refine (IsTrain_any _ _ F R rd _ (HF0.out.below T0) (HR0.out.below T0) hn hm).mono ?_)
  rintro e w1 ⟨rfl, hb1⟩
  have T1 : Below W0.heap.size W0 w1 := T0.trans (hb1.mono T0.size)
  clear bx0 bx1 bx2
  have bx0 := (T1.cell (p := ⟨w.heap.size, 0, none⟩) hbx).trans HBX.out.1
  have bx1 := (T1.cell (p := ⟨w.heap.size, 1, none⟩) hbx).trans HBX.out.2.1
  have bx2 := (T1.cell (p := ⟨w.heap.size, 2, none⟩) hbx).trans HBX.out.2.2
  rw [HA.out]
  go_wp2_with fail
  (with_reducible refine (isLimit_any _ _).mono ?_)
  rintro e _ ⟨rfl, rfl⟩
  rw [HL.out]
  go_wp2_with fail
  (with_reducible refine (usableGears_any _ _ F R rd _ _ (HF0.out.below T1) (HR0.out.below T1) hn hm tF tR l0 l4).mono ?_)
  rintro e w2 ⟨v2, L, rfl, ho2, hm2, hb2⟩
  have T2 : Below W0.heap.size W0 w2 := T1.trans (hb2.mono T1.size)
  clear bx0 bx1 bx2
  have bx0 := (T2.cell (p := ⟨w.heap.size, 0, none⟩) hbx).trans HBX.out.1
  have bx1 := (T2.cell (p := ⟨w.heap.size, 1, none⟩) hbx).trans HBX.out.2.1
  have bx2 := (T2.cell (p := ⟨w.heap.size, 2, none⟩) hbx).trans HBX.out.2.2
  clear bx0 bx1 bx2
  obtain ⟨gs, hgs⟩ : ∃ gs, gs = usG F R limit := ⟨_, rfl⟩
  have hl36 : gs.length ≤ 36 := by rw [hgs]; exact usG_len (by omega) (by omega)
  have HM : Hid (L.map Prod.fst = gs) := by show _ = _; rw [hgs]; exact hm2
  have HLN : Hid (L.length = gs.length) := by show _ = _; rw [← List.length_map (f := Prod.fst), HM.out]
  have HGS := Lib.hid hgs
  obtain ⟨ao, co, eA, hRD⟩ := ho2.1.rd.shape
  rw [List.length_map, HLN.out] at eA
  subst eA
  have HO := Lib.hid ho2
  clear ho2 hm2 hgs hRD
  have HB1 : Hid (∀ k, 0 ≤ shfK gs k ∧ shfK gs k ≤ 100 * (k : Int) ∨ 36 < k ∨ gs.length < k) := by
    show ∀ k, _
    intro k
    induction k with
    | zero => exact Or.inl ⟨Int.le_refl _, by simp [shfK]⟩
    | succ k ih =>
      rcases ih with ih | ih | ih
      · by_cases hk : k < gs.length
        · by_cases h0 : k = 0
          · subst h0
            exact Or.inl ⟨by simp [shfK], by simp [shfK]⟩
          · left
            have e1 : gs[k]? = some (gs.getD k (0, 0)) := by simp [List.getD_eq_getElem?_getD, hk]
            have e2 : gs[k - 1]? = some (gs.getD (k - 1) (0, 0)) := by have : k - 1 < gs.length := by omega
                                                                       simp [List.getD_eq_getElem?_getD, this]
            obtain ⟨i1, q1, g1, hi1, -⟩ := usG_ok (by rw [← HGS.out]; exact e1)
            obtain ⟨i2, q2, g2, hi2, -⟩ := usG_ok (by rw [← HGS.out]; exact e2)
            have hb := absG_bd (x := (gs.getD k (0, 0)).1 - (gs.getD (k - 1) (0, 0)).1) (by rw [g1, g2]; show (-100 : Int) ≤ (i1 : Int) - (i2 : Int); omega) (by rw [g1, g2]; show (i1 : Int) - (i2 : Int) ≤ 100; omega)
            unfold shfK
            rw [if_neg h0]
            omega
        · exact Or.inr (Or.inr (by omega))
      · exact Or.inr (Or.inl (by omega))
      · exact Or.inr (Or.inr (by omega))
  have HSE : Hid (shfR F R rd limit = (shfK gs gs.length, 0)) := by
    show _ = _
    unfold shfR
    rw [HA.out, HL.out, ← HGS.out]
    rfl
  go_wp2
  go_loopw [6, 8] (fun sv iv wr => ∃ k : Nat, 1 ≤ k ∧ (k ≤ gs.length ∨ (gs.length = 0 ∧ k = 1)) ∧ sv = .int .i64 (shfK gs k) ∧ iv = .int .i64 k ∧ Below w2.heap.size w2 wr) (fun _ iv _ => gs.length + 1 - (intOf iv).toNat)
  case atStart => exact ⟨1, Nat.le_refl _, by omega, rfl, rfl, Below.refl _ _⟩
  case round =>
    obtain ⟨k, hk1, hk, rfl, rfl, hbw⟩ := hrel
    by_cases hlt : k < gs.length
    · have hkL : k < L.length := by have := HLN.out; omega
      obtain ⟨⟨xg, px⟩, hx⟩ : ∃ x, L[k]? = some x := ⟨_, List.getElem?_eq_getElem hkL⟩
      obtain ⟨⟨yg, py⟩, hy⟩ : ∃ y, L[k - 1]? = some y := ⟨_, List.getElem?_eq_getElem (by omega)⟩
      have hxg : gs[k]? = some xg := by rw [← HM.out, List.getElem?_map, hx]; rfl
      have hyg : gs[k - 1]? = some yg := by rw [← HM.out, List.getElem?_map, hy]; rfl
      obtain ⟨i1, q1, rfl, hi1, -⟩ := usG_ok (by rw [← HGS.out]; exact hxg)
      obtain ⟨i2, q2, rfl, hi2, -⟩ := usG_ok (by rw [← HGS.out]; exact hyg)
      obtain ⟨gA, rfl, c1⟩ := (HO.out.below hbw).cellAt hx
      obtain ⟨gB, hgB, c2⟩ := (HO.out.below hbw).cellAt hy
      obtain rfl : gA = gB := by injection hgB with hgB; injection hgB
      have r1 : wr.cell? ⟨px, 0, none⟩ = some (.int .i64 i1) := cell_of_row wr px 0 _ _ (0, 0) ((HO.out.below hbw).row hx).2
      have r2 : wr.cell? ⟨py, 0, none⟩ = some (.int .i64 i2) := cell_of_row wr py 0 _ _ (0, 0) ((HO.out.below hbw).row hy).2
      have e1 : gv (((i1 : Int), (q1 : Int)), px) = .slice (some ⟨px, 0, none⟩) 2 2 := rfl
      have e2 : gv (((i2 : Int), (q2 : Int)), py) = .slice (some ⟨py, 0, none⟩) 2 2 := rfl
      rw [e1] at c1
      rw [e2] at c2
      have HK : Hid (shfK gs (k + 1) = shfK gs k + absG ((i1 : Int) - (i2 : Int))) := by
        show _ = _
        have d1 : gs.getD k (0, 0) = ((i1 : Int), (q1 : Int)) := by rw [List.getD_eq_getElem?_getD, hxg]; rfl
        have d2 : gs.getD (k - 1) (0, 0) = ((i2 : Int), (q2 : Int)) := by rw [List.getD_eq_getElem?_getD, hyg]; rfl
        show shfK gs k + _ = _
        rw [if_neg (by omega), d1, d2]
      have hsb : 0 ≤ shfK gs k ∧ shfK gs k ≤ 3600 := by
        rcases HB1.out k with h | h | h
        · omega
        · omega
        · omega
      have hab := absG_bd (x := (i1 : Int) - (i2 : Int)) (by omega) (by omega)
      generalize shfK gs k = sk at *
      clear hx hy hxg hyg e1 e2 hgB
      have hkm : IntKind.i64.wrap ((k : Int) - 1) = (k : Int) - 1 := IntWalk.i64_in _ (by omega)
      have hkn : ((k : Int) - 1).toNat = k - 1 := by omega
      have hk0 : (0 : Int) ≤ (k : Int) - 1 := by omega
      have hk00 : (0 : Int) ≤ (k : Int) := by omega
      have hk2 : (k : Int) - 1 < (gs.length : Int) := by omega
      have hk3 : (k : Int) < (gs.length : Int) := by omega
      have hdw : IntKind.i64.wrap ((i1 : Int) - (i2 : Int)) = (i1 : Int) - (i2 : Int) := IntWalk.i64_in _ (by omega)
      obtain ⟨ad, had⟩ : ∃ ad, ad = absG ((i1 : Int) - (i2 : Int)) := ⟨_, rfl⟩
      rw [← had] at hab
      have HAD := Lib.hid had.symm
      clear had
      have hsw : IntKind.i64.wrap (sk + ad) = sk + ad := IntWalk.i64_in _ (by omega)
      go_wp2
      go_quiet ((go_at_call 78; exact (by have h := gabs_any ((i1 : Int) - (i2 : Int)); rw [HAD.out] at h; exact quiet_eqG (h _ (by omega) (by omega)))))
      go_wp2
      go_roundw
      case rel => exact ⟨k + 1, by omega, by omega, by rw [HK.out, HAD.out], by go_num, blw_drewN hbw _⟩
      case measure => simp [intOf] <;> omega
    · have HF : Hid (shfR F R rd limit = (shfK gs k, 0)) := by
        show _ = _
        rw [HSE.out]
        by_cases h0 : gs.length = 0
        · have h1 : k = 1 := by omega
          rw [h0, h1]
          simp [shfK]
        · have h1 : k = gs.length := by omega
          rw [h1]
      have hnl : ¬ (k : Int) < (gs.length : Int) := by omega
      have hnl2 : decide (k < gs.length) = false := by simpa using hlt
      go_wp2
      go_ret2
      exact ⟨gret2 HF.out, (HTW.out.trans ((T2.trans (hbw.mono T2.size)).mono (Nat.le_of_lt hbx)))⟩

set_option maxRecDepth 100000 in
set_option maxHeartbeats 4000000 in
theorem sRingShifts_any (vF vR : Value) (F R : List Int) (rd : Int) (limit : Int) (w : World) (hF : RdI w vF F) (hR : RdI w vR R) (hn : F.length ≤ 1048576) (hm : R.length ≤ 1048576)  :
    Calls Try.prog 27 #[.agg #[vF, vR, .int .i64 rd], .int .i64 limit] w fun e w' => e = .returned (.tuple #[.int .i64 (shfR F R rd limit).1, .int .i64 (shfR F R rd limit).2]) ∧ Below w.heap.size w w' := by
  have HF := Lib.hid hF
  have HRr := Lib.hid hR
  obtain ⟨aF, cF, rfl, -⟩ := hF
  obtain ⟨aR, cR, rfl, -⟩ := hR
  cases hA : trainR F R rd
  · have HE : Hid (shfR F R rd limit = (0, 1)) := by show _ = _; unfold shfR; rw [hA]; rfl
    have HC : Hid (code11 F R rd limit 0 0 = 1) := by show _ = _; unfold code11; rw [hA]; rfl
    have HA := Lib.hid hA
    clear hA
    go_enter Try.func27, Try.ntmps27
    go_wp2_with fail
    generalize hw : w.alloc (.cells #[.slice aF F.length cF, .slice aR R.length cR, .int .i64 rd] 28) = W0
    have bx0 : W0.cell? ⟨w.heap.size, 0, none⟩ = some (.slice aF F.length cF) := by rw [← hw]; simp [go_sem]
    have bx1 : W0.cell? ⟨w.heap.size, 1, none⟩ = some (.slice aR R.length cR) := by rw [← hw]; simp [go_sem]
    have bx2 : W0.cell? ⟨w.heap.size, 2, none⟩ = some (.int .i64 rd) := by rw [← hw]; simp [go_sem]
    have hbx : w.heap.size < W0.heap.size := by rw [← hw]; simp
    have HTW : Hid (Below w.heap.size w W0) := by
      show Below _ _ _
      rw [← hw]; exact (Below.refl _ _).alloc (Nat.le_refl _) _
    have HF0 := Lib.hid (show RdI W0 (.slice aF F.length cF) F by rw [← hw]; exact HF.out.alloc _)
    have HR0 := Lib.hid (show RdI W0 (.slice aR R.length cR) R by rw [← hw]; exact HRr.out.alloc _)
    have HBX := Lib.hid (And.intro bx0 (And.intro bx1 bx2))
    have T0 := Below.refl W0.heap.size W0
    clear hw
    go_wp2_with fail
    (with_reducible refine (l11Code_any _ _ F R rd _ _ _ _ (HF0.out.below T0) (HR0.out.below T0) hn hm).mono ?_)
    rintro e w1 ⟨rfl, hb1⟩
    have T1 : Below W0.heap.size W0 w1 := T0.trans (hb1.mono T0.size)
    clear bx0 bx1 bx2
    have bx0 := (T1.cell (p := ⟨w.heap.size, 0, none⟩) hbx).trans HBX.out.1
    have bx1 := (T1.cell (p := ⟨w.heap.size, 1, none⟩) hbx).trans HBX.out.2.1
    have bx2 := (T1.cell (p := ⟨w.heap.size, 2, none⟩) hbx).trans HBX.out.2.2
    rw [HC.out]
    go_wp2
    go_ret2
    exact ⟨gret2 HE.out, (HTW.out.trans (T1.mono (Nat.le_of_lt hbx)))⟩
  cases hL : inR limit 0 4
  · have HE : Hid (shfR F R rd limit = (0, 2)) := by show _ = _; unfold shfR; rw [hA, hL]; rfl
    have hG := gear00 hA
    have HC : Hid (code11 F R rd limit 0 0 = 2) := by show _ = _; unfold code11; rw [hA, hG, hL]; rfl
    clear hG
    have HA := Lib.hid hA
    have HL := Lib.hid hL
    clear hA hL
    go_enter Try.func27, Try.ntmps27
    go_wp2_with fail
    generalize hw : w.alloc (.cells #[.slice aF F.length cF, .slice aR R.length cR, .int .i64 rd] 28) = W0
    have bx0 : W0.cell? ⟨w.heap.size, 0, none⟩ = some (.slice aF F.length cF) := by rw [← hw]; simp [go_sem]
    have bx1 : W0.cell? ⟨w.heap.size, 1, none⟩ = some (.slice aR R.length cR) := by rw [← hw]; simp [go_sem]
    have bx2 : W0.cell? ⟨w.heap.size, 2, none⟩ = some (.int .i64 rd) := by rw [← hw]; simp [go_sem]
    have hbx : w.heap.size < W0.heap.size := by rw [← hw]; simp
    have HTW : Hid (Below w.heap.size w W0) := by
      show Below _ _ _
      rw [← hw]; exact (Below.refl _ _).alloc (Nat.le_refl _) _
    have HF0 := Lib.hid (show RdI W0 (.slice aF F.length cF) F by rw [← hw]; exact HF.out.alloc _)
    have HR0 := Lib.hid (show RdI W0 (.slice aR R.length cR) R by rw [← hw]; exact HRr.out.alloc _)
    have HBX := Lib.hid (And.intro bx0 (And.intro bx1 bx2))
    have T0 := Below.refl W0.heap.size W0
    clear hw
    go_wp2_with fail
    (with_reducible refine (l11Code_any _ _ F R rd _ _ _ _ (HF0.out.below T0) (HR0.out.below T0) hn hm).mono ?_)
    rintro e w1 ⟨rfl, hb1⟩
    have T1 : Below W0.heap.size W0 w1 := T0.trans (hb1.mono T0.size)
    clear bx0 bx1 bx2
    have bx0 := (T1.cell (p := ⟨w.heap.size, 0, none⟩) hbx).trans HBX.out.1
    have bx1 := (T1.cell (p := ⟨w.heap.size, 1, none⟩) hbx).trans HBX.out.2.1
    have bx2 := (T1.cell (p := ⟨w.heap.size, 2, none⟩) hbx).trans HBX.out.2.2
    rw [HC.out]
    go_wp2
    go_ret2
    exact ⟨gret2 HE.out, (HTW.out.trans (T1.mono (Nat.le_of_lt hbx)))⟩
  obtain ⟨tF, tR, -, -⟩ := trainR_at hA
  obtain ⟨f1, f3, -⟩ := teethR_at tF
  obtain ⟨r1, r12, -⟩ := teethR_at tR
  obtain ⟨l0, l4⟩ := inR_iff.1 hL
  have hG := gear00 hA
  have HC : Hid (code11 F R rd limit 0 0 = 0) := by show _ = _; unfold code11; rw [hA, hG, hL]; rfl
  clear hG
  have HA := Lib.hid hA
  have HL := Lib.hid hL
  clear hA hL
  go_enter Try.func27, Try.ntmps27
  go_wp2_with fail
  generalize hw : w.alloc (.cells #[.slice aF F.length cF, .slice aR R.length cR, .int .i64 rd] 28) = W0
  have bx0 : W0.cell? ⟨w.heap.size, 0, none⟩ = some (.slice aF F.length cF) := by rw [← hw]; simp [go_sem]
  have bx1 : W0.cell? ⟨w.heap.size, 1, none⟩ = some (.slice aR R.length cR) := by rw [← hw]; simp [go_sem]
  have bx2 : W0.cell? ⟨w.heap.size, 2, none⟩ = some (.int .i64 rd) := by rw [← hw]; simp [go_sem]
  have hbx : w.heap.size < W0.heap.size := by rw [← hw]; simp
  have HTW : Hid (Below w.heap.size w W0) := by
    show Below _ _ _
    rw [← hw]; exact (Below.refl _ _).alloc (Nat.le_refl _) _
  have HF0 := Lib.hid (show RdI W0 (.slice aF F.length cF) F by rw [← hw]; exact HF.out.alloc _)
  have HR0 := Lib.hid (show RdI W0 (.slice aR R.length cR) R by rw [← hw]; exact HRr.out.alloc _)
  have HBX := Lib.hid (And.intro bx0 (And.intro bx1 bx2))
  have T0 := Below.refl W0.heap.size W0
  clear hw
  go_wp2_with fail
  (with_reducible refine (l11Code_any _ _ F R rd _ _ _ _ (HF0.out.below T0) (HR0.out.below T0) hn hm).mono ?_)
  rintro e w1 ⟨rfl, hb1⟩
  have T1 : Below W0.heap.size W0 w1 := T0.trans (hb1.mono T0.size)
  clear bx0 bx1 bx2
  have bx0 := (T1.cell (p := ⟨w.heap.size, 0, none⟩) hbx).trans HBX.out.1
  have bx1 := (T1.cell (p := ⟨w.heap.size, 1, none⟩) hbx).trans HBX.out.2.1
  have bx2 := (T1.cell (p := ⟨w.heap.size, 2, none⟩) hbx).trans HBX.out.2.2
  rw [HC.out]
  go_wp2_with fail
  (with_reducible refine (l11Usable_any _ _ F R rd _ _ (HF0.out.below T1) (HR0.out.below T1) hn hm tF tR l0 l4).mono ?_)
  rintro e w2 ⟨v2, L, rfl, ho2, hm2, hb2⟩
  have T2 : Below W0.heap.size W0 w2 := T1.trans (hb2.mono T1.size)
  clear bx0 bx1 bx2
  have bx0 := (T2.cell (p := ⟨w.heap.size, 0, none⟩) hbx).trans HBX.out.1
  have bx1 := (T2.cell (p := ⟨w.heap.size, 1, none⟩) hbx).trans HBX.out.2.1
  have bx2 := (T2.cell (p := ⟨w.heap.size, 2, none⟩) hbx).trans HBX.out.2.2
  clear bx0 bx1 bx2
  obtain ⟨gs, hgs⟩ : ∃ gs, gs = usG F R limit := ⟨_, rfl⟩
  have hl36 : gs.length ≤ 36 := by rw [hgs]; exact usG_len (by omega) (by omega)
  have HM : Hid (L.map Prod.fst = gs) := by show _ = _; rw [hgs]; exact hm2
  have HLN : Hid (L.length = gs.length) := by show _ = _; rw [← List.length_map (f := Prod.fst), HM.out]
  have HGS := Lib.hid hgs
  obtain ⟨ao, co, eA, hRD⟩ := ho2.1.rd.shape
  rw [List.length_map, HLN.out] at eA
  subst eA
  have HO := Lib.hid ho2
  clear ho2 hm2 hgs hRD
  have HB1 : Hid (∀ k, 0 ≤ shfK gs k ∧ shfK gs k ≤ 100 * (k : Int) ∨ 36 < k ∨ gs.length < k) := by
    show ∀ k, _
    intro k
    induction k with
    | zero => exact Or.inl ⟨Int.le_refl _, by simp [shfK]⟩
    | succ k ih =>
      rcases ih with ih | ih | ih
      · by_cases hk : k < gs.length
        · by_cases h0 : k = 0
          · subst h0
            exact Or.inl ⟨by simp [shfK], by simp [shfK]⟩
          · left
            have e1 : gs[k]? = some (gs.getD k (0, 0)) := by simp [List.getD_eq_getElem?_getD, hk]
            have e2 : gs[k - 1]? = some (gs.getD (k - 1) (0, 0)) := by have : k - 1 < gs.length := by omega
                                                                       simp [List.getD_eq_getElem?_getD, this]
            obtain ⟨i1, q1, g1, hi1, -⟩ := usG_ok (by rw [← HGS.out]; exact e1)
            obtain ⟨i2, q2, g2, hi2, -⟩ := usG_ok (by rw [← HGS.out]; exact e2)
            have hb := absG_bd (x := (gs.getD k (0, 0)).1 - (gs.getD (k - 1) (0, 0)).1) (by rw [g1, g2]; show (-100 : Int) ≤ (i1 : Int) - (i2 : Int); omega) (by rw [g1, g2]; show (i1 : Int) - (i2 : Int) ≤ 100; omega)
            unfold shfK
            rw [if_neg h0]
            omega
        · exact Or.inr (Or.inr (by omega))
      · exact Or.inr (Or.inl (by omega))
      · exact Or.inr (Or.inr (by omega))
  have HSE : Hid (shfR F R rd limit = (shfK gs gs.length, 0)) := by
    show _ = _
    unfold shfR
    rw [HA.out, HL.out, ← HGS.out]
    rfl
  go_wp2
  go_loopw [8, 9] (fun sv iv wr => ∃ k : Nat, 1 ≤ k ∧ (k ≤ gs.length ∨ (gs.length = 0 ∧ k = 1)) ∧ sv = .int .i64 (shfK gs k) ∧ iv = .int .i64 k ∧ Below w2.heap.size w2 wr) (fun _ iv _ => gs.length + 1 - (intOf iv).toNat)
  case atStart => exact ⟨1, Nat.le_refl _, by omega, rfl, rfl, Below.refl _ _⟩
  case round =>
    obtain ⟨k, hk1, hk, rfl, rfl, hbw⟩ := hrel
    by_cases hlt : k < gs.length
    · have hkL : k < L.length := by have := HLN.out; omega
      obtain ⟨⟨xg, px⟩, hx⟩ : ∃ x, L[k]? = some x := ⟨_, List.getElem?_eq_getElem hkL⟩
      obtain ⟨⟨yg, py⟩, hy⟩ : ∃ y, L[k - 1]? = some y := ⟨_, List.getElem?_eq_getElem (by omega)⟩
      have hxg : gs[k]? = some xg := by rw [← HM.out, List.getElem?_map, hx]; rfl
      have hyg : gs[k - 1]? = some yg := by rw [← HM.out, List.getElem?_map, hy]; rfl
      obtain ⟨i1, q1, rfl, hi1, -⟩ := usG_ok (by rw [← HGS.out]; exact hxg)
      obtain ⟨i2, q2, rfl, hi2, -⟩ := usG_ok (by rw [← HGS.out]; exact hyg)
      obtain ⟨gA, rfl, c1⟩ := (HO.out.below hbw).cellAt hx
      obtain ⟨gB, hgB, c2⟩ := (HO.out.below hbw).cellAt hy
      obtain rfl : gA = gB := by injection hgB with hgB; injection hgB
      have r1 : wr.cell? ⟨px, 0, none⟩ = some (.int .i64 i1) := cell_of_row wr px 0 _ _ (0, 0) ((HO.out.below hbw).row hx).2
      have r2 : wr.cell? ⟨py, 0, none⟩ = some (.int .i64 i2) := cell_of_row wr py 0 _ _ (0, 0) ((HO.out.below hbw).row hy).2
      have e1 : gv (((i1 : Int), (q1 : Int)), px) = .slice (some ⟨px, 0, none⟩) 2 2 := rfl
      have e2 : gv (((i2 : Int), (q2 : Int)), py) = .slice (some ⟨py, 0, none⟩) 2 2 := rfl
      rw [e1] at c1
      rw [e2] at c2
      have HK : Hid (shfK gs (k + 1) = shfK gs k + absG ((i1 : Int) - (i2 : Int))) := by
        show _ = _
        have d1 : gs.getD k (0, 0) = ((i1 : Int), (q1 : Int)) := by rw [List.getD_eq_getElem?_getD, hxg]; rfl
        have d2 : gs.getD (k - 1) (0, 0) = ((i2 : Int), (q2 : Int)) := by rw [List.getD_eq_getElem?_getD, hyg]; rfl
        show shfK gs k + _ = _
        rw [if_neg (by omega), d1, d2]
      have hsb : 0 ≤ shfK gs k ∧ shfK gs k ≤ 3600 := by
        rcases HB1.out k with h | h | h
        · omega
        · omega
        · omega
      have hab := absG_bd (x := (i1 : Int) - (i2 : Int)) (by omega) (by omega)
      generalize shfK gs k = sk at *
      clear hx hy hxg hyg e1 e2 hgB
      have hkm : IntKind.i64.wrap ((k : Int) - 1) = (k : Int) - 1 := IntWalk.i64_in _ (by omega)
      have hkn : ((k : Int) - 1).toNat = k - 1 := by omega
      have hk0 : (0 : Int) ≤ (k : Int) - 1 := by omega
      have hk00 : (0 : Int) ≤ (k : Int) := by omega
      have hk2 : (k : Int) - 1 < (gs.length : Int) := by omega
      have hk3 : (k : Int) < (gs.length : Int) := by omega
      have hdw : IntKind.i64.wrap ((i1 : Int) - (i2 : Int)) = (i1 : Int) - (i2 : Int) := IntWalk.i64_in _ (by omega)
      obtain ⟨ad, had⟩ : ∃ ad, ad = absG ((i1 : Int) - (i2 : Int)) := ⟨_, rfl⟩
      rw [← had] at hab
      have HAD := Lib.hid had.symm
      clear had
      have hsw : IntKind.i64.wrap (sk + ad) = sk + ad := IntWalk.i64_in _ (by omega)
      go_wp2
      go_quiet ((go_at_call 76; exact (by have h := gl01Abs_any ((i1 : Int) - (i2 : Int)); rw [HAD.out] at h; exact quiet_eqG (h _ (by omega) (by omega)))))
      go_wp2
      go_roundw
      case rel => exact ⟨k + 1, by omega, by omega, by rw [HK.out, HAD.out], by go_num, blw_drewN hbw _⟩
      case measure => simp [intOf] <;> omega
    · have HF : Hid (shfR F R rd limit = (shfK gs k, 0)) := by
        show _ = _
        rw [HSE.out]
        by_cases h0 : gs.length = 0
        · have h1 : k = 1 := by omega
          rw [h0, h1]
          simp [shfK]
        · have h1 : k = gs.length := by omega
          rw [h1]
      have hnl : ¬ (k : Int) < (gs.length : Int) := by omega
      have hnl2 : decide (k < gs.length) = false := by simpa using hlt
      go_wp2
      go_ret2
      exact ⟨gret2 HF.out, (HTW.out.trans ((T2.trans (hbw.mono T2.size)).mono (Nat.le_of_lt hbx)))⟩

end Go.Proofs.Ytfdnhamkkcmnfaa
