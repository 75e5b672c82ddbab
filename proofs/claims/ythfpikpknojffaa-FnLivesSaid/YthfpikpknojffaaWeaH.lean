/- Contracts of LifeFor, of the program and of the reference. -/
import Derived.Test.YthfpikpknojffaaWeaG
import Derived.Test.YthfpikpknojffaaWeaE
set_option linter.unusedSimpArgs false
set_option linter.unusedVariables false
namespace Go.Proofs.Ythfpikpknojffaa
open Go.RowKit

theorem wearK_mono {rs : List Rid} (h : areR rs = true) {i k : Nat} (hik : i ≤ k) (hk : k ≤ rs.length) : wearK rs i ≤ wearK rs k := by
  induction k with
  | zero => have : i = 0 := by omega
            subst this; exact Int.le_refl _
  | succ k ih =>
    by_cases he : i = k + 1
    · subst he; exact Int.le_refl _
    · have := ih (by omega) (by omega)
      have h1 := (areR_at h).2 k (by omega)
      have h2 := (wear1_bd h1.2.2.1 h1.2.2.2.1).1
      simp only [wearK]
      omega

set_option maxHeartbeats 800000 in
theorem LifeFor_any (v : Value) (rs : List Rid) (most : Int) (w : World) (hr : RdRid w v rs) (hn : rs.length ≤ 1048576) :
    Calls Try.prog 33 #[v, .int .i64 most] w fun e w' => e = .returned (.tuple #[.int .i64 (lifeR rs most).1, .int .i64 (lifeR rs most).2]) ∧ Below w.heap.size w w' := by
  obtain ⟨a, c, rfl, hr2⟩ := hr.shape
  have HR := Lib.hid hr2
  clear hr2 hr
  cases hA : areR rs
  · have HA := Lib.hid hA
    clear hA
    go_enter Try.func33, Try.ntmps33
    go_wp2_with fail
    (with_reducible refine (AreRides_any _ rs _ HR.out hn).mono ?_)
    rintro e w1 ⟨rfl, hb1⟩
    rw [HA.out]
    go_wp2
    go_ret2
    exact ⟨ret2_end (by unfold lifeR; rw [if_neg (by rw [HA.out]; simp)]), hb1⟩
  cases hM : inR most 0 40
  · have HA := Lib.hid hA
    have HM := Lib.hid hM
    clear hA hM
    go_enter Try.func33, Try.ntmps33
    go_wp2_with fail
    (with_reducible refine (AreRides_any _ rs _ HR.out hn).mono ?_)
    rintro e w1 ⟨rfl, hb1⟩
    rw [HA.out]
    go_wp2_with fail
    (with_reducible refine (within_any _ _ _ _).mono ?_)
    rintro e _ ⟨rfl, rfl⟩
    rw [HM.out]
    go_wp2
    go_ret2
    exact ⟨ret2_end (by unfold lifeR; rw [if_pos HA.out, if_neg (by rw [HM.out]; simp)]), hb1⟩
  · have HA := Lib.hid hA
    have HM := Lib.hid hM
    obtain ⟨hm0, hm40⟩ := inR_iff.1 hM
    obtain ⟨hn40, hat⟩ := areR_at hA
    have HAT := Lib.hid hat
    have HWB := Lib.hid (wearK_bd hA)
    obtain ⟨L0, hL0, hL1⟩ := isLeast_ex hA hm0
    have HF := Lib.hid (lifeR_least hA hM hL0 (by omega))
    have HL0 := Lib.hid hL0
    clear hA hM hat hL0
    go_enter Try.func33, Try.ntmps33
    go_wp2_with fail
    (with_reducible refine (AreRides_any _ rs _ HR.out hn).mono ?_)
    rintro e w1 ⟨rfl, hb1⟩
    rw [HA.out]
    go_wp2_with fail
    (with_reducible refine (within_any _ _ _ _).mono ?_)
    rintro e _ ⟨rfl, rfl⟩
    rw [HM.out]
    have HH := Lib.hid (halfI_0 HA.out hm0)
    go_wp2
    go_loopw [6, 7] (fun lo hi wr => ∃ l h : Int, lo = .int .i64 l ∧ hi = .int .i64 h ∧ 1 ≤ l ∧ l ≤ h ∧ h ≤ 10000000 ∧ Below w.heap.size w wr ∧ Hid (halfI rs most l h)) (fun lo hi _ => (intOf hi - intOf lo).toNat)
    case atStart => exact ⟨1, 10000000, rfl, rfl, by omega, by omega, by omega, hb1, HH⟩
    case round =>
      obtain ⟨l, h, rfl, rfl, l1, lh, h1, hbw, hi⟩ := hrel
      by_cases hlt : l < h
      · have hm1 : l ≤ (l + h) / 2 := by omega
        have hm2 : (l + h) / 2 < h := by omega
        obtain ⟨m, hm⟩ : ∃ m, m = (l + h) / 2 := ⟨_, rfl⟩
        rw [← hm] at hm1 hm2
        have hs : (l + h) / 2 = m := hm.symm
        clear hm
        have HRw := Lib.hid (HR.out.below (hbw.mono (Nat.le_refl _)))
        have hsz := hbw.size
        go_wp2_with fail
        (with_reducible refine (changes_any _ rs _ _ HRw.out HA.out).mono ?_)
        rintro e w2 ⟨v2, rfl, ho2, hb2⟩
        obtain ⟨a2, c2, hv2, -⟩ := ho2.rd.shape
        obtain ⟨ln, hln⟩ : ∃ ln : Nat, ln = (chK rs m rs.length).1.length := ⟨_, rfl⟩
        rw [← hln] at hv2
        have HC : Hid (cntL rs m = (ln : Int)) := by show _ = _; unfold cntL; rw [hln]
        have hl40 : ln ≤ 40 := by have := (chK_bd HA.out m rs.length (Nat.le_refl _)).2.2; omega
        subst hv2
        have hbw2 : Below w.heap.size w w2 := (by repeat (first | (with_reducible assumption) | (with_reducible exact Below.refl _ _) | (with_reducible refine Below.drew ?_) | (with_reducible refine blw_al ?_ _) | (with_reducible refine blw_stp (by with_reducible assumption) ?_) | (with_reducible refine blw_set ?_ (by dsimp only; omega) _)))
        clear ho2 hln
        by_cases hle : (ln : Int) ≤ most
        · have HI := Lib.hid (halfI_hi hi.out hm1 (by omega) (by rw [HC.out]; exact hle))
          go_wp2
          go_roundw
          case rel => exact ⟨l, m, rfl, rfl, by omega, by omega, by omega, hbw2, HI⟩
          case measure => simp [intOf]; omega
        · have HI := Lib.hid (halfI_lo HA.out hi.out hm1 hm2 (by rw [HC.out]; omega))
          have hgt : most < (ln : Int) := by omega
          go_wp2
          go_roundw
          case rel => exact ⟨m + 1, h, by go_num, rfl, by omega, by omega, by omega, hbw2, HI⟩
          case measure => simp [intOf]; omega
      · obtain rfl : l = h := by omega
        have HE := Lib.hid (isLeast_uniq (halfI_end hi.out) HL0.out)
        go_wp2
        go_ret2
        exact ⟨ret2_end (by rw [HE.out]; exact HF.out), hbw⟩

set_option maxHeartbeats 800000 in
theorem sLifeFor_any (v : Value) (rs : List Rid) (most : Int) (w : World) (hr : RdRid w v rs) (hn : rs.length ≤ 1048576) :
    Calls Try.prog 32 #[v, .int .i64 most] w fun e w' => e = .returned (.tuple #[.int .i64 (lifeR rs most).1, .int .i64 (lifeR rs most).2]) ∧ Below w.heap.size w w' := by
  obtain ⟨a, c, rfl, hr2⟩ := hr.shape
  have HR := Lib.hid hr2
  clear hr2 hr
  cases hA : areR rs
  · have HA := Lib.hid hA
    clear hA
    go_enter Try.func32, Try.ntmps32
    go_wp2_with fail
    (with_reducible refine (sAreRides_any _ rs _ HR.out hn).mono ?_)
    rintro e w1 ⟨rfl, hb1⟩
    rw [HA.out]
    go_wp2
    go_ret2
    exact ⟨ret2_end (by unfold lifeR; rw [if_neg (by rw [HA.out]; simp)]), hb1⟩
  cases hM : inR most 0 40
  · have HA := Lib.hid hA
    have HM := Lib.hid hM
    clear hA hM
    go_enter Try.func32, Try.ntmps32
    go_wp2_with fail
    (with_reducible refine (sAreRides_any _ rs _ HR.out hn).mono ?_)
    rintro e w1 ⟨rfl, hb1⟩
    rw [HA.out]
    go_wp2_with fail
    (with_reducible refine (l01In_any _ _ _ _).mono ?_)
    rintro e _ ⟨rfl, rfl⟩
    rw [HM.out]
    go_wp2
    go_ret2
    exact ⟨ret2_end (by unfold lifeR; rw [if_pos HA.out, if_neg (by rw [HM.out]; simp)]), hb1⟩
  · have HA := Lib.hid hA
    have HM := Lib.hid hM
    obtain ⟨hm0, hm40⟩ := inR_iff.1 hM
    obtain ⟨hn40, hat⟩ := areR_at hA
    have HAT := Lib.hid hat
    have HWB := Lib.hid (wearK_bd hA)
    obtain ⟨L0, hL0, hL1⟩ := isLeast_ex hA hm0
    have HF := Lib.hid (lifeR_least hA hM hL0 (by omega))
    have HL0 := Lib.hid hL0
    clear hA hM hat hL0
    go_enter Try.func32, Try.ntmps32
    go_wp2_with fail
    (with_reducible refine (sAreRides_any _ rs _ HR.out hn).mono ?_)
    rintro e w1 ⟨rfl, hb1⟩
    rw [HA.out]
    go_wp2_with fail
    (with_reducible refine (l01In_any _ _ _ _).mono ?_)
    rintro e _ ⟨rfl, rfl⟩
    rw [HM.out]
    have HMO := Lib.hid (fun i k (a : i ≤ k) b => wearK_mono (i := i) (k := k) HA.out a b)
    go_wp2
    go_loopw [6, 7] (fun bs ii wr => ∃ (i : Nat) (b : Int), i ≤ rs.length + 1 ∧ ii = .int .i64 i ∧ bs = .int .i64 b ∧ -1 ≤ b ∧ b ≤ 1200001 ∧ Below w.heap.size w wr ∧ Hid (bestI rs most i i b)) (fun _ ii _ => rs.length + 1 - (intOf ii).toNat)
    case atStart => exact ⟨0, -1, by omega, rfl, rfl, by omega, by omega, hb1, bestI_0 rs most⟩
    case round =>
      obtain ⟨i, b, hi, rfl, rfl, b0, b1, hbw, hbi⟩ := hrel
      by_cases hlt : i ≤ rs.length
      · obtain ⟨wo, rfl⟩ : ∃ wo : World, wo = wr := ⟨_, rfl⟩
        go_wp2
        go_loopw [6, 8, 9] (fun bs ss kk wr => ∃ (k : Nat) (b s : Int), i ≤ k ∧ k ≤ rs.length + 1 ∧ kk = .int .i64 k ∧ bs = .int .i64 b ∧ ss = .int .i64 s ∧ -1 ≤ b ∧ b ≤ 1200001 ∧ 0 ≤ s ∧ s ≤ 1200000 ∧ Below w.heap.size w wr ∧ Hid (s = wearK rs (min k rs.length) - wearK rs i) ∧ Hid (bestI rs most i k b)) (fun _ _ kk _ => rs.length + 1 - (intOf kk).toNat)
        case atStart => exact ⟨i, b, 0, Nat.le_refl _, hi, rfl, rfl, rfl, b0, b1, by omega, by omega, hbw, by show _ = _; rw [Nat.min_eq_left hlt]; omega, hbi⟩
        case round =>
          clear hbi b0 b1 hbw
          obtain ⟨k, b, s, hik, hk, rfl, rfl, rfl, b0, b1, s0, s1, hbw, hs, hbi⟩ := hrel
          by_cases hkl : k ≤ rs.length
          · have hsz := hbw.size
            have HS : Hid (s = wearK rs k - wearK rs i) := by have := hs.out; rw [Nat.min_eq_left hkl] at this; exact this
            have HRw := Lib.hid (HR.out.below (hbw.mono (Nat.le_refl _)))
            clear hs
            go_wp2_with fail
            (with_reducible refine (l12Changes_any _ rs _ _ HRw.out HA.out).mono ?_)
            rintro e w2 ⟨v2, rfl, ho2, hb2⟩
            obtain ⟨a2, c2, hv2, -⟩ := ho2.rd.shape
            obtain ⟨ln, hln⟩ : ∃ ln : Nat, ln = (chK rs (s + 1) rs.length).1.length := ⟨_, rfl⟩
            rw [← hln] at hv2
            have HC : Hid (cntL rs (wearK rs k - wearK rs i + 1) = (ln : Int)) := by show _ = _; rw [← HS.out]; unfold cntL; rw [hln]
            have hl40 : ln ≤ 40 := by have := (chK_bd HA.out (s + 1) rs.length (Nat.le_refl _)).2.2; omega
            subst hv2
            have hbw2 : Below w.heap.size w w2 := (by repeat (first | (with_reducible assumption) | (with_reducible exact Below.refl _ _) | (with_reducible refine Below.drew ?_) | (with_reducible refine blw_al ?_ _) | (with_reducible refine blw_stp (by with_reducible assumption) ?_) | (with_reducible refine blw_set ?_ (by dsimp only; omega) _)))
            have hsz2 := hbw2.size
            have HRx := Lib.hid (HR.out.below (hbw2.mono (Nat.le_refl _)))
            have HBI : Hid (∃ b' : Int, -1 ≤ b' ∧ b' ≤ 1200001 ∧ bestI rs most i (k + 1) b' ∧ (((ln : Int) ≤ most ∧ (b < 0 ∨ s + 1 < b)) → b' = s + 1) ∧ (¬ ((ln : Int) ≤ most ∧ (b < 0 ∨ s + 1 < b)) → b' = b)) := by
              show ∃ b' : Int, _
              by_cases hy : (ln : Int) ≤ most ∧ (b < 0 ∨ s + 1 < b)
              · exact ⟨s + 1, by omega, by omega, by rw [HS.out]; exact bestI_yes hbi.out (by rw [HC.out]; exact hy.1) (by rw [← HS.out]; exact hy.2) (by rw [← HS.out]; omega) (by rw [← HS.out]; omega), fun _ => rfl, fun h => absurd hy h⟩
              · refine ⟨b, b0, b1, bestI_no hbi.out ?_, fun h => absurd h hy, fun _ => rfl⟩
                rw [HC.out, ← HS.out]
                by_cases hle : (ln : Int) ≤ most
                · have hx : ¬ (b < 0 ∨ s + 1 < b) := fun h => hy ⟨hle, h⟩
                  rcases hbi.out.1 with hb | hb
                  · exact absurd (Or.inl (by omega)) hx
                  · exact Or.inr ⟨hb.1, by omega⟩
                · exact Or.inl hle
            clear ho2 hln hbi
            by_cases hle : (ln : Int) ≤ most
            · by_cases hb0 : b < 0
              · skip
                have hcase : (ln : Int) ≤ most ∧ (b < 0 ∨ s + 1 < b) := ⟨hle, Or.inl hb0⟩
                obtain ⟨b', g0, g1, g2, g3, g4⟩ := HBI.out
                obtain rfl : b' = s + 1 := g3 hcase
                have HB2 := Lib.hid g2
                clear g2 g3 g4 HBI hcase
                have d1 : decide (b < 0) = true := by simpa using hb0
                by_cases hkn : k < rs.length
                · obtain ⟨bb, oo, rfl, c0, c1, c2⟩ := HRx.out.at k hkn
                  obtain ⟨-, -, t1, t2, -⟩ := HAT.out k hkn
                  obtain ⟨y1, y2⟩ := wear1_bd t1 t2
                  have hwb := (HWB.out (k + 1) (by omega)).2
                  have hwi := (HWB.out i (by omega)).1
                  have hsn : s + wear1 (rs.getD k (0, 0, false)) = wearK rs (k + 1) - wearK rs i := by have := HS.out; simp only [wearK]; omega
                  have hsb : s + wear1 (rs.getD k (0, 0, false)) ≤ 1200000 := by omega
                  have HSN : Hid (s + wear1 (rs.getD k (0, 0, false)) = wearK rs (min (k + 1) rs.length) - wearK rs i) := by show _ = _; rw [Nat.min_eq_left (by omega)]; exact hsn
                  clear hsn hwb hwi
                  generalize (rs.getD k (0, 0, false)) = x at *
                  obtain ⟨d, t, wt⟩ := x
                  simp only at c0 c1 c2 t1 t2
                  go_wp2_with (go_at_call 56; (with_reducible refine (l12Of_any _ _ _ _ (by omega) (by omega)).mono ?_); rintro e w' ⟨rfl, hb⟩; obtain ⟨hc, hf⟩ := bcell hb; have hz := hb.size; (try simp only [World.size_alloc, World.size_drew] at hz); (try have hz0 : w.heap.size < w'.heap.size := by omega); (try have hz1 : w.heap.size + 1 < w'.heap.size := by omega))
                  go_roundw
                  case rel => exact ⟨k + 1, s + 1, s + wear1 (d, t, wt), by omega, by omega, by go_num, by go_num, by go_num, by omega, by omega, by omega, by omega, (by repeat (first | (with_reducible assumption) | (with_reducible exact Below.refl _ _) | (with_reducible refine Below.drew ?_) | (with_reducible refine blw_al ?_ _) | (with_reducible refine blw_stp (by with_reducible assumption) ?_) | (with_reducible refine blw_set ?_ (by dsimp only; omega) _))), HSN, HB2⟩
                  case measure => simp [intOf] <;> omega
                · obtain rfl : k = rs.length := by omega
                  have HSN : Hid (s = wearK rs (min (rs.length + 1) rs.length) - wearK rs i) := by show _ = _; rw [Nat.min_eq_right (by omega)]; exact HS.out
                  go_wp2
                  go_roundw
                  case rel => exact ⟨rs.length + 1, s + 1, s, by omega, by omega, by go_num, by go_num, rfl, by omega, by omega, by omega, by omega, (by repeat (first | (with_reducible assumption) | (with_reducible exact Below.refl _ _) | (with_reducible refine Below.drew ?_) | (with_reducible refine blw_al ?_ _) | (with_reducible refine blw_stp (by with_reducible assumption) ?_) | (with_reducible refine blw_set ?_ (by dsimp only; omega) _))), HSN, HB2⟩
                  case measure => simp [intOf] <;> omega
              · by_cases hsb1 : s + 1 < b
                · skip
                  have hcase : (ln : Int) ≤ most ∧ (b < 0 ∨ s + 1 < b) := ⟨hle, Or.inr hsb1⟩
                  obtain ⟨b', g0, g1, g2, g3, g4⟩ := HBI.out
                  obtain rfl : b' = s + 1 := g3 hcase
                  have HB2 := Lib.hid g2
                  clear g2 g3 g4 HBI hcase
                  have d1 : decide (b < 0) = false := by simpa using hb0
                  have d2 : decide (s + 1 < b) = true := by simpa using hsb1
                  by_cases hkn : k < rs.length
                  · obtain ⟨bb, oo, rfl, c0, c1, c2⟩ := HRx.out.at k hkn
                    obtain ⟨-, -, t1, t2, -⟩ := HAT.out k hkn
                    obtain ⟨y1, y2⟩ := wear1_bd t1 t2
                    have hwb := (HWB.out (k + 1) (by omega)).2
                    have hwi := (HWB.out i (by omega)).1
                    have hsn : s + wear1 (rs.getD k (0, 0, false)) = wearK rs (k + 1) - wearK rs i := by have := HS.out; simp only [wearK]; omega
                    have hsb : s + wear1 (rs.getD k (0, 0, false)) ≤ 1200000 := by omega
                    have HSN : Hid (s + wear1 (rs.getD k (0, 0, false)) = wearK rs (min (k + 1) rs.length) - wearK rs i) := by show _ = _; rw [Nat.min_eq_left (by omega)]; exact hsn
                    clear hsn hwb hwi
                    generalize (rs.getD k (0, 0, false)) = x at *
                    obtain ⟨d, t, wt⟩ := x
                    simp only at c0 c1 c2 t1 t2
                    go_wp2_with (go_at_call 56; (with_reducible refine (l12Of_any _ _ _ _ (by omega) (by omega)).mono ?_); rintro e w' ⟨rfl, hb⟩; obtain ⟨hc, hf⟩ := bcell hb; have hz := hb.size; (try simp only [World.size_alloc, World.size_drew] at hz); (try have hz0 : w.heap.size < w'.heap.size := by omega); (try have hz1 : w.heap.size + 1 < w'.heap.size := by omega))
                    go_roundw
                    case rel => exact ⟨k + 1, s + 1, s + wear1 (d, t, wt), by omega, by omega, by go_num, by go_num, by go_num, by omega, by omega, by omega, by omega, (by repeat (first | (with_reducible assumption) | (with_reducible exact Below.refl _ _) | (with_reducible refine Below.drew ?_) | (with_reducible refine blw_al ?_ _) | (with_reducible refine blw_stp (by with_reducible assumption) ?_) | (with_reducible refine blw_set ?_ (by dsimp only; omega) _))), HSN, HB2⟩
                    case measure => simp [intOf] <;> omega
                  · obtain rfl : k = rs.length := by omega
                    have HSN : Hid (s = wearK rs (min (rs.length + 1) rs.length) - wearK rs i) := by show _ = _; rw [Nat.min_eq_right (by omega)]; exact HS.out
                    go_wp2
                    go_roundw
                    case rel => exact ⟨rs.length + 1, s + 1, s, by omega, by omega, by go_num, by go_num, rfl, by omega, by omega, by omega, by omega, (by repeat (first | (with_reducible assumption) | (with_reducible exact Below.refl _ _) | (with_reducible refine Below.drew ?_) | (with_reducible refine blw_al ?_ _) | (with_reducible refine blw_stp (by with_reducible assumption) ?_) | (with_reducible refine blw_set ?_ (by dsimp only; omega) _))), HSN, HB2⟩
                    case measure => simp [intOf] <;> omega
                · skip
                  have hcase : ¬ ((ln : Int) ≤ most ∧ (b < 0 ∨ s + 1 < b)) := fun h => h.2.elim hb0 hsb1
                  obtain ⟨b', g0, g1, g2, g3, g4⟩ := HBI.out
                  obtain rfl : b = b' := (g4 hcase).symm
                  have HB2 := Lib.hid g2
                  clear g2 g3 g4 HBI hcase
                  have d1 : decide (b < 0) = false := by simpa using hb0
                  have d2 : decide (s + 1 < b) = false := by simpa using hsb1
                  by_cases hkn : k < rs.length
                  · obtain ⟨bb, oo, rfl, c0, c1, c2⟩ := HRx.out.at k hkn
                    obtain ⟨-, -, t1, t2, -⟩ := HAT.out k hkn
                    obtain ⟨y1, y2⟩ := wear1_bd t1 t2
                    have hwb := (HWB.out (k + 1) (by omega)).2
                    have hwi := (HWB.out i (by omega)).1
                    have hsn : s + wear1 (rs.getD k (0, 0, false)) = wearK rs (k + 1) - wearK rs i := by have := HS.out; simp only [wearK]; omega
                    have hsb : s + wear1 (rs.getD k (0, 0, false)) ≤ 1200000 := by omega
                    have HSN : Hid (s + wear1 (rs.getD k (0, 0, false)) = wearK rs (min (k + 1) rs.length) - wearK rs i) := by show _ = _; rw [Nat.min_eq_left (by omega)]; exact hsn
                    clear hsn hwb hwi
                    generalize (rs.getD k (0, 0, false)) = x at *
                    obtain ⟨d, t, wt⟩ := x
                    simp only at c0 c1 c2 t1 t2
                    go_wp2_with (go_at_call 56; (with_reducible refine (l12Of_any _ _ _ _ (by omega) (by omega)).mono ?_); rintro e w' ⟨rfl, hb⟩; obtain ⟨hc, hf⟩ := bcell hb; have hz := hb.size; (try simp only [World.size_alloc, World.size_drew] at hz); (try have hz0 : w.heap.size < w'.heap.size := by omega); (try have hz1 : w.heap.size + 1 < w'.heap.size := by omega))
                    go_roundw
                    case rel => exact ⟨k + 1, b, s + wear1 (d, t, wt), by omega, by omega, by go_num, rfl, by go_num, by omega, by omega, by omega, by omega, (by repeat (first | (with_reducible assumption) | (with_reducible exact Below.refl _ _) | (with_reducible refine Below.drew ?_) | (with_reducible refine blw_al ?_ _) | (with_reducible refine blw_stp (by with_reducible assumption) ?_) | (with_reducible refine blw_set ?_ (by dsimp only; omega) _))), HSN, HB2⟩
                    case measure => simp [intOf] <;> omega
                  · obtain rfl : k = rs.length := by omega
                    have HSN : Hid (s = wearK rs (min (rs.length + 1) rs.length) - wearK rs i) := by show _ = _; rw [Nat.min_eq_right (by omega)]; exact HS.out
                    go_wp2
                    go_roundw
                    case rel => exact ⟨rs.length + 1, b, s, by omega, by omega, by go_num, rfl, rfl, by omega, by omega, by omega, by omega, (by repeat (first | (with_reducible assumption) | (with_reducible exact Below.refl _ _) | (with_reducible refine Below.drew ?_) | (with_reducible refine blw_al ?_ _) | (with_reducible refine blw_stp (by with_reducible assumption) ?_) | (with_reducible refine blw_set ?_ (by dsimp only; omega) _))), HSN, HB2⟩
                    case measure => simp [intOf] <;> omega
            · skip
              have hcase : ¬ ((ln : Int) ≤ most ∧ (b < 0 ∨ s + 1 < b)) := fun h => hle h.1
              obtain ⟨b', g0, g1, g2, g3, g4⟩ := HBI.out
              obtain rfl : b = b' := (g4 hcase).symm
              have HB2 := Lib.hid g2
              clear g2 g3 g4 HBI hcase
              have d0 : most < (ln : Int) := by omega
              by_cases hkn : k < rs.length
              · obtain ⟨bb, oo, rfl, c0, c1, c2⟩ := HRx.out.at k hkn
                obtain ⟨-, -, t1, t2, -⟩ := HAT.out k hkn
                obtain ⟨y1, y2⟩ := wear1_bd t1 t2
                have hwb := (HWB.out (k + 1) (by omega)).2
                have hwi := (HWB.out i (by omega)).1
                have hsn : s + wear1 (rs.getD k (0, 0, false)) = wearK rs (k + 1) - wearK rs i := by have := HS.out; simp only [wearK]; omega
                have hsb : s + wear1 (rs.getD k (0, 0, false)) ≤ 1200000 := by omega
                have HSN : Hid (s + wear1 (rs.getD k (0, 0, false)) = wearK rs (min (k + 1) rs.length) - wearK rs i) := by show _ = _; rw [Nat.min_eq_left (by omega)]; exact hsn
                clear hsn hwb hwi
                generalize (rs.getD k (0, 0, false)) = x at *
                obtain ⟨d, t, wt⟩ := x
                simp only at c0 c1 c2 t1 t2
                go_wp2_with (go_at_call 56; (with_reducible refine (l12Of_any _ _ _ _ (by omega) (by omega)).mono ?_); rintro e w' ⟨rfl, hb⟩; obtain ⟨hc, hf⟩ := bcell hb; have hz := hb.size; (try simp only [World.size_alloc, World.size_drew] at hz); (try have hz0 : w.heap.size < w'.heap.size := by omega); (try have hz1 : w.heap.size + 1 < w'.heap.size := by omega))
                go_roundw
                case rel => exact ⟨k + 1, b, s + wear1 (d, t, wt), by omega, by omega, by go_num, rfl, by go_num, by omega, by omega, by omega, by omega, (by repeat (first | (with_reducible assumption) | (with_reducible exact Below.refl _ _) | (with_reducible refine Below.drew ?_) | (with_reducible refine blw_al ?_ _) | (with_reducible refine blw_stp (by with_reducible assumption) ?_) | (with_reducible refine blw_set ?_ (by dsimp only; omega) _))), HSN, HB2⟩
                case measure => simp [intOf] <;> omega
              · obtain rfl : k = rs.length := by omega
                have HSN : Hid (s = wearK rs (min (rs.length + 1) rs.length) - wearK rs i) := by show _ = _; rw [Nat.min_eq_right (by omega)]; exact HS.out
                go_wp2
                go_roundw
                case rel => exact ⟨rs.length + 1, b, s, by omega, by omega, by go_num, rfl, rfl, by omega, by omega, by omega, by omega, (by repeat (first | (with_reducible assumption) | (with_reducible exact Below.refl _ _) | (with_reducible refine Below.drew ?_) | (with_reducible refine blw_al ?_ _) | (with_reducible refine blw_stp (by with_reducible assumption) ?_) | (with_reducible refine blw_set ?_ (by dsimp only; omega) _))), HSN, HB2⟩
                case measure => simp [intOf] <;> omega
          · obtain rfl : k = rs.length + 1 := by omega
            have HN := Lib.hid (bestI_in hbi.out)
            go_wp2
            go_roundw
            case rel => exact ⟨i + 1, b, by omega, by go_num, rfl, b0, b1, hbw, HN⟩
            case measure => simp [intOf]; omega
      · obtain rfl : i = rs.length + 1 := by omega
        have HE := Lib.hid (bestI_end hbi.out HL0.out)
        go_wp2
        go_ret2
        exact ⟨ret2_end (by rw [HE.out]; exact HF.out), hbw⟩

end Go.Proofs.Ythfpikpknojffaa
