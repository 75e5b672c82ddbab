/- The contract of NearestThread of the reference. -/
import Derived.Test.YtoaacipgphoiaaaThrN
set_option linter.unusedSimpArgs false
set_option linter.unusedVariables false
namespace Go.Proofs.Ytoaacipgphoiaaa
open Go.RowKit

set_option maxHeartbeats 800000 in
theorem sNearestThread_any (v : Value) (rs : List Thx) (d p : Int) (w : World) (hr : RdThx w v rs) (hn : rs.length ≤ 1048576) :
    Calls Try.prog 28 #[v, .int .i64 d, .int .i64 p] w fun e w' => e = .returned (.tuple #[.int .i64 (nearR rs d p).1, .int .i64 (nearR rs d p).2]) ∧ Below w.heap.size w w' := by
  obtain ⟨a, c, rfl, hr2⟩ := hr.shape
  have HC := Lib.hid hr2.at
  clear hr2 hr
  go_enter Try.func28, Try.ntmps28
  go_wp2
  go_loopw [8] (fun i wr => ∃ k : Nat, k ≤ rs.length ∧ i = .int .i64 k ∧ Below w.heap.size w wr ∧ Hid ((List.range k).all (thrAt rs) = true)) (fun i _ => rs.length - (intOf i).toNat)
  case atStart => exact ⟨0, Nat.zero_le _, rfl, Below.refl _ _, rfl⟩
  case round =>
    obtain ⟨k, hk, rfl, hbw, hall⟩ := hrel
    by_cases hlt : k < rs.length
    · skip
      obtain ⟨b, o, rfl, h0, h1, h2, h3⟩ := HC.out k hlt
      have hblt : b < w.heap.size := World.block_lt_of_cell? w _ h0
      have hsz := hbw.size
      have hbr : b < wr.heap.size := by omega
      have c0 : wr.cell? ⟨b, o + k * 4, none⟩ = some (.int .i64 (rs.getD k (0, 0, false, false)).1) := (hbw.cell (p := ⟨b, o + k * 4, none⟩) hblt).trans h0
      have c1 : wr.cell? ⟨b, o + k * 4 + 1, none⟩ = some (.int .i64 (rs.getD k (0, 0, false, false)).2.1) := (hbw.cell (p := ⟨b, o + k * 4 + 1, none⟩) hblt).trans h1
      have c2 : wr.cell? ⟨b, o + k * 4 + 2, none⟩ = some (.bool (rs.getD k (0, 0, false, false)).2.2.1) := (hbw.cell (p := ⟨b, o + k * 4 + 2, none⟩) hblt).trans h2
      have c3 : wr.cell? ⟨b, o + k * 4 + 3, none⟩ = some (.bool (rs.getD k (0, 0, false, false)).2.2.2) := (hbw.cell (p := ⟨b, o + k * 4 + 3, none⟩) hblt).trans h3
      have HN := Lib.hid (fun hp => all_range_noT (p := thrAt rs) hlt hp)
      have HY := Lib.hid (fun hp => all_range_succT (p := thrAt rs) (k := k) hall.out hp)
      have HO : Hid (thrAt rs k = isThr (rs.getD k (0, 0, false, false)).1 (rs.getD k (0, 0, false, false)).2.1) := rfl
      generalize (rs.getD k (0, 0, false, false)) = x at *
      obtain ⟨xd, xp, xl, xi⟩ := x
      simp only at c0 c1 c2 c3
      clear h0 h1 h2 h3
      cases hT : isThr xd xp
      · have HF : Hid (nearR rs d p = (0, 1)) := by
          show _ = _
          have h9 := HN.out (HO.out.trans hT)
          unfold nearR areT; rw [h9]; split <;> simp
        go_wp2_with (first | (go_at_call 13; (with_reducible refine (sIsThread_any _ _ _ _ _).mono ?_); rintro e w' ⟨rfl, hb⟩; obtain ⟨hc, hf⟩ := bcell hb; have hz := hb.size; (try simp only [World.size_alloc, World.size_drew] at hz); (try have hz0 : w.heap.size < w'.heap.size := by omega); (try have hz1 : w.heap.size + 1 < w'.heap.size := by omega)))
        go_ret2
        exact ⟨tret2_end HF.out, (by repeat (first | (with_reducible assumption) | (with_reducible exact Below.refl _ _) | (with_reducible refine Below.drew ?_) | (with_reducible refine blw_al ?_ _) | (with_reducible refine blw_stp (by with_reducible assumption) ?_) | (with_reducible refine blw_set ?_ (by dsimp only; omega) _)))⟩
      · have HF := Lib.hid (HY.out (HO.out.trans hT))
        go_wp2_with (first | (go_at_call 13; (with_reducible refine (sIsThread_any _ _ _ _ _).mono ?_); rintro e w' ⟨rfl, hb⟩; obtain ⟨hc, hf⟩ := bcell hb; have hz := hb.size; (try simp only [World.size_alloc, World.size_drew] at hz); (try have hz0 : w.heap.size < w'.heap.size := by omega); (try have hz1 : w.heap.size + 1 < w'.heap.size := by omega)))
        go_roundw
        case rel => exact ⟨k + 1, by omega, by go_num, (by repeat (first | (with_reducible assumption) | (with_reducible exact Below.refl _ _) | (with_reducible refine Below.drew ?_) | (with_reducible refine blw_al ?_ _) | (with_reducible refine blw_stp (by with_reducible assumption) ?_) | (with_reducible refine blw_set ?_ (by dsimp only; omega) _))), HF⟩
        case measure => simp [intOf]; omega
    · obtain rfl : k = rs.length := by omega
      have HA : Hid (areT rs = true) := hall
      clear hall
      by_cases h60 : rs.length ≤ 60
      rotate_left
      · have h60' : 60 < rs.length := by omega
        go_wp2
        go_ret2
        exact ⟨tret2_end (by unfold nearR; rw [if_neg h60]), (by repeat (first | (with_reducible assumption) | (with_reducible exact Below.refl _ _) | (with_reducible refine Below.drew ?_) | (with_reducible refine blw_al ?_ _) | (with_reducible refine blw_stp (by with_reducible assumption) ?_) | (with_reducible refine blw_set ?_ (by dsimp only; omega) _)))⟩
      cases hT : isThr d p
      · have HF : Hid (nearR rs d p = (0, 2)) := by
          show _ = _
          unfold nearR; rw [if_pos h60, if_pos HA.out, if_neg (by rw [hT]; simp)]
        go_wp2_with (first | (go_at_call 13; (with_reducible refine (sIsThread_any _ _ _ _ _).mono ?_); rintro e w' ⟨rfl, hb⟩; obtain ⟨hc, hf⟩ := bcell hb; have hz := hb.size; (try simp only [World.size_alloc, World.size_drew] at hz); (try have hz0 : w.heap.size < w'.heap.size := by omega); (try have hz1 : w.heap.size + 1 < w'.heap.size := by omega)))
        go_ret2
        exact ⟨tret2_end HF.out, (by repeat (first | (with_reducible assumption) | (with_reducible exact Below.refl _ _) | (with_reducible refine Below.drew ?_) | (with_reducible refine blw_al ?_ _) | (with_reducible refine blw_stp (by with_reducible assumption) ?_) | (with_reducible refine blw_set ?_ (by dsimp only; omega) _)))⟩
      have HT : Hid (isThr d p = true) := hT
      obtain ⟨w1, w2, w3, w4⟩ := isThr_bd HT.out
      have HB : Hid (∀ k, k < rs.length → 10 ≤ (rs.getD k (0, 0, false, false)).1 ∧ (rs.getD k (0, 0, false, false)).1 ≤ 1000 ∧ 20 ≤ (rs.getD k (0, 0, false, false)).2.1 ∧ (rs.getD k (0, 0, false, false)).2.1 ≤ 500) := by
        intro k hk
        have h9 := HA.out
        unfold areT at h9
        rw [List.all_eq_true] at h9
        exact isThr_bd (h9 k (List.mem_range.2 hk))
      by_cases hz : rs.length = 0
      · have HF : Hid (nearR rs d p = (0, 4)) := by
          show _ = _
          unfold nearR; rw [if_pos h60, if_pos HA.out, if_pos HT.out, if_pos hz]
        have hzi : (rs.length : Int) = 0 := by omega
        go_wp2_with (first | (go_at_call 13; (with_reducible refine (sIsThread_any _ _ _ _ _).mono ?_); rintro e w' ⟨rfl, hb⟩; obtain ⟨hc, hf⟩ := bcell hb; have hz := hb.size; (try simp only [World.size_alloc, World.size_drew] at hz); (try have hz0 : w.heap.size < w'.heap.size := by omega); (try have hz1 : w.heap.size + 1 < w'.heap.size := by omega)))
        go_ret2
        exact ⟨tret2_end HF.out, (by repeat (first | (with_reducible assumption) | (with_reducible exact Below.refl _ _) | (with_reducible refine Below.drew ?_) | (with_reducible refine blw_al ?_ _) | (with_reducible refine blw_stp (by with_reducible assumption) ?_) | (with_reducible refine blw_set ?_ (by dsimp only; omega) _)))⟩
      have hzi : ¬ (rs.length : Int) = 0 := by omega
      have HZ := Lib.hid hz
      have hzb : ((rs.length : Int) == 0) = false := by
        cases hbb : ((rs.length : Int) == 0)
        · rfl
        · exact absurd (eq_of_beq hbb) hzi
      go_wp2_with (first | (go_at_call 13; (with_reducible refine (sIsThread_any _ _ _ _ _).mono ?_); rintro e w' ⟨rfl, hb⟩; obtain ⟨hc, hf⟩ := bcell hb; have hz := hb.size; (try simp only [World.size_alloc, World.size_drew] at hz); (try have hz0 : w.heap.size < w'.heap.size := by omega); (try have hz1 : w.heap.size + 1 < w'.heap.size := by omega)))
      clear hT
      obtain ⟨wo, rfl⟩ : ∃ wo : World, wo = wr := ⟨_, rfl⟩
      go_loopw [9, 10, 11, 12] (fun bq lq i dq wr => ∃ k : Nat, k ≤ rs.length ∧ i = .int .i64 k ∧ Below wo.heap.size wo wr ∧ ((k = 0 ∧ bq = .int .i64 (0) ∧ lq = .int .i64 (-1)) ∨ (0 < k ∧ bq = .int .i64 (nearK rs d p k : Nat) ∧ lq = .int .i64 (distT d p (rs.getD (nearK rs d p k) (0, 0, false, false)))))) (fun _ _ i _ _ => rs.length - (intOf i).toNat)
      case atStart => exact ⟨0, Nat.zero_le _, rfl, (by repeat (first | (with_reducible assumption) | (with_reducible exact Below.refl _ _) | (with_reducible refine Below.drew ?_) | (with_reducible refine blw_al ?_ _) | (with_reducible refine blw_stp (by with_reducible assumption) ?_) | (with_reducible refine blw_set ?_ (by dsimp only; omega) _))), Or.inl ⟨rfl, rfl, rfl⟩⟩
      case round =>
        obtain ⟨k, hk, rfl, hb2, hcase⟩ := hrel
        by_cases hlt : k < rs.length
        · have hbw3 : Below w.heap.size w wr := hbw.trans (hb2.mono hbw.size)
          obtain ⟨v1, v2, v3, v4⟩ := HB.out k hlt
          obtain ⟨b, o, rfl, h0, h1, h2, h3⟩ := HC.out k hlt
          have hblt : b < w.heap.size := World.block_lt_of_cell? w _ h0
          have hsz := hbw3.size
          have hbr : b < wr.heap.size := by omega
          have c0 : wr.cell? ⟨b, o + k * 4, none⟩ = some (.int .i64 (rs.getD k (0, 0, false, false)).1) := (hbw3.cell (p := ⟨b, o + k * 4, none⟩) hblt).trans h0
          have c1 : wr.cell? ⟨b, o + k * 4 + 1, none⟩ = some (.int .i64 (rs.getD k (0, 0, false, false)).2.1) := (hbw3.cell (p := ⟨b, o + k * 4 + 1, none⟩) hblt).trans h1
          have c2 : wr.cell? ⟨b, o + k * 4 + 2, none⟩ = some (.bool (rs.getD k (0, 0, false, false)).2.2.1) := (hbw3.cell (p := ⟨b, o + k * 4 + 2, none⟩) hblt).trans h2
          have c3 : wr.cell? ⟨b, o + k * 4 + 3, none⟩ = some (.bool (rs.getD k (0, 0, false, false)).2.2.2) := (hbw3.cell (p := ⟨b, o + k * 4 + 3, none⟩) hblt).trans h3
          have E1 : Hid (nearK rs d p (k + 1) = if k = 0 then 0 else if distT d p (rs.getD k (0, 0, false, false)) < distT d p (rs.getD (nearK rs d p k) (0, 0, false, false)) then k else nearK rs d p k) := rfl
          obtain ⟨x, hx⟩ : ∃ x, x = rs.getD k (0, 0, false, false) := ⟨_, rfl⟩
          rw [← hx] at c0 c1 c2 c3 v1 v2 v3 v4 E1
          have HX := Lib.hid hx
          obtain ⟨xd, xp, xl, xi⟩ := x
          simp only at c0 c1 c2 c3 v1 v2 v3 v4
          clear h0 h1 h2 h3 hx
          have hlt' : (k : Int) < (rs.length : Int) := by omega
          have hk0 : (0 : Int) ≤ (k : Int) := by omega
          obtain ⟨u1, u2⟩ := absI_bd (x := xd - d)
          obtain ⟨u3, u4⟩ := absI_bd (x := xp - p)
          have HDV : Hid (distT d p (xd, xp, xl, xi) = 10 * absI (xd - d) + absI (xp - p)) := by show absI (10 * xd - 10 * d) + absI (xp - p) = _; rw [dist_alt]
          have k1 : IntKind.i64.wrap (xd - d) = xd - d := IntWalk.i64_in _ (by omega)
          have k4 : IntKind.i64.wrap (xp - p) = xp - p := IntWalk.i64_in _ (by omega)
          have k3 : IntKind.i64.wrap (10 * absI (xd - d)) = 10 * absI (xd - d) := IntWalk.i64_in _ (by omega)
          have k5 : IntKind.i64.wrap (10 * absI (xd - d) + absI (xp - p)) = 10 * absI (xd - d) + absI (xp - p) := IntWalk.i64_in _ (by omega)
          rcases hcase with ⟨rfl, rfl, rfl⟩ | ⟨hpos, rfl, rfl⟩
          · have E2 : Hid (nearK rs d p (0 + 1) = 0) := by show _ = _; rw [E1.out]; exact if_pos rfl
            clear E1
            simp only [Nat.zero_mul, Nat.add_zero] at c0 c1 c2 c3
            go_wp2
            go_quiet ((first | (go_at_call 50; exact tquiet_eq (l01Abs_any _ _ (by omega) (by omega)))))
            go_wp2
            go_roundw
            case rel => exact ⟨0 + 1, by omega, by go_num, (by repeat (first | (with_reducible refine blw_drewN ?_ _) | (with_reducible assumption) | (with_reducible exact Below.refl _ _) | (with_reducible refine Below.drew ?_) | (with_reducible refine blw_al ?_ _) | (with_reducible refine blw_stp (by with_reducible assumption) ?_) | (with_reducible refine blw_set ?_ (by dsimp only; omega) _))), Or.inr ⟨by omega, by rw [E2.out] <;> go_num, by rw [E2.out, ← HX.out, HDV.out]⟩⟩
            case measure => simp [intOf]; omega
          · have hm0 : (0 : Int) ≤ ((nearK rs d p k : Nat) : Int) := by omega
            have hmk := nearK_lt rs d p k
            have hdn : 0 ≤ distT d p (rs.getD (nearK rs d p k) (0, 0, false, false)) := by
              have q1 := (absI_bd (x := 10 * (rs.getD (nearK rs d p k) (0, 0, false, false)).1 - 10 * d)).1
              have q2 := (absI_bd (x := (rs.getD (nearK rs d p k) (0, 0, false, false)).2.1 - p)).1
              unfold distT
              omega
            by_cases hg : distT d p (xd, xp, xl, xi) < distT d p (rs.getD (nearK rs d p k) (0, 0, false, false))
            · have E2 : Hid (nearK rs d p (k + 1) = k) := by show _ = _; rw [E1.out, if_neg (by omega)]; exact if_pos hg
              rw [HDV.out] at hg
              clear E1
              generalize distT d p (rs.getD (nearK rs d p k) (0, 0, false, false)) = ld at *
              generalize nearK rs d p k = mk at *
              have hdg : decide (ld < 0) = false := by simp; omega
              go_wp2
              go_quiet ((first | (go_at_call 50; exact tquiet_eq (l01Abs_any _ _ (by omega) (by omega)))))
              go_wp2
              go_roundw
              case rel => exact ⟨k + 1, by omega, by go_num, (by repeat (first | (with_reducible refine blw_drewN ?_ _) | (with_reducible assumption) | (with_reducible exact Below.refl _ _) | (with_reducible refine Below.drew ?_) | (with_reducible refine blw_al ?_ _) | (with_reducible refine blw_stp (by with_reducible assumption) ?_) | (with_reducible refine blw_set ?_ (by dsimp only; omega) _))), Or.inr ⟨by omega, by rw [E2.out], by rw [E2.out, ← HX.out, HDV.out]⟩⟩
              case measure => simp [intOf]; omega
            · have E2 : Hid (nearK rs d p (k + 1) = nearK rs d p k) := by show _ = _; rw [E1.out, if_neg (by omega)]; exact if_neg hg
              rw [HDV.out] at hg
              clear E1
              obtain ⟨ld, hld⟩ : ∃ ld, ld = distT d p (rs.getD (nearK rs d p k) (0, 0, false, false)) := ⟨_, rfl⟩
              obtain ⟨mk, hmk2⟩ : ∃ mk, mk = nearK rs d p k := ⟨_, rfl⟩
              rw [← hld] at hg hdn
              rw [← hmk2] at hm0 hmk
              rw [← hld, ← hmk2]
              have HLD := Lib.hid hld
              have HMK := Lib.hid hmk2
              clear hld hmk2
              have hdg : decide (ld < 0) = false := by simp; omega
              have hgd : decide (10 * absI (xd - d) + absI (xp - p) < ld) = false := by simp only [decide_eq_false_iff_not]; omega
              go_wp2
              go_quiet ((first | (go_at_call 50; exact tquiet_eq (l01Abs_any _ _ (by omega) (by omega)))))
              go_wp2
              go_roundw
              case rel => exact ⟨k + 1, by omega, by go_num, (by repeat (first | (with_reducible refine blw_drewN ?_ _) | (with_reducible assumption) | (with_reducible exact Below.refl _ _) | (with_reducible refine Below.drew ?_) | (with_reducible refine blw_al ?_ _) | (with_reducible refine blw_stp (by with_reducible assumption) ?_) | (with_reducible refine blw_set ?_ (by dsimp only; omega) _))), Or.inr ⟨by omega, by rw [E2.out, HMK.out], by rw [E2.out, HLD.out]⟩⟩
              case measure => simp [intOf]; omega
        · obtain rfl : k = rs.length := by omega
          rcases hcase with ⟨h0, rfl, rfl⟩ | ⟨hpos, rfl, rfl⟩
          · exact absurd h0 HZ.out
          · have HF : Hid (nearR rs d p = ((nearK rs d p rs.length : Int), 0)) := by
              show _ = _
              unfold nearR; rw [if_pos h60, if_pos HA.out, if_pos HT.out, if_neg (by omega)]
            generalize nearK rs d p rs.length = mk at *
            go_wp2
            go_ret2
            exact ⟨tret2_end HF.out, (by repeat (first | (with_reducible assumption) | (with_reducible exact Below.refl _ _) | (with_reducible refine Below.drew ?_) | (with_reducible refine blw_al ?_ _) | (with_reducible refine blw_stp (by with_reducible assumption) ?_) | (with_reducible refine blw_set ?_ (by dsimp only; omega) _)))⟩
end Go.Proofs.Ytoaacipgphoiaaa
