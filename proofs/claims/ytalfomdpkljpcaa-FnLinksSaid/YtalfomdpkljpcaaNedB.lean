/- Contracts: NeedOf, LinksFor, StayFor, CutLinks. -/
import Derived.Test.YtalfomdpkljpcaaNedA
set_option linter.unusedSimpArgs false
set_option linter.unusedVariables false
namespace Go.Proofs.Ytalfomdpkljpcaa
open Go.RowKit

def linksB (n : Int) : Bool := inR n 40 200 && decide (n % 2 = 0)
def ndR (stay f r : Int) : Int × Int := if rangeL stay f r = true then (needZ stay f r, 0) else (0, 2)
/-- The greatest stay from s downward, among k of them, for which L links suffice, or 0. -/
def styF (L f r : Int) : Nat → Int → Int
  | 0, _ => 0
  | k + 1, s => if needZ s f r ≤ 1000 * L then s else styF L f r k (s - 1)
def stayZ (L f r : Int) : Int := styF L f r 3001 6000
def rangeS (L f r : Int) : Bool := linksB L && (inR f 20 60 && inR r 9 52)
def sfR (L f r : Int) : Int × Int := if rangeS L f r = true then (if stayZ L f r = 0 then (0, 4) else (stayZ L f r, 0)) else (0, 2)
def cutR (x y : Int) : Int × Int := if (linksB x && linksB y) = true then (if x < y then (0, 5) else (x - y, 0)) else (0, 2)
theorem linksB_at {n : Int} (h : linksB n = true) : 40 ≤ n ∧ n ≤ 200 ∧ n % 2 = 0 := by
  simp only [linksB, Bool.and_eq_true, inR_iff, decide_eq_true_eq] at h
  omega
theorem nret2' {r : Int × Int} {x c : Int} (h : (x, c) = r) : Ending.returned (.tuple #[.int .i64 x, .int .i64 c]) = .returned (.tuple #[.int .i64 r.1, .int .i64 r.2]) := by rw [← h]

set_option maxHeartbeats 800000 in
theorem lareLinks_any (n : Int) (w : World) : Calls Try.prog 45 #[.int .i64 n] w fun e w' => e = .returned (.bool (linksB n)) ∧ w = w' := by
  cases hA : inR n 40 200
  · go_enter Try.func45, Try.ntmps45
    go_wp2_with (go_at_call 47; (with_reducible refine (within_any _ _ _ _).mono ?_); rintro e w' ⟨rfl, rfl⟩)
    go_ret
    exact ⟨ret_bool (by simp [linksB, hA]), rfl⟩
  · obtain ⟨n1, n2⟩ := inR_iff.1 hA
    have HE : Hid (linksB n = decide (n % 2 = 0)) := by show _ = _; unfold linksB; rw [hA, Bool.true_and]
    by_cases h2 : n % 2 = 0
    · have hq : (n % 2 == 0) = true := by rw [beq_iff_eq]; exact h2
      have hq2 : (n.tmod 2 == 0) = true := by rw [Int.tmod_eq_emod_of_nonneg (by omega)]; exact hq
      have HF : Hid (linksB n = true) := by show _ = _; rw [HE.out]; simpa using h2
      clear h2
      go_enter Try.func45, Try.ntmps45
      go_wp2_with (go_at_call 47; (with_reducible refine (within_any _ _ _ _).mono ?_); rintro e w' ⟨rfl, rfl⟩)
      go_ret
      exact ⟨ret_bool HF.out.symm, rfl⟩
    · have hq : (n % 2 == 0) = false := by rw [beq_eq_false_iff_ne]; exact h2
      have hq2 : (n.tmod 2 == 0) = false := by rw [Int.tmod_eq_emod_of_nonneg (by omega)]; exact hq
      have HF : Hid (linksB n = false) := by show _ = _; rw [HE.out]; simpa using h2
      clear h2
      go_enter Try.func45, Try.ntmps45
      go_wp2_with (go_at_call 47; (with_reducible refine (within_any _ _ _ _).mono ?_); rintro e w' ⟨rfl, rfl⟩)
      go_ret
      exact ⟨ret_bool HF.out.symm, rfl⟩
set_option maxHeartbeats 800000 in
theorem ll10Links_any (n : Int) (w : World) : Calls Try.prog 46 #[.int .i64 n] w fun e w' => e = .returned (.bool (linksB n)) ∧ w = w' := by
  cases hA : inR n 40 200
  · go_enter Try.func46, Try.ntmps46
    go_wp2_with (go_at_call 30; (with_reducible refine (l01In_any _ _ _ _).mono ?_); rintro e w' ⟨rfl, rfl⟩)
    go_ret
    exact ⟨ret_bool (by simp [linksB, hA]), rfl⟩
  · obtain ⟨n1, n2⟩ := inR_iff.1 hA
    have HE : Hid (linksB n = decide (n % 2 = 0)) := by show _ = _; unfold linksB; rw [hA, Bool.true_and]
    by_cases h2 : n % 2 = 0
    · have hq : (n % 2 == 0) = true := by rw [beq_iff_eq]; exact h2
      have hq2 : (n.tmod 2 == 0) = true := by rw [Int.tmod_eq_emod_of_nonneg (by omega)]; exact hq
      have HF : Hid (linksB n = true) := by show _ = _; rw [HE.out]; simpa using h2
      clear h2
      go_enter Try.func46, Try.ntmps46
      go_wp2_with (go_at_call 30; (with_reducible refine (l01In_any _ _ _ _).mono ?_); rintro e w' ⟨rfl, rfl⟩)
      go_ret
      exact ⟨ret_bool HF.out.symm, rfl⟩
    · have hq : (n % 2 == 0) = false := by rw [beq_eq_false_iff_ne]; exact h2
      have hq2 : (n.tmod 2 == 0) = false := by rw [Int.tmod_eq_emod_of_nonneg (by omega)]; exact hq
      have HF : Hid (linksB n = false) := by show _ = _; rw [HE.out]; simpa using h2
      clear h2
      go_enter Try.func46, Try.ntmps46
      go_wp2_with (go_at_call 30; (with_reducible refine (l01In_any _ _ _ _).mono ?_); rintro e w' ⟨rfl, rfl⟩)
      go_ret
      exact ⟨ret_bool HF.out.symm, rfl⟩
set_option maxHeartbeats 800000 in
theorem areToothed_any (f r : Int) (w : World) : Calls Try.prog 39 #[.int .i64 f, .int .i64 r] w fun e w' => e = .returned (.bool (inR f 20 60 && inR r 9 52)) ∧ w = w' := by
  cases hA : inR f 20 60
  all_goals
    go_enter Try.func39, Try.ntmps39
    go_wp2_with (go_at_call 47; (with_reducible refine (within_any _ _ _ _).mono ?_); rintro e w' ⟨rfl, rfl⟩)
    go_ret
    exact ⟨ret_bool (by simp [hA]), rfl⟩
set_option maxRecDepth 100000 in
set_option maxHeartbeats 800000 in
theorem iNeedOf_any (s f r : Int) (w : World) :
    Calls Try.prog 22 #[.int .i64 s, .int .i64 f, .int .i64 r] w fun e w' => e = .returned (.tuple #[.int .i64 (ndR s f r).1, .int .i64 (ndR s f r).2]) ∧ w = w' := by
  cases hA : inR s 3000 6000
  · have HF : Hid (ndR s f r = (0, 2)) := by show _ = _; simp [ndR, rangeL, hA]
    go_enter Try.func22, Try.ntmps22
    go_wp2_with (first | (go_at_call 38; (with_reducible refine (isStay_any _ _).mono ?_); rintro e w' ⟨rfl, rfl⟩) | (go_at_call 39; (with_reducible refine (areToothed_any _ _ _).mono ?_); rintro e w' ⟨rfl, rfl⟩))
    go_ret2
    exact ⟨nret2 HF.out, rfl⟩
  cases hB : (inR f 20 60 && inR r 9 52)
  · have HF : Hid (ndR s f r = (0, 2)) := by show _ = _; simp [ndR, rangeL, hA, hB]
    go_enter Try.func22, Try.ntmps22
    go_wp2_with (first | (go_at_call 38; (with_reducible refine (isStay_any _ _).mono ?_); rintro e w' ⟨rfl, rfl⟩) | (go_at_call 39; (with_reducible refine (areToothed_any _ _ _).mono ?_); rintro e w' ⟨rfl, rfl⟩))
    go_ret2
    exact ⟨nret2 HF.out, rfl⟩
  have hG : rangeL s f r = true := by unfold rangeL; rw [hA, hB]; rfl
  obtain ⟨s1, s2, f1, f2, r1, r2⟩ := rangeL_at hG
  have HF : Hid (ndR s f r = (needZ s f r, 0)) := by show _ = _; unfold ndR; rw [if_pos hG]
  clear hG
  go_enter Try.func22, Try.ntmps22
  go_wp2_with (first | (go_at_call 43; (with_reducible refine (need_any _ _ _ _ s1 s2 f1 f2 r1 r2).mono ?_); rintro e w' ⟨rfl, rfl⟩) | (go_at_call 38; (with_reducible refine (isStay_any _ _).mono ?_); rintro e w' ⟨rfl, rfl⟩) | (go_at_call 39; (with_reducible refine (areToothed_any _ _ _).mono ?_); rintro e w' ⟨rfl, rfl⟩))
  go_ret2
  exact ⟨nret2 HF.out, rfl⟩
set_option maxRecDepth 100000 in
set_option maxHeartbeats 800000 in
theorem iLinksFor_any (s f r : Int) (w : World) :
    Calls Try.prog 20 #[.int .i64 s, .int .i64 f, .int .i64 r] w fun e w' => e = .returned (.tuple #[.int .i64 (lfR s f r).1, .int .i64 (lfR s f r).2]) ∧ w = w' := by
  cases hA : inR s 3000 6000
  · have HF : Hid (lfR s f r = (0, 2)) := by show _ = _; simp [lfR, rangeL, hA]
    go_enter Try.func20, Try.ntmps20
    go_wp2_with (first | (go_at_call 38; (with_reducible refine (isStay_any _ _).mono ?_); rintro e w' ⟨rfl, rfl⟩) | (go_at_call 39; (with_reducible refine (areToothed_any _ _ _).mono ?_); rintro e w' ⟨rfl, rfl⟩))
    go_ret2
    exact ⟨nret2 HF.out, rfl⟩
  cases hB : (inR f 20 60 && inR r 9 52)
  · have HF : Hid (lfR s f r = (0, 2)) := by show _ = _; simp [lfR, rangeL, hA, hB]
    go_enter Try.func20, Try.ntmps20
    go_wp2_with (first | (go_at_call 38; (with_reducible refine (isStay_any _ _).mono ?_); rintro e w' ⟨rfl, rfl⟩) | (go_at_call 39; (with_reducible refine (areToothed_any _ _ _).mono ?_); rintro e w' ⟨rfl, rfl⟩))
    go_ret2
    exact ⟨nret2 HF.out, rfl⟩
  have hG : rangeL s f r = true := by unfold rangeL; rw [hA, hB]; rfl
  obtain ⟨s1, s2, f1, f2, r1, r2⟩ := rangeL_at hG
  have hE : lfR s f r = if linksZ s f r = 0 then (0, 4) else (linksZ s f r, 0) := by unfold lfR; rw [if_pos hG]
  clear hG
  by_cases h0 : linksZ s f r = 0
  · rw [if_pos h0] at hE
    have HF := Lib.hid hE
    clear hE
    go_enter Try.func20, Try.ntmps20
    go_wp2_with (first | (go_at_call 40; (with_reducible refine (linksFor_any _ _ _ _ s1 s2 f1 f2 r1 r2).mono ?_); rintro e w' ⟨rfl, rfl⟩) | (go_at_call 38; (with_reducible refine (isStay_any _ _).mono ?_); rintro e w' ⟨rfl, rfl⟩) | (go_at_call 39; (with_reducible refine (areToothed_any _ _ _).mono ?_); rintro e w' ⟨rfl, rfl⟩))
    go_ret2
    exact ⟨nret2 HF.out, rfl⟩
  · rw [if_neg h0] at hE
    have HF := Lib.hid hE
    clear hE
    go_enter Try.func20, Try.ntmps20
    go_wp2_with (first | (go_at_call 40; (with_reducible refine (linksFor_any _ _ _ _ s1 s2 f1 f2 r1 r2).mono ?_); rintro e w' ⟨rfl, rfl⟩) | (go_at_call 38; (with_reducible refine (isStay_any _ _).mono ?_); rintro e w' ⟨rfl, rfl⟩) | (go_at_call 39; (with_reducible refine (areToothed_any _ _ _).mono ?_); rintro e w' ⟨rfl, rfl⟩))
    go_ret2
    exact ⟨nret2 HF.out, rfl⟩
set_option maxRecDepth 100000 in
set_option maxHeartbeats 800000 in
theorem iStayFor_any (s f r : Int) (w : World) :
    Calls Try.prog 25 #[.int .i64 s, .int .i64 f, .int .i64 r] w fun e w' => e = .returned (.tuple #[.int .i64 (sfR s f r).1, .int .i64 (sfR s f r).2]) ∧ w = w' := by
  cases hA : linksB s
  · have HF : Hid (sfR s f r = (0, 2)) := by show _ = _; simp [sfR, rangeS, hA]
    go_enter Try.func25, Try.ntmps25
    go_wp2_with (first | (go_at_call 45; (with_reducible refine (lareLinks_any _ _).mono ?_); rintro e w' ⟨rfl, rfl⟩) | (go_at_call 39; (with_reducible refine (areToothed_any _ _ _).mono ?_); rintro e w' ⟨rfl, rfl⟩))
    go_ret2
    exact ⟨nret2 HF.out, rfl⟩
  cases hB : (inR f 20 60 && inR r 9 52)
  · have HF : Hid (sfR s f r = (0, 2)) := by show _ = _; simp [sfR, rangeS, hA, hB]
    go_enter Try.func25, Try.ntmps25
    go_wp2_with (first | (go_at_call 45; (with_reducible refine (lareLinks_any _ _).mono ?_); rintro e w' ⟨rfl, rfl⟩) | (go_at_call 39; (with_reducible refine (areToothed_any _ _ _).mono ?_); rintro e w' ⟨rfl, rfl⟩))
    go_ret2
    exact ⟨nret2 HF.out, rfl⟩
  have hG : rangeS s f r = true := by unfold rangeS; rw [hA, hB]; rfl
  have hT : inR f 20 60 = true ∧ inR r 9 52 = true := by simpa [Bool.and_eq_true] using hB
  obtain ⟨f1, f2⟩ := inR_iff.1 hT.1
  obtain ⟨r1, r2⟩ := inR_iff.1 hT.2
  obtain ⟨s1, s2, s3⟩ := linksB_at hA
  have HE : Hid (sfR s f r = if stayZ s f r = 0 then (0, 4) else (stayZ s f r, 0)) := by show _ = _; unfold sfR; rw [if_pos hG]
  have HZ : Hid (stayZ s f r = styF s f r 3001 6000) := rfl
  clear hG hT s3
  go_enter Try.func25, Try.ntmps25
  go_wp2_with (first | (go_at_call 45; (with_reducible refine (lareLinks_any _ _).mono ?_); rintro e w' ⟨rfl, rfl⟩) | (go_at_call 39; (with_reducible refine (areToothed_any _ _ _).mono ?_); rintro e w' ⟨rfl, rfl⟩))
  go_loop [8] (fun l => ∃ j k : Nat, j + k = 3001 ∧ l = .int .i64 (6000 - (j : Int)) ∧ Hid (styF s f r k (6000 - (j : Int)) = styF s f r 3001 6000)) (fun l => (intOf l - 2990).toNat)
  case atStart => exact ⟨0, 3001, by omega, rfl, rfl⟩
  case round =>
    obtain ⟨j, k, hjk, rfl, hi⟩ := hrel
    by_cases hlt : j ≤ 3000
    · obtain ⟨k, rfl⟩ : ∃ q, k = q + 1 := ⟨k - 1, by omega⟩
      obtain ⟨n0, n1⟩ := needZ_bd (stay := 6000 - (j : Int)) (by omega) (by omega) f1 f2 r1 r2
      have HS : Hid (styF s f r (k + 1) (6000 - (j : Int)) = if needZ (6000 - (j : Int)) f r ≤ 1000 * s then 6000 - (j : Int) else styF s f r k (6000 - (j : Int) - 1)) := rfl
      by_cases hc : needZ (6000 - (j : Int)) f r ≤ 1000 * s
      · have HF : Hid (sfR s f r = (6000 - (j : Int), 0)) := by
          have e : stayZ s f r = 6000 - (j : Int) := by rw [HZ.out, ← hi.out, HS.out, if_pos hc]
          show _ = _
          rw [HE.out, e, if_neg (by omega)]
        go_wp2_with (go_at_call 43; (with_reducible refine (need_any _ _ _ _ (by omega) (by omega) f1 f2 r1 r2).mono ?_); rintro e w' ⟨rfl, rfl⟩)
        go_ret2
        exact ⟨nret2 HF.out, rfl⟩
      · have HN : Hid (styF s f r k (6000 - ((j + 1 : Nat) : Int)) = styF s f r 3001 6000) := by
          show _ = _
          rw [← hi.out, HS.out, if_neg hc]
          congr 1
          omega
        go_wp2_with (go_at_call 43; (with_reducible refine (need_any _ _ _ _ (by omega) (by omega) f1 f2 r1 r2).mono ?_); rintro e w' ⟨rfl, rfl⟩)
        go_round
        case rel => exact ⟨j + 1, k, by omega, by go_num, HN⟩
        case measure => simp [intOf] <;> omega
    · obtain rfl : j = 3001 := by omega
      obtain rfl : k = 0 := by omega
      have HF : Hid (sfR s f r = (0, 4)) := by
        have e : stayZ s f r = 0 := by rw [HZ.out, ← hi.out]; rfl
        show _ = _
        rw [HE.out, if_pos e]
      go_wp2
      go_ret2
      exact ⟨nret2 HF.out, rfl⟩
set_option maxHeartbeats 800000 in
theorem sNeedOf_any (s f r : Int) (w : World) :
    Calls Try.prog 23 #[.int .i64 s, .int .i64 f, .int .i64 r] w fun e w' => e = .returned (.tuple #[.int .i64 (ndR s f r).1, .int .i64 (ndR s f r).2]) ∧ w = w' := by
  cases hG : rangeL s f r
  · have HC : Hid (codeL s f r = 2) := by show _ = _; unfold codeL; rw [hG]; rfl
    have HE : Hid (ndR s f r = (0, 2)) := by show _ = _; unfold ndR; rw [hG]; rfl
    clear hG
    go_enter Try.func23, Try.ntmps23
    go_wp2_with fail
    (with_reducible refine (l10Code_any _ _ _ _).mono ?_)
    rintro e _ ⟨rfl, rfl⟩
    rw [HC.out]
    go_wp2
    go_ret2
    exact ⟨nret2 HE.out, rfl⟩
  obtain ⟨s1, s2, f1, f2, r1, r2⟩ := rangeL_at hG
  have HC : Hid (codeL s f r = 0) := by show _ = _; unfold codeL; rw [hG]; rfl
  have HE : Hid (ndR s f r = (needZ s f r, 0)) := by show _ = _; unfold ndR; rw [if_pos hG]
  clear hG
  go_enter Try.func23, Try.ntmps23
  go_wp2_with fail
  (with_reducible refine (l10Code_any _ _ _ _).mono ?_)
  rintro e _ ⟨rfl, rfl⟩
  rw [HC.out]
  go_wp2_with (go_at_call 42; (with_reducible refine (l10Need_any _ _ _ _ s1 s2 f1 f2 r1 r2).mono ?_); rintro e w' ⟨rfl, rfl⟩)
  go_ret2
  exact ⟨nret2 HE.out, rfl⟩
set_option maxRecDepth 100000 in
set_option maxHeartbeats 800000 in
theorem sStayFor_any (s f r : Int) (w : World) :
    Calls Try.prog 26 #[.int .i64 s, .int .i64 f, .int .i64 r] w fun e w' => e = .returned (.tuple #[.int .i64 (sfR s f r).1, .int .i64 (sfR s f r).2]) ∧ w = w' := by
  have hR : rangeL 3000 f r = (inR f 20 60 && inR r 9 52) := by
    have : inR 3000 3000 6000 = true := by decide
    unfold rangeL; rw [this]; rfl
  cases hB : (inR f 20 60 && inR r 9 52)
  · have HC : Hid (codeL 3000 f r = 2) := by show _ = _; unfold codeL; rw [hR, hB]; rfl
    have HF : Hid (sfR s f r = (0, 2)) := by show _ = _; simp [sfR, rangeS, hB]
    clear hR
    cases hA : linksB s
    all_goals
      go_enter Try.func26, Try.ntmps26
      go_wp2_with fail
      (with_reducible refine (l10Code_any _ _ _ _).mono ?_)
      rintro e _ ⟨rfl, rfl⟩
      rw [HC.out]
      go_wp2_with (go_at_call 46; (with_reducible refine (ll10Links_any _ _).mono ?_); rintro e w' ⟨rfl, rfl⟩)
      go_ret2
      exact ⟨nret2 HF.out, rfl⟩
  have HC : Hid (codeL 3000 f r = 0) := by show _ = _; unfold codeL; rw [hR, hB]; rfl
  clear hR
  cases hA : linksB s
  · have HF : Hid (sfR s f r = (0, 2)) := by show _ = _; simp [sfR, rangeS, hA]
    go_enter Try.func26, Try.ntmps26
    go_wp2_with fail
    (with_reducible refine (l10Code_any _ _ _ _).mono ?_)
    rintro e _ ⟨rfl, rfl⟩
    rw [HC.out]
    go_wp2_with (go_at_call 46; (with_reducible refine (ll10Links_any _ _).mono ?_); rintro e w' ⟨rfl, rfl⟩)
    go_ret2
    exact ⟨nret2 HF.out, rfl⟩
  have hG : rangeS s f r = true := by unfold rangeS; rw [hA, hB]; rfl
  have hT : inR f 20 60 = true ∧ inR r 9 52 = true := by simpa [Bool.and_eq_true] using hB
  obtain ⟨f1, f2⟩ := inR_iff.1 hT.1
  obtain ⟨r1, r2⟩ := inR_iff.1 hT.2
  obtain ⟨s1, s2, s3⟩ := linksB_at hA
  have HE : Hid (sfR s f r = if stayZ s f r = 0 then (0, 4) else (stayZ s f r, 0)) := by show _ = _; unfold sfR; rw [if_pos hG]
  have HZ : Hid (stayZ s f r = styF s f r 3001 6000) := rfl
  clear hG hT s3
  go_enter Try.func26, Try.ntmps26
  go_wp2_with fail
  (with_reducible refine (l10Code_any _ _ _ _).mono ?_)
  rintro e _ ⟨rfl, rfl⟩
  rw [HC.out]
  go_wp2_with (go_at_call 46; (with_reducible refine (ll10Links_any _ _).mono ?_); rintro e w' ⟨rfl, rfl⟩)
  go_loop [9] (fun l => ∃ j k : Nat, j + k = 3001 ∧ l = .int .i64 (6000 - (j : Int)) ∧ Hid (styF s f r k (6000 - (j : Int)) = styF s f r 3001 6000)) (fun l => (intOf l - 2990).toNat)
  case atStart => exact ⟨0, 3001, by omega, rfl, rfl⟩
  case round =>
    obtain ⟨j, k, hjk, rfl, hi⟩ := hrel
    by_cases hlt : j ≤ 3000
    · obtain ⟨k, rfl⟩ : ∃ q, k = q + 1 := ⟨k - 1, by omega⟩
      obtain ⟨n0, n1⟩ := needZ_bd (stay := 6000 - (j : Int)) (by omega) (by omega) f1 f2 r1 r2
      have HS : Hid (styF s f r (k + 1) (6000 - (j : Int)) = if needZ (6000 - (j : Int)) f r ≤ 1000 * s then 6000 - (j : Int) else styF s f r k (6000 - (j : Int) - 1)) := rfl
      by_cases hc : needZ (6000 - (j : Int)) f r ≤ 1000 * s
      · have HF : Hid (sfR s f r = (6000 - (j : Int), 0)) := by
          have e : stayZ s f r = 6000 - (j : Int) := by rw [HZ.out, ← hi.out, HS.out, if_pos hc]
          show _ = _
          rw [HE.out, e, if_neg (by omega)]
        go_wp2_with (go_at_call 42; (with_reducible refine (l10Need_any _ _ _ _ (by omega) (by omega) f1 f2 r1 r2).mono ?_); rintro e w' ⟨rfl, rfl⟩)
        go_ret2
        exact ⟨nret2 HF.out, rfl⟩
      · have HN : Hid (styF s f r k (6000 - ((j + 1 : Nat) : Int)) = styF s f r 3001 6000) := by
          show _ = _
          rw [← hi.out, HS.out, if_neg hc]
          congr 1
          omega
        go_wp2_with (go_at_call 42; (with_reducible refine (l10Need_any _ _ _ _ (by omega) (by omega) f1 f2 r1 r2).mono ?_); rintro e w' ⟨rfl, rfl⟩)
        go_round
        case rel => exact ⟨j + 1, k, by omega, by go_num, HN⟩
        case measure => simp [intOf] <;> omega
    · obtain rfl : j = 3001 := by omega
      obtain rfl : k = 0 := by omega
      have HF : Hid (sfR s f r = (0, 4)) := by
        have e : stayZ s f r = 0 := by rw [HZ.out, ← hi.out]; rfl
        show _ = _
        rw [HE.out, if_pos e]
      go_wp2
      go_ret2
      exact ⟨nret2 HF.out, rfl⟩
set_option maxHeartbeats 800000 in
theorem iCutLinks_any (x y : Int) (w : World) :
    Calls Try.prog 28 #[.int .i64 x, .int .i64 y] w fun e w' => e = .returned (.tuple #[.int .i64 (cutR x y).1, .int .i64 (cutR x y).2]) ∧ w = w' := by
  cases hA : linksB x
  · have HF : Hid (cutR x y = (0, 2)) := by show _ = _; simp [cutR, hA]
    go_enter Try.func28, Try.ntmps28
    go_wp2_with (go_at_call 45; (with_reducible refine (lareLinks_any _ _).mono ?_); rintro e w' ⟨rfl, rfl⟩)
    go_ret2
    exact ⟨nret2 HF.out, rfl⟩
  cases hB : linksB y
  · have HF : Hid (cutR x y = (0, 2)) := by show _ = _; simp [cutR, hA, hB]
    go_enter Try.func28, Try.ntmps28
    go_wp2_with (go_at_call 45; (with_reducible refine (lareLinks_any _ _).mono ?_); rintro e w' ⟨rfl, rfl⟩)
    go_ret2
    exact ⟨nret2 HF.out, rfl⟩
  obtain ⟨x1, x2, -⟩ := linksB_at hA
  obtain ⟨y1, y2, -⟩ := linksB_at hB
  by_cases h : x < y
  · have HF : Hid (cutR x y = (0, 5)) := by show _ = _; simp [cutR, hA, hB, h]
    go_enter Try.func28, Try.ntmps28
    go_wp2_with (go_at_call 45; (with_reducible refine (lareLinks_any _ _).mono ?_); rintro e w' ⟨rfl, rfl⟩)
    go_ret2
    exact ⟨nret2 HF.out, rfl⟩
  · have HF : Hid (cutR x y = (x - y, 0)) := by show _ = _; simp [cutR, hA, hB, h]
    go_enter Try.func28, Try.ntmps28
    go_wp2_with (go_at_call 45; (with_reducible refine (lareLinks_any _ _).mono ?_); rintro e w' ⟨rfl, rfl⟩)
    go_ret2
    exact ⟨nret2 HF.out, rfl⟩

set_option maxHeartbeats 800000 in
theorem sCutLinks_any (x y : Int) (w : World) :
    Calls Try.prog 29 #[.int .i64 x, .int .i64 y] w fun e w' => e = .returned (.tuple #[.int .i64 (cutR x y).1, .int .i64 (cutR x y).2]) ∧ w = w' := by
  cases hA : linksB x
  · have HF : Hid (cutR x y = (0, 2)) := by show _ = _; simp [cutR, hA]
    go_enter Try.func29, Try.ntmps29
    go_wp2_with (go_at_call 46; (with_reducible refine (ll10Links_any _ _).mono ?_); rintro e w' ⟨rfl, rfl⟩)
    go_ret2
    exact ⟨nret2 HF.out, rfl⟩
  cases hB : linksB y
  · have HF : Hid (cutR x y = (0, 2)) := by show _ = _; simp [cutR, hA, hB]
    go_enter Try.func29, Try.ntmps29
    go_wp2_with (go_at_call 46; (with_reducible refine (ll10Links_any _ _).mono ?_); rintro e w' ⟨rfl, rfl⟩)
    go_ret2
    exact ⟨nret2 HF.out, rfl⟩
  obtain ⟨x1, x2, -⟩ := linksB_at hA
  obtain ⟨y1, y2, -⟩ := linksB_at hB
  by_cases h : x < y
  · have HF : Hid (cutR x y = (0, 5)) := by show _ = _; simp [cutR, hA, hB, h]
    go_enter Try.func29, Try.ntmps29
    go_wp2_with (go_at_call 46; (with_reducible refine (ll10Links_any _ _).mono ?_); rintro e w' ⟨rfl, rfl⟩)
    go_ret2
    exact ⟨nret2 HF.out, rfl⟩
  · have HF : Hid (cutR x y = (x - y, 0)) := by show _ = _; simp [cutR, hA, hB, h]
    go_enter Try.func29, Try.ntmps29
    go_wp2_with (go_at_call 46; (with_reducible refine (ll10Links_any _ _).mono ?_); rintro e w' ⟨rfl, rfl⟩)
    go_ret2
    exact ⟨nret2 HF.out, rfl⟩

end Go.Proofs.Ytalfomdpkljpcaa
