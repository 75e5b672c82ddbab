/- Contracts of the need of links: need, linksFor, LinksFor of the reference. -/
import Derived.Test.YtfdnhamkkcmnfaaCeil
set_option linter.unusedSimpArgs false
set_option linter.unusedVariables false
namespace Go.Proofs.Ytfdnhamkkcmnfaa
open Go.RowKit

/-- The need of links in thousandths. -/
def needZ (stay f r : Int) : Int := cdiv (2000 * stay) 127 + 500 * (f + r) + cdiv ((f - r) * (f - r) * 127 * 1000000000) (39478418 * stay)
theorem sq_le {q : Int} (h1 : -51 ≤ q) (h2 : q ≤ 51) : 0 ≤ q * q ∧ q * q ≤ 2601 := by
  have h := Int.mul_nonneg (a := q + 51) (b := 51 - q) (by omega) (by omega)
  have e : (q + 51) * (51 - q) = 2601 - q * q := by rw [Int.add_mul, Int.mul_sub, Int.mul_sub]; omega
  refine ⟨?_, by omega⟩
  rcases Int.le_total 0 q with h0 | h0
  · exact Int.mul_nonneg h0 h0
  · have := Int.mul_nonneg (a := -q) (b := -q) (by omega) (by omega)
    rw [Int.neg_mul_neg] at this
    exact this
theorem needZ_bd {stay f r : Int} (s1 : 3000 ≤ stay) (s2 : stay ≤ 6000) (f1 : 20 ≤ f) (f2 : f ≤ 60) (r1 : 9 ≤ r) (r2 : r ≤ 52) : 0 ≤ needZ stay f r ∧ needZ stay f r ≤ 300000 := by
  obtain ⟨q0, q1⟩ := sq_le (q := f - r) (by omega) (by omega)
  unfold needZ cdiv
  generalize (f - r) * (f - r) = q at *
  have h1 : 0 ≤ (q * 127 * 1000000000 + 39478418 * stay - 1) / (39478418 * stay) := Int.ediv_nonneg (by omega) (by omega)
  have h2 : (q * 127 * 1000000000 + 39478418 * stay - 1) / (39478418 * stay) < 3001 := (Int.ediv_lt_iff_lt_mul (by omega)).2 (by omega)
  omega
/-- The least even number of links from L on that suffices for n, among k of them, or 0. -/
def lnkF (n : Int) : Nat → Int → Int
  | 0, _ => 0
  | k + 1, L => if n ≤ 1000 * L then L else lnkF n k (L + 2)
def linksZ (stay f r : Int) : Int := lnkF (needZ stay f r) 81 40
theorem lnkF_bd (n : Int) : ∀ k L, 0 ≤ L → lnkF n k L = 0 ∨ (L ≤ lnkF n k L ∧ lnkF n k L ≤ L + 2 * k) := by
  intro k
  induction k with
  | zero => intro L h; exact Or.inl rfl
  | succ k ih =>
    intro L h
    unfold lnkF
    split
    · exact Or.inr ⟨by omega, by omega⟩
    · rcases ih (L + 2) (by omega) with e | ⟨a, b⟩
      · exact Or.inl e
      · exact Or.inr ⟨by omega, by omega⟩
theorem linksZ_bd (stay f r : Int) : 0 ≤ linksZ stay f r ∧ linksZ stay f r ≤ 202 := by
  unfold linksZ
  rcases lnkF_bd (needZ stay f r) 81 40 (by omega) with e | ⟨a, b⟩ <;> omega
def rangeL (stay f r : Int) : Bool := inR stay 3000 6000 && (inR f 20 60 && inR r 9 52)
def lfR (stay f r : Int) : Int × Int := if rangeL stay f r = true then (if linksZ stay f r = 0 then (0, 4) else (linksZ stay f r, 0)) else (0, 2)
def codeL (stay f r : Int) : Int := if rangeL stay f r = true then 0 else 2
theorem nret2 {r : Int × Int} {x c : Int} (h : r = (x, c)) : Ending.returned (.tuple #[.int .i64 x, .int .i64 c]) = .returned (.tuple #[.int .i64 r.1, .int .i64 r.2]) := by rw [h]
theorem rangeL_at {stay f r : Int} (h : rangeL stay f r = true) : 3000 ≤ stay ∧ stay ≤ 6000 ∧ 20 ≤ f ∧ f ≤ 60 ∧ 9 ≤ r ∧ r ≤ 52 := by
  simp only [rangeL, Bool.and_eq_true, inR_iff] at h
  omega

set_option maxHeartbeats 800000 in
theorem isStay_any (n : Int) (w : World) : Calls Try.prog 68 #[.int .i64 n] w fun e w' => e = .returned (.bool (inR n 3000 6000)) ∧ w = w' := by
  go_enter Try.func68, Try.ntmps68
  go_wp2_with (go_at_call 73; (with_reducible refine (within_any _ _ _ _).mono ?_); rintro e w' ⟨rfl, rfl⟩)
  go_ret
  exact ⟨rfl, rfl⟩
set_option maxHeartbeats 800000 in
theorem l10Stay_any (n : Int) (w : World) : Calls Try.prog 97 #[.int .i64 n] w fun e w' => e = .returned (.bool (inR n 3000 6000)) ∧ w = w' := by
  go_enter Try.func97, Try.ntmps97
  go_wp2_with (go_at_call 70; (with_reducible refine (l01In_any _ _ _ _).mono ?_); rintro e w' ⟨rfl, rfl⟩)
  go_ret
  exact ⟨rfl, rfl⟩
set_option maxHeartbeats 800000 in
theorem need_any (stay f r : Int) (w : World) (s1 : 3000 ≤ stay) (s2 : stay ≤ 6000) (f1 : 20 ≤ f) (f2 : f ≤ 60) (r1 : 9 ≤ r) (r2 : r ≤ 52) :
    Calls Try.prog 101 #[.int .i64 stay, .int .i64 f, .int .i64 r] w fun e w' => e = .returned (.int .i64 (needZ stay f r)) ∧ w = w' := by
  obtain ⟨q0, q1⟩ := sq_le (q := f - r) (by omega) (by omega)
  have hb := (needZ_bd s1 s2 f1 f2 r1 r2)
  have HE : Hid (needZ stay f r = cdiv (2000 * stay) 127 + 500 * (f + r) + cdiv ((f - r) * (f - r) * 127 * 1000000000) (39478418 * stay)) := rfl
  have hb1 : 0 ≤ cdiv (2000 * stay) 127 ∧ cdiv (2000 * stay) 127 ≤ 100000 := by unfold cdiv; omega
  obtain ⟨b0, b1⟩ := hb1
  have hb2 : 0 ≤ cdiv ((f - r) * (f - r) * 127 * 1000000000) (39478418 * stay) ∧ cdiv ((f - r) * (f - r) * 127 * 1000000000) (39478418 * stay) ≤ 300000 := by
    have := HE.out
    obtain ⟨h1, h2⟩ := hb
    constructor
    · unfold cdiv; exact Int.ediv_nonneg (by omega) (by omega)
    · omega
  obtain ⟨b2, b3⟩ := hb2
  have hw : IntKind.i64.wrap ((f - r) * (f - r)) = (f - r) * (f - r) := IntWalk.i64_in _ (by omega)
  clear hb
  go_enter Try.func101, Try.ntmps101
  go_wp2_with (go_at_call 112; (with_reducible refine (ceilDiv_any _ _ _ (by omega) (by omega) (by omega) (by omega)).mono ?_); rintro e w' ⟨rfl, rfl⟩)
  go_ret
  exact ⟨ret_int HE.out.symm, rfl⟩
set_option maxHeartbeats 800000 in
theorem l10Need_any (stay f r : Int) (w : World) (s1 : 3000 ≤ stay) (s2 : stay ≤ 6000) (f1 : 20 ≤ f) (f2 : f ≤ 60) (r1 : 9 ≤ r) (r2 : r ≤ 52) :
    Calls Try.prog 100 #[.int .i64 stay, .int .i64 f, .int .i64 r] w fun e w' => e = .returned (.int .i64 (needZ stay f r)) ∧ w = w' := by
  obtain ⟨q0, q1⟩ := sq_le (q := f - r) (by omega) (by omega)
  have hb := (needZ_bd s1 s2 f1 f2 r1 r2)
  have HE : Hid (needZ stay f r = cdiv (2000 * stay) 127 + 500 * (f + r) + cdiv ((f - r) * (f - r) * 127 * 1000000000) (39478418 * stay)) := rfl
  have hb1 : 0 ≤ cdiv (2000 * stay) 127 ∧ cdiv (2000 * stay) 127 ≤ 100000 := by unfold cdiv; omega
  obtain ⟨b0, b1⟩ := hb1
  have hb2 : 0 ≤ cdiv ((f - r) * (f - r) * 127 * 1000000000) (39478418 * stay) ∧ cdiv ((f - r) * (f - r) * 127 * 1000000000) (39478418 * stay) ≤ 300000 := by
    have := HE.out
    obtain ⟨h1, h2⟩ := hb
    constructor
    · unfold cdiv; exact Int.ediv_nonneg (by omega) (by omega)
    · omega
  obtain ⟨b2, b3⟩ := hb2
  have hw : IntKind.i64.wrap ((f - r) * (f - r)) = (f - r) * (f - r) := IntWalk.i64_in _ (by omega)
  clear hb
  go_enter Try.func100, Try.ntmps100
  go_wp2_with (go_at_call 111; (with_reducible refine (l01Ceil_any _ _ _ (by omega) (by omega) (by omega) (by omega)).mono ?_); rintro e w' ⟨rfl, rfl⟩)
  go_ret
  exact ⟨ret_int HE.out.symm, rfl⟩
set_option maxHeartbeats 800000 in
theorem linksFor_any (stay f r : Int) (w : World) (s1 : 3000 ≤ stay) (s2 : stay ≤ 6000) (f1 : 20 ≤ f) (f2 : f ≤ 60) (r1 : 9 ≤ r) (r2 : r ≤ 52) :
    Calls Try.prog 69 #[.int .i64 stay, .int .i64 f, .int .i64 r] w fun e w' => e = .returned (.int .i64 (linksZ stay f r)) ∧ w = w' := by
  obtain ⟨n0, n1⟩ := needZ_bd s1 s2 f1 f2 r1 r2
  have HZ : Hid (linksZ stay f r = lnkF (needZ stay f r) 81 40) := rfl
  go_enter Try.func69, Try.ntmps69
  go_wp2
  go_loop [7] (fun l => ∃ j k : Nat, j + k = 81 ∧ l = .int .i64 (40 + 2 * (j : Int)) ∧ Hid (lnkF (needZ stay f r) k (40 + 2 * (j : Int)) = lnkF (needZ stay f r) 81 40)) (fun l => (202 - intOf l).toNat)
  case atStart => exact ⟨0, 81, by omega, rfl, rfl⟩
  case round =>
    obtain ⟨j, k, hjk, rfl, hi⟩ := hrel
    by_cases hlt : j ≤ 80
    · obtain ⟨k, rfl⟩ : ∃ q, k = q + 1 := ⟨k - 1, by omega⟩
      have HS : Hid (lnkF (needZ stay f r) (k + 1) (40 + 2 * (j : Int)) = if needZ stay f r ≤ 1000 * (40 + 2 * (j : Int)) then 40 + 2 * (j : Int) else lnkF (needZ stay f r) k (40 + 2 * (j : Int) + 2)) := rfl
      by_cases hc : needZ stay f r ≤ 1000 * (40 + 2 * (j : Int))
      · have HF : Hid (linksZ stay f r = 40 + 2 * (j : Int)) := by show _ = _; rw [HZ.out, ← hi.out, HS.out, if_pos hc]
        go_wp2_with (go_at_call 101; (with_reducible refine (need_any _ _ _ _ s1 s2 f1 f2 r1 r2).mono ?_); rintro e w' ⟨rfl, rfl⟩)
        go_ret
        exact ⟨ret_int HF.out.symm, rfl⟩
      · have HN : Hid (lnkF (needZ stay f r) k (40 + 2 * ((j + 1 : Nat) : Int)) = lnkF (needZ stay f r) 81 40) := by
          show _ = _
          rw [← hi.out, HS.out, if_neg hc]
          congr 1 <;> omega
        go_wp2_with (go_at_call 101; (with_reducible refine (need_any _ _ _ _ s1 s2 f1 f2 r1 r2).mono ?_); rintro e w' ⟨rfl, rfl⟩)
        go_round
        case rel => exact ⟨j + 1, k, by omega, by go_num, HN⟩
        case measure => simp [intOf] <;> omega
    · obtain rfl : j = 81 := by omega
      obtain rfl : k = 0 := by omega
      have HF : Hid (linksZ stay f r = 0) := by show _ = _; rw [HZ.out, ← hi.out]; rfl
      go_wp2
      go_ret
      exact ⟨ret_int HF.out.symm, rfl⟩
set_option maxHeartbeats 800000 in
theorem l10Code_any (stay f r : Int) (w : World) :
    Calls Try.prog 99 #[.int .i64 stay, .int .i64 f, .int .i64 r] w fun e w' => e = .returned (.int .i64 (codeL stay f r)) ∧ w = w' := by
  cases hS : inR stay 3000 6000
  · go_enter Try.func99, Try.ntmps99
    go_wp2_with (first | (go_at_call 97; (with_reducible refine (l10Stay_any _ _).mono ?_); rintro e w' ⟨rfl, rfl⟩) | (go_at_call 70; (with_reducible refine (l01In_any _ _ _ _).mono ?_); rintro e w' ⟨rfl, rfl⟩))
    go_ret
    exact ⟨ret_int (by simp [codeL, rangeL, hS]), rfl⟩
  cases hF : inR f 20 60
  · go_enter Try.func99, Try.ntmps99
    go_wp2_with (first | (go_at_call 97; (with_reducible refine (l10Stay_any _ _).mono ?_); rintro e w' ⟨rfl, rfl⟩) | (go_at_call 70; (with_reducible refine (l01In_any _ _ _ _).mono ?_); rintro e w' ⟨rfl, rfl⟩))
    go_ret
    exact ⟨ret_int (by simp [codeL, rangeL, hS, hF]), rfl⟩
  cases hR : inR r 9 52
  all_goals
    go_enter Try.func99, Try.ntmps99
    go_wp2_with (first | (go_at_call 97; (with_reducible refine (l10Stay_any _ _).mono ?_); rintro e w' ⟨rfl, rfl⟩) | (go_at_call 70; (with_reducible refine (l01In_any _ _ _ _).mono ?_); rintro e w' ⟨rfl, rfl⟩))
    go_ret
    exact ⟨ret_int (by simp [codeL, rangeL, hS, hF, hR]), rfl⟩
set_option maxHeartbeats 800000 in
theorem sLinksFor_any (stay f r : Int) (w : World) :
    Calls Try.prog 67 #[.int .i64 stay, .int .i64 f, .int .i64 r] w fun e w' => e = .returned (.tuple #[.int .i64 (lfR stay f r).1, .int .i64 (lfR stay f r).2]) ∧ w = w' := by
  cases hG : rangeL stay f r
  · have HC : Hid (codeL stay f r = 2) := by show _ = _; unfold codeL; rw [hG]; rfl
    have HE : Hid (lfR stay f r = (0, 2)) := by show _ = _; unfold lfR; rw [hG]; rfl
    clear hG
    go_enter Try.func67, Try.ntmps67
    go_wp2_with fail
    (with_reducible refine (l10Code_any _ _ _ _).mono ?_)
    rintro e _ ⟨rfl, rfl⟩
    rw [HC.out]
    go_wp2
    go_ret2
    exact ⟨nret2 HE.out, rfl⟩
  obtain ⟨s1, s2, f1, f2, r1, r2⟩ := rangeL_at hG
  have HC : Hid (codeL stay f r = 0) := by show _ = _; unfold codeL; rw [hG]; rfl
  have HE : Hid (lfR stay f r = if linksZ stay f r = 0 then (0, 4) else (linksZ stay f r, 0)) := by show _ = _; unfold lfR; rw [if_pos hG]
  obtain ⟨n0, n1⟩ := needZ_bd s1 s2 f1 f2 r1 r2
  have HZ : Hid (linksZ stay f r = lnkF (needZ stay f r) 81 40) := rfl
  clear hG
  go_enter Try.func67, Try.ntmps67
  go_wp2_with fail
  (with_reducible refine (l10Code_any _ _ _ _).mono ?_)
  rintro e _ ⟨rfl, rfl⟩
  rw [HC.out]
  go_wp2
  go_loop [9] (fun l => ∃ j k : Nat, j + k = 81 ∧ l = .int .i64 (40 + 2 * (j : Int)) ∧ Hid (lnkF (needZ stay f r) k (40 + 2 * (j : Int)) = lnkF (needZ stay f r) 81 40)) (fun l => (202 - intOf l).toNat)
  case atStart => exact ⟨0, 81, by omega, rfl, rfl⟩
  case round =>
    obtain ⟨j, k, hjk, rfl, hi⟩ := hrel
    by_cases hlt : j ≤ 80
    · obtain ⟨k, rfl⟩ : ∃ q, k = q + 1 := ⟨k - 1, by omega⟩
      have HS : Hid (lnkF (needZ stay f r) (k + 1) (40 + 2 * (j : Int)) = if needZ stay f r ≤ 1000 * (40 + 2 * (j : Int)) then 40 + 2 * (j : Int) else lnkF (needZ stay f r) k (40 + 2 * (j : Int) + 2)) := rfl
      by_cases hc : needZ stay f r ≤ 1000 * (40 + 2 * (j : Int))
      · have HF : Hid (lfR stay f r = (40 + 2 * (j : Int), 0)) := by
          have e : linksZ stay f r = 40 + 2 * (j : Int) := by rw [HZ.out, ← hi.out, HS.out, if_pos hc]
          show _ = _
          rw [HE.out, e, if_neg (by omega)]
        go_wp2_with (go_at_call 100; (with_reducible refine (l10Need_any _ _ _ _ s1 s2 f1 f2 r1 r2).mono ?_); rintro e w' ⟨rfl, rfl⟩)
        go_ret2
        exact ⟨nret2 HF.out, rfl⟩
      · have HN : Hid (lnkF (needZ stay f r) k (40 + 2 * ((j + 1 : Nat) : Int)) = lnkF (needZ stay f r) 81 40) := by
          show _ = _
          rw [← hi.out, HS.out, if_neg hc]
          congr 1 <;> omega
        go_wp2_with (go_at_call 100; (with_reducible refine (l10Need_any _ _ _ _ s1 s2 f1 f2 r1 r2).mono ?_); rintro e w' ⟨rfl, rfl⟩)
        go_round
        case rel => exact ⟨j + 1, k, by omega, by go_num, HN⟩
        case measure => simp [intOf] <;> omega
    · obtain rfl : j = 81 := by omega
      obtain rfl : k = 0 := by omega
      have HF : Hid (lfR stay f r = (0, 4)) := by
        have e : linksZ stay f r = 0 := by rw [HZ.out, ← hi.out]; rfl
        show _ = _
        rw [HE.out, if_pos e]
      go_wp2
      go_ret2
      exact ⟨nret2 HF.out, rfl⟩

end Go.Proofs.Ytfdnhamkkcmnfaa
