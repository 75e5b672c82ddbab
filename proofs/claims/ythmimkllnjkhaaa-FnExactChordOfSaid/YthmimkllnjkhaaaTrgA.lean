/- Contracts of the cosines, roots and chords, of the program and of the reference. -/
import Derived.Test.YthmimkllnjkhaaaTrgP
import Derived.Test.YthmimkllnjkhaaaSrtA
import Derived.Test.YthmimkllnjkhaaaRacA
import Derived.Deep.QuietTactic
import Derived.BigQuiet
set_option linter.unusedSimpArgs false
set_option linter.unusedVariables false
namespace Go.Proofs.Ythmimkllnjkhaaa
open Go.RowKit

set_option maxHeartbeats 800000 in
theorem floorDivB_any (a b : Int) (w : World) (ha : -9000000000000000000 ≤ a) (hb : 1 ≤ b) (ha' : a ≤ 9000000000000000000) (hb' : b ≤ 4000000000) :
    Calls Try.prog 59 #[.int .i64 a, .int .i64 b] w fun e w' => e = .returned (.int .i64 (a / b)) ∧ w = w' := by
  have hq : -9000000000000000000 ≤ a.tdiv b ∧ a.tdiv b ≤ 9000000000000000000 := by
    have h1 := Int.natAbs_tdiv_le_natAbs a b
    omega
  by_cases h : a.tmod b < 0
  · go_enter Try.func59, Try.ntmps59
    go_wp2
    go_ret
    exact ⟨ret_int (tdiv_floor_neg (by omega) h), rfl⟩
  · go_enter Try.func59, Try.ntmps59
    go_wp2
    go_ret
    exact ⟨ret_int (tdiv_floor_pos (by omega) (by omega)), rfl⟩
set_option maxHeartbeats 800000 in
theorem l01FloorB_any (a b : Int) (w : World) (ha : -9000000000000000000 ≤ a) (hb : 1 ≤ b) (ha' : a ≤ 9000000000000000000) (hb' : b ≤ 4000000000) :
    Calls Try.prog 56 #[.int .i64 a, .int .i64 b] w fun e w' => e = .returned (.int .i64 (a / b)) ∧ w = w' := by
  have hq : -9000000000000000000 ≤ a.tdiv b ∧ a.tdiv b ≤ 9000000000000000000 := by
    have h1 := Int.natAbs_tdiv_le_natAbs a b
    omega
  by_cases h : a.tmod b < 0
  · go_enter Try.func56, Try.ntmps56
    go_wp2
    go_ret
    exact ⟨ret_int (tdiv_floor_neg (by omega) h), rfl⟩
  · go_enter Try.func56, Try.ntmps56
    go_wp2
    go_ret
    exact ⟨ret_int (tdiv_floor_pos (by omega) (by omega)), rfl⟩
set_option maxHeartbeats 800000 in
theorem nearest_any (a : Int) (w : World) (h1 : -4000000000000000000 ≤ a) (h2 : a ≤ 4000000000000000000) :
    Calls Try.prog 54 #[.int .i64 a, .int .i64 1000000000] w fun e w' => e = .returned (.int .i64 (nea a)) ∧ w = w' := by
  go_enter Try.func54, Try.ntmps54
  go_wp2_with fail
  (with_reducible refine (floorDivB_any _ _ _ (by omega) (by omega) (by omega) (by omega)).mono ?_)
  rintro e _ ⟨rfl, rfl⟩
  go_wp2
  go_ret
  exact ⟨ret_int (by simp [nea]), rfl⟩
set_option maxHeartbeats 800000 in
theorem l01Nearest_any (a : Int) (w : World) (h1 : -4000000000000000000 ≤ a) (h2 : a ≤ 4000000000000000000) :
    Calls Try.prog 51 #[.int .i64 a, .int .i64 1000000000] w fun e w' => e = .returned (.int .i64 (nea a)) ∧ w = w' := by
  go_enter Try.func51, Try.ntmps51
  go_wp2_with fail
  (with_reducible refine (l01FloorB_any _ _ _ (by omega) (by omega) (by omega) (by omega)).mono ?_)
  rintro e _ ⟨rfl, rfl⟩
  go_wp2
  go_ret
  exact ⟨ret_int (by simp [nea]), rfl⟩
theorem nea_bd2 {a : Int} (h1 : -2100000000000000000 ≤ a) (h2 : a ≤ 2100000000000000000) : -2100000000 ≤ nea a ∧ nea a ≤ 2100000001 := by unfold nea; omega
set_option maxHeartbeats 800000 in
theorem firstCosine_any (r : Nat) (w : World) (hr : r ≤ 180) :
    Calls Try.prog 61 #[.int .i64 r] w fun e w' => e = .returned (.int .i64 (cosC r)) ∧ w = w' := by
  by_cases h0 : r = 0
  · subst h0
    go_enter Try.func61, Try.ntmps61
    go_wp2
    go_ret
    exact ⟨ret_int rfl, rfl⟩
  by_cases h1 : r = 180
  · subst h1
    go_enter Try.func61, Try.ntmps61
    go_wp2
    go_ret
    exact ⟨ret_int rfl, rfl⟩
  have e0 : ((r : Int) == 0) = false := by rw [beq_eq_false_iff_ne]; omega
  have e1 : ((r : Int) == 180) = false := by rw [beq_eq_false_iff_ne]; omega
  have HE : Hid (cosC r = (cosP r).1) := by
    show _ = _
    unfold cosC; rw [if_neg h1]
  have hp : 1 ≤ r := by omega
  clear h0 h1
  go_enter Try.func61, Try.ntmps61
  go_wp2
  go_loop [3, 4, 5] (fun p q k => ∃ m : Nat, m + 1 ≤ r ∧ k = .int .i64 ((m : Int) + 2) ∧ p = .int .i64 (cosP m).1 ∧ q = .int .i64 (cosP m).2) (fun _ _ k => r + 2 - (intOf k).toNat)
  case atStart => exact ⟨0, by omega, rfl, rfl, rfl⟩
  case round =>
    obtain ⟨m, hm, rfl, rfl, rfl⟩ := hrel
    obtain ⟨b1, b2, b3, b4⟩ := cosP_bd (k := m) (by omega)
    by_cases hlt : m + 2 ≤ r
    · have HS : Hid (cosP (m + 1) = ((cosP m).2, nea (1999923846 * (cosP m).2) - (cosP m).1)) := rfl
      generalize cosP m = P at *
      obtain ⟨p, q⟩ := P
      simp only at b1 b2 b3 b4
      obtain ⟨n1, n2⟩ := nea_bd2 (a := 1999923846 * q) (by omega) (by omega)
      go_wp2_with fail
      (with_reducible refine (nearest_any _ _ (by omega) (by omega)).mono ?_)
      rintro e _ ⟨rfl, rfl⟩
      go_wp2
      go_round
      case rel => exact ⟨m + 1, by omega, by go_num, by rw [HS.out], by rw [HS.out]⟩
      case measure => simp [intOf]; omega
    · have hme : r = m + 1 := by omega
      have HF : Hid (cosC r = (cosP m).2) := by
        show _ = _
        rw [HE.out, hme]; rfl
      clear hme
      generalize cosP m = P at *
      obtain ⟨p, q⟩ := P
      go_wp2
      go_ret
      exact ⟨ret_int HF.out.symm, rfl⟩
set_option maxHeartbeats 800000 in
theorem cosine_any (r : Nat) (w : World) (hr : r ≤ 360) :
    Calls Try.prog 55 #[.int .i64 r] w fun e w' => e = .returned (.int .i64 (cosR r)) ∧ w = w' := by
  have FM : ∀ W : World, Calls Try.prog 60 #[.int .i64 r, .int .i64 720] W fun e w' => e = .returned (.int .i64 r) ∧ W = w' := by
    intro W
    have hmod : (r : Int).tmod 720 = r := by rw [Int.tmod_eq_emod_of_nonneg (by omega)]; omega
    have hmod2 : (r : Int) % 720 = r := by omega
    go_enter Try.func60, Try.ntmps60
    go_wp2
    go_ret
    exact ⟨rfl, rfl⟩
  by_cases h : r ≤ 180
  · have hE : cosR r = cosC r := by unfold cosR; rw [if_pos h]
    have HE := Lib.hid hE
    clear hE
    have FM := Lib.hid FM
    go_enter Try.func55, Try.ntmps55
    go_wp2_with fail
    (with_reducible refine (FM.out _).mono ?_)
    rintro e _ ⟨rfl, rfl⟩
    go_wp2_with fail
    (with_reducible refine (firstCosine_any _ _ h).mono ?_)
    rintro e _ ⟨rfl, rfl⟩
    go_wp2
    go_ret
    exact ⟨ret_int HE.out.symm, rfl⟩
  · have hE : cosR r = - cosC (360 - r) := by unfold cosR; rw [if_neg h]
    have HE := Lib.hid hE
    clear hE
    have FM := Lib.hid FM
    obtain ⟨c1, c2⟩ := cosC_bd (k := 360 - r) (by omega)
    obtain ⟨s, hs⟩ : ∃ s, s = 360 - r := ⟨_, rfl⟩
    have hs2 : (360 : Int) - (r : Int) = (s : Int) := by omega
    have hs3 : s ≤ 180 := by omega
    rw [← hs] at c1 c2
    have HS := Lib.hid hs
    clear hs
    go_enter Try.func55, Try.ntmps55
    go_wp2_with fail
    (with_reducible refine (FM.out _).mono ?_)
    rintro e _ ⟨rfl, rfl⟩
    go_wp2_with fail
    (try rw [hs2])
    (with_reducible refine (firstCosine_any _ _ hs3).mono ?_)
    rintro e _ ⟨rfl, rfl⟩
    go_wp2
    go_ret
    exact ⟨ret_int (by rw [HE.out, HS.out]), rfl⟩
set_option maxHeartbeats 800000 in
theorem squareBetween_any (d : Int) (s : Nat) (w : World) (h0 : 0 ≤ d) (h1 : d ≤ 2000) (hs : s ≤ 360) :
    Calls Try.prog 48 #[.int .i64 d, .int .i64 d, .int .i64 s] w fun e w' => e = .returned (.int .i64 (sqB d s)) ∧ w = w' := by
  obtain ⟨q0, q1⟩ := sq_bd h0 h1
  obtain ⟨c0, c1⟩ := cosR_bd hs
  have e1 : 2 * d * d = 2 * (d * d) := Int.mul_assoc _ _ _
  obtain ⟨p0, p1⟩ := prod_bd (p := 2 * d * d) (by omega) (by omega) c0 c1
  obtain ⟨n0, n1⟩ := nea_bd (a := 2 * d * d * cosR s) (b := 8000008) (by omega) (by omega) (by omega)
  have HE : Hid (sqB d s = d * d + d * d - nea (2 * d * d * cosR s)) := rfl
  have hw1 : IntKind.i64.wrap (2 * d * d) = 2 * d * d := IntWalk.i64_in _ (by omega)
  have hw2 : IntKind.i64.wrap (2 * d * d * cosR s) = 2 * d * d * cosR s := IntWalk.i64_in _ (by omega)
  have hw3 : IntKind.i64.wrap (d * d) = d * d := IntWalk.i64_in _ (by omega)
  clear e1
  go_enter Try.func48, Try.ntmps48
  go_wp2_with fail
  (with_reducible refine (cosine_any _ _ hs).mono ?_)
  rintro e _ ⟨rfl, rfl⟩
  go_wp2_with fail
  (try rw [hw2])
  (with_reducible refine (nearest_any _ _ (by omega) (by omega)).mono ?_)
  rintro e _ ⟨rfl, rfl⟩
  go_wp2
  go_ret
  exact ⟨ret_int HE.out.symm, rfl⟩
set_option maxHeartbeats 800000 in
theorem root_any (n : Int) (w : World) (h0 : 0 ≤ n) (h1 : n ≤ 25000000) :
    Calls Try.prog 53 #[.int .i64 n] w fun e w' => e = .returned (.int .i64 (rtZ n)) ∧ w = w' := by
  have HZ := Lib.hid (fun r (hr : isRt n r) => rtZ_eq h1 hr)
  go_enter Try.func53, Try.ntmps53
  go_wp2
  go_loop [3, 4] (fun lo hi => ∃ l h : Int, 0 ≤ l ∧ l ≤ h ∧ h ≤ 3037000499 ∧ lo = .int .i64 l ∧ hi = .int .i64 h ∧ Hid (l * l ≤ n) ∧ Hid (n < (h + 1) * (h + 1))) (fun lo hi => (intOf hi - intOf lo).toNat)
  case atStart => exact ⟨0, 3037000499, by omega, by omega, by omega, rfl, rfl, by show _ ≤ _; omega, by show _ < _; omega⟩
  case round =>
    obtain ⟨l, h, l0, lh, hh, rfl, rfl, hl, hn⟩ := hrel
    by_cases hlt : l < h
    · obtain ⟨m, hm⟩ : ∃ m, m = (l + h + 1) / 2 := ⟨_, rfl⟩
      have hs : (l + h + 1) / 2 = m := hm.symm
      have m1 : l + 1 ≤ m := by omega
      have m2 : m ≤ h := by omega
      obtain ⟨k0, k1⟩ := big_sq (m := m) (by omega) (by omega)
      have hw : IntKind.i64.wrap (m * m) = m * m := IntWalk.i64_in _ (by omega)
      clear hm
      by_cases hc : m * m ≤ n
      · have HC := Lib.hid hc
        go_wp2
        go_round
        case rel => exact ⟨m, h, by omega, by omega, by omega, by first | rfl | rw [hs], rfl, HC, hn⟩
        case measure => simp [intOf]; omega
      · have HC : Hid (n < (m - 1 + 1) * (m - 1 + 1)) := by show _ < _; rw [Int.sub_add_cancel]; omega
        go_wp2
        go_round
        case rel => exact ⟨l, m - 1, by omega, by omega, by omega, rfl, by first | go_num | (rw [hs]; go_num), hl, HC⟩
        case measure => simp [intOf]; omega
    · obtain rfl : l = h := by omega
      have HF := Lib.hid (HZ.out l ⟨l0, hl.out, hn.out⟩)
      go_wp2
      go_ret
      exact ⟨ret_int HF.out.symm, rfl⟩
set_option maxHeartbeats 800000 in
theorem l02Root_any (n : Int) (w : World) (h0 : 0 ≤ n) (h1 : n ≤ 25000000) :
    Calls Try.prog 50 #[.int .i64 n] w fun e w' => e = .returned (.int .i64 (rtZ n)) ∧ w = w' := by
  have HZ := Lib.hid (fun r (hr : isRt n r) => rtZ_eq h1 hr)
  go_enter Try.func50, Try.ntmps50
  go_wp2
  go_loop [3, 4] (fun lo hi => ∃ l h : Int, 0 ≤ l ∧ l < h ∧ h ≤ 2000000001 ∧ lo = .int .i64 l ∧ hi = .int .i64 h ∧ Hid (l * l ≤ n) ∧ Hid (n < h * h)) (fun lo hi => (intOf hi - intOf lo).toNat)
  case atStart => exact ⟨0, 2000000001, by omega, by omega, by omega, rfl, rfl, by show _ ≤ _; omega, by show _ < _; omega⟩
  case round =>
    obtain ⟨l, h, l0, lh, hh, rfl, rfl, hl, hn⟩ := hrel
    by_cases hlt : l + 1 < h
    · obtain ⟨m, hm⟩ : ∃ m, m = (l + h) / 2 := ⟨_, rfl⟩
      have hs : (l + h) / 2 = m := hm.symm
      have m1 : l + 1 ≤ m := by omega
      have m2 : m < h := by omega
      obtain ⟨k0, k1⟩ := big_sq (m := m) (by omega) (by omega)
      have hw : IntKind.i64.wrap (m * m) = m * m := IntWalk.i64_in _ (by omega)
      clear hm
      by_cases hc : m * m ≤ n
      · have HC := Lib.hid hc
        go_wp2
        go_round
        case rel => exact ⟨m, h, by omega, by omega, by omega, by first | rfl | rw [hs], rfl, HC, hn⟩
        case measure => simp [intOf]; omega
      · have HC : Hid (n < m * m) := by show _ < _; omega
        go_wp2
        go_round
        case rel => exact ⟨l, m, by omega, by omega, by omega, rfl, by first | rfl | rw [hs], hl, HC⟩
        case measure => simp [intOf]; omega
    · obtain rfl : h = l + 1 := by omega
      have HF := Lib.hid (HZ.out l ⟨l0, hl.out, hn.out⟩)
      go_wp2
      go_ret
      exact ⟨ret_int HF.out.symm, rfl⟩

set_option maxHeartbeats 800000 in
theorem nearestRoot_any (n : Int) (w : World) (h1 : n ≤ 25000000) (h2 : -25000000 ≤ n) :
    Calls Try.prog 47 #[.int .i64 n] w fun e w' => e = .returned (.int .i64 (nrt n)) ∧ w = w' := by
  by_cases h0 : n < 0
  · go_enter Try.func47, Try.ntmps47
    go_wp2
    go_ret
    exact ⟨ret_int (by unfold nrt; rw [if_pos h0]), rfl⟩
  · obtain ⟨r0, r1, r2⟩ := rtZ_bd (n := n) (by omega) h1
    have hsq := Int.mul_nonneg r0 r0
    have hw : IntKind.i64.wrap (rtZ n * rtZ n) = rtZ n * rtZ n := IntWalk.i64_in _ (by omega)
    by_cases hc : rtZ n < n - rtZ n * rtZ n
    · have HE : Hid (nrt n = rtZ n + 1) := by show _ = _; unfold nrt; rw [if_neg h0, if_pos hc]
      go_enter Try.func47, Try.ntmps47
      go_wp2_with fail
      (with_reducible refine (root_any _ _ (by omega) h1).mono ?_)
      rintro e _ ⟨rfl, rfl⟩
      generalize rtZ n = r at *
      go_wp2
      go_ret
      exact ⟨ret_int HE.out.symm, rfl⟩
    · have HE : Hid (nrt n = rtZ n) := by show _ = _; unfold nrt; rw [if_neg h0, if_neg hc]
      go_enter Try.func47, Try.ntmps47
      go_wp2_with fail
      (with_reducible refine (root_any _ _ (by omega) h1).mono ?_)
      rintro e _ ⟨rfl, rfl⟩
      generalize rtZ n = r at *
      go_wp2
      go_ret
      exact ⟨ret_int HE.out.symm, rfl⟩

set_option maxHeartbeats 800000 in
theorem l03Near_any (n : Int) (w : World) (h1 : n ≤ 25000000) (h2 : -25000000 ≤ n) :
    Calls Try.prog 45 #[.int .i64 n] w fun e w' => e = .returned (.int .i64 (nrt n)) ∧ w = w' := by
  by_cases h0 : n < 0
  · go_enter Try.func45, Try.ntmps45
    go_wp2
    go_ret
    exact ⟨ret_int (by unfold nrt; rw [if_pos h0]), rfl⟩
  · obtain ⟨r0, r1, r2⟩ := rtZ_bd (n := n) (by omega) h1
    have hsq := Int.mul_nonneg r0 r0
    have hw : IntKind.i64.wrap (rtZ n * rtZ n) = rtZ n * rtZ n := IntWalk.i64_in _ (by omega)
    by_cases hc : rtZ n < n - rtZ n * rtZ n
    · have HE : Hid (nrt n = rtZ n + 1) := by show _ = _; unfold nrt; rw [if_neg h0, if_pos hc]
      go_enter Try.func45, Try.ntmps45
      go_wp2_with fail
      (with_reducible refine (l02Root_any _ _ (by omega) h1).mono ?_)
      rintro e _ ⟨rfl, rfl⟩
      generalize rtZ n = r at *
      go_wp2
      go_ret
      exact ⟨ret_int HE.out.symm, rfl⟩
    · have HE : Hid (nrt n = rtZ n) := by show _ = _; unfold nrt; rw [if_neg h0, if_neg hc]
      go_enter Try.func45, Try.ntmps45
      go_wp2_with fail
      (with_reducible refine (l02Root_any _ _ (by omega) h1).mono ?_)
      rintro e _ ⟨rfl, rfl⟩
      generalize rtZ n = r at *
      go_wp2
      go_ret
      exact ⟨ret_int HE.out.symm, rfl⟩

end Go.Proofs.Ythmimkllnjkhaaa
