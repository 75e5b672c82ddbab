/- Contracts of chords, ChordOf and MostBalls, of the program and of the reference. -/
import Derived.Test.YthmimkllnjkhaaaTrgB
set_option linter.unusedSimpArgs false
set_option linter.unusedVariables false
namespace Go.Proofs.Ythmimkllnjkhaaa
open Go.RowKit

def chordR (d b n : Int) : Int × Int := if isRace d b = true then (if inR n 3 40 = true then (chordZ d n, 0) else (0, 2)) else (0, 1)
def codeC (d b n : Int) : Int := if isRace d b = true then (if inR n 3 40 = true then 0 else 2) else 1
def mostF (d b : Int) : Nat → Int × Int
  | 0 => (0, 4)
  | f + 1 => if b ≤ chordZ d ((f : Int) + 3) then ((f : Int) + 3, 0) else mostF d b f
def mostR (d b : Int) : Int × Int := if isRace d b = true then mostF d b 38 else (0, 1)
theorem tab_len : (tabL 180 ++ [0]).length = 181 := by rw [List.length_append, tabL_length]; rfl
theorem chordZ_bd {d n : Int} (h0 : 0 ≤ d) (h : d ≤ 2000) (n3 : 3 ≤ n) (n40 : n ≤ 40) : 0 ≤ chordZ d n ∧ chordZ d n ≤ 5001 := by
  obtain ⟨s1, s2⟩ := steps_bd n3 n40
  have hs := sqB_bd h0 h (s := (720 / n).toNat) (by omega)
  have hn := nrt_bd (n := sqB d (720 / n).toNat) (by omega)
  unfold chordZ
  omega
set_option maxHeartbeats 800000 in
theorem l01Mod_any (r : Nat) (w : World) (hr : r ≤ 360) :
    Calls Try.prog 57 #[.int .i64 r, .int .i64 720] w fun e w' => e = .returned (.int .i64 r) ∧ w = w' := by
  have hmod : (r : Int).tmod 720 = r := by rw [Int.tmod_eq_emod_of_nonneg (by omega)]; omega
  have hmod2 : ((r : Int) + 720).tmod 720 = r := by rw [Int.tmod_eq_emod_of_nonneg (by omega)]; omega
  have hm3 : (r : Int) % 720 = r := by omega
  have hm4 : ((r : Int) + 720) % 720 = r := by omega
  go_enter Try.func57, Try.ntmps57
  go_wp2
  go_ret
  exact ⟨ret_int (by omega), rfl⟩
set_option maxRecDepth 100000 in
set_option maxHeartbeats 800000 in
theorem l03Cosine_any (s : Nat) (w : World) (hs : s ≤ 360) :
    Calls Try.prog 52 #[.int .i64 s] w fun e w' => e = .returned (.int .i64 (cosR s)) ∧ Below w.heap.size w w' := by
  have hmin : min (s : Int) (720 - (s : Int)) = (s : Int) := by omega
  have hle : (s : Int) ≤ 720 - (s : Int) := by omega
  by_cases h : s ≤ 180
  · have HE : Hid (cosR s = cosC s) := by show _ = _; unfold cosR; rw [if_pos h]
    have hi : (s : Int) < (181 : Int) := by omega
    have hs0 : (0 : Int) ≤ (s : Int) := by omega
    have hs1 : (s : Int) ≤ 180 := by omega
    go_enter Try.func52, Try.ntmps52
    go_wp2_with fail
    (with_reducible refine (l01Mod_any _ _ hs).mono ?_)
    rintro e _ ⟨rfl, rfl⟩
    go_wp2_with fail
    (with_reducible refine (l03Table_any _).mono ?_)
    rintro e w1 ⟨v, rfl, ho, hb⟩
    obtain ⟨a, c, hv, hr1⟩ := ho.rd.shape
    rw [tab_len] at hv
    subst hv
    obtain ⟨b, o, rfl, c0⟩ := hr1.at s (by rw [tab_len]; omega)
    rw [tab_at h] at c0
    clear ho hr1
    generalize cosC s = q at *
    go_wp2
    go_ret
    exact ⟨ret_int HE.out.symm, hb⟩
  · obtain ⟨t, ht⟩ : ∃ t, t = 360 - s := ⟨_, rfl⟩
    have ht1 : t ≤ 180 := by omega
    have HE : Hid (cosR s = - cosC t) := by show _ = _; unfold cosR; rw [if_neg h, ht]
    have ht2 : (360 : Int) - (s : Int) = (t : Int) := by omega
    have ht3 : IntKind.i64.wrap ((360 : Int) - (s : Int)) = (t : Int) := by rw [IntWalk.i64_in _ (by omega)]; omega
    have hi : (t : Int) < (181 : Int) := by omega
    have hs0 : (0 : Int) ≤ (t : Int) := by omega
    have hs1 : ¬ (s : Int) ≤ 180 := by omega
    have ht5 : ((360 : Int) - (s : Int)).toNat = t := by omega
    have ht6 : (0 : Int) ≤ 360 - (s : Int) := by omega
    have ht7 : 360 - (s : Int) < (181 : Int) := by omega
    clear ht
    go_enter Try.func52, Try.ntmps52
    go_wp2_with fail
    (with_reducible refine (l01Mod_any _ _ hs).mono ?_)
    rintro e _ ⟨rfl, rfl⟩
    go_wp2_with fail
    (with_reducible refine (l03Table_any _).mono ?_)
    rintro e w1 ⟨v, rfl, ho, hb⟩
    obtain ⟨a, c, hv, hr1⟩ := ho.rd.shape
    rw [tab_len] at hv
    subst hv
    obtain ⟨b, o, rfl, c0⟩ := hr1.at t (by rw [tab_len]; omega)
    rw [tab_at ht1] at c0
    obtain ⟨q1, q2⟩ := cosC_bd ht1
    clear ho hr1
    generalize cosC t = q at *
    go_wp2
    go_ret
    exact ⟨ret_int HE.out.symm, hb⟩
set_option maxHeartbeats 800000 in
theorem l03Square_any (d : Int) (s : Nat) (w : World) (h0 : 0 ≤ d) (h1 : d ≤ 2000) (hs : s ≤ 360) :
    Calls Try.prog 46 #[.int .i64 d, .int .i64 d, .int .i64 s] w fun e w' => e = .returned (.int .i64 (sqB d s)) ∧ Below w.heap.size w w' := by
  obtain ⟨q0, q1⟩ := sq_bd h0 h1
  obtain ⟨c0, c1⟩ := cosR_bd hs
  have e1 : 2 * d * d = 2 * (d * d) := Int.mul_assoc _ _ _
  obtain ⟨p0, p1⟩ := prod_bd (p := 2 * d * d) (by omega) (by omega) c0 c1
  obtain ⟨n0, n1⟩ := nea_bd (a := 2 * d * d * cosR s) (b := 8000008) (by omega) (by omega) (by omega)
  have HE : Hid (sqB d s = d * d + d * d - nea (2 * d * d * cosR s)) := rfl
  have hw1 : IntKind.i64.wrap (2 * d * d) = 2 * d * d := IntWalk.i64_in _ (by omega)
  have hw2 : IntKind.i64.wrap (2 * d * d * cosR s) = 2 * d * d * cosR s := IntWalk.i64_in _ (by omega)
  have hw3 : IntKind.i64.wrap (d * d) = d * d := IntWalk.i64_in _ (by omega)
  clear e1
  go_enter Try.func46, Try.ntmps46
  go_wp2_with fail
  (with_reducible refine (l03Cosine_any _ _ hs).mono ?_)
  rintro e w1 ⟨rfl, hb⟩
  go_wp2_with fail
  (try rw [hw2])
  (with_reducible refine (l01Nearest_any _ _ (by omega) (by omega)).mono ?_)
  rintro e _ ⟨rfl, rfl⟩
  go_wp2
  go_ret
  exact ⟨ret_int HE.out.symm, hb⟩
set_option maxHeartbeats 800000 in
theorem l15Chord_any (d n : Int) (w : World) (h0 : 0 ≤ d) (h1 : d ≤ 2000) (n3 : 3 ≤ n) (n40 : n ≤ 40) :
    Calls Try.prog 39 #[.int .i64 d, .int .i64 n] w fun e w' => e = .returned (.int .i64 (chordZ d n)) ∧ Below w.heap.size w w' := by
  obtain ⟨s1, s2⟩ := steps_bd n3 n40
  obtain ⟨s, hs⟩ : ∃ s : Nat, s = (720 / n).toNat := ⟨_, rfl⟩
  have hs1 : 720 / n = (s : Int) := by omega
  have hs2 : s ≤ 360 := by omega
  obtain ⟨z1, z2⟩ := sqB_bd h0 h1 hs2
  obtain ⟨y1, y2⟩ := nrt_bd (n := sqB d s) (by omega)
  have HE : Hid (chordZ d n = nrt (sqB d s) / 2) := by show _ = _; unfold chordZ; rw [hs]
  have htd : (720 : Int).tdiv n = (s : Int) := by rw [Int.tdiv_eq_ediv_of_nonneg (by omega)]; exact hs1
  clear hs s1 s2
  have HS1 := Lib.hid hs1
  clear hs1
  go_enter Try.func39, Try.ntmps39
  go_wp2_with fail
  (try rw [HS1.out])
  (with_reducible refine (l03Square_any _ _ _ h0 h1 hs2).mono ?_)
  rintro e w1 ⟨rfl, hb⟩
  go_wp2_with fail
  (with_reducible refine (l03Near_any _ _ (by omega) (by omega)).mono ?_)
  rintro e _ ⟨rfl, rfl⟩
  generalize nrt (sqB d s) = q at *
  go_wp2
  go_ret
  exact ⟨ret_int HE.out.symm, hb⟩
set_option maxHeartbeats 800000 in
theorem chord_any (d b n : Int) (w : World) (h0 : 0 ≤ d) (h1 : d ≤ 2000) (n3 : 3 ≤ n) (n40 : n ≤ 40) :
    Calls Try.prog 40 #[.agg #[.int .i64 d, .int .i64 b], .int .i64 n] w fun e w' => e = .returned (.int .i64 (chordZ d n)) ∧ Below w.heap.size w w' := by
  obtain ⟨s1, s2⟩ := steps_bd n3 n40
  obtain ⟨s, hs⟩ : ∃ s : Nat, s = (720 / n).toNat := ⟨_, rfl⟩
  have hs1 : 720 / n = (s : Int) := by omega
  have hs2 : s ≤ 360 := by omega
  obtain ⟨z1, z2⟩ := sqB_bd h0 h1 hs2
  obtain ⟨y1, y2⟩ := nrt_bd (n := sqB d s) (by omega)
  have HE : Hid (chordZ d n = nrt (sqB d s) / 2) := by show _ = _; unfold chordZ; rw [hs]
  have htd : (720 : Int).tdiv n = (s : Int) := by rw [Int.tdiv_eq_ediv_of_nonneg (by omega)]; exact hs1
  clear hs s1 s2
  have hn0 : n ≠ 0 := by omega
  have hn1 : (n == 0) = false := by rw [beq_eq_false_iff_ne]; exact hn0
  have hw : IntKind.i64.wrap (s : Int) = (s : Int) := IntWalk.i64_in _ (by omega)
  go_enter Try.func40, Try.ntmps40
  go_wp2
  go_quiet ((first | (go_at_call 48; exact rquiet_eq (squareBetween_any _ _ _ h0 h1 hs2)) | (go_at_call 47; exact rquiet_eq (nearestRoot_any _ _ (by omega) (by omega)))))
  generalize nrt (sqB d s) = q at *
  go_wp2
  go_ret
  exact ⟨ret_int HE.out.symm, (by repeat (first | (with_reducible refine sblw_drewN ?_ _) | (with_reducible assumption) | (with_reducible exact Below.refl _ _) | (with_reducible refine Below.drew ?_) | (with_reducible refine blw_al ?_ _) | (with_reducible refine blw_stp (by with_reducible assumption) ?_) | (with_reducible refine blw_set ?_ (by dsimp only; omega) _)))⟩

set_option maxHeartbeats 800000 in
theorem l15Code_any (d b n : Int) (w : World) :
    Calls Try.prog 38 #[.agg #[.int .i64 d, .int .i64 b], .int .i64 n] w fun e w' => e = .returned (.int .i64 (codeC d b n)) ∧ Below w.heap.size w w' := by
  cases hR : isRace d b
  · go_enter Try.func38, Try.ntmps38
    go_wp2_with (go_at_call 10; (with_reducible refine (sIsRace_any _ _ _).mono ?_); rintro e w' ⟨rfl, hb⟩; obtain ⟨hc, hf⟩ := bcell hb; have hz := hb.size; (try simp only [World.size_alloc, World.size_drew] at hz); (try have hz0 : w.heap.size < w'.heap.size := by omega); (try have hz1 : w.heap.size + 1 < w'.heap.size := by omega))
    go_ret
    exact ⟨ret_int (by simp [codeC, hR]), (by repeat (first | (with_reducible assumption) | (with_reducible exact Below.refl _ _) | (with_reducible refine Below.drew ?_) | (with_reducible refine blw_al ?_ _) | (with_reducible refine blw_stp (by with_reducible assumption) ?_) | (with_reducible refine blw_set ?_ (by dsimp only; omega) _)))⟩
  cases hN : inR n 3 40
  all_goals
    go_enter Try.func38, Try.ntmps38
    go_wp2_with (first | (go_at_call 10; (with_reducible refine (sIsRace_any _ _ _).mono ?_); rintro e w' ⟨rfl, hb⟩; obtain ⟨hc, hf⟩ := bcell hb; have hz := hb.size; (try simp only [World.size_alloc, World.size_drew] at hz); (try have hz0 : w.heap.size < w'.heap.size := by omega); (try have hz1 : w.heap.size + 1 < w'.heap.size := by omega)) | (go_at_call 29; (with_reducible refine (l01In_any _ _ _ _).mono ?_); rintro e w' ⟨rfl, rfl⟩))
    go_ret
    exact ⟨ret_int (by simp [codeC, hR, hN]), (by repeat (first | (with_reducible assumption) | (with_reducible exact Below.refl _ _) | (with_reducible refine Below.drew ?_) | (with_reducible refine blw_al ?_ _) | (with_reducible refine blw_stp (by with_reducible assumption) ?_) | (with_reducible refine blw_set ?_ (by dsimp only; omega) _)))⟩
set_option maxHeartbeats 800000 in
theorem ChordOf_any (d b n : Int) (w : World) :
    Calls Try.prog 26 #[.agg #[.int .i64 d, .int .i64 b], .int .i64 n] w fun e w' => e = .returned (.tuple #[.int .i64 (chordR d b n).1, .int .i64 (chordR d b n).2]) ∧ Below w.heap.size w w' := by
  cases hR : isRace d b
  · go_enter Try.func26, Try.ntmps26
    go_wp2_with (go_at_call 12; (with_reducible refine (IsRace_any _ _ _).mono ?_); rintro e w' ⟨rfl, hb⟩; obtain ⟨hc, hf⟩ := bcell hb; have hz := hb.size; (try simp only [World.size_alloc, World.size_drew] at hz); (try have hz0 : w.heap.size < w'.heap.size := by omega); (try have hz1 : w.heap.size + 1 < w'.heap.size := by omega))
    go_ret2
    exact ⟨bret2 (by simp [chordR, hR]), (by repeat (first | (with_reducible assumption) | (with_reducible exact Below.refl _ _) | (with_reducible refine Below.drew ?_) | (with_reducible refine blw_al ?_ _) | (with_reducible refine blw_stp (by with_reducible assumption) ?_) | (with_reducible refine blw_set ?_ (by dsimp only; omega) _)))⟩
  obtain ⟨d0, d1, -, -, -⟩ := isRace_bd hR
  cases hN : inR n 3 40
  · go_enter Try.func26, Try.ntmps26
    go_wp2_with (first | (go_at_call 12; (with_reducible refine (IsRace_any _ _ _).mono ?_); rintro e w' ⟨rfl, hb⟩; obtain ⟨hc, hf⟩ := bcell hb; have hz := hb.size; (try simp only [World.size_alloc, World.size_drew] at hz); (try have hz0 : w.heap.size < w'.heap.size := by omega); (try have hz1 : w.heap.size + 1 < w'.heap.size := by omega)) | (go_at_call 35; (with_reducible refine (isBalls_any _ _).mono ?_); rintro e w' ⟨rfl, rfl⟩))
    go_ret2
    exact ⟨bret2 (by simp [chordR, hR, hN]), (by repeat (first | (with_reducible assumption) | (with_reducible exact Below.refl _ _) | (with_reducible refine Below.drew ?_) | (with_reducible refine blw_al ?_ _) | (with_reducible refine blw_stp (by with_reducible assumption) ?_) | (with_reducible refine blw_set ?_ (by dsimp only; omega) _)))⟩
  · obtain ⟨n3, n40⟩ := inR_iff.1 hN
    go_enter Try.func26, Try.ntmps26
    go_wp2_with (first | (go_at_call 12; (with_reducible refine (IsRace_any _ _ _).mono ?_); rintro e w' ⟨rfl, hb⟩; obtain ⟨hc, hf⟩ := bcell hb; have hz := hb.size; (try simp only [World.size_alloc, World.size_drew] at hz); (try have hz0 : w.heap.size < w'.heap.size := by omega); (try have hz1 : w.heap.size + 1 < w'.heap.size := by omega)) | (go_at_call 35; (with_reducible refine (isBalls_any _ _).mono ?_); rintro e w' ⟨rfl, rfl⟩) | (go_at_call 40; (with_reducible refine (chord_any _ _ _ _ (by omega) (by omega) n3 n40).mono ?_); rintro e w' ⟨rfl, hb⟩; obtain ⟨hc, hf⟩ := bcell hb; have hz := hb.size; (try simp only [World.size_alloc, World.size_drew] at hz); (try have hz0 : w.heap.size < w'.heap.size := by omega); (try have hz1 : w.heap.size + 1 < w'.heap.size := by omega)))
    go_ret2
    exact ⟨bret2 (by simp [chordR, hR, hN]), (by repeat (first | (with_reducible assumption) | (with_reducible exact Below.refl _ _) | (with_reducible refine Below.drew ?_) | (with_reducible refine blw_al ?_ _) | (with_reducible refine blw_stp (by with_reducible assumption) ?_) | (with_reducible refine blw_set ?_ (by dsimp only; omega) _)))⟩
set_option maxHeartbeats 800000 in
theorem sChordOf_any (d b n : Int) (w : World) :
    Calls Try.prog 25 #[.agg #[.int .i64 d, .int .i64 b], .int .i64 n] w fun e w' => e = .returned (.tuple #[.int .i64 (chordR d b n).1, .int .i64 (chordR d b n).2]) ∧ Below w.heap.size w w' := by
  cases hR : isRace d b
  · have hC : codeC d b n = 1 := by unfold codeC; rw [hR]; rfl
    go_enter Try.func25, Try.ntmps25
    go_wp2_with (go_at_call 38; (with_reducible refine (l15Code_any _ _ _ _).mono ?_); rintro e w' ⟨rfl, hb⟩; rw [hC])
    go_ret2
    exact ⟨bret2 (by simp [chordR, hR]), (by repeat (first | (with_reducible assumption) | (with_reducible exact Below.refl _ _) | (with_reducible refine Below.drew ?_) | (with_reducible refine blw_al ?_ _) | (with_reducible refine blw_stp (by with_reducible assumption) ?_) | (with_reducible refine blw_set ?_ (by dsimp only; omega) _)))⟩
  obtain ⟨d0, d1, -, -, -⟩ := isRace_bd hR
  cases hN : inR n 3 40
  · have hC : codeC d b n = 2 := by unfold codeC; rw [hR, hN]; rfl
    go_enter Try.func25, Try.ntmps25
    go_wp2_with (go_at_call 38; (with_reducible refine (l15Code_any _ _ _ _).mono ?_); rintro e w' ⟨rfl, hb⟩; rw [hC])
    go_ret2
    exact ⟨bret2 (by simp [chordR, hR, hN]), (by repeat (first | (with_reducible assumption) | (with_reducible exact Below.refl _ _) | (with_reducible refine Below.drew ?_) | (with_reducible refine blw_al ?_ _) | (with_reducible refine blw_stp (by with_reducible assumption) ?_) | (with_reducible refine blw_set ?_ (by dsimp only; omega) _)))⟩
  · have hC : codeC d b n = 0 := by unfold codeC; rw [hR, hN]; rfl
    obtain ⟨n3, n40⟩ := inR_iff.1 hN
    go_enter Try.func25, Try.ntmps25
    go_wp2_with (first | (go_at_call 38; (with_reducible refine (l15Code_any _ _ _ _).mono ?_); rintro e w1 ⟨rfl, hb1⟩; rw [hC]; obtain ⟨hc1, hf1⟩ := bcell hb1; have hz1 := hb1.size; simp only [World.size_alloc] at hz1; have hz1a : w.heap.size < w1.heap.size := by omega) | (go_at_call 39; (with_reducible refine (l15Chord_any _ _ _ (by omega) (by omega) n3 n40).mono ?_); rintro e w' ⟨rfl, hb⟩; obtain ⟨hc, hf⟩ := bcell hb; have hz := hb.size; (try simp only [World.size_alloc, World.size_drew] at hz); (try have hz0 : w.heap.size < w'.heap.size := by omega); (try have hz1 : w.heap.size + 1 < w'.heap.size := by omega)))
    go_ret2
    exact ⟨bret2 (by simp [chordR, hR, hN]), (by repeat (first | (with_reducible assumption) | (with_reducible exact Below.refl _ _) | (with_reducible refine Below.drew ?_) | (with_reducible refine blw_al ?_ _) | (with_reducible refine blw_stp (by with_reducible assumption) ?_) | (with_reducible refine blw_set ?_ (by dsimp only; omega) _)))⟩

set_option maxHeartbeats 800000 in
theorem MostBalls_any (d b : Int) (w : World) :
    Calls Try.prog 28 #[.agg #[.int .i64 d, .int .i64 b]] w fun e w' => e = .returned (.tuple #[.int .i64 (mostR d b).1, .int .i64 (mostR d b).2]) ∧ Below w.heap.size w w' := by
  cases hR : isRace d b
  · have HR := Lib.hid hR
    go_enter Try.func28, Try.ntmps28
    go_wp2_with fail
    (with_reducible refine (IsRace_any _ _ _).mono ?_)
    rintro e w1 ⟨rfl, hb1⟩
    rw [HR.out]
    obtain ⟨hc1, hf1⟩ := bcell hb1
    have hz1 := hb1.size
    simp only [World.size_alloc] at hz1
    have hz1a : w.heap.size < w1.heap.size := by omega
    go_wp2
    go_ret2
    exact ⟨bret2 (by unfold mostR; rw [if_neg (by rw [HR.out]; simp)]), (by repeat (first | (with_reducible assumption) | (with_reducible exact Below.refl _ _) | (with_reducible refine Below.drew ?_) | (with_reducible refine blw_al ?_ _) | (with_reducible refine blw_stp (by with_reducible assumption) ?_) | (with_reducible refine blw_set ?_ (by dsimp only; omega) _)))⟩
  obtain ⟨d0, d1, -, -, -⟩ := isRace_bd hR
  have HR := Lib.hid hR
  clear hR
  go_enter Try.func28, Try.ntmps28
  go_wp2_with fail
  (with_reducible refine (IsRace_any _ _ _).mono ?_)
  rintro e w1 ⟨rfl, hb1⟩
  rw [HR.out]
  obtain ⟨hc1, hf1⟩ := bcell hb1
  have hz1 := hb1.size
  simp only [World.size_alloc] at hz1
  have hz1a : w.heap.size < w1.heap.size := by omega
  have hbw1 : Below w.heap.size w w1 := (by repeat (first | (with_reducible assumption) | (with_reducible exact Below.refl _ _) | (with_reducible refine Below.drew ?_) | (with_reducible refine blw_al ?_ _) | (with_reducible refine blw_stp (by with_reducible assumption) ?_) | (with_reducible refine blw_set ?_ (by dsimp only; omega) _)))
  have c0 : w1.cell? ⟨w.heap.size, 0, none⟩ = some (.int .i64 d) := by rw [hc1 _ _ (by simp)]; simp [go_sem]
  have c1 : w1.cell? ⟨w.heap.size, 1, none⟩ = some (.int .i64 b) := by rw [hc1 _ _ (by simp)]; simp [go_sem]
  have HC0 := Lib.hid (And.intro c0 c1)
  clear hc1 hf1 hb1 c0 c1
  go_wp2
  go_loopw [4] (fun nn wr => ∃ f : Nat, f ≤ 38 ∧ nn = .int .i64 ((f : Int) + 2) ∧ Below w1.heap.size w1 wr ∧ Hid (mostF d b f = mostF d b 38)) (fun nn _ => (intOf nn).toNat)
  case atStart => exact ⟨38, by omega, rfl, Below.refl _ _, rfl⟩
  case round =>
    obtain ⟨f, hf, rfl, hbw, hm⟩ := hrel
    by_cases hlt : 1 ≤ f
    · obtain ⟨g, rfl⟩ : ∃ g, f = g + 1 := ⟨f - 1, by omega⟩
      have HS : Hid (mostF d b (g + 1) = if b ≤ chordZ d ((g : Int) + 3) then ((g : Int) + 3, 0) else mostF d b g) := rfl
      have hbl : w.heap.size < wr.heap.size := Nat.lt_of_lt_of_le hz1a hbw.size
      have c0 : wr.cell? ⟨w.heap.size, 0, none⟩ = some (.int .i64 d) := (hbw.cell (p := ⟨w.heap.size, 0, none⟩) hz1a).trans HC0.out.1
      have c1 : wr.cell? ⟨w.heap.size, 1, none⟩ = some (.int .i64 b) := (hbw.cell (p := ⟨w.heap.size, 1, none⟩) hz1a).trans HC0.out.2
      have KP : Hid (∀ W, Below wr.heap.size wr W → W.cell? ⟨w.heap.size, 0, none⟩ = some (.int .i64 d) ∧ W.cell? ⟨w.heap.size, 1, none⟩ = some (.int .i64 b)) := by
        show ∀ W, _
        intro W hb
        exact ⟨(hb.cell (p := ⟨w.heap.size, 0, none⟩) hbl).trans c0, (hb.cell (p := ⟨w.heap.size, 1, none⟩) hbl).trans c1⟩
      have e3 : ((g + 1 : Nat) : Int) + 2 = (g : Int) + 3 := by omega
      rw [e3]
      have g0 : (3 : Int) ≤ (g : Int) + 3 := by omega
      obtain ⟨z1, z2⟩ := chordZ_bd (d := d) (n := (g : Int) + 3) (by omega) (by omega) (by omega) (by omega)
      by_cases hc : b ≤ chordZ d ((g : Int) + 3)
      · have hd : decide (b ≤ chordZ d ((g : Int) + 3)) = true := by simpa using hc
        have HF : Hid (mostR d b = ((g : Int) + 3, 0)) := by
          show _ = _
          unfold mostR; rw [if_pos HR.out, ← hm.out, HS.out, if_pos hc]
        go_wp2
        go_region_held3 (fun W => W.cell? ⟨w.heap.size, 0, none⟩ = some (.int .i64 d) ∧ W.cell? ⟨w.heap.size, 1, none⟩ = some (.int .i64 b)) (first | exact ⟨c0, c1⟩ | exact KP.out _ hb2)
          ((first
           | (go_at_call 40
              (with_reducible refine (chord_any _ _ _ _ (by omega) (by omega) (by omega) (by omega)).mono ?_)
              rintro e w2 ⟨rfl, hbx⟩
              have hb2 : Below wr.heap.size wr w2 := by first | exact hbx | exact blw_ofDrew hbx
              clear hbx)
           | fail))
        all_goals
          go_wp2
          go_ret2
          exact ⟨bret2 HF.out, hbw1.trans ((hbw.trans (hb2.mono hbw.size)).mono hbw1.size)⟩
      · have hd : decide (b ≤ chordZ d ((g : Int) + 3)) = false := by simpa using hc
        have HM : Hid (mostF d b g = mostF d b 38) := by
          show _ = _
          rw [← hm.out, HS.out, if_neg hc]
        go_wp2
        go_region_held3 (fun W => W.cell? ⟨w.heap.size, 0, none⟩ = some (.int .i64 d) ∧ W.cell? ⟨w.heap.size, 1, none⟩ = some (.int .i64 b)) (first | exact ⟨c0, c1⟩ | exact KP.out _ hb2)
          ((first
           | (go_at_call 40
              (with_reducible refine (chord_any _ _ _ _ (by omega) (by omega) (by omega) (by omega)).mono ?_)
              rintro e w2 ⟨rfl, hbx⟩
              have hb2 : Below wr.heap.size wr w2 := by first | exact hbx | exact blw_ofDrew hbx
              clear hbx)
           | fail))
        all_goals
          go_wp2
          go_roundw
          case rel => exact ⟨g, by omega, by go_num, hbw.trans (hb2.mono hbw.size), HM⟩
          case measure => simp [intOf] <;> omega
    · obtain rfl : f = 0 := by omega
      have HF : Hid (mostR d b = (0, 4)) := by
        show _ = _
        unfold mostR; rw [if_pos HR.out, ← hm.out]; rfl
      go_wp2
      go_ret2
      exact ⟨bret2 HF.out, hbw1.trans (hbw.mono hbw1.size)⟩

set_option maxHeartbeats 800000 in
theorem sMostBalls_any (d b : Int) (w : World) :
    Calls Try.prog 27 #[.agg #[.int .i64 d, .int .i64 b]] w fun e w' => e = .returned (.tuple #[.int .i64 (mostR d b).1, .int .i64 (mostR d b).2]) ∧ Below w.heap.size w w' := by
  cases hR : isRace d b
  · have HR := Lib.hid hR
    have HC : Hid (codeC d b 3 = 1) := by show _ = _; unfold codeC; rw [hR]; rfl
    go_enter Try.func27, Try.ntmps27
    go_wp2_with fail
    (with_reducible refine (l15Code_any _ _ _ _).mono ?_)
    rintro e w1 ⟨rfl, hb1⟩
    rw [HC.out]
    obtain ⟨hc1, hf1⟩ := bcell hb1
    have hz1 := hb1.size
    simp only [World.size_alloc] at hz1
    have hz1a : w.heap.size < w1.heap.size := by omega
    go_wp2
    go_ret2
    exact ⟨bret2 (by unfold mostR; rw [if_neg (by rw [HR.out]; simp)]), (by repeat (first | (with_reducible assumption) | (with_reducible exact Below.refl _ _) | (with_reducible refine Below.drew ?_) | (with_reducible refine blw_al ?_ _) | (with_reducible refine blw_stp (by with_reducible assumption) ?_) | (with_reducible refine blw_set ?_ (by dsimp only; omega) _)))⟩
  obtain ⟨d0, d1, -, -, -⟩ := isRace_bd hR
  have HR := Lib.hid hR
  have HC : Hid (codeC d b 3 = 0) := by show _ = _; unfold codeC; rw [hR]; rfl
  clear hR
  go_enter Try.func27, Try.ntmps27
  go_wp2_with fail
  (with_reducible refine (l15Code_any _ _ _ _).mono ?_)
  rintro e w1 ⟨rfl, hb1⟩
  rw [HC.out]
  obtain ⟨hc1, hf1⟩ := bcell hb1
  have hz1 := hb1.size
  simp only [World.size_alloc] at hz1
  have hz1a : w.heap.size < w1.heap.size := by omega
  have hbw1 : Below w.heap.size w w1 := (by repeat (first | (with_reducible assumption) | (with_reducible exact Below.refl _ _) | (with_reducible refine Below.drew ?_) | (with_reducible refine blw_al ?_ _) | (with_reducible refine blw_stp (by with_reducible assumption) ?_) | (with_reducible refine blw_set ?_ (by dsimp only; omega) _)))
  have c0 : w1.cell? ⟨w.heap.size, 0, none⟩ = some (.int .i64 d) := by rw [hc1 _ _ (by simp)]; simp [go_sem]
  have c1 : w1.cell? ⟨w.heap.size, 1, none⟩ = some (.int .i64 b) := by rw [hc1 _ _ (by simp)]; simp [go_sem]
  have HC0 := Lib.hid (And.intro c0 c1)
  clear hc1 hf1 hb1 c0 c1
  go_wp2
  go_loopw [5] (fun nn wr => ∃ f : Nat, f ≤ 38 ∧ nn = .int .i64 ((f : Int) + 2) ∧ Below w1.heap.size w1 wr ∧ Hid (mostF d b f = mostF d b 38)) (fun nn _ => (intOf nn).toNat)
  case atStart => exact ⟨38, by omega, rfl, Below.refl _ _, rfl⟩
  case round =>
    obtain ⟨f, hf, rfl, hbw, hm⟩ := hrel
    by_cases hlt : 1 ≤ f
    · obtain ⟨g, rfl⟩ : ∃ g, f = g + 1 := ⟨f - 1, by omega⟩
      have HS : Hid (mostF d b (g + 1) = if b ≤ chordZ d ((g : Int) + 3) then ((g : Int) + 3, 0) else mostF d b g) := rfl
      have hbl : w.heap.size < wr.heap.size := Nat.lt_of_lt_of_le hz1a hbw.size
      have c0 : wr.cell? ⟨w.heap.size, 0, none⟩ = some (.int .i64 d) := (hbw.cell (p := ⟨w.heap.size, 0, none⟩) hz1a).trans HC0.out.1
      have c1 : wr.cell? ⟨w.heap.size, 1, none⟩ = some (.int .i64 b) := (hbw.cell (p := ⟨w.heap.size, 1, none⟩) hz1a).trans HC0.out.2
      have KP : Hid (∀ W, Below wr.heap.size wr W → W.cell? ⟨w.heap.size, 0, none⟩ = some (.int .i64 d) ∧ W.cell? ⟨w.heap.size, 1, none⟩ = some (.int .i64 b)) := by
        show ∀ W, _
        intro W hb
        exact ⟨(hb.cell (p := ⟨w.heap.size, 0, none⟩) hbl).trans c0, (hb.cell (p := ⟨w.heap.size, 1, none⟩) hbl).trans c1⟩
      have e3 : ((g + 1 : Nat) : Int) + 2 = (g : Int) + 3 := by omega
      rw [e3]
      have g0 : (3 : Int) ≤ (g : Int) + 3 := by omega
      obtain ⟨z1, z2⟩ := chordZ_bd (d := d) (n := (g : Int) + 3) (by omega) (by omega) (by omega) (by omega)
      by_cases hc : b ≤ chordZ d ((g : Int) + 3)
      · have hd : decide (b ≤ chordZ d ((g : Int) + 3)) = true := by simpa using hc
        have HF : Hid (mostR d b = ((g : Int) + 3, 0)) := by
          show _ = _
          unfold mostR; rw [if_pos HR.out, ← hm.out, HS.out, if_pos hc]
        go_wp2
        go_region_held3 (fun W => W.cell? ⟨w.heap.size, 0, none⟩ = some (.int .i64 d) ∧ W.cell? ⟨w.heap.size, 1, none⟩ = some (.int .i64 b)) (first | exact ⟨c0, c1⟩ | exact KP.out _ hb2)
          ((first
           | (go_at_call 39
              (with_reducible refine (l15Chord_any _ _ _ (by omega) (by omega) (by omega) (by omega)).mono ?_)
              rintro e w2 ⟨rfl, hbx⟩
              have hb2 : Below wr.heap.size wr w2 := by first | exact hbx | exact blw_ofDrew hbx
              clear hbx)
           | fail))
        all_goals
          go_wp2
          go_ret2
          exact ⟨bret2 HF.out, hbw1.trans ((hbw.trans (hb2.mono hbw.size)).mono hbw1.size)⟩
      · have hd : decide (b ≤ chordZ d ((g : Int) + 3)) = false := by simpa using hc
        have HM : Hid (mostF d b g = mostF d b 38) := by
          show _ = _
          rw [← hm.out, HS.out, if_neg hc]
        go_wp2
        go_region_held3 (fun W => W.cell? ⟨w.heap.size, 0, none⟩ = some (.int .i64 d) ∧ W.cell? ⟨w.heap.size, 1, none⟩ = some (.int .i64 b)) (first | exact ⟨c0, c1⟩ | exact KP.out _ hb2)
          ((first
           | (go_at_call 39
              (with_reducible refine (l15Chord_any _ _ _ (by omega) (by omega) (by omega) (by omega)).mono ?_)
              rintro e w2 ⟨rfl, hbx⟩
              have hb2 : Below wr.heap.size wr w2 := by first | exact hbx | exact blw_ofDrew hbx
              clear hbx)
           | fail))
        all_goals
          go_wp2
          go_roundw
          case rel => exact ⟨g, by omega, by go_num, hbw.trans (hb2.mono hbw.size), HM⟩
          case measure => simp [intOf] <;> omega
    · obtain rfl : f = 0 := by omega
      have HF : Hid (mostR d b = (0, 4)) := by
        show _ = _
        unfold mostR; rw [if_pos HR.out, ← hm.out]; rfl
      go_wp2
      go_ret2
      exact ⟨bret2 HF.out, hbw1.trans (hbw.mono hbw1.size)⟩

end Go.Proofs.Ythmimkllnjkhaaa
