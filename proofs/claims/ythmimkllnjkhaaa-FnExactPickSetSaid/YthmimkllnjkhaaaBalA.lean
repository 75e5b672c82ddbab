/- Contracts of what asks for measured balls; SpreadOfBalls, NeededTolerance, CountSets, of the program and of the reference. -/
import Derived.Test.YthmimkllnjkhaaaSrtB
set_option linter.unusedSimpArgs false
set_option linter.unusedVariables false
namespace Go.Proofs.Ythmimkllnjkhaaa
open Go.RowKit

theorem bret2 {r : Int × Int} {x c : Int} (h : r = (x, c)) : Ending.returned (.tuple #[.int .i64 x, .int .i64 c]) = .returned (.tuple #[.int .i64 r.1, .int .i64 r.2]) := by rw [h]
theorem ord_cells {w : World} {a a' : Option Addr} {n n' c c' : Nat} {xs : List Int} (h : RdI w (.slice a n c) xs) (h' : RdI w (.slice a' n' c') (ordB xs)) {k : Nat} (hk : k < xs.length) :
    ∃ b o b' o' m, a = some ⟨b, o, none⟩ ∧ a' = some ⟨b', o', none⟩ ∧ m < xs.length ∧ w.cell? ⟨b', o' + k, none⟩ = some (.int .i64 ((m : Nat) : Int)) ∧ w.cell? ⟨b, o + m, none⟩ = some (.int .i64 ((srt leI xs).getD k 0)) := by
  have hl : (ordB xs).length = xs.length := by unfold ordB; rw [ordK_length]
  obtain ⟨b', o', e', c1⟩ := h'.at k (by omega)
  have hm := ordK_at (xs := xs) hk
  have hkey := ordB_key hk
  change 0 ≤ (ordB xs).getD k 0 ∧ (ordB xs).getD k 0 < xs.length at hm
  obtain ⟨m, hmm⟩ : ∃ m : Nat, (ordB xs).getD k 0 = (m : Int) := ⟨((ordB xs).getD k 0).toNat, by omega⟩
  rw [hmm] at c1 hm hkey
  rw [Int.toNat_natCast] at hkey
  obtain ⟨b, o, e, c2⟩ := h.at m (by omega)
  rw [hkey] at c2
  exact ⟨b, o, b', o', m, e, e', by omega, c1, c2⟩
theorem ord_len (xs : List Int) : (ordB xs).length = xs.length := by unfold ordB; rw [ordK_length]
theorem codeB_1 {xs : List Int} {n t : Int} (h : ballsR xs = false) : codeB xs n t = 1 := by unfold codeB; rw [if_neg (by rw [h]; simp)]
theorem codeB_2 {xs : List Int} {n t : Int} (h : ballsR xs = true) (h2 : (inR n 3 40 && inR t 0 1000) = false) : codeB xs n t = 2 := by unfold codeB; rw [if_pos h, if_neg (by rw [h2]; simp)]
theorem codeB_0 {xs : List Int} {n t : Int} (h : ballsR xs = true) (h2 : (inR n 3 40 && inR t 0 1000) = true) : codeB xs n t = 0 := by unfold codeB; rw [if_pos h, if_pos h2]

set_option maxHeartbeats 800000 in
theorem isBalls_any (n : Int) (w : World) : Calls Try.prog 35 #[.int .i64 n] w fun e w' => e = .returned (.bool (inR n 3 40)) ∧ w = w' := by
  go_enter Try.func35, Try.ntmps35
  go_wp2_with (go_at_call 30; (with_reducible refine (within_any _ _ _ _).mono ?_); rintro e w' ⟨rfl, rfl⟩)
  go_ret
  exact ⟨rfl, rfl⟩
set_option maxHeartbeats 800000 in
theorem areBalls_any (u : Value) (xs : List Int) (w : World) (hr : RdI w u xs) (hn : xs.length ≤ 1048576) :
    Calls Try.prog 33 #[u] w fun e w' => e = .returned (.bool (ballsR xs)) ∧ w = w' := by
  have HR := Lib.hid hr
  obtain ⟨a, c, rfl, -⟩ := hr
  by_cases h : xs.length ≤ 60
  · have hd : decide (xs.length ≤ 60) = true := by simpa using h
    go_enter Try.func33, Try.ntmps33
    go_wp2_with fail
    (with_reducible refine (allWithin_any _ xs _ _ _ HR.out hn).mono ?_)
    rintro e w' ⟨rfl, rfl⟩
    go_wp2
    go_ret
    exact ⟨ret_bool (by simp [ballsR, h]), rfl⟩
  · have hd : decide (xs.length ≤ 60) = false := by simpa using h
    go_enter Try.func33, Try.ntmps33
    go_wp2
    go_ret
    exact ⟨ret_bool (by simp [ballsR, h]), rfl⟩
set_option maxHeartbeats 800000 in
theorem l15Balls_any (u : Value) (xs : List Int) (n t : Int) (w : World) (hr : RdI w u xs) (hn : xs.length ≤ 1048576) :
    Calls Try.prog 31 #[u, .int .i64 n, .int .i64 t] w fun e w' => e = .returned (.int .i64 (codeB xs n t)) ∧ w = w' := by
  obtain ⟨a, c, rfl, hcell⟩ := hr
  have HC := Lib.hid hcell
  clear hcell
  go_enter Try.func31, Try.ntmps31
  go_wp2
  go_loop [7] (fun i => ∃ k : Nat, k ≤ xs.length ∧ i = .int .i64 k ∧ Hid ((xs.take k).all (fun x => inR x 1000 20000) = true)) (fun i => xs.length - (intOf i).toNat)
  case atStart => exact ⟨0, Nat.zero_le _, rfl, rfl⟩
  case round =>
    obtain ⟨k, hk, rfl, hall⟩ := hrel
    by_cases hlt : k < xs.length
    · obtain ⟨b, o, rfl, hc⟩ := HC.out k hlt
      cases hp : inR (xs.getD k 0) 1000 20000
      · have HE := Lib.hid (all_no (p := fun x => inR x 1000 20000) hlt hp)
        have HF : Hid (codeB xs n t = 1) := by
          show _ = _
          exact codeB_1 (by unfold ballsR allR; rw [HE.out]; simp)
        generalize xs.getD k 0 = x at *
        go_wp2_with (go_at_call 29; (with_reducible refine (l01In_any _ _ _ _).mono ?_); rintro e w' ⟨rfl, rfl⟩)
        go_ret
        exact ⟨ret_int HF.out.symm, rfl⟩
      · have HE := Lib.hid (all_take_succ (p := fun x => inR x 1000 20000) hlt hall.out hp)
        generalize xs.getD k 0 = x at *
        go_wp2_with (go_at_call 29; (with_reducible refine (l01In_any _ _ _ _).mono ?_); rintro e w' ⟨rfl, rfl⟩)
        go_round
        case rel => exact ⟨k + 1, by omega, by go_num, HE⟩
        case measure => simp [intOf]; omega
    · obtain rfl : k = xs.length := by omega
      have HE : Hid (allR xs 1000 20000 = true) := by have := hall.out; rw [List.take_length] at this; exact this
      by_cases h60 : xs.length ≤ 60
      · have HB : Hid (ballsR xs = true) := by
          show _ = _
          unfold ballsR; rw [HE.out]; simpa using h60
        cases h1 : inR n 3 40
        · have HF := Lib.hid (codeB_2 (n := n) (t := t) HB.out (by rw [h1]; rfl))
          go_wp2_with (go_at_call 29; (with_reducible refine (l01In_any _ _ _ _).mono ?_); rintro e w' ⟨rfl, rfl⟩)
          go_ret
          exact ⟨ret_int HF.out.symm, rfl⟩
        · cases h2 : inR t 0 1000
          · have HF := Lib.hid (codeB_2 (n := n) (t := t) HB.out (by rw [h1, h2]; rfl))
            go_wp2_with (go_at_call 29; (with_reducible refine (l01In_any _ _ _ _).mono ?_); rintro e w' ⟨rfl, rfl⟩)
            go_ret
            exact ⟨ret_int HF.out.symm, rfl⟩
          · have HF := Lib.hid (codeB_0 (n := n) (t := t) HB.out (by rw [h1, h2]; rfl))
            go_wp2_with (go_at_call 29; (with_reducible refine (l01In_any _ _ _ _).mono ?_); rintro e w' ⟨rfl, rfl⟩)
            go_ret
            exact ⟨ret_int HF.out.symm, rfl⟩
      · have h60' : 60 < xs.length := by omega
        have HF : Hid (codeB xs n t = 1) := by
          show _ = _
          exact codeB_1 (by unfold ballsR; simp [h60])
        go_wp2
        go_ret
        exact ⟨ret_int HF.out.symm, rfl⟩

set_option maxHeartbeats 800000 in
theorem Spread_any (u : Value) (xs : List Int)  (w : World) (hr : RdI w u xs) (hn : xs.length ≤ 1048576) :
    Calls Try.prog 15 #[u] w fun e w' => e = .returned (.tuple #[.int .i64 (spreadR xs).1, .int .i64 (spreadR xs).2]) ∧ Below w.heap.size w w' := by
  have HR := Lib.hid hr
  obtain ⟨a, c, rfl, -⟩ := hr
  cases hB : ballsR xs
  · have HB := Lib.hid hB
    clear hB
    go_enter Try.func15, Try.ntmps15
    go_wp2_with fail
    (with_reducible refine (areBalls_any _ xs _ HR.out hn).mono ?_)
    rintro e w' ⟨rfl, rfl⟩
    rw [HB.out]
    go_wp2
    go_ret2
    exact ⟨bret2 (by unfold spreadR; rw [if_neg (by rw [HB.out]; simp)]), Below.refl _ _⟩
  · have HB := Lib.hid hB
    have hl := (ballsR_at hB).1
    have HZ := Lib.hid (srtI_bd (ballsR_at hB).2)
    clear hB
    by_cases hz : xs.length = 0
    · have hxx : xs = [] := List.length_eq_zero_iff.1 hz
      subst hxx
      have HR0 : Hid (RdI w (.slice a 0 c) []) := HR.out
      go_enter Try.func15, Try.ntmps15
      go_wp2_with fail
      (with_reducible refine (areBalls_any _ [] _ HR0.out (by simp)).mono ?_)
      rintro e w' ⟨rfl, rfl⟩
      rw [HB.out]
      go_wp2
      go_ret2
      exact ⟨bret2 rfl, Below.refl _ _⟩
    have hpos : 0 < xs.length := by omega
    have hne : ((xs.length : Int) == 0) = false := by rw [beq_eq_false_iff_ne]; omega
    clear hz
    go_enter Try.func15, Try.ntmps15
    go_wp2_with fail
    (with_reducible refine (areBalls_any _ xs _ HR.out hn).mono ?_)
    rintro e w' ⟨rfl, rfl⟩
    rw [HB.out]
    go_wp2_with fail
    (with_reducible refine (sorted_any _ xs _ HR.out (by omega)).mono ?_)
    rintro e w1 ⟨v, rfl, ho, hb⟩
    have HF : Hid (spreadR xs = ((srt leI xs).getD (xs.length - 1) 0 - (srt leI xs).getD 0 0, 0)) := by
      show _ = _
      unfold spreadR; rw [if_pos HB.out, if_neg (by omega)]
    obtain ⟨x1, x2⟩ := HZ.out (xs.length - 1) (by omega)
    obtain ⟨y1, y2⟩ := HZ.out 0 (by omega)
    have ho1 := ho.rd
    obtain ⟨av, cv, hv, -⟩ := ho1.shape
    rw [srt_length] at hv
    subst hv
    have hlz := srt_length leI xs
    obtain ⟨b, o, e1, p1⟩ := ho1.at (xs.length - 1) (by omega)
    subst e1
    obtain ⟨b2, o2, e2, q1⟩ := ho1.at 0 (by omega)
    simp only [Option.some.injEq, Addr.mk.injEq] at e2
    obtain ⟨rfl, rfl, -⟩ := e2
    simp only [Nat.add_zero] at q1
    generalize (srt leI xs).getD (xs.length - 1) 0 = x at *
    generalize (srt leI xs).getD 0 0 = y at *
    have hkm : IntKind.i64.wrap ((xs.length : Int) - 1) = (xs.length : Int) - 1 := IntWalk.i64_in _ (by omega)
    have hkn : ((xs.length : Int) - 1).toNat = xs.length - 1 := by omega
    have hk1 : (0 : Int) ≤ (xs.length : Int) - 1 := by omega
    have hk2 : (xs.length : Int) - 1 < (xs.length : Int) := by omega
    have hpos' : (0 : Int) < (xs.length : Int) := by omega
    have hw : IntKind.i64.wrap (x - y) = x - y := IntWalk.i64_in _ (by omega)
    clear ho ho1 HZ HB hlz
    go_wp2
    go_quiet (fail)
    go_wp2
    go_ret2
    exact ⟨bret2 HF.out, (by repeat (first | (with_reducible refine sblw_drewN ?_ _) | (with_reducible assumption) | (with_reducible exact Below.refl _ _) | (with_reducible refine Below.drew ?_) | (with_reducible refine blw_al ?_ _) | (with_reducible refine blw_stp (by with_reducible assumption) ?_) | (with_reducible refine blw_set ?_ (by dsimp only; omega) _)))⟩

set_option maxHeartbeats 800000 in
theorem sSpread_any (u : Value) (xs : List Int)  (w : World) (hr : RdI w u xs) (hn : xs.length ≤ 1048576) :
    Calls Try.prog 13 #[u] w fun e w' => e = .returned (.tuple #[.int .i64 (spreadR xs).1, .int .i64 (spreadR xs).2]) ∧ Below w.heap.size w w' := by
  have HR := Lib.hid hr
  obtain ⟨a, c, rfl, -⟩ := hr
  cases hB : ballsR xs
  · have HB := Lib.hid hB
    have HX := Lib.hid (codeB_1 (n := 3) (t := 0) hB)
    clear hB
    go_enter Try.func13, Try.ntmps13
    go_wp2_with fail
    (with_reducible refine (l15Balls_any _ xs _ _ _ HR.out hn).mono ?_)
    rintro e w' ⟨rfl, rfl⟩
    rw [HX.out]
    go_wp2
    go_ret2
    exact ⟨bret2 (by unfold spreadR; rw [if_neg (by rw [HB.out]; simp)]), Below.refl _ _⟩
  · have HB := Lib.hid hB
    have HX := Lib.hid (codeB_0 (n := 3) (t := 0) hB (by decide))
    have hl := (ballsR_at hB).1
    have HZ := Lib.hid (srtI_bd (ballsR_at hB).2)
    clear hB
    by_cases hz : xs.length = 0
    · have hxx : xs = [] := List.length_eq_zero_iff.1 hz
      subst hxx
      have HR0 : Hid (RdI w (.slice a 0 c) []) := HR.out
      go_enter Try.func13, Try.ntmps13
      go_wp2_with fail
      (with_reducible refine (l15Balls_any _ [] _ _ _ HR0.out (by simp)).mono ?_)
      rintro e w' ⟨rfl, rfl⟩
      rw [HX.out]
      go_wp2
      go_ret2
      exact ⟨bret2 rfl, Below.refl _ _⟩
    have hpos : 0 < xs.length := by omega
    have hne : ((xs.length : Int) == 0) = false := by rw [beq_eq_false_iff_ne]; omega
    clear hz
    go_enter Try.func13, Try.ntmps13
    go_wp2_with fail
    (with_reducible refine (l15Balls_any _ xs _ _ _ HR.out hn).mono ?_)
    rintro e w' ⟨rfl, rfl⟩
    rw [HX.out]
    go_wp2_with fail
    (with_reducible refine (l15Order_any _ xs _ HR.out (by omega)).mono ?_)
    rintro e w1 ⟨v, rfl, ho, hb⟩
    have HF : Hid (spreadR xs = ((srt leI xs).getD (xs.length - 1) 0 - (srt leI xs).getD 0 0, 0)) := by
      show _ = _
      unfold spreadR; rw [if_pos HB.out, if_neg (by omega)]
    obtain ⟨x1, x2⟩ := HZ.out (xs.length - 1) (by omega)
    obtain ⟨y1, y2⟩ := HZ.out 0 (by omega)
    have hR1 := HR.out.below hb
    have ho1 := ho.rd
    obtain ⟨av, cv, hv, -⟩ := ho1.shape
    rw [ord_len] at hv
    subst hv
    obtain ⟨b, o, b', o', m, e1, e2, hm, p1, p2⟩ := ord_cells hR1 ho1 (k := xs.length - 1) (by omega)
    subst e1 e2
    obtain ⟨b2, o2, b3, o3, m2, e1, e2, hm2, q1, q2⟩ := ord_cells hR1 ho1 (k := 0) (by omega)
    simp only [Option.some.injEq, Addr.mk.injEq] at e1 e2
    obtain ⟨rfl, rfl, -⟩ := e1
    obtain ⟨rfl, rfl, -⟩ := e2
    have i1 : (0 : Int) ≤ (m : Int) := by omega
    have i2 : (m : Int) < (xs.length : Int) := by omega
    have i3 : (m2 : Int) < (xs.length : Int) := by omega
    simp only [Nat.add_zero] at q1
    generalize (srt leI xs).getD (xs.length - 1) 0 = x at *
    generalize (srt leI xs).getD 0 0 = y at *
    have hkm : IntKind.i64.wrap ((xs.length : Int) - 1) = (xs.length : Int) - 1 := IntWalk.i64_in _ (by omega)
    have hkn : ((xs.length : Int) - 1).toNat = xs.length - 1 := by omega
    have hk1 : (0 : Int) ≤ (xs.length : Int) - 1 := by omega
    have hk2 : (xs.length : Int) - 1 < (xs.length : Int) := by omega
    have hpos' : (0 : Int) < (xs.length : Int) := by omega
    have hw : IntKind.i64.wrap (x - y) = x - y := IntWalk.i64_in _ (by omega)
    clear ho ho1 HZ HB hR1
    go_wp2
    go_quiet (fail)
    go_wp2
    go_ret2
    exact ⟨bret2 HF.out, (by repeat (first | (with_reducible refine sblw_drewN ?_ _) | (with_reducible assumption) | (with_reducible exact Below.refl _ _) | (with_reducible refine Below.drew ?_) | (with_reducible refine blw_al ?_ _) | (with_reducible refine blw_stp (by with_reducible assumption) ?_) | (with_reducible refine blw_set ?_ (by dsimp only; omega) _)))⟩

end Go.Proofs.Ythmimkllnjkhaaa
