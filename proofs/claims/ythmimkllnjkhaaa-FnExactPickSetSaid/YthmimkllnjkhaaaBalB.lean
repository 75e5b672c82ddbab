/- Contracts of NeededTolerance and CountSets, of the program and of the reference. -/
import Derived.Test.YthmimkllnjkhaaaBalA
set_option linter.unusedSimpArgs false
set_option linter.unusedVariables false
namespace Go.Proofs.Ythmimkllnjkhaaa
open Go.RowKit

theorem leastK_ge {zs : List Int} {m : Nat} (h : ∀ k, k < zs.length → 1000 ≤ zs.getD k 0 ∧ zs.getD k 0 ≤ 20000) (hm : 0 < m) : ∀ k, k + m ≤ zs.length + 1 → -19000 ≤ leastK zs m k ∧ leastK zs m k ≤ 1001 := by
  intro k
  induction k with
  | zero => intro _; unfold leastK; omega
  | succ k ih =>
    intro hk
    have h1 := ih (by omega)
    have h2 := h (k + m - 1) (by omega)
    have h3 := h k (by omega)
    unfold leastK
    omega
set_option maxHeartbeats 800000 in
theorem Need_any (u : Value) (xs : List Int) (n : Int) (w : World) (hr : RdI w u xs) (hn : xs.length ≤ 1048576) :
    Calls Try.prog 18 #[u, .int .i64 n] w fun e w' => e = .returned (.tuple #[.int .i64 (needT xs n).1, .int .i64 (needT xs n).2]) ∧ Below w.heap.size w w' := by
  have HR := Lib.hid hr
  obtain ⟨a, c, rfl, -⟩ := hr
  cases hB : ballsR xs
  · have HB := Lib.hid hB
    clear hB
    go_enter Try.func18, Try.ntmps18
    go_wp2_with fail
    (with_reducible refine (areBalls_any _ xs _ HR.out hn).mono ?_)
    rintro e w' ⟨rfl, rfl⟩
    rw [HB.out]
    go_wp2
    go_ret2
    exact ⟨bret2 (by unfold needT; rw [if_neg (by rw [HB.out]; simp)]), Below.refl _ _⟩
  cases hN : inR n 3 40
  · have HB := Lib.hid hB
    have HN := Lib.hid hN
    clear hB hN
    go_enter Try.func18, Try.ntmps18
    go_wp2_with fail
    (with_reducible refine (areBalls_any _ xs _ HR.out hn).mono ?_)
    rintro e w' ⟨rfl, rfl⟩
    rw [HB.out]
    go_wp2_with fail
    (with_reducible refine (isBalls_any _ _).mono ?_)
    rintro e w' ⟨rfl, rfl⟩
    rw [HN.out]
    go_wp2
    go_ret2
    exact ⟨bret2 (by unfold needT; rw [if_pos HB.out, if_neg (by rw [HN.out]; simp)]), Below.refl _ _⟩
  · have HB := Lib.hid hB
    have HN := Lib.hid hN
    have hl := (ballsR_at hB).1
    have HZ := Lib.hid (srtI_bd (ballsR_at hB).2)
    obtain ⟨n3, n40⟩ := inR_iff.1 hN
    clear hB hN
    obtain ⟨m, rfl⟩ : ∃ m : Nat, n = (m : Int) := ⟨n.toNat, by omega⟩
    go_enter Try.func18, Try.ntmps18
    go_wp2_with fail
    (with_reducible refine (areBalls_any _ xs _ HR.out hn).mono ?_)
    rintro e w' ⟨rfl, rfl⟩
    rw [HB.out]
    go_wp2_with fail
    (with_reducible refine (isBalls_any _ _).mono ?_)
    rintro e w' ⟨rfl, rfl⟩
    rw [HN.out]
    go_wp2_with fail
    (with_reducible refine (sorted_any _ xs _ HR.out (by omega)).mono ?_)
    rintro e w1 ⟨v, rfl, ho, hb⟩
    have hR1 := HR.out.below hb
    have ho1 := ho.rd
    obtain ⟨av, cv, hv, -⟩ := ho1.shape
    rw [srt_length] at hv
    subst hv
    have HR1 := Lib.hid hR1
    have HO1 := Lib.hid ho1
    clear hR1 ho1 ho
    have HL := Lib.hid (leastK_ge (zs := srt leI xs) (m := m) (fun k hk => HZ.out k (by rw [srt_length] at hk; exact hk)) (by omega))
    have hzl := srt_length leI xs
    have HZL := Lib.hid hzl
    clear hzl
    go_wp2
    go_loopw [7, 8] (fun q i wr => ∃ k : Nat, k ≤ xs.length + 1 - m ∧ i = .int .i64 k ∧ q = .int .i64 (leastK (srt leI xs) m k) ∧ Below w1.heap.size w1 wr) (fun _ i _ => xs.length + 1 - (intOf i).toNat)
    case atStart => exact ⟨0, Nat.zero_le _, rfl, rfl, Below.refl _ _⟩
    case round =>
      obtain ⟨k, hk, rfl, rfl, hbw⟩ := hrel
      obtain ⟨l1, l2⟩ : -19000 ≤ leastK (srt leI xs) m k ∧ leastK (srt leI xs) m k ≤ 1001 := by
        by_cases hkm : k = 0
        · subst hkm; unfold leastK; omega
        · exact HL.out k (by rw [HZL.out]; omega)
      by_cases hlt : k + m ≤ xs.length
      · have HK : Hid (leastK (srt leI xs) m (k + 1) = min (leastK (srt leI xs) m k) ((srt leI xs).getD (k + m - 1) 0 - (srt leI xs).getD k 0)) := rfl
        obtain ⟨b, o, e1, p1⟩ := HO1.out.at (k + m - 1) (by rw [srt_length]; omega)
        subst e1
        obtain ⟨b2, o2, e1, p3⟩ := HO1.out.at k (by rw [srt_length]; omega)
        simp only [Option.some.injEq, Addr.mk.injEq] at e1
        obtain ⟨rfl, rfl, -⟩ := e1
        have p1 := (hbw.cell (p := ⟨b, o + (k + m - 1), none⟩) (World.block_lt_of_cell? w1 _ p1)).trans p1
        have p3 := (hbw.cell (p := ⟨b, o + k, none⟩) (World.block_lt_of_cell? w1 _ p3)).trans p3
        obtain ⟨x1, x2⟩ := HZ.out (k + m - 1) (by omega)
        obtain ⟨y1, y2⟩ := HZ.out k (by omega)
        generalize (srt leI xs).getD (k + m - 1) 0 = x at *
        generalize (srt leI xs).getD k 0 = y at *
        have j1 : IntKind.i64.wrap ((k : Int) + (m : Int)) = (k : Int) + (m : Int) := IntWalk.i64_in _ (by omega)
        have j2 : IntKind.i64.wrap ((k : Int) + (m : Int) - 1) = (k : Int) + (m : Int) - 1 := IntWalk.i64_in _ (by omega)
        have j3 : ((k : Int) + (m : Int) - 1).toNat = k + m - 1 := by omega
        have j4 : (0 : Int) ≤ (k : Int) + (m : Int) - 1 := by omega
        have j5 : (k : Int) + (m : Int) - 1 < (xs.length : Int) := by omega
        have j6 : (0 : Int) ≤ (k : Int) := by omega
        have j7 : (k : Int) < (xs.length : Int) := by omega
        have j8 : IntKind.i64.wrap (x - y) = x - y := IntWalk.i64_in _ (by omega)
        generalize leastK (srt leI xs) m k = q at *
        go_wp2
        go_quiet (fail)
        go_wp2
        go_roundw
        case rel => exact ⟨k + 1, by omega, by go_num, by rw [HK.out]; go_num, (by repeat (first | (with_reducible refine sblw_drewN ?_ _) | (with_reducible assumption) | (with_reducible exact Below.refl _ _) | (with_reducible refine Below.drew ?_) | (with_reducible refine blw_al ?_ _) | (with_reducible refine blw_stp (by with_reducible assumption) ?_) | (with_reducible refine blw_set ?_ (by dsimp only; omega) _)))⟩
        case measure => simp [intOf]; omega
      · have hke : k = xs.length + 1 - m := by omega
        have hlt' : (xs.length : Int) < (k : Int) + (m : Int) := by omega
        have HKE := Lib.hid hke
        clear hke
        by_cases hq : leastK (srt leI xs) m k > 1000
        · have HF : Hid (needT xs (m : Int) = (0, 4)) := by
            show _ = _
            unfold needT; rw [if_pos HB.out, if_pos HN.out, Int.toNat_natCast, ← HKE.out, if_pos hq]
          generalize leastK (srt leI xs) m k = q at *
          have hd : decide (1000 < q) = true := by simpa using hq
          go_wp2
          go_ret2
          exact ⟨bret2 HF.out, (by repeat (first | (with_reducible refine sblw_drewN ?_ _) | (with_reducible assumption) | (with_reducible exact Below.refl _ _) | (with_reducible refine Below.drew ?_) | (with_reducible refine blw_al ?_ _) | (with_reducible refine blw_stp (by with_reducible assumption) ?_) | (with_reducible refine blw_set ?_ (by dsimp only; omega) _)))⟩
        · have HF : Hid (needT xs (m : Int) = (leastK (srt leI xs) m k, 0)) := by
            show _ = _
            unfold needT; rw [if_pos HB.out, if_pos HN.out, Int.toNat_natCast, ← HKE.out, if_neg hq]
          generalize leastK (srt leI xs) m k = q at *
          have hd : decide (1000 < q) = false := by simpa using hq
          go_wp2
          go_ret2
          exact ⟨bret2 HF.out, (by repeat (first | (with_reducible refine sblw_drewN ?_ _) | (with_reducible assumption) | (with_reducible exact Below.refl _ _) | (with_reducible refine Below.drew ?_) | (with_reducible refine blw_al ?_ _) | (with_reducible refine blw_stp (by with_reducible assumption) ?_) | (with_reducible refine blw_set ?_ (by dsimp only; omega) _)))⟩

set_option maxHeartbeats 800000 in
theorem sNeed_any (u : Value) (xs : List Int) (n : Int) (w : World) (hr : RdI w u xs) (hn : xs.length ≤ 1048576) :
    Calls Try.prog 17 #[u, .int .i64 n] w fun e w' => e = .returned (.tuple #[.int .i64 (needT xs n).1, .int .i64 (needT xs n).2]) ∧ Below w.heap.size w w' := by
  have HR := Lib.hid hr
  obtain ⟨a, c, rfl, -⟩ := hr
  cases hB : ballsR xs
  · have HB := Lib.hid hB
    have HX := Lib.hid (codeB_1 (n := n) (t := 0) hB)
    clear hB
    go_enter Try.func17, Try.ntmps17
    go_wp2_with fail
    (with_reducible refine (l15Balls_any _ xs _ _ _ HR.out hn).mono ?_)
    rintro e w' ⟨rfl, rfl⟩
    rw [HX.out]
    go_wp2
    go_ret2
    exact ⟨bret2 (by unfold needT; rw [if_neg (by rw [HB.out]; simp)]), Below.refl _ _⟩
  cases hN : inR n 3 40
  · have HB := Lib.hid hB
    have HN := Lib.hid hN
    have HX := Lib.hid (codeB_2 (n := n) (t := 0) hB (by rw [hN]; rfl))
    clear hB hN
    go_enter Try.func17, Try.ntmps17
    go_wp2_with fail
    (with_reducible refine (l15Balls_any _ xs _ _ _ HR.out hn).mono ?_)
    rintro e w' ⟨rfl, rfl⟩
    rw [HX.out]
    go_wp2
    go_ret2
    exact ⟨bret2 (by unfold needT; rw [if_pos HB.out, if_neg (by rw [HN.out]; simp)]), Below.refl _ _⟩
  · have HB := Lib.hid hB
    have HN := Lib.hid hN
    have HX := Lib.hid (codeB_0 (n := n) (t := 0) hB (by rw [hN]; rfl))
    have hl := (ballsR_at hB).1
    have HZ := Lib.hid (srtI_bd (ballsR_at hB).2)
    obtain ⟨n3, n40⟩ := inR_iff.1 hN
    clear hB hN
    obtain ⟨m, rfl⟩ : ∃ m : Nat, n = (m : Int) := ⟨n.toNat, by omega⟩
    go_enter Try.func17, Try.ntmps17
    go_wp2_with fail
    (with_reducible refine (l15Balls_any _ xs _ _ _ HR.out hn).mono ?_)
    rintro e w' ⟨rfl, rfl⟩
    rw [HX.out]
    go_wp2_with fail
    (with_reducible refine (l15Order_any _ xs _ HR.out (by omega)).mono ?_)
    rintro e w1 ⟨v, rfl, ho, hb⟩
    have hR1 := HR.out.below hb
    have ho1 := ho.rd
    obtain ⟨av, cv, hv, -⟩ := ho1.shape
    rw [ord_len] at hv
    subst hv
    have HR1 := Lib.hid hR1
    have HO1 := Lib.hid ho1
    clear hR1 ho1 ho
    have HL := Lib.hid (leastK_ge (zs := srt leI xs) (m := m) (fun k hk => HZ.out k (by rw [srt_length] at hk; exact hk)) (by omega))
    have hzl := srt_length leI xs
    have HZL := Lib.hid hzl
    clear hzl
    go_wp2
    go_loopw [8, 9] (fun q i wr => ∃ k : Nat, k ≤ xs.length + 1 - m ∧ i = .int .i64 k ∧ q = .int .i64 (leastK (srt leI xs) m k) ∧ Below w1.heap.size w1 wr) (fun _ i _ => xs.length + 1 - (intOf i).toNat)
    case atStart => exact ⟨0, Nat.zero_le _, rfl, rfl, Below.refl _ _⟩
    case round =>
      obtain ⟨k, hk, rfl, rfl, hbw⟩ := hrel
      obtain ⟨l1, l2⟩ : -19000 ≤ leastK (srt leI xs) m k ∧ leastK (srt leI xs) m k ≤ 1001 := by
        by_cases hkm : k = 0
        · subst hkm; unfold leastK; omega
        · exact HL.out k (by rw [HZL.out]; omega)
      by_cases hlt : k + m ≤ xs.length
      · have HK : Hid (leastK (srt leI xs) m (k + 1) = min (leastK (srt leI xs) m k) ((srt leI xs).getD (k + m - 1) 0 - (srt leI xs).getD k 0)) := rfl
        obtain ⟨b, o, b', o', q1, e1, e2, hm1, p1, p2⟩ := ord_cells HR1.out HO1.out (k := k + m - 1) (by omega)
        subst e1 e2
        obtain ⟨b2, o2, b3, o3, q2, e1, e2, hm2, p3, p4⟩ := ord_cells HR1.out HO1.out (k := k) (by omega)
        simp only [Option.some.injEq, Addr.mk.injEq] at e1 e2
        obtain ⟨rfl, rfl, -⟩ := e1
        obtain ⟨rfl, rfl, -⟩ := e2
        have p1 := (hbw.cell (p := ⟨b', o' + (k + m - 1), none⟩) (World.block_lt_of_cell? w1 _ p1)).trans p1
        have p2 := (hbw.cell (p := ⟨b, o + q1, none⟩) (World.block_lt_of_cell? w1 _ p2)).trans p2
        have p3 := (hbw.cell (p := ⟨b', o' + k, none⟩) (World.block_lt_of_cell? w1 _ p3)).trans p3
        have p4 := (hbw.cell (p := ⟨b, o + q2, none⟩) (World.block_lt_of_cell? w1 _ p4)).trans p4
        have i1 : (0 : Int) ≤ (q1 : Int) := by omega
        have i2 : (q1 : Int) < (xs.length : Int) := by omega
        have i3 : (0 : Int) ≤ (q2 : Int) := by omega
        have i4 : (q2 : Int) < (xs.length : Int) := by omega
        obtain ⟨x1, x2⟩ := HZ.out (k + m - 1) (by omega)
        obtain ⟨y1, y2⟩ := HZ.out k (by omega)
        generalize (srt leI xs).getD (k + m - 1) 0 = x at *
        generalize (srt leI xs).getD k 0 = y at *
        have j1 : IntKind.i64.wrap ((k : Int) + (m : Int)) = (k : Int) + (m : Int) := IntWalk.i64_in _ (by omega)
        have j2 : IntKind.i64.wrap ((k : Int) + (m : Int) - 1) = (k : Int) + (m : Int) - 1 := IntWalk.i64_in _ (by omega)
        have j3 : ((k : Int) + (m : Int) - 1).toNat = k + m - 1 := by omega
        have j4 : (0 : Int) ≤ (k : Int) + (m : Int) - 1 := by omega
        have j5 : (k : Int) + (m : Int) - 1 < (xs.length : Int) := by omega
        have j6 : (0 : Int) ≤ (k : Int) := by omega
        have j7 : (k : Int) < (xs.length : Int) := by omega
        have j8 : IntKind.i64.wrap (x - y) = x - y := IntWalk.i64_in _ (by omega)
        generalize leastK (srt leI xs) m k = q at *
        go_wp2
        go_quiet (fail)
        go_wp2
        go_roundw
        case rel => exact ⟨k + 1, by omega, by go_num, by rw [HK.out]; go_num, (by repeat (first | (with_reducible refine sblw_drewN ?_ _) | (with_reducible assumption) | (with_reducible exact Below.refl _ _) | (with_reducible refine Below.drew ?_) | (with_reducible refine blw_al ?_ _) | (with_reducible refine blw_stp (by with_reducible assumption) ?_) | (with_reducible refine blw_set ?_ (by dsimp only; omega) _)))⟩
        case measure => simp [intOf]; omega
      · have hke : k = xs.length + 1 - m := by omega
        have hlt' : (xs.length : Int) < (k : Int) + (m : Int) := by omega
        have HKE := Lib.hid hke
        clear hke
        by_cases hq : leastK (srt leI xs) m k > 1000
        · have HF : Hid (needT xs (m : Int) = (0, 4)) := by
            show _ = _
            unfold needT; rw [if_pos HB.out, if_pos HN.out, Int.toNat_natCast, ← HKE.out, if_pos hq]
          generalize leastK (srt leI xs) m k = q at *
          have hd : decide (1000 < q) = true := by simpa using hq
          go_wp2
          go_ret2
          exact ⟨bret2 HF.out, (by repeat (first | (with_reducible refine sblw_drewN ?_ _) | (with_reducible assumption) | (with_reducible exact Below.refl _ _) | (with_reducible refine Below.drew ?_) | (with_reducible refine blw_al ?_ _) | (with_reducible refine blw_stp (by with_reducible assumption) ?_) | (with_reducible refine blw_set ?_ (by dsimp only; omega) _)))⟩
        · have HF : Hid (needT xs (m : Int) = (leastK (srt leI xs) m k, 0)) := by
            show _ = _
            unfold needT; rw [if_pos HB.out, if_pos HN.out, Int.toNat_natCast, ← HKE.out, if_neg hq]
          generalize leastK (srt leI xs) m k = q at *
          have hd : decide (1000 < q) = false := by simpa using hq
          go_wp2
          go_ret2
          exact ⟨bret2 HF.out, (by repeat (first | (with_reducible refine sblw_drewN ?_ _) | (with_reducible assumption) | (with_reducible exact Below.refl _ _) | (with_reducible refine Below.drew ?_) | (with_reducible refine blw_al ?_ _) | (with_reducible refine blw_stp (by with_reducible assumption) ?_) | (with_reducible refine blw_set ?_ (by dsimp only; omega) _)))⟩

end Go.Proofs.Ythmimkllnjkhaaa
