/- Contracts of CountSets, of the program and of the reference. -/
import Derived.Test.YthmimkllnjkhaaaBalB
set_option linter.unusedSimpArgs false
set_option linter.unusedVariables false
namespace Go.Proofs.Ythmimkllnjkhaaa
open Go.RowKit

set_option maxHeartbeats 800000 in
theorem Count_any (u : Value) (xs : List Int) (n tol : Int) (w : World) (hr : RdI w u xs) (hn : xs.length ≤ 1048576) :
    Calls Try.prog 20 #[u, .int .i64 n, .int .i64 tol] w fun e w' => e = .returned (.tuple #[.int .i64 (cntSR xs n tol).1, .int .i64 (cntSR xs n tol).2]) ∧ Below w.heap.size w w' := by
  have HR := Lib.hid hr
  obtain ⟨a, c, rfl, -⟩ := hr
  cases hB : ballsR xs
  · have HB := Lib.hid hB
    clear hB
    go_enter Try.func20, Try.ntmps20
    go_wp2_with fail
    (with_reducible refine (areBalls_any _ xs _ HR.out hn).mono ?_)
    rintro e w' ⟨rfl, rfl⟩
    rw [HB.out]
    go_wp2
    go_ret2
    exact ⟨bret2 (by unfold cntSR; rw [if_neg (by rw [HB.out]; simp)]), Below.refl _ _⟩
  cases hN : inR n 3 40
  · have HB := Lib.hid hB
    have HN := Lib.hid hN
    have HC : Hid ((inR n 3 40 && inR tol 0 1000) = false) := by show _ = _; rw [hN]; rfl
    clear hB hN
    go_enter Try.func20, Try.ntmps20
    go_wp2_with fail
    (with_reducible refine (areBalls_any _ xs _ HR.out hn).mono ?_)
    rintro e w' ⟨rfl, rfl⟩
    rw [HB.out]
    go_wp2_with fail
    (with_reducible refine (isBalls_any _ _).mono ?_)
    rintro e w' ⟨rfl, rfl⟩
    rw [HN.out]
    go_wp2
    go_ret2
    exact ⟨bret2 (by unfold cntSR; rw [if_pos HB.out, if_neg (by rw [HC.out]; simp)]), Below.refl _ _⟩
  cases hT : inR tol 0 1000
  · have HB := Lib.hid hB
    have HN := Lib.hid hN
    have HT := Lib.hid hT
    have HC : Hid ((inR n 3 40 && inR tol 0 1000) = false) := by show _ = _; rw [hN, hT]; rfl
    clear hB hN hT
    go_enter Try.func20, Try.ntmps20
    go_wp2_with fail
    (with_reducible refine (areBalls_any _ xs _ HR.out hn).mono ?_)
    rintro e w' ⟨rfl, rfl⟩
    rw [HB.out]
    go_wp2_with fail
    (with_reducible refine (isBalls_any _ _).mono ?_)
    rintro e w' ⟨rfl, rfl⟩
    rw [HN.out]
    go_wp2_with fail
    (with_reducible refine (within_any _ _ _ _).mono ?_)
    rintro e w' ⟨rfl, rfl⟩
    rw [HT.out]
    go_wp2
    go_ret2
    exact ⟨bret2 (by unfold cntSR; rw [if_pos HB.out, if_neg (by rw [HC.out]; simp)]), Below.refl _ _⟩
  have hC : (inR n 3 40 && inR tol 0 1000) = true := by rw [hN, hT]; rfl
  · have HB := Lib.hid hB
    have HC := Lib.hid hC
    have HN := Lib.hid hN
    have HT := Lib.hid hT
    have hl := (ballsR_at hB).1
    have HZ := Lib.hid (srtI_bd (ballsR_at hB).2)
    obtain ⟨n3, n40⟩ := inR_iff.1 hN
    obtain ⟨t0, t1000⟩ := inR_iff.1 hT
    clear hB hN hT hC
    obtain ⟨m, rfl⟩ : ∃ m : Nat, n = (m : Int) := ⟨n.toNat, by omega⟩
    go_enter Try.func20, Try.ntmps20
    go_wp2_with fail
    (with_reducible refine (areBalls_any _ xs _ HR.out hn).mono ?_)
    rintro e w' ⟨rfl, rfl⟩
    rw [HB.out]
    go_wp2_with fail
    (with_reducible refine (isBalls_any _ _).mono ?_)
    rintro e w' ⟨rfl, rfl⟩
    rw [HN.out]
    go_wp2_with fail
    (with_reducible refine (within_any _ _ _ _).mono ?_)
    rintro e w' ⟨rfl, rfl⟩
    rw [HT.out]
    go_wp2_with fail
    (with_reducible refine (sorted_any _ xs _ HR.out (by omega)).mono ?_)
    rintro e w1 ⟨v, rfl, ho, hb⟩
    have hR1 := HR.out.below hb
    have ho1 := ho.rd
    obtain ⟨av, cv, hv, -⟩ := ho1.shape
    rw [srt_length] at hv
    subst hv
    have HR1 := Lib.hid hR1
    have HO1 := Lib.hid ho1
    clear hR1 ho1 ho
    have HZL := Lib.hid (srt_length leI xs)
    go_wp2
    go_loopw [9, 10] (fun q i wr => ∃ (k f : Nat) (cc : Int), k ≤ xs.length ∧ i = .int .i64 k ∧ q = .int .i64 cc ∧ 0 ≤ cc ∧ cc ≤ k ∧ xs.length < k + f ∧ Below w1.heap.size w1 wr ∧ Hid (cntF (srt leI xs) m tol f k cc = cntF (srt leI xs) m tol 61 0 0)) (fun _ i _ => xs.length + 1 - (intOf i).toNat)
    case atStart => exact ⟨0, 61, 0, Nat.zero_le _, rfl, rfl, by omega, by omega, by omega, Below.refl _ _, rfl⟩
    case round =>
      obtain ⟨k, f, cc, hk, rfl, rfl, c0, c1, hf, hbw, hinv⟩ := hrel
      by_cases hlt : k + m ≤ xs.length
      · obtain ⟨f, rfl⟩ : ∃ g, f = g + 1 := ⟨f - 1, by omega⟩
        have HP := Lib.hid (fun h => (cntF_pos (zs := srt leI xs) (m := m) (f := f) (i := k) (tol := tol) (c := cc) (by rw [HZL.out]; exact hlt) h).symm.trans hinv.out)
        have HQ := Lib.hid (fun h => (cntF_neg (zs := srt leI xs) (m := m) (f := f) (i := k) (tol := tol) (c := cc) (by rw [HZL.out]; exact hlt) h).symm.trans hinv.out)
        obtain ⟨b, o, e1, p1⟩ := HO1.out.at (k + m - 1) (by rw [srt_length]; omega)
        subst e1
        obtain ⟨b2, o2, e1, p3⟩ := HO1.out.at k (by rw [srt_length]; omega)
        simp only [Option.some.injEq, Addr.mk.injEq] at e1
        obtain ⟨rfl, rfl, -⟩ := e1
        have p1 := (hbw.cell (p := ⟨b, o + (k + m - 1), none⟩) (World.block_lt_of_cell? w1 _ p1)).trans p1
        have p3 := (hbw.cell (p := ⟨b, o + k, none⟩) (World.block_lt_of_cell? w1 _ p3)).trans p3
        obtain ⟨x1, x2⟩ := HZ.out (k + m - 1) (by omega)
        obtain ⟨y1, y2⟩ := HZ.out k (by omega)
        generalize (srt leI xs).getD (k + m - 1) 0 = x at *
        generalize (srt leI xs).getD k 0 = y at *
        have j1 : IntKind.i64.wrap ((k : Int) + (m : Int)) = (k : Int) + (m : Int) := IntWalk.i64_in _ (by omega)
        have j2 : IntKind.i64.wrap ((k : Int) + (m : Int) - 1) = (k : Int) + (m : Int) - 1 := IntWalk.i64_in _ (by omega)
        have j3 : ((k : Int) + (m : Int) - 1).toNat = k + m - 1 := by omega
        have j4 : (0 : Int) ≤ (k : Int) + (m : Int) - 1 := by omega
        have j5 : (k : Int) + (m : Int) - 1 < (xs.length : Int) := by omega
        have j6 : (0 : Int) ≤ (k : Int) := by omega
        have j7 : (k : Int) < (xs.length : Int) := by omega
        have j8 : IntKind.i64.wrap (x - y) = x - y := IntWalk.i64_in _ (by omega)
        by_cases hxy : x - y ≤ tol
        · have hd : decide (x - y ≤ tol) = true := by simpa using hxy
          have HI := Lib.hid (HP.out hxy)
          clear HP HQ hinv hxy
          go_wp2
          go_quiet (fail)
          go_wp2
          go_roundw
          case rel => exact ⟨k + m, f, cc + 1, by omega, by go_num, by go_num, by omega, by omega, by omega, (by repeat (first | (with_reducible refine sblw_drewN ?_ _) | (with_reducible assumption) | (with_reducible exact Below.refl _ _) | (with_reducible refine Below.drew ?_) | (with_reducible refine blw_al ?_ _) | (with_reducible refine blw_stp (by with_reducible assumption) ?_) | (with_reducible refine blw_set ?_ (by dsimp only; omega) _))), HI⟩
          case measure => simp [intOf]; omega
        · have hd : decide (x - y ≤ tol) = false := by simpa using hxy
          have HI := Lib.hid (HQ.out hxy)
          clear HP HQ hinv hxy
          go_wp2
          go_quiet (fail)
          go_wp2
          go_roundw
          case rel => exact ⟨k + 1, f, cc, by omega, by go_num, rfl, by omega, by omega, by omega, (by repeat (first | (with_reducible refine sblw_drewN ?_ _) | (with_reducible assumption) | (with_reducible exact Below.refl _ _) | (with_reducible refine Below.drew ?_) | (with_reducible refine blw_al ?_ _) | (with_reducible refine blw_stp (by with_reducible assumption) ?_) | (with_reducible refine blw_set ?_ (by dsimp only; omega) _))), HI⟩
          case measure => simp [intOf]; omega
      · have hlt' : (xs.length : Int) < (k : Int) + (m : Int) := by omega
        have HF : Hid (cntSR xs (m : Int) tol = (cc, 0)) := by
          show _ = _
          unfold cntSR
          rw [if_pos HB.out, if_pos HC.out, Int.toNat_natCast, ← hinv.out, cntF_end (by rw [HZL.out]; exact hlt)]
        go_wp2
        go_ret2
        exact ⟨bret2 HF.out, (by repeat (first | (with_reducible refine sblw_drewN ?_ _) | (with_reducible assumption) | (with_reducible exact Below.refl _ _) | (with_reducible refine Below.drew ?_) | (with_reducible refine blw_al ?_ _) | (with_reducible refine blw_stp (by with_reducible assumption) ?_) | (with_reducible refine blw_set ?_ (by dsimp only; omega) _)))⟩

set_option maxHeartbeats 800000 in
theorem sCount_any (u : Value) (xs : List Int) (n tol : Int) (w : World) (hr : RdI w u xs) (hn : xs.length ≤ 1048576) :
    Calls Try.prog 19 #[u, .int .i64 n, .int .i64 tol] w fun e w' => e = .returned (.tuple #[.int .i64 (cntSR xs n tol).1, .int .i64 (cntSR xs n tol).2]) ∧ Below w.heap.size w w' := by
  have HR := Lib.hid hr
  obtain ⟨a, c, rfl, -⟩ := hr
  cases hB : ballsR xs
  · have HB := Lib.hid hB
    have HX := Lib.hid (codeB_1 (n := n) (t := tol) hB)
    clear hB
    go_enter Try.func19, Try.ntmps19
    go_wp2_with fail
    (with_reducible refine (l15Balls_any _ xs _ _ _ HR.out hn).mono ?_)
    rintro e w' ⟨rfl, rfl⟩
    rw [HX.out]
    go_wp2
    go_ret2
    exact ⟨bret2 (by unfold cntSR; rw [if_neg (by rw [HB.out]; simp)]), Below.refl _ _⟩
  cases hC : (inR n 3 40 && inR tol 0 1000)
  · have HB := Lib.hid hB
    have HC := Lib.hid hC
    have HX := Lib.hid (codeB_2 (n := n) (t := tol) hB hC)
    clear hB hC
    go_enter Try.func19, Try.ntmps19
    go_wp2_with fail
    (with_reducible refine (l15Balls_any _ xs _ _ _ HR.out hn).mono ?_)
    rintro e w' ⟨rfl, rfl⟩
    rw [HX.out]
    go_wp2
    go_ret2
    exact ⟨bret2 (by unfold cntSR; rw [if_pos HB.out, if_neg (by rw [HC.out]; simp)]), Below.refl _ _⟩
  · have HB := Lib.hid hB
    have HC := Lib.hid hC
    have HX := Lib.hid (codeB_0 (n := n) (t := tol) hB hC)
    have hN : inR n 3 40 = true := by cases h : inR n 3 40; (rw [h] at hC; cases hC); rfl
    have hT : inR tol 0 1000 = true := by cases h : inR tol 0 1000; (rw [h] at hC; simp at hC); rfl
    have hl := (ballsR_at hB).1
    have HZ := Lib.hid (srtI_bd (ballsR_at hB).2)
    obtain ⟨n3, n40⟩ := inR_iff.1 hN
    obtain ⟨t0, t1000⟩ := inR_iff.1 hT
    clear hB hN hT hC
    obtain ⟨m, rfl⟩ : ∃ m : Nat, n = (m : Int) := ⟨n.toNat, by omega⟩
    go_enter Try.func19, Try.ntmps19
    go_wp2_with fail
    (with_reducible refine (l15Balls_any _ xs _ _ _ HR.out hn).mono ?_)
    rintro e w' ⟨rfl, rfl⟩
    rw [HX.out]
    go_wp2_with fail
    (with_reducible refine (l15Order_any _ xs _ HR.out (by omega)).mono ?_)
    rintro e w1 ⟨v, rfl, ho, hb⟩
    have hR1 := HR.out.below hb
    have ho1 := ho.rd
    obtain ⟨av, cv, hv, -⟩ := ho1.shape
    rw [ord_len] at hv
    subst hv
    have HR1 := Lib.hid hR1
    have HO1 := Lib.hid ho1
    clear hR1 ho1 ho
    have HZL := Lib.hid (srt_length leI xs)
    go_wp2
    go_loopw [10, 11] (fun q i wr => ∃ (k f : Nat) (cc : Int), k ≤ xs.length ∧ i = .int .i64 k ∧ q = .int .i64 cc ∧ 0 ≤ cc ∧ cc ≤ k ∧ xs.length < k + f ∧ Below w1.heap.size w1 wr ∧ Hid (cntF (srt leI xs) m tol f k cc = cntF (srt leI xs) m tol 61 0 0)) (fun _ i _ => xs.length + 1 - (intOf i).toNat)
    case atStart => exact ⟨0, 61, 0, Nat.zero_le _, rfl, rfl, by omega, by omega, by omega, Below.refl _ _, rfl⟩
    case round =>
      obtain ⟨k, f, cc, hk, rfl, rfl, c0, c1, hf, hbw, hinv⟩ := hrel
      by_cases hlt : k + m ≤ xs.length
      · obtain ⟨f, rfl⟩ : ∃ g, f = g + 1 := ⟨f - 1, by omega⟩
        have HP := Lib.hid (fun h => (cntF_pos (zs := srt leI xs) (m := m) (f := f) (i := k) (tol := tol) (c := cc) (by rw [HZL.out]; exact hlt) h).symm.trans hinv.out)
        have HQ := Lib.hid (fun h => (cntF_neg (zs := srt leI xs) (m := m) (f := f) (i := k) (tol := tol) (c := cc) (by rw [HZL.out]; exact hlt) h).symm.trans hinv.out)
        obtain ⟨b, o, b', o', q1, e1, e2, hm1, p1, p2⟩ := ord_cells HR1.out HO1.out (k := k + m - 1) (by omega)
        subst e1 e2
        obtain ⟨b2, o2, b3, o3, q2, e1, e2, hm2, p3, p4⟩ := ord_cells HR1.out HO1.out (k := k) (by omega)
        simp only [Option.some.injEq, Addr.mk.injEq] at e1 e2
        obtain ⟨rfl, rfl, -⟩ := e1
        obtain ⟨rfl, rfl, -⟩ := e2
        have p1 := (hbw.cell (p := ⟨b', o' + (k + m - 1), none⟩) (World.block_lt_of_cell? w1 _ p1)).trans p1
        have p2 := (hbw.cell (p := ⟨b, o + q1, none⟩) (World.block_lt_of_cell? w1 _ p2)).trans p2
        have p3 := (hbw.cell (p := ⟨b', o' + k, none⟩) (World.block_lt_of_cell? w1 _ p3)).trans p3
        have p4 := (hbw.cell (p := ⟨b, o + q2, none⟩) (World.block_lt_of_cell? w1 _ p4)).trans p4
        have i1 : (0 : Int) ≤ (q1 : Int) := by omega
        have i2 : (q1 : Int) < (xs.length : Int) := by omega
        have i3 : (0 : Int) ≤ (q2 : Int) := by omega
        have i4 : (q2 : Int) < (xs.length : Int) := by omega
        obtain ⟨x1, x2⟩ := HZ.out (k + m - 1) (by omega)
        obtain ⟨y1, y2⟩ := HZ.out k (by omega)
        generalize (srt leI xs).getD (k + m - 1) 0 = x at *
        generalize (srt leI xs).getD k 0 = y at *
        have j1 : IntKind.i64.wrap ((k : Int) + (m : Int)) = (k : Int) + (m : Int) := IntWalk.i64_in _ (by omega)
        have j2 : IntKind.i64.wrap ((k : Int) + (m : Int) - 1) = (k : Int) + (m : Int) - 1 := IntWalk.i64_in _ (by omega)
        have j3 : ((k : Int) + (m : Int) - 1).toNat = k + m - 1 := by omega
        have j4 : (0 : Int) ≤ (k : Int) + (m : Int) - 1 := by omega
        have j5 : (k : Int) + (m : Int) - 1 < (xs.length : Int) := by omega
        have j6 : (0 : Int) ≤ (k : Int) := by omega
        have j7 : (k : Int) < (xs.length : Int) := by omega
        have j8 : IntKind.i64.wrap (x - y) = x - y := IntWalk.i64_in _ (by omega)
        by_cases hxy : x - y ≤ tol
        · have hd : decide (x - y ≤ tol) = true := by simpa using hxy
          have HI := Lib.hid (HP.out hxy)
          clear HP HQ hinv hxy
          go_wp2
          go_quiet (fail)
          go_wp2
          go_roundw
          case rel => exact ⟨k + m, f, cc + 1, by omega, by go_num, by go_num, by omega, by omega, by omega, (by repeat (first | (with_reducible refine sblw_drewN ?_ _) | (with_reducible assumption) | (with_reducible exact Below.refl _ _) | (with_reducible refine Below.drew ?_) | (with_reducible refine blw_al ?_ _) | (with_reducible refine blw_stp (by with_reducible assumption) ?_) | (with_reducible refine blw_set ?_ (by dsimp only; omega) _))), HI⟩
          case measure => simp [intOf]; omega
        · have hd : decide (x - y ≤ tol) = false := by simpa using hxy
          have HI := Lib.hid (HQ.out hxy)
          clear HP HQ hinv hxy
          go_wp2
          go_quiet (fail)
          go_wp2
          go_roundw
          case rel => exact ⟨k + 1, f, cc, by omega, by go_num, rfl, by omega, by omega, by omega, (by repeat (first | (with_reducible refine sblw_drewN ?_ _) | (with_reducible assumption) | (with_reducible exact Below.refl _ _) | (with_reducible refine Below.drew ?_) | (with_reducible refine blw_al ?_ _) | (with_reducible refine blw_stp (by with_reducible assumption) ?_) | (with_reducible refine blw_set ?_ (by dsimp only; omega) _))), HI⟩
          case measure => simp [intOf]; omega
      · have hlt' : (xs.length : Int) < (k : Int) + (m : Int) := by omega
        have HF : Hid (cntSR xs (m : Int) tol = (cc, 0)) := by
          show _ = _
          unfold cntSR
          rw [if_pos HB.out, if_pos HC.out, Int.toNat_natCast, ← hinv.out, cntF_end (by rw [HZL.out]; exact hlt)]
        go_wp2
        go_ret2
        exact ⟨bret2 HF.out, (by repeat (first | (with_reducible refine sblw_drewN ?_ _) | (with_reducible assumption) | (with_reducible exact Below.refl _ _) | (with_reducible refine Below.drew ?_) | (with_reducible refine blw_al ?_ _) | (with_reducible refine blw_stp (by with_reducible assumption) ?_) | (with_reducible refine blw_set ?_ (by dsimp only; omega) _)))⟩

end Go.Proofs.Ythmimkllnjkhaaa
