/- Contracts of PickSet, of the program and of the reference. -/
import Derived.Test.YthmimkllnjkhaaaBalC
import Derived.Test.YthmimkllnjkhaaaSrtC
import Derived.Test.YthmimkllnjkhaaaSrtD
set_option linter.unusedSimpArgs false
set_option linter.unusedVariables false
namespace Go.Proofs.Ythmimkllnjkhaaa
open Go.RowKit

theorem RdI.mid {w : World} {g n c : Nat} {xs : List Int} (h : RdI w (.slice (some ⟨g, 0, none⟩) n c) xs) {i m : Nat} (hm : 0 < m) (hj : i + m ≤ xs.length) (hc : xs.length ≤ c) : RdI w (.slice (some ⟨g, i, none⟩) m (c - i)) ((xs.take (i + m)).drop i) := by
  have := h.cut i (i + m) (by omega) hj hc
  unfold sliced at this
  rw [if_neg (by omega)] at this
  simpa [addr_add] using this
theorem pickR_1 {xs : List Int} {n tol : Int} (h : ballsR xs = false) : pickR xs n tol = ([], 1) := by unfold pickR; rw [if_neg (by rw [h]; simp)]
theorem pickR_2 {xs : List Int} {n tol : Int} (h : ballsR xs = true) (h2 : (inR n 3 40 && inR tol 0 1000) = false) : pickR xs n tol = ([], 2) := by unfold pickR; rw [if_pos h, if_neg (by rw [h2]; simp)]
theorem pickR_hit {xs : List Int} {m i : Nat} {tol : Int} (h : ballsR xs = true) (h2 : (inR (m : Int) 3 40 && inR tol 0 1000) = true) (hi : i < 61) (hs : setAt (srt leI xs) m tol i = true) (hn : ∀ j, j < i → setAt (srt leI xs) m tol j = false) :
    pickR xs (m : Int) tol = (srt leI (((ordB xs).take (i + m)).drop i), 0) := by
  unfold pickR
  rw [if_pos h, if_pos h2, Int.toNat_natCast, find_hit hi hs hn]
theorem pickR_miss {xs : List Int} {m i : Nat} {tol : Int} (h : ballsR xs = true) (h2 : (inR (m : Int) 3 40 && inR tol 0 1000) = true) (hi : xs.length < i + m) (hn : ∀ j, j < i → setAt (srt leI xs) m tol j = false) : pickR xs (m : Int) tol = ([], 4) := by
  unfold pickR
  rw [if_pos h, if_pos h2, Int.toNat_natCast, find_miss (fun j hj => by
    by_cases hji : j < i
    · exact hn j hji
    · unfold setAt
      rw [srt_length]
      have : ¬ j + m ≤ xs.length := by omega
      simp [this])]
theorem setAt_yes {xs : List Int} {m i : Nat} {tol : Int} (h : i + m ≤ xs.length) (hd : (srt leI xs).getD (i + m - 1) 0 - (srt leI xs).getD i 0 ≤ tol) : setAt (srt leI xs) m tol i = true := by
  unfold setAt
  rw [srt_length, Bool.and_eq_true, decide_eq_true_eq, decide_eq_true_eq]
  exact ⟨h, hd⟩
theorem setAt_no {xs : List Int} {m i : Nat} {tol : Int} (hd : ¬ (srt leI xs).getD (i + m - 1) 0 - (srt leI xs).getD i 0 ≤ tol) : setAt (srt leI xs) m tol i = false := by
  unfold setAt
  rw [Bool.and_eq_false_iff]
  exact Or.inr (by rw [decide_eq_false_iff_not]; exact hd)
theorem set_small {xs : List Int} (hl : xs.length ≤ 60) (i m : Nat) : smallV (((ordB xs).take (i + m)).drop i) = true := by
  unfold smallV allR
  rw [List.all_eq_true]
  intro y hy
  have h1 := List.mem_of_mem_take (List.mem_of_mem_drop hy)
  have h2 := ordK_mem (xs := xs) (k := xs.length) y h1
  exact inR_iff.2 (by omega)
theorem set_len {xs : List Int} {i m : Nat} (h : i + m ≤ xs.length) : (((ordB xs).take (i + m)).drop i).length = m := by
  rw [List.length_drop, List.length_take, ord_len]; omega

set_option maxHeartbeats 800000 in
theorem Pick_any (u : Value) (xs : List Int) (n tol : Int) (w : World) (hr : RdI w u xs) (hn : xs.length ≤ 1048576) :
    Calls Try.prog 22 #[u, .int .i64 n, .int .i64 tol] w (RetI w (pickR xs n tol)) := by
  have HR := Lib.hid hr
  obtain ⟨a, c, rfl, -⟩ := hr
  cases hB : ballsR xs
  · have HB := Lib.hid hB
    clear hB
    go_enter Try.func22, Try.ntmps22
    go_wp2_with fail
    (with_reducible refine (areBalls_any _ xs _ HR.out hn).mono ?_)
    rintro e w' ⟨rfl, rfl⟩
    rw [HB.out]
    go_wp2
    go_ret2
    exact RetI.mk (pickR_1 HB.out) (OwI.nil _ _) (Below.refl _ _)
  cases hN : inR n 3 40
  · have HB := Lib.hid hB
    have HN := Lib.hid hN
    have HC : Hid ((inR n 3 40 && inR tol 0 1000) = false) := by show _ = _; rw [hN]; rfl
    clear hB hN
    go_enter Try.func22, Try.ntmps22
    go_wp2_with fail
    (with_reducible refine (areBalls_any _ xs _ HR.out hn).mono ?_)
    rintro e w' ⟨rfl, rfl⟩
    rw [HB.out]
    go_wp2_with fail
    (with_reducible refine (isBalls_any _ _).mono ?_)
    rintro e w' ⟨rfl, rfl⟩
    rw [HN.out]
    go_wp2
    go_ret2
    exact RetI.mk (pickR_2 HB.out HC.out) (OwI.nil _ _) (Below.refl _ _)
  cases hT : inR tol 0 1000
  · have HB := Lib.hid hB
    have HN := Lib.hid hN
    have HT := Lib.hid hT
    have HC : Hid ((inR n 3 40 && inR tol 0 1000) = false) := by show _ = _; rw [hN, hT]; rfl
    clear hB hN hT
    go_enter Try.func22, Try.ntmps22
    go_wp2_with fail
    (with_reducible refine (areBalls_any _ xs _ HR.out hn).mono ?_)
    rintro e w' ⟨rfl, rfl⟩
    rw [HB.out]
    go_wp2_with fail
    (with_reducible refine (isBalls_any _ _).mono ?_)
    rintro e w' ⟨rfl, rfl⟩
    rw [HN.out]
    go_wp2_with fail
    (with_reducible refine (within_any _ _ _ _).mono ?_)
    rintro e w' ⟨rfl, rfl⟩
    rw [HT.out]
    go_wp2
    go_ret2
    exact RetI.mk (pickR_2 HB.out HC.out) (OwI.nil _ _) (Below.refl _ _)
  have hC : (inR n 3 40 && inR tol 0 1000) = true := by rw [hN, hT]; rfl
  · have HB := Lib.hid hB
    have HC := Lib.hid hC
    have HN := Lib.hid hN
    have HT := Lib.hid hT
    have hl := (ballsR_at hB).1
    have HZ := Lib.hid (srtI_bd (ballsR_at hB).2)
    obtain ⟨n3, n40⟩ := inR_iff.1 hN
    obtain ⟨t0, t1000⟩ := inR_iff.1 hT
    clear hB hN hT hC
    obtain ⟨m, rfl⟩ : ∃ m : Nat, n = (m : Int) := ⟨n.toNat, by omega⟩
    go_enter Try.func22, Try.ntmps22
    go_wp2_with fail
    (with_reducible refine (areBalls_any _ xs _ HR.out hn).mono ?_)
    rintro e w' ⟨rfl, rfl⟩
    rw [HB.out]
    go_wp2_with fail
    (with_reducible refine (isBalls_any _ _).mono ?_)
    rintro e w' ⟨rfl, rfl⟩
    rw [HN.out]
    go_wp2_with fail
    (with_reducible refine (within_any _ _ _ _).mono ?_)
    rintro e w' ⟨rfl, rfl⟩
    rw [HT.out]
    go_wp2_with fail
    (with_reducible refine (ballOrder_any _ xs _ HR.out (by omega)).mono ?_)
    rintro e w1 ⟨v, rfl, ho, hb⟩
    have hR1 := HR.out.below hb
    have ho1 := ho.rd
    obtain ⟨av, cv, hv, -⟩ := ho1.shape
    rw [ord_len] at hv
    subst hv
    have HR1 := Lib.hid hR1
    have HO1 := Lib.hid ho1
    have HOW := Lib.hid ho
    have hcapO := (OwI.cap ho).1
    rw [ord_len] at hcapO
    clear hR1 ho1 ho
    go_wp2
    go_loopw [9] (fun i wr => ∃ k : Nat, k ≤ xs.length + 1 ∧ i = .int .i64 k ∧ Below w1.heap.size w1 wr ∧ Hid (∀ j, j < k → setAt (srt leI xs) m tol j = false)) (fun i _ => xs.length + 2 - (intOf i).toNat)
    case atStart => exact ⟨0, by omega, rfl, Below.refl _ _, fun j hj => by omega⟩
    case round =>
      obtain ⟨k, hk, rfl, hbw, hno⟩ := hrel
      by_cases hlt : k + m ≤ xs.length
      · have HY := Lib.hid (fun h => setAt_yes (tol := tol) hlt h)
        have HQ := Lib.hid (fun h => setAt_no (xs := xs) (m := m) (i := k) (tol := tol) h)
        obtain ⟨b, o, b', o', q1, e1, e2, hm1, p1, p2⟩ := ord_cells HR1.out HO1.out (k := k + m - 1) (by omega)
        subst e1 e2
        obtain ⟨b2, o2, b3, o3, q2, e1, e2, hm2, p3, p4⟩ := ord_cells HR1.out HO1.out (k := k) (by omega)
        simp only [Option.some.injEq, Addr.mk.injEq] at e1 e2
        obtain ⟨rfl, rfl, -⟩ := e1
        obtain ⟨rfl, rfl, -⟩ := e2
        have p1 := (hbw.cell (p := ⟨b', o' + (k + m - 1), none⟩) (World.block_lt_of_cell? w1 _ p1)).trans p1
        have p2 := (hbw.cell (p := ⟨b, o + q1, none⟩) (World.block_lt_of_cell? w1 _ p2)).trans p2
        have p3 := (hbw.cell (p := ⟨b', o' + k, none⟩) (World.block_lt_of_cell? w1 _ p3)).trans p3
        have p4 := (hbw.cell (p := ⟨b, o + q2, none⟩) (World.block_lt_of_cell? w1 _ p4)).trans p4
        have i1 : (0 : Int) ≤ (q1 : Int) := by omega
        have i2 : (q1 : Int) < (xs.length : Int) := by omega
        have i3 : (0 : Int) ≤ (q2 : Int) := by omega
        have i4 : (q2 : Int) < (xs.length : Int) := by omega
        obtain ⟨x1, x2⟩ := HZ.out (k + m - 1) (by omega)
        obtain ⟨y1, y2⟩ := HZ.out k (by omega)
        generalize (srt leI xs).getD (k + m - 1) 0 = x at *
        generalize (srt leI xs).getD k 0 = y at *
        have j1 : IntKind.i64.wrap ((k : Int) + (m : Int)) = (k : Int) + (m : Int) := IntWalk.i64_in _ (by omega)
        have j2 : IntKind.i64.wrap ((k : Int) + (m : Int) - 1) = (k : Int) + (m : Int) - 1 := IntWalk.i64_in _ (by omega)
        have j3 : ((k : Int) + (m : Int) - 1).toNat = k + m - 1 := by omega
        have j4 : (0 : Int) ≤ (k : Int) + (m : Int) - 1 := by omega
        have j5 : (k : Int) + (m : Int) - 1 < (xs.length : Int) := by omega
        have j6 : (0 : Int) ≤ (k : Int) := by omega
        have j7 : (k : Int) < (xs.length : Int) := by omega
        have j8 : IntKind.i64.wrap (x - y) = x - y := IntWalk.i64_in _ (by omega)
        by_cases hxy : x - y ≤ tol
        · have hd : decide (x - y ≤ tol) = true := by simpa using hxy
          have HF := Lib.hid (pickR_hit HB.out HC.out (by omega) (HY.out hxy) hno.out)
          clear HY HQ hno hxy
          go_wp2
          go_quiet (fail)
          have hbq : Below w1.heap.size w1 (wr.drewN nq) := (by repeat (first | (with_reducible refine sblw_drewN ?_ _) | (with_reducible assumption) | (with_reducible exact Below.refl _ _) | (with_reducible refine Below.drew ?_) | (with_reducible refine blw_al ?_ _) | (with_reducible refine blw_stp (by with_reducible assumption) ?_) | (with_reducible refine blw_set ?_ (by dsimp only; omega) _)))
          obtain ⟨wq, hwq⟩ : ∃ wq, wq = wr.drewN nq := ⟨_, rfl⟩
          rw [← hwq] at hbq
          rw [← hwq]
          clear hwq hbw p1 p2 p3 p4
          obtain ⟨gO, cO, e9, hg9, hl9⟩ := World.ownsRow.form HOW.out (by rw [ord_len]; omega)
          rw [ord_len] at e9
          injection e9 with e91 e92 e93
          injection e91 with e91
          injection e91 with e91 e92
          subst e91 e92 e93
          have HRM := Lib.hid (RdI.mid (HO1.out.below hbq) (i := k) (m := m) (by omega) (by rw [ord_len]; exact hlt) (by rw [ord_len]; exact hcapO))
          have y1 : (0 : Int) ≤ (k : Int) := by omega
          have y2 : (k : Int) ≤ (k : Int) + (m : Int) := by omega
          have y3 : (k : Int) + (m : Int) ≤ (cv : Int) := by omega
          have y4 : ((k : Int) + (m : Int)).toNat = k + m := by omega
          have y5 : ¬ cv = k := by omega
          have y6 : IntKind.i64.wrap ((k : Int) + (m : Int)) = (k : Int) + (m : Int) := IntWalk.i64_in _ (by omega)
          clear j2 j3 j4 j5 j8 hd
          go_wp2_with fail
          (with_reducible refine (sorted_any _ _ _ HRM.out (by rw [set_len hlt]; omega)).mono ?_)
          rintro e w2 ⟨v2, rfl, ho2, hb2⟩
          have HB2 : Hid (Below w.heap.size w w2) := (hb.trans (hbq.mono hb.size)).trans (hb2.mono (Nat.le_trans hb.size hbq.size))
          have HO2 := Lib.hid (ho2.mono (base' := w.heap.size) (Nat.le_trans hb.size hbq.size))
          clear ho2 hb2
          go_wp2
          go_ret2
          exact RetI.mk HF.out HO2.out HB2.out
        · have hd : decide (x - y ≤ tol) = false := by simpa using hxy
          have HN2 : Hid (∀ j, j < k + 1 → setAt (srt leI xs) m tol j = false) := by
            show ∀ j, _
            intro j hj
            by_cases hjk : j = k
            · subst hjk; exact HQ.out hxy
            · exact hno.out j (by omega)
          clear HY HQ hno hxy
          go_wp2
          go_quiet (fail)
          go_wp2
          go_roundw
          case rel => exact ⟨k + 1, by omega, by go_num, (by repeat (first | (with_reducible refine sblw_drewN ?_ _) | (with_reducible assumption) | (with_reducible exact Below.refl _ _) | (with_reducible refine Below.drew ?_) | (with_reducible refine blw_al ?_ _) | (with_reducible refine blw_stp (by with_reducible assumption) ?_) | (with_reducible refine blw_set ?_ (by dsimp only; omega) _))), HN2⟩
          case measure => simp [intOf]; omega
      · have hlt' : (xs.length : Int) < (k : Int) + (m : Int) := by omega
        have HF := Lib.hid (pickR_miss HB.out HC.out (by omega) hno.out)
        go_wp2
        go_ret2
        exact RetI.mk HF.out (OwI.nil _ _) (hb.trans (hbw.mono hb.size))

set_option maxHeartbeats 800000 in
theorem sPick_any (u : Value) (xs : List Int) (n tol : Int) (w : World) (hr : RdI w u xs) (hn : xs.length ≤ 1048576) :
    Calls Try.prog 21 #[u, .int .i64 n, .int .i64 tol] w (RetI w (pickR xs n tol)) := by
  have HR := Lib.hid hr
  obtain ⟨a, c, rfl, -⟩ := hr
  cases hB : ballsR xs
  · have HB := Lib.hid hB
    have HX := Lib.hid (codeB_1 (n := n) (t := tol) hB)
    clear hB
    go_enter Try.func21, Try.ntmps21
    go_wp2_with fail
    (with_reducible refine (l15Balls_any _ xs _ _ _ HR.out hn).mono ?_)
    rintro e w' ⟨rfl, rfl⟩
    rw [HX.out]
    go_wp2
    go_ret2
    exact RetI.mk (pickR_1 HB.out) (OwI.nil _ _) (Below.refl _ _)
  cases hC : (inR n 3 40 && inR tol 0 1000)
  · have HB := Lib.hid hB
    have HC := Lib.hid hC
    have HX := Lib.hid (codeB_2 (n := n) (t := tol) hB hC)
    clear hB hC
    go_enter Try.func21, Try.ntmps21
    go_wp2_with fail
    (with_reducible refine (l15Balls_any _ xs _ _ _ HR.out hn).mono ?_)
    rintro e w' ⟨rfl, rfl⟩
    rw [HX.out]
    go_wp2
    go_ret2
    exact RetI.mk (pickR_2 HB.out HC.out) (OwI.nil _ _) (Below.refl _ _)
  · have HB := Lib.hid hB
    have HC := Lib.hid hC
    have HX := Lib.hid (codeB_0 (n := n) (t := tol) hB hC)
    have hN : inR n 3 40 = true := by cases h : inR n 3 40; (rw [h] at hC; cases hC); rfl
    have hT : inR tol 0 1000 = true := by cases h : inR tol 0 1000; (rw [h] at hC; simp at hC); rfl
    have hl := (ballsR_at hB).1
    have HZ := Lib.hid (srtI_bd (ballsR_at hB).2)
    obtain ⟨n3, n40⟩ := inR_iff.1 hN
    obtain ⟨t0, t1000⟩ := inR_iff.1 hT
    clear hB hN hT hC
    obtain ⟨m, rfl⟩ : ∃ m : Nat, n = (m : Int) := ⟨n.toNat, by omega⟩
    go_enter Try.func21, Try.ntmps21
    go_wp2_with fail
    (with_reducible refine (l15Balls_any _ xs _ _ _ HR.out hn).mono ?_)
    rintro e w' ⟨rfl, rfl⟩
    rw [HX.out]
    go_wp2_with fail
    (with_reducible refine (l15Order_any _ xs _ HR.out (by omega)).mono ?_)
    rintro e w1 ⟨v, rfl, ho, hb⟩
    have hR1 := HR.out.below hb
    have ho1 := ho.rd
    obtain ⟨av, cv, hv, -⟩ := ho1.shape
    rw [ord_len] at hv
    subst hv
    have HR1 := Lib.hid hR1
    have HO1 := Lib.hid ho1
    have HOW := Lib.hid ho
    have hcapO := (OwI.cap ho).1
    rw [ord_len] at hcapO
    clear hR1 ho1 ho
    go_wp2
    go_loopw [10] (fun i wr => ∃ k : Nat, k ≤ xs.length + 1 ∧ i = .int .i64 k ∧ Below w1.heap.size w1 wr ∧ Hid (∀ j, j < k → setAt (srt leI xs) m tol j = false)) (fun i _ => xs.length + 2 - (intOf i).toNat)
    case atStart => exact ⟨0, by omega, rfl, Below.refl _ _, fun j hj => by omega⟩
    case round =>
      obtain ⟨k, hk, rfl, hbw, hno⟩ := hrel
      by_cases hlt : k + m ≤ xs.length
      · have HY := Lib.hid (fun h => setAt_yes (tol := tol) hlt h)
        have HQ := Lib.hid (fun h => setAt_no (xs := xs) (m := m) (i := k) (tol := tol) h)
        obtain ⟨b, o, b', o', q1, e1, e2, hm1, p1, p2⟩ := ord_cells HR1.out HO1.out (k := k + m - 1) (by omega)
        subst e1 e2
        obtain ⟨b2, o2, b3, o3, q2, e1, e2, hm2, p3, p4⟩ := ord_cells HR1.out HO1.out (k := k) (by omega)
        simp only [Option.some.injEq, Addr.mk.injEq] at e1 e2
        obtain ⟨rfl, rfl, -⟩ := e1
        obtain ⟨rfl, rfl, -⟩ := e2
        have p1 := (hbw.cell (p := ⟨b', o' + (k + m - 1), none⟩) (World.block_lt_of_cell? w1 _ p1)).trans p1
        have p2 := (hbw.cell (p := ⟨b, o + q1, none⟩) (World.block_lt_of_cell? w1 _ p2)).trans p2
        have p3 := (hbw.cell (p := ⟨b', o' + k, none⟩) (World.block_lt_of_cell? w1 _ p3)).trans p3
        have p4 := (hbw.cell (p := ⟨b, o + q2, none⟩) (World.block_lt_of_cell? w1 _ p4)).trans p4
        have i1 : (0 : Int) ≤ (q1 : Int) := by omega
        have i2 : (q1 : Int) < (xs.length : Int) := by omega
        have i3 : (0 : Int) ≤ (q2 : Int) := by omega
        have i4 : (q2 : Int) < (xs.length : Int) := by omega
        obtain ⟨x1, x2⟩ := HZ.out (k + m - 1) (by omega)
        obtain ⟨y1, y2⟩ := HZ.out k (by omega)
        generalize (srt leI xs).getD (k + m - 1) 0 = x at *
        generalize (srt leI xs).getD k 0 = y at *
        have j1 : IntKind.i64.wrap ((k : Int) + (m : Int)) = (k : Int) + (m : Int) := IntWalk.i64_in _ (by omega)
        have j2 : IntKind.i64.wrap ((k : Int) + (m : Int) - 1) = (k : Int) + (m : Int) - 1 := IntWalk.i64_in _ (by omega)
        have j3 : ((k : Int) + (m : Int) - 1).toNat = k + m - 1 := by omega
        have j4 : (0 : Int) ≤ (k : Int) + (m : Int) - 1 := by omega
        have j5 : (k : Int) + (m : Int) - 1 < (xs.length : Int) := by omega
        have j6 : (0 : Int) ≤ (k : Int) := by omega
        have j7 : (k : Int) < (xs.length : Int) := by omega
        have j8 : IntKind.i64.wrap (x - y) = x - y := IntWalk.i64_in _ (by omega)
        by_cases hxy : x - y ≤ tol
        · have hd : decide (x - y ≤ tol) = true := by simpa using hxy
          have HF := Lib.hid (pickR_hit HB.out HC.out (by omega) (HY.out hxy) hno.out)
          clear HY HQ hno hxy
          go_wp2
          go_quiet (fail)
          have hbq : Below w1.heap.size w1 (wr.drewN nq) := (by repeat (first | (with_reducible refine sblw_drewN ?_ _) | (with_reducible assumption) | (with_reducible exact Below.refl _ _) | (with_reducible refine Below.drew ?_) | (with_reducible refine blw_al ?_ _) | (with_reducible refine blw_stp (by with_reducible assumption) ?_) | (with_reducible refine blw_set ?_ (by dsimp only; omega) _)))
          obtain ⟨wq, hwq⟩ : ∃ wq, wq = wr.drewN nq := ⟨_, rfl⟩
          rw [← hwq] at hbq
          rw [← hwq]
          clear hwq hbw p1 p2 p3 p4
          obtain ⟨gO, cO, e9, hg9, hl9⟩ := World.ownsRow.form HOW.out (by rw [ord_len]; omega)
          rw [ord_len] at e9
          injection e9 with e91 e92 e93
          injection e91 with e91
          injection e91 with e91 e92
          subst e91 e92 e93
          have HRM := Lib.hid (RdI.mid (HO1.out.below hbq) (i := k) (m := m) (by omega) (by rw [ord_len]; exact hlt) (by rw [ord_len]; exact hcapO))
          have y1 : (0 : Int) ≤ (k : Int) := by omega
          have y2 : (k : Int) ≤ (k : Int) + (m : Int) := by omega
          have y3 : (k : Int) + (m : Int) ≤ (cv : Int) := by omega
          have y4 : ((k : Int) + (m : Int)).toNat = k + m := by omega
          have y5 : ¬ cv = k := by omega
          have y6 : IntKind.i64.wrap ((k : Int) + (m : Int)) = (k : Int) + (m : Int) := IntWalk.i64_in _ (by omega)
          clear j2 j3 j4 j5 j8 hd
          go_wp2_with fail
          (with_reducible refine (sSort_any _ _ _ HRM.out (by rw [set_len hlt]; omega) (set_small hl k m)).mono ?_)
          rintro e w2 ⟨v2, rfl, ho2, hb2⟩
          have HB2 : Hid (Below w.heap.size w w2) := (hb.trans (hbq.mono hb.size)).trans (hb2.mono (Nat.le_trans hb.size hbq.size))
          have HO2 := Lib.hid (ho2.mono (base' := w.heap.size) (Nat.le_trans hb.size hbq.size))
          clear ho2 hb2
          go_wp2
          go_ret2
          exact RetI.mk HF.out HO2.out HB2.out
        · have hd : decide (x - y ≤ tol) = false := by simpa using hxy
          have HN2 : Hid (∀ j, j < k + 1 → setAt (srt leI xs) m tol j = false) := by
            show ∀ j, _
            intro j hj
            by_cases hjk : j = k
            · subst hjk; exact HQ.out hxy
            · exact hno.out j (by omega)
          clear HY HQ hno hxy
          go_wp2
          go_quiet (fail)
          go_wp2
          go_roundw
          case rel => exact ⟨k + 1, by omega, by go_num, (by repeat (first | (with_reducible refine sblw_drewN ?_ _) | (with_reducible assumption) | (with_reducible exact Below.refl _ _) | (with_reducible refine Below.drew ?_) | (with_reducible refine blw_al ?_ _) | (with_reducible refine blw_stp (by with_reducible assumption) ?_) | (with_reducible refine blw_set ?_ (by dsimp only; omega) _))), HN2⟩
          case measure => simp [intOf]; omega
      · have hlt' : (xs.length : Int) < (k : Int) + (m : Int) := by omega
        have HF := Lib.hid (pickR_miss HB.out HC.out (by omega) hno.out)
        go_wp2
        go_ret2
        exact RetI.mk HF.out (OwI.nil _ _) (hb.trans (hbw.mono hb.size))

end Go.Proofs.Ythmimkllnjkhaaa
