/- Contracts of WetShare and LongestRide, of the program and of the reference. -/
import Derived.Test.YthfpikpknojffaaWeaB
set_option linter.unusedSimpArgs false
set_option linter.unusedVariables false
namespace Go.Proofs.Ythfpikpknojffaa
open Go.RowKit

set_option maxHeartbeats 800000 in
theorem WetShare_any (v : Value) (rs : List Rid) (w : World) (hr : RdRid w v rs) (hn : rs.length ≤ 1048576) :
    Calls Try.prog 22 #[v] w fun e w' => e = .returned (.tuple #[.int .i64 (wetR rs).1, .int .i64 (wetR rs).2]) ∧ Below w.heap.size w w' := by
  obtain ⟨a, c, rfl, hr2⟩ := hr.shape
  have HR := Lib.hid hr2
  clear hr2 hr
  cases hA : areR rs
  · have HA := Lib.hid hA
    clear hA
    go_enter Try.func22, Try.ntmps22
    go_wp2_with fail
    (with_reducible refine (AreRides_any _ rs _ HR.out hn).mono ?_)
    rintro e w1 ⟨rfl, hb1⟩
    rw [HA.out]
    go_wp2
    go_ret2
    exact ⟨ret2_end (by unfold wetR; rw [if_neg (by rw [HA.out]; simp)]), hb1⟩
  · have HA := Lib.hid hA
    have hn40 := (areR_at hA).1
    clear hA
    go_enter Try.func22, Try.ntmps22
    go_wp2_with fail
    (with_reducible refine (AreRides_any _ rs _ HR.out hn).mono ?_)
    rintro e w1 ⟨rfl, hb1⟩
    rw [HA.out]
    have HC := Lib.hid (HR.out.below hb1).at
    have HAT := Lib.hid (areR_at HA.out).2
    have HT := Lib.hid (tensK_bd HA.out)
    have HW := Lib.hid (wetK_bd HA.out)
    go_wp2
    go_loopw [4, 5, 13] (fun p q i wr => ∃ k : Nat, k ≤ rs.length ∧ i = .int .i64 k ∧ q = .int .i64 (tensK rs k) ∧ p = .int .i64 (wetK rs k) ∧ Below w1.heap.size w1 wr) (fun _ _ i _ => rs.length - (intOf i).toNat)
    case atStart => exact ⟨0, Nat.zero_le _, rfl, rfl, rfl, Below.refl _ _⟩
    case round =>
      obtain ⟨k, hk, rfl, rfl, rfl, hbw⟩ := hrel
      by_cases hlt : k < rs.length
      · skip
        obtain ⟨b, o, rfl, h0, h1, h2⟩ := HC.out k hlt
        have hblt : b < w1.heap.size := World.block_lt_of_cell? w1 _ h0
        have hsz := hbw.size
        have hbr : b < wr.heap.size := by omega
        have c0 : wr.cell? ⟨b, o + k * 3, none⟩ = some (.int .i64 (rs.getD k (0, 0, false)).1) := (hbw.cell (p := ⟨b, o + k * 3, none⟩) hblt).trans h0
        have c1 : wr.cell? ⟨b, o + k * 3 + 1, none⟩ = some (.int .i64 (rs.getD k (0, 0, false)).2.1) := (hbw.cell (p := ⟨b, o + k * 3 + 1, none⟩) hblt).trans h1
        have c2 : wr.cell? ⟨b, o + k * 3 + 2, none⟩ = some (.bool (rs.getD k (0, 0, false)).2.2) := (hbw.cell (p := ⟨b, o + k * 3 + 2, none⟩) hblt).trans h2
        obtain ⟨-, -, t1, t2, -⟩ := HAT.out k hlt
        obtain ⟨y1, y2⟩ := HT.out k hk
        obtain ⟨z1, z2⟩ := HW.out k hk
        have E1 : Hid (tensK rs (k + 1) = tensK rs k + (rs.getD k (0, 0, false)).2.1) := rfl
        have E2 : Hid (wetK rs (k + 1) = wetK rs k + (if (rs.getD k (0, 0, false)).2.2 = true then (rs.getD k (0, 0, false)).2.1 else 0)) := rfl
        generalize (rs.getD k (0, 0, false)) = x at *
        obtain ⟨d, t, wt⟩ := x
        simp only at c0 c1 c2 t1 t2
        clear h0 h1 h2
        generalize tensK rs k = q at *
        generalize wetK rs k = p at *
        cases wt
        all_goals
          go_wp2
          go_roundw
          case rel => exact ⟨k + 1, by omega, by go_num, by rw [E1.out], by rw [E2.out]; simp, (by repeat (first | (with_reducible assumption) | (with_reducible exact Below.refl _ _) | (with_reducible refine Below.drew ?_) | (with_reducible refine blw_al ?_ _) | (with_reducible refine blw_stp (by with_reducible assumption) ?_) | (with_reducible refine blw_set ?_ (by dsimp only; omega) _)))⟩
          case measure => simp [intOf]; omega
      · obtain rfl : k = rs.length := by omega
        obtain ⟨y1, y2⟩ := HT.out rs.length hk
        obtain ⟨z1, z2⟩ := HW.out rs.length hk
        by_cases hz : tensK rs rs.length = 0
        · have HF : Hid (wetR rs = (0, 0)) := by
            show _ = _
            unfold wetR; rw [if_pos HA.out, if_pos hz]
          have hq : (tensK rs rs.length == 0) = true := by rw [beq_iff_eq]; exact hz
          clear hz
          generalize tensK rs rs.length = q at *
          generalize wetK rs rs.length = p at *
          go_wp2
          go_ret2
          exact ⟨ret2_end HF.out, (by repeat (first | (with_reducible assumption) | (with_reducible exact Below.refl _ _) | (with_reducible refine Below.drew ?_) | (with_reducible refine blw_al ?_ _) | (with_reducible refine blw_stp (by with_reducible assumption) ?_) | (with_reducible refine blw_set ?_ (by dsimp only; omega) _)))⟩
        · have HF : Hid (wetR rs = (1000 * wetK rs rs.length / tensK rs rs.length, 0)) := by
            show _ = _
            unfold wetR; rw [if_pos HA.out, if_neg hz]
          have hq : (tensK rs rs.length == 0) = false := by rw [beq_eq_false_iff_ne]; exact hz
          have hq1 : 1 ≤ tensK rs rs.length := by omega
          clear hz
          generalize tensK rs rs.length = q at *
          generalize wetK rs rs.length = p at *
          go_wp2
          go_ret2
          exact ⟨ret2_end HF.out, (by repeat (first | (with_reducible assumption) | (with_reducible exact Below.refl _ _) | (with_reducible refine Below.drew ?_) | (with_reducible refine blw_al ?_ _) | (with_reducible refine blw_stp (by with_reducible assumption) ?_) | (with_reducible refine blw_set ?_ (by dsimp only; omega) _)))⟩

set_option maxHeartbeats 800000 in
theorem sWetShare_any (v : Value) (rs : List Rid) (w : World) (hr : RdRid w v rs) (hn : rs.length ≤ 1048576) :
    Calls Try.prog 21 #[v] w fun e w' => e = .returned (.tuple #[.int .i64 (wetR rs).1, .int .i64 (wetR rs).2]) ∧ Below w.heap.size w w' := by
  obtain ⟨a, c, rfl, hr2⟩ := hr.shape
  have HR := Lib.hid hr2
  clear hr2 hr
  cases hA : areR rs
  · have HA := Lib.hid hA
    clear hA
    go_enter Try.func21, Try.ntmps21
    go_wp2_with fail
    (with_reducible refine (sAreRides_any _ rs _ HR.out hn).mono ?_)
    rintro e w1 ⟨rfl, hb1⟩
    rw [HA.out]
    go_wp2
    go_ret2
    exact ⟨ret2_end (by unfold wetR; rw [if_neg (by rw [HA.out]; simp)]), hb1⟩
  · have HA := Lib.hid hA
    have hn40 := (areR_at hA).1
    clear hA
    go_enter Try.func21, Try.ntmps21
    go_wp2_with fail
    (with_reducible refine (sAreRides_any _ rs _ HR.out hn).mono ?_)
    rintro e w1 ⟨rfl, hb1⟩
    rw [HA.out]
    have HC := Lib.hid (HR.out.below hb1).at
    have HAT := Lib.hid (areR_at HA.out).2
    have HT := Lib.hid (tensK_bd HA.out)
    have HW := Lib.hid (wetK_bd HA.out)
    go_wp2
    go_loopw [4, 5, 6] (fun p q i wr => ∃ k : Nat, k ≤ rs.length ∧ i = .int .i64 k ∧ q = .int .i64 (tensK rs k) ∧ p = .int .i64 (wetK rs k) ∧ Below w1.heap.size w1 wr) (fun _ _ i _ => rs.length - (intOf i).toNat)
    case atStart => exact ⟨0, Nat.zero_le _, rfl, rfl, rfl, Below.refl _ _⟩
    case round =>
      obtain ⟨k, hk, rfl, rfl, rfl, hbw⟩ := hrel
      by_cases hlt : k < rs.length
      · skip
        obtain ⟨b, o, rfl, h0, h1, h2⟩ := HC.out k hlt
        have hblt : b < w1.heap.size := World.block_lt_of_cell? w1 _ h0
        have hsz := hbw.size
        have hbr : b < wr.heap.size := by omega
        have c0 : wr.cell? ⟨b, o + k * 3, none⟩ = some (.int .i64 (rs.getD k (0, 0, false)).1) := (hbw.cell (p := ⟨b, o + k * 3, none⟩) hblt).trans h0
        have c1 : wr.cell? ⟨b, o + k * 3 + 1, none⟩ = some (.int .i64 (rs.getD k (0, 0, false)).2.1) := (hbw.cell (p := ⟨b, o + k * 3 + 1, none⟩) hblt).trans h1
        have c2 : wr.cell? ⟨b, o + k * 3 + 2, none⟩ = some (.bool (rs.getD k (0, 0, false)).2.2) := (hbw.cell (p := ⟨b, o + k * 3 + 2, none⟩) hblt).trans h2
        obtain ⟨-, -, t1, t2, -⟩ := HAT.out k hlt
        obtain ⟨y1, y2⟩ := HT.out k hk
        obtain ⟨z1, z2⟩ := HW.out k hk
        have E1 : Hid (tensK rs (k + 1) = tensK rs k + (rs.getD k (0, 0, false)).2.1) := rfl
        have E2 : Hid (wetK rs (k + 1) = wetK rs k + (if (rs.getD k (0, 0, false)).2.2 = true then (rs.getD k (0, 0, false)).2.1 else 0)) := rfl
        generalize (rs.getD k (0, 0, false)) = x at *
        obtain ⟨d, t, wt⟩ := x
        simp only at c0 c1 c2 t1 t2
        clear h0 h1 h2
        generalize tensK rs k = q at *
        generalize wetK rs k = p at *
        cases wt
        all_goals
          go_wp2
          go_roundw
          case rel => exact ⟨k + 1, by omega, by go_num, by rw [E1.out], by rw [E2.out]; simp, (by repeat (first | (with_reducible assumption) | (with_reducible exact Below.refl _ _) | (with_reducible refine Below.drew ?_) | (with_reducible refine blw_al ?_ _) | (with_reducible refine blw_stp (by with_reducible assumption) ?_) | (with_reducible refine blw_set ?_ (by dsimp only; omega) _)))⟩
          case measure => simp [intOf]; omega
      · obtain rfl : k = rs.length := by omega
        obtain ⟨y1, y2⟩ := HT.out rs.length hk
        obtain ⟨z1, z2⟩ := HW.out rs.length hk
        by_cases hz : tensK rs rs.length = 0
        · have HF : Hid (wetR rs = (0, 0)) := by
            show _ = _
            unfold wetR; rw [if_pos HA.out, if_pos hz]
          have hq : (tensK rs rs.length == 0) = true := by rw [beq_iff_eq]; exact hz
          clear hz
          generalize tensK rs rs.length = q at *
          generalize wetK rs rs.length = p at *
          go_wp2
          go_ret2
          exact ⟨ret2_end HF.out, (by repeat (first | (with_reducible assumption) | (with_reducible exact Below.refl _ _) | (with_reducible refine Below.drew ?_) | (with_reducible refine blw_al ?_ _) | (with_reducible refine blw_stp (by with_reducible assumption) ?_) | (with_reducible refine blw_set ?_ (by dsimp only; omega) _)))⟩
        · have HF : Hid (wetR rs = (1000 * wetK rs rs.length / tensK rs rs.length, 0)) := by
            show _ = _
            unfold wetR; rw [if_pos HA.out, if_neg hz]
          have hq : (tensK rs rs.length == 0) = false := by rw [beq_eq_false_iff_ne]; exact hz
          have hq1 : 1 ≤ tensK rs rs.length := by omega
          clear hz
          generalize tensK rs rs.length = q at *
          generalize wetK rs rs.length = p at *
          go_wp2
          go_ret2
          exact ⟨ret2_end HF.out, (by repeat (first | (with_reducible assumption) | (with_reducible exact Below.refl _ _) | (with_reducible refine Below.drew ?_) | (with_reducible refine blw_al ?_ _) | (with_reducible refine blw_stp (by with_reducible assumption) ?_) | (with_reducible refine blw_set ?_ (by dsimp only; omega) _)))⟩

set_option maxHeartbeats 800000 in
theorem LongestRide_any (v : Value) (rs : List Rid) (w : World) (hr : RdRid w v rs) (hn : rs.length ≤ 1048576) :
    Calls Try.prog 20 #[v] w fun e w' => e = .returned (.tuple #[.int .i64 (longR rs).1, .int .i64 (longR rs).2]) ∧ Below w.heap.size w w' := by
  obtain ⟨a, c, rfl, hr2⟩ := hr.shape
  have HR := Lib.hid hr2
  clear hr2 hr
  cases hA : areR rs
  · have HA := Lib.hid hA
    clear hA
    go_enter Try.func20, Try.ntmps20
    go_wp2_with fail
    (with_reducible refine (AreRides_any _ rs _ HR.out hn).mono ?_)
    rintro e w1 ⟨rfl, hb1⟩
    rw [HA.out]
    go_wp2
    go_ret2
    exact ⟨ret2_end (by unfold longR; rw [if_neg (by rw [HA.out]; simp)]), hb1⟩
  · have HA := Lib.hid hA
    have hn40 := (areR_at hA).1
    clear hA
    by_cases hz : rs.length = 0
    · have hx : rs = [] := List.length_eq_zero_iff.1 hz
      subst hx
      have HR0 : Hid (RdRid w (.slice a 0 c) []) := HR.out
      go_enter Try.func20, Try.ntmps20
      go_wp2_with fail
      (with_reducible refine (AreRides_any _ [] _ HR0.out (by simp)).mono ?_)
      rintro e w1 ⟨rfl, hb1⟩
      rw [HA.out]
      go_wp2
      go_ret2
      exact ⟨ret2_end rfl, hb1⟩
    have hpos : 0 < rs.length := by omega
    have hne : ((rs.length : Int) == 0) = false := by rw [beq_eq_false_iff_ne]; omega
    clear hz
    go_enter Try.func20, Try.ntmps20
    go_wp2_with fail
    (with_reducible refine (AreRides_any _ rs _ HR.out hn).mono ?_)
    rintro e w1 ⟨rfl, hb1⟩
    rw [HA.out]
    have HC := Lib.hid (HR.out.below hb1).at
    have HAT := Lib.hid (areR_at HA.out).2
    have HBL := Lib.hid (bestK_lt rs)
    go_wp2
    go_loopw [4, 15] (fun q i wr => ∃ k : Nat, k ≤ rs.length ∧ i = .int .i64 k ∧ q = .int .i64 (bestK rs k : Nat) ∧ Below w1.heap.size w1 wr) (fun _ i _ => rs.length - (intOf i).toNat)
    case atStart => exact ⟨0, Nat.zero_le _, rfl, rfl, Below.refl _ _⟩
    case round =>
      obtain ⟨k, hk, rfl, rfl, hbw⟩ := hrel
      by_cases hlt : k < rs.length
      · skip
        obtain ⟨b, o, rfl, h0, h1, h2⟩ := HC.out k hlt
        have hblt : b < w1.heap.size := World.block_lt_of_cell? w1 _ h0
        have hsz := hbw.size
        have hbr : b < wr.heap.size := by omega
        have c0 : wr.cell? ⟨b, o + k * 3, none⟩ = some (.int .i64 (rs.getD k (0, 0, false)).1) := (hbw.cell (p := ⟨b, o + k * 3, none⟩) hblt).trans h0
        have c1 : wr.cell? ⟨b, o + k * 3 + 1, none⟩ = some (.int .i64 (rs.getD k (0, 0, false)).2.1) := (hbw.cell (p := ⟨b, o + k * 3 + 1, none⟩) hblt).trans h1
        have c2 : wr.cell? ⟨b, o + k * 3 + 2, none⟩ = some (.bool (rs.getD k (0, 0, false)).2.2) := (hbw.cell (p := ⟨b, o + k * 3 + 2, none⟩) hblt).trans h2
        have hml := HBL.out k hpos hk
        have E1 : Hid (bestK rs (k + 1) = if (rs.getD (bestK rs k) (0, 0, false)).2.1 < (rs.getD k (0, 0, false)).2.1 then k else bestK rs k) := rfl
        generalize bestK rs k = m at *
        obtain ⟨b', o', e, g0, g1, g2⟩ := HC.out m hml
        simp only [Option.some.injEq, Addr.mk.injEq] at e
        obtain ⟨rfl, rfl, -⟩ := e
        have cm : wr.cell? ⟨b, o + m * 3 + 1, none⟩ = some (.int .i64 (rs.getD m (0, 0, false)).2.1) := (hbw.cell (p := ⟨b, o + m * 3 + 1, none⟩) hblt).trans g1
        have hlt' : (k : Int) < (rs.length : Int) := by omega
        have hk0 : (0 : Int) ≤ (k : Int) := by omega
        have hmlt' : (m : Int) < (rs.length : Int) := by omega
        have hm0 : (0 : Int) ≤ (m : Int) := by omega
        generalize (rs.getD k (0, 0, false)) = x at *
        obtain ⟨d, t, wt⟩ := x
        generalize (rs.getD m (0, 0, false)) = y at *
        obtain ⟨dm, tm, wm⟩ := y
        simp only at c0 c1 c2 cm
        clear h0 h1 h2 g0 g1 g2
        by_cases hg : tm < t
        · have hd : decide (tm < t) = true := by simpa using hg
          have E2 : Hid (bestK rs (k + 1) = k) := by show _ = _; rw [E1.out]; exact if_pos hg
          clear E1
          go_wp2
          go_quiet (fail)
          go_wp2
          go_roundw
          case rel => exact ⟨k + 1, by omega, by go_num, by rw [E2.out], (by repeat (first | (with_reducible refine blw_drewN ?_ _) | (with_reducible assumption) | (with_reducible exact Below.refl _ _) | (with_reducible refine Below.drew ?_) | (with_reducible refine blw_al ?_ _) | (with_reducible refine blw_stp (by with_reducible assumption) ?_) | (with_reducible refine blw_set ?_ (by dsimp only; omega) _)))⟩
          case measure => simp [intOf]; omega
        · have hd : decide (tm < t) = false := by simpa using hg
          have E2 : Hid (bestK rs (k + 1) = m) := by show _ = _; rw [E1.out]; exact if_neg hg
          clear E1
          go_wp2
          go_quiet (fail)
          go_wp2
          go_roundw
          case rel => exact ⟨k + 1, by omega, by go_num, by rw [E2.out], (by repeat (first | (with_reducible refine blw_drewN ?_ _) | (with_reducible assumption) | (with_reducible exact Below.refl _ _) | (with_reducible refine Below.drew ?_) | (with_reducible refine blw_al ?_ _) | (with_reducible refine blw_stp (by with_reducible assumption) ?_) | (with_reducible refine blw_set ?_ (by dsimp only; omega) _)))⟩
          case measure => simp [intOf]; omega
      · obtain rfl : k = rs.length := by omega
        have HF : Hid (longR rs = ((bestK rs rs.length : Int), 0)) := by
          show _ = _
          unfold longR; rw [if_pos HA.out, if_neg (by omega)]
        have hml := HBL.out rs.length hpos hk
        generalize bestK rs rs.length = m at *
        go_wp2
        go_ret2
        exact ⟨ret2_end HF.out, (by repeat (first | (with_reducible assumption) | (with_reducible exact Below.refl _ _) | (with_reducible refine Below.drew ?_) | (with_reducible refine blw_al ?_ _) | (with_reducible refine blw_stp (by with_reducible assumption) ?_) | (with_reducible refine blw_set ?_ (by dsimp only; omega) _)))⟩

set_option maxHeartbeats 800000 in
theorem sLongestRide_any (v : Value) (rs : List Rid) (w : World) (hr : RdRid w v rs) (hn : rs.length ≤ 1048576) :
    Calls Try.prog 19 #[v] w fun e w' => e = .returned (.tuple #[.int .i64 (longR rs).1, .int .i64 (longR rs).2]) ∧ Below w.heap.size w w' := by
  obtain ⟨a, c, rfl, hr2⟩ := hr.shape
  have HR := Lib.hid hr2
  clear hr2 hr
  cases hA : areR rs
  · have HA := Lib.hid hA
    clear hA
    go_enter Try.func19, Try.ntmps19
    go_wp2_with fail
    (with_reducible refine (sAreRides_any _ rs _ HR.out hn).mono ?_)
    rintro e w1 ⟨rfl, hb1⟩
    rw [HA.out]
    go_wp2
    go_ret2
    exact ⟨ret2_end (by unfold longR; rw [if_neg (by rw [HA.out]; simp)]), hb1⟩
  · have HA := Lib.hid hA
    have hn40 := (areR_at hA).1
    clear hA
    by_cases hz : rs.length = 0
    · have hx : rs = [] := List.length_eq_zero_iff.1 hz
      subst hx
      have HR0 : Hid (RdRid w (.slice a 0 c) []) := HR.out
      go_enter Try.func19, Try.ntmps19
      go_wp2_with fail
      (with_reducible refine (sAreRides_any _ [] _ HR0.out (by simp)).mono ?_)
      rintro e w1 ⟨rfl, hb1⟩
      rw [HA.out]
      go_wp2
      go_ret2
      exact ⟨ret2_end rfl, hb1⟩
    have hpos : 0 < rs.length := by omega
    have hne : ((rs.length : Int) == 0) = false := by rw [beq_eq_false_iff_ne]; omega
    clear hz
    go_enter Try.func19, Try.ntmps19
    go_wp2_with fail
    (with_reducible refine (sAreRides_any _ rs _ HR.out hn).mono ?_)
    rintro e w1 ⟨rfl, hb1⟩
    rw [HA.out]
    have HC := Lib.hid (HR.out.below hb1).at
    have HAT := Lib.hid (areR_at HA.out).2
    have HBL := Lib.hid (bestK_lt rs)
    go_wp2
    go_loopw [4, 5] (fun q i wr => ∃ k : Nat, k ≤ rs.length ∧ i = .int .i64 k ∧ q = .int .i64 (bestK rs k : Nat) ∧ Below w1.heap.size w1 wr) (fun _ i _ => rs.length - (intOf i).toNat)
    case atStart => exact ⟨0, Nat.zero_le _, rfl, rfl, Below.refl _ _⟩
    case round =>
      obtain ⟨k, hk, rfl, rfl, hbw⟩ := hrel
      by_cases hlt : k < rs.length
      · skip
        obtain ⟨b, o, rfl, h0, h1, h2⟩ := HC.out k hlt
        have hblt : b < w1.heap.size := World.block_lt_of_cell? w1 _ h0
        have hsz := hbw.size
        have hbr : b < wr.heap.size := by omega
        have c0 : wr.cell? ⟨b, o + k * 3, none⟩ = some (.int .i64 (rs.getD k (0, 0, false)).1) := (hbw.cell (p := ⟨b, o + k * 3, none⟩) hblt).trans h0
        have c1 : wr.cell? ⟨b, o + k * 3 + 1, none⟩ = some (.int .i64 (rs.getD k (0, 0, false)).2.1) := (hbw.cell (p := ⟨b, o + k * 3 + 1, none⟩) hblt).trans h1
        have c2 : wr.cell? ⟨b, o + k * 3 + 2, none⟩ = some (.bool (rs.getD k (0, 0, false)).2.2) := (hbw.cell (p := ⟨b, o + k * 3 + 2, none⟩) hblt).trans h2
        have hml := HBL.out k hpos hk
        have E1 : Hid (bestK rs (k + 1) = if (rs.getD (bestK rs k) (0, 0, false)).2.1 < (rs.getD k (0, 0, false)).2.1 then k else bestK rs k) := rfl
        generalize bestK rs k = m at *
        obtain ⟨b', o', e, g0, g1, g2⟩ := HC.out m hml
        simp only [Option.some.injEq, Addr.mk.injEq] at e
        obtain ⟨rfl, rfl, -⟩ := e
        have cm : wr.cell? ⟨b, o + m * 3 + 1, none⟩ = some (.int .i64 (rs.getD m (0, 0, false)).2.1) := (hbw.cell (p := ⟨b, o + m * 3 + 1, none⟩) hblt).trans g1
        have hlt' : (k : Int) < (rs.length : Int) := by omega
        have hk0 : (0 : Int) ≤ (k : Int) := by omega
        have hmlt' : (m : Int) < (rs.length : Int) := by omega
        have hm0 : (0 : Int) ≤ (m : Int) := by omega
        generalize (rs.getD k (0, 0, false)) = x at *
        obtain ⟨d, t, wt⟩ := x
        generalize (rs.getD m (0, 0, false)) = y at *
        obtain ⟨dm, tm, wm⟩ := y
        simp only at c0 c1 c2 cm
        clear h0 h1 h2 g0 g1 g2
        by_cases hg : tm < t
        · have hd : decide (tm < t) = true := by simpa using hg
          have E2 : Hid (bestK rs (k + 1) = k) := by show _ = _; rw [E1.out]; exact if_pos hg
          clear E1
          go_wp2
          go_quiet (fail)
          go_wp2
          go_roundw
          case rel => exact ⟨k + 1, by omega, by go_num, by rw [E2.out], (by repeat (first | (with_reducible refine blw_drewN ?_ _) | (with_reducible assumption) | (with_reducible exact Below.refl _ _) | (with_reducible refine Below.drew ?_) | (with_reducible refine blw_al ?_ _) | (with_reducible refine blw_stp (by with_reducible assumption) ?_) | (with_reducible refine blw_set ?_ (by dsimp only; omega) _)))⟩
          case measure => simp [intOf]; omega
        · have hd : decide (tm < t) = false := by simpa using hg
          have E2 : Hid (bestK rs (k + 1) = m) := by show _ = _; rw [E1.out]; exact if_neg hg
          clear E1
          go_wp2
          go_quiet (fail)
          go_wp2
          go_roundw
          case rel => exact ⟨k + 1, by omega, by go_num, by rw [E2.out], (by repeat (first | (with_reducible refine blw_drewN ?_ _) | (with_reducible assumption) | (with_reducible exact Below.refl _ _) | (with_reducible refine Below.drew ?_) | (with_reducible refine blw_al ?_ _) | (with_reducible refine blw_stp (by with_reducible assumption) ?_) | (with_reducible refine blw_set ?_ (by dsimp only; omega) _)))⟩
          case measure => simp [intOf]; omega
      · obtain rfl : k = rs.length := by omega
        have HF : Hid (longR rs = ((bestK rs rs.length : Int), 0)) := by
          show _ = _
          unfold longR; rw [if_pos HA.out, if_neg (by omega)]
        have hml := HBL.out rs.length hpos hk
        generalize bestK rs rs.length = m at *
        go_wp2
        go_ret2
        exact ⟨ret2_end HF.out, (by repeat (first | (with_reducible assumption) | (with_reducible exact Below.refl _ _) | (with_reducible refine Below.drew ?_) | (with_reducible refine blw_al ?_ _) | (with_reducible refine blw_stp (by with_reducible assumption) ?_) | (with_reducible refine blw_set ?_ (by dsimp only; omega) _)))⟩

end Go.Proofs.Ythfpikpknojffaa
