/- Contracts of AreRides, of the program and of the reference. -/
import Derived.Test.YthfpikpknojffaaRidB
set_option linter.unusedSimpArgs false
set_option linter.unusedVariables false
namespace Go.Proofs.Ythfpikpknojffaa
open Go.RowKit

theorem quiet_eq {P : Program} {f : FuncId} {args : Array Value} {w : World} {n : Nat} {v : Value} (h : Calls P f args (w.drewN n) fun e w' => e = .returned v ∧ w.drewN n = w') :
    Calls P f args (w.drewN n) fun e w'' => e = .returned v ∧ ∃ m, w'' = w.drewN m := h.mono fun _ _ ⟨he, hm⟩ => ⟨he, n, hm.symm⟩
theorem blw_drewN {B : Nat} {a w : World} (h : Below B a w) (n : Nat) : Below B a (w.drewN n) := ⟨h.os, h.tape, h.output, h.size, h.block⟩
abbrev Rid : Type := Int × Int × Bool
def okAt (rs : List Rid) (k : Nat) : Bool :=
  inR (rs.getD k (0, 0, false)).1 0 100000 && (inR (rs.getD k (0, 0, false)).2.1 1 10000 && (decide (k = 0) || decide ((rs.getD (k - 1) (0, 0, false)).1 ≤ (rs.getD k (0, 0, false)).1)))
def areR (rs : List Rid) : Bool := decide (rs.length ≤ 40) && (List.range rs.length).all (okAt rs)
theorem all_range_succ {p : Nat → Bool} {k : Nat} (h : (List.range k).all p = true) (hp : p k = true) : (List.range (k + 1)).all p = true := by
  rw [List.range_succ, List.all_append, h]; simp [hp]
theorem all_range_no {p : Nat → Bool} {k n : Nat} (hk : k < n) (hp : p k = false) : (List.range n).all p = false := by
  rw [List.all_eq_false]
  exact ⟨k, List.mem_range.2 hk, by simp [hp]⟩
theorem areR_no {rs : List Rid} {k : Nat} (hk : k < rs.length) (h : okAt rs k = false) : areR rs = false := by
  unfold areR; rw [all_range_no hk h]; simp

set_option maxHeartbeats 800000 in
theorem AreRides_any (v : Value) (rs : List Rid) (w : World) (hr : RdRid w v rs) (hn : rs.length ≤ 1048576) :
    Calls Try.prog 17 #[v] w fun e w' => e = .returned (.bool (areR rs)) ∧ Below w.heap.size w w' := by
  obtain ⟨a, c, rfl, hcell⟩ := hr
  have HC := Lib.hid hcell
  clear hcell
  by_cases h40 : rs.length ≤ 40
  rotate_left
  · have h40' : 40 < rs.length := by omega
    go_enter Try.func17, Try.ntmps17
    go_wp2
    go_ret
    exact ⟨ret_bool (by simp [areR]; omega), Below.refl _ _⟩
  go_enter Try.func17, Try.ntmps17
  go_wp2
  go_loopw [10] (fun i wr => ∃ k : Nat, k ≤ rs.length ∧ i = .int .i64 k ∧ Below w.heap.size w wr ∧ Hid ((List.range k).all (okAt rs) = true)) (fun i _ => rs.length - (intOf i).toNat)
  case atStart => exact ⟨0, Nat.zero_le _, rfl, Below.refl _ _, rfl⟩
  case round =>
    obtain ⟨k, hk, rfl, hbw, hall⟩ := hrel
    by_cases hlt : k < rs.length
    · obtain ⟨b, o, rfl, h0, h1, h2⟩ := HC.out k hlt
      have hblt : b < w.heap.size := World.block_lt_of_cell? w _ h0
      have hsz := hbw.size
      have hbr : b < wr.heap.size := by omega
      have c0 : wr.cell? ⟨b, o + k * 3, none⟩ = some (.int .i64 (rs.getD k (0, 0, false)).1) := (hbw.cell (p := ⟨b, o + k * 3, none⟩) hblt).trans h0
      have c1 : wr.cell? ⟨b, o + k * 3 + 1, none⟩ = some (.int .i64 (rs.getD k (0, 0, false)).2.1) := (hbw.cell (p := ⟨b, o + k * 3 + 1, none⟩) hblt).trans h1
      have c2 : wr.cell? ⟨b, o + k * 3 + 2, none⟩ = some (.bool (rs.getD k (0, 0, false)).2.2) := (hbw.cell (p := ⟨b, o + k * 3 + 2, none⟩) hblt).trans h2
      have hcp : 0 < k → wr.cell? ⟨b, o + (k - 1) * 3, none⟩ = some (.int .i64 (rs.getD (k - 1) (0, 0, false)).1) := by
        intro hp
        obtain ⟨b', o', e, g0, -, -⟩ := HC.out (k - 1) (by omega)
        simp only [Option.some.injEq, Addr.mk.injEq] at e
        obtain ⟨rfl, rfl, -⟩ := e
        exact (hbw.cell (p := ⟨b, o + (k - 1) * 3, none⟩) hblt).trans g0
      have HCP := Lib.hid hcp
      clear hcp
      have hlt' : (k : Int) < (rs.length : Int) := by omega
      have hk0 : (0 : Int) ≤ (k : Int) := by omega
      have HN := Lib.hid (areR_no hlt)
      have HY := Lib.hid (fun hp => all_range_succ (p := okAt rs) (k := k) hall.out hp)
      have HO : Hid (okAt rs k = (inR (rs.getD k (0, 0, false)).1 0 100000 && (inR (rs.getD k (0, 0, false)).2.1 1 10000 && (decide (k = 0) || decide ((rs.getD (k - 1) (0, 0, false)).1 ≤ (rs.getD k (0, 0, false)).1))))) := rfl
      clear h0 h1 h2
      generalize (rs.getD k (0, 0, false)) = x at *
      obtain ⟨d, t, wt⟩ := x
      simp only at c0 c1 c2
      cases hA : inR d 0 100000
      · have HF := Lib.hid (HN.out (by rw [HO.out]; simp only [hA, Bool.false_and]))
        clear HO HY HN
        go_wp2
        go_quiet ((go_at_call 48; exact quiet_eq (within_any _ _ _ _)))
        go_wp2
        go_ret
        exact ⟨ret_bool HF.out.symm, (by repeat (first | (with_reducible refine blw_drewN ?_ _) | (with_reducible assumption) | (with_reducible exact Below.refl _ _) | (with_reducible refine Below.drew ?_) | (with_reducible refine blw_al ?_ _) | (with_reducible refine blw_stp (by with_reducible assumption) ?_) | (with_reducible refine blw_set ?_ (by dsimp only; omega) _)))⟩
      cases hB : inR t 1 10000
      · have HF := Lib.hid (HN.out (by rw [HO.out]; simp only [hA, hB, Bool.false_and, Bool.and_false]))
        clear HO HY HN
        go_wp2
        go_quiet ((go_at_call 48; exact quiet_eq (within_any _ _ _ _)))
        go_wp2
        go_ret
        exact ⟨ret_bool HF.out.symm, (by repeat (first | (with_reducible refine blw_drewN ?_ _) | (with_reducible assumption) | (with_reducible exact Below.refl _ _) | (with_reducible refine Below.drew ?_) | (with_reducible refine blw_al ?_ _) | (with_reducible refine blw_stp (by with_reducible assumption) ?_) | (with_reducible refine blw_set ?_ (by dsimp only; omega) _)))⟩
      by_cases hz : k = 0
      · have HF := Lib.hid (HY.out (by rw [HO.out]; simp [hA, hB, hz]))
        subst hz
        have hd : decide ((0 : Int) < 0) = false := by decide
        simp only [Nat.zero_mul, Nat.add_zero] at c0 c1 c2
        clear HO HY HN
        go_wp2
        go_quiet ((go_at_call 48; exact quiet_eq (within_any _ _ _ _)))
        go_wp2
        go_roundw
        case rel => exact ⟨0 + 1, by omega, by go_num, (by repeat (first | (with_reducible refine blw_drewN ?_ _) | (with_reducible assumption) | (with_reducible exact Below.refl _ _) | (with_reducible refine Below.drew ?_) | (with_reducible refine blw_al ?_ _) | (with_reducible refine blw_stp (by with_reducible assumption) ?_) | (with_reducible refine blw_set ?_ (by dsimp only; omega) _))), HF⟩
        case measure => simp [intOf]; omega
      · have hpos : 0 < k := by omega
        have hpos' : (0 : Int) < (k : Int) := by omega
        have hd : decide ((0 : Int) < (k : Int)) = true := by simpa using hpos'
        have cp := HCP.out hpos
        generalize (rs.getD (k - 1) (0, 0, false)) = y at *
        obtain ⟨dy, ty, wy⟩ := y
        simp only at cp
        have hkm : IntKind.i64.wrap ((k : Int) - 1) = (k : Int) - 1 := IntWalk.i64_in _ (by omega)
        have hkn : ((k : Int) - 1).toNat = k - 1 := by omega
        have hk1 : (0 : Int) ≤ (k : Int) - 1 := by omega
        have hk2 : (k : Int) - 1 < (rs.length : Int) := by omega
        by_cases hle : dy ≤ d
        · have HF := Lib.hid (HY.out (by rw [HO.out]; simp [hA, hB, hle]))
          have hng : decide (d < dy) = false := by simpa using hle
          clear HO HY HN hz
          go_wp2
          go_quiet ((go_at_call 48; exact quiet_eq (within_any _ _ _ _)))
          go_wp2
          go_roundw
          case rel => exact ⟨k + 1, by omega, by go_num, (by repeat (first | (with_reducible refine blw_drewN ?_ _) | (with_reducible assumption) | (with_reducible exact Below.refl _ _) | (with_reducible refine Below.drew ?_) | (with_reducible refine blw_al ?_ _) | (with_reducible refine blw_stp (by with_reducible assumption) ?_) | (with_reducible refine blw_set ?_ (by dsimp only; omega) _))), HF⟩
          case measure => simp [intOf]; omega
        · have HF := Lib.hid (HN.out (by rw [HO.out]; simp [hA, hB, hz, hle]))
          have hng : decide (d < dy) = true := by simp; omega
          clear HO HY HN hz
          go_wp2
          go_quiet ((go_at_call 48; exact quiet_eq (within_any _ _ _ _)))
          go_wp2
          go_ret
          exact ⟨ret_bool HF.out.symm, (by repeat (first | (with_reducible refine blw_drewN ?_ _) | (with_reducible assumption) | (with_reducible exact Below.refl _ _) | (with_reducible refine Below.drew ?_) | (with_reducible refine blw_al ?_ _) | (with_reducible refine blw_stp (by with_reducible assumption) ?_) | (with_reducible refine blw_set ?_ (by dsimp only; omega) _)))⟩
    · obtain rfl : k = rs.length := by omega
      have HF : Hid (areR rs = true) := by
        show _ = _
        unfold areR; rw [hall.out]; simpa using h40
      go_wp2
      go_ret
      exact ⟨ret_bool HF.out.symm, hbw⟩

set_option maxHeartbeats 800000 in
theorem sAreRides_any (v : Value) (rs : List Rid) (w : World) (hr : RdRid w v rs) (hn : rs.length ≤ 1048576) :
    Calls Try.prog 15 #[v] w fun e w' => e = .returned (.bool (areR rs)) ∧ Below w.heap.size w w' := by
  obtain ⟨a, c, rfl, hcell⟩ := hr
  have HC := Lib.hid hcell
  clear hcell
  go_enter Try.func15, Try.ntmps15
  go_wp2
  go_loopw [3] (fun i wr => ∃ k : Nat, k ≤ rs.length ∧ i = .int .i64 k ∧ Below w.heap.size w wr ∧ Hid ((List.range k).all (okAt rs) = true)) (fun i _ => rs.length - (intOf i).toNat)
  case atStart => exact ⟨0, Nat.zero_le _, rfl, Below.refl _ _, rfl⟩
  case round =>
    obtain ⟨k, hk, rfl, hbw, hall⟩ := hrel
    by_cases hlt : k < rs.length
    · obtain ⟨b, o, rfl, h0, h1, h2⟩ := HC.out k hlt
      have hblt : b < w.heap.size := World.block_lt_of_cell? w _ h0
      have hsz := hbw.size
      have hbr : b < wr.heap.size := by omega
      have c0 : wr.cell? ⟨b, o + k * 3, none⟩ = some (.int .i64 (rs.getD k (0, 0, false)).1) := (hbw.cell (p := ⟨b, o + k * 3, none⟩) hblt).trans h0
      have c1 : wr.cell? ⟨b, o + k * 3 + 1, none⟩ = some (.int .i64 (rs.getD k (0, 0, false)).2.1) := (hbw.cell (p := ⟨b, o + k * 3 + 1, none⟩) hblt).trans h1
      have c2 : wr.cell? ⟨b, o + k * 3 + 2, none⟩ = some (.bool (rs.getD k (0, 0, false)).2.2) := (hbw.cell (p := ⟨b, o + k * 3 + 2, none⟩) hblt).trans h2
      have hcp : 0 < k → wr.cell? ⟨b, o + (k - 1) * 3, none⟩ = some (.int .i64 (rs.getD (k - 1) (0, 0, false)).1) := by
        intro hp
        obtain ⟨b', o', e, g0, -, -⟩ := HC.out (k - 1) (by omega)
        simp only [Option.some.injEq, Addr.mk.injEq] at e
        obtain ⟨rfl, rfl, -⟩ := e
        exact (hbw.cell (p := ⟨b, o + (k - 1) * 3, none⟩) hblt).trans g0
      have HCP := Lib.hid hcp
      clear hcp
      have hlt' : (k : Int) < (rs.length : Int) := by omega
      have hk0 : (0 : Int) ≤ (k : Int) := by omega
      have HN := Lib.hid (areR_no hlt)
      have HY := Lib.hid (fun hp => all_range_succ (p := okAt rs) (k := k) hall.out hp)
      have HO : Hid (okAt rs k = (inR (rs.getD k (0, 0, false)).1 0 100000 && (inR (rs.getD k (0, 0, false)).2.1 1 10000 && (decide (k = 0) || decide ((rs.getD (k - 1) (0, 0, false)).1 ≤ (rs.getD k (0, 0, false)).1))))) := rfl
      clear h0 h1 h2
      generalize (rs.getD k (0, 0, false)) = x at *
      obtain ⟨d, t, wt⟩ := x
      simp only at c0 c1 c2
      cases hA : inR d 0 100000
      · have HF := Lib.hid (HN.out (by rw [HO.out]; simp only [hA, Bool.false_and]))
        clear HO HY HN
        go_wp2
        go_quiet ((go_at_call 47; exact quiet_eq (l01In_any _ _ _ _)))
        go_wp2
        go_ret
        exact ⟨ret_bool HF.out.symm, (by repeat (first | (with_reducible refine blw_drewN ?_ _) | (with_reducible assumption) | (with_reducible exact Below.refl _ _) | (with_reducible refine Below.drew ?_) | (with_reducible refine blw_al ?_ _) | (with_reducible refine blw_stp (by with_reducible assumption) ?_) | (with_reducible refine blw_set ?_ (by dsimp only; omega) _)))⟩
      cases hB : inR t 1 10000
      · have HF := Lib.hid (HN.out (by rw [HO.out]; simp only [hA, hB, Bool.false_and, Bool.and_false]))
        clear HO HY HN
        go_wp2
        go_quiet ((go_at_call 47; exact quiet_eq (l01In_any _ _ _ _)))
        go_wp2
        go_ret
        exact ⟨ret_bool HF.out.symm, (by repeat (first | (with_reducible refine blw_drewN ?_ _) | (with_reducible assumption) | (with_reducible exact Below.refl _ _) | (with_reducible refine Below.drew ?_) | (with_reducible refine blw_al ?_ _) | (with_reducible refine blw_stp (by with_reducible assumption) ?_) | (with_reducible refine blw_set ?_ (by dsimp only; omega) _)))⟩
      by_cases hz : k = 0
      · have HF := Lib.hid (HY.out (by rw [HO.out]; simp [hA, hB, hz]))
        subst hz
        have hd : decide ((0 : Int) < 0) = false := by decide
        simp only [Nat.zero_mul, Nat.add_zero] at c0 c1 c2
        clear HO HY HN
        go_wp2
        go_quiet ((go_at_call 47; exact quiet_eq (l01In_any _ _ _ _)))
        go_wp2
        go_roundw
        case rel => exact ⟨0 + 1, by omega, by go_num, (by repeat (first | (with_reducible refine blw_drewN ?_ _) | (with_reducible assumption) | (with_reducible exact Below.refl _ _) | (with_reducible refine Below.drew ?_) | (with_reducible refine blw_al ?_ _) | (with_reducible refine blw_stp (by with_reducible assumption) ?_) | (with_reducible refine blw_set ?_ (by dsimp only; omega) _))), HF⟩
        case measure => simp [intOf]; omega
      · have hpos : 0 < k := by omega
        have hpos' : (0 : Int) < (k : Int) := by omega
        have hd : decide ((0 : Int) < (k : Int)) = true := by simpa using hpos'
        have cp := HCP.out hpos
        generalize (rs.getD (k - 1) (0, 0, false)) = y at *
        obtain ⟨dy, ty, wy⟩ := y
        simp only at cp
        have hkm : IntKind.i64.wrap ((k : Int) - 1) = (k : Int) - 1 := IntWalk.i64_in _ (by omega)
        have hkn : ((k : Int) - 1).toNat = k - 1 := by omega
        have hk1 : (0 : Int) ≤ (k : Int) - 1 := by omega
        have hk2 : (k : Int) - 1 < (rs.length : Int) := by omega
        by_cases hle : dy ≤ d
        · have HF := Lib.hid (HY.out (by rw [HO.out]; simp [hA, hB, hle]))
          have hng : decide (d < dy) = false := by simpa using hle
          clear HO HY HN hz
          go_wp2
          go_quiet ((go_at_call 47; exact quiet_eq (l01In_any _ _ _ _)))
          go_wp2
          go_roundw
          case rel => exact ⟨k + 1, by omega, by go_num, (by repeat (first | (with_reducible refine blw_drewN ?_ _) | (with_reducible assumption) | (with_reducible exact Below.refl _ _) | (with_reducible refine Below.drew ?_) | (with_reducible refine blw_al ?_ _) | (with_reducible refine blw_stp (by with_reducible assumption) ?_) | (with_reducible refine blw_set ?_ (by dsimp only; omega) _))), HF⟩
          case measure => simp [intOf]; omega
        · have HF := Lib.hid (HN.out (by rw [HO.out]; simp [hA, hB, hz, hle]))
          have hng : decide (d < dy) = true := by simp; omega
          clear HO HY HN hz
          go_wp2
          go_quiet ((go_at_call 47; exact quiet_eq (l01In_any _ _ _ _)))
          go_wp2
          go_ret
          exact ⟨ret_bool HF.out.symm, (by repeat (first | (with_reducible refine blw_drewN ?_ _) | (with_reducible assumption) | (with_reducible exact Below.refl _ _) | (with_reducible refine Below.drew ?_) | (with_reducible refine blw_al ?_ _) | (with_reducible refine blw_stp (by with_reducible assumption) ?_) | (with_reducible refine blw_set ?_ (by dsimp only; omega) _)))⟩
    · obtain rfl : k = rs.length := by omega
      by_cases h40 : rs.length ≤ 40
      · have HF : Hid (areR rs = true) := by
          show _ = _
          unfold areR; rw [hall.out]; simpa using h40
        go_wp2
        go_ret
        exact ⟨ret_bool (by rw [HF.out]; simp; omega), hbw⟩
      · have HF : Hid (areR rs = false) := by
          show _ = _
          unfold areR; rw [hall.out]; simpa using h40
        have h40' : 40 < rs.length := by omega
        go_wp2
        go_ret
        exact ⟨ret_bool (by rw [HF.out]; simp; omega), hbw⟩

end Go.Proofs.Ythfpikpknojffaa
