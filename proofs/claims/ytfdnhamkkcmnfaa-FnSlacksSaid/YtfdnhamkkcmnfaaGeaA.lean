/- Contracts of areTeeth, l09Teeth and IsTrain, of the program and of the reference. -/
import Derived.Test.YtfdnhamkkcmnfaaGearP
import Derived.Deep.QuietTactic
import Derived.BigQuiet
import Derived.Deep.RegionHeld3
set_option linter.unusedSimpArgs false
set_option linter.unusedVariables false
namespace Go.Proofs.Ytfdnhamkkcmnfaa
open Go.RowKit

theorem quiet_eqG {P : Program} {f : FuncId} {args : Array Value} {w : World} {n : Nat} {v : Value} (h : Calls P f args (w.drewN n) fun e w' => e = .returned v ∧ w.drewN n = w') :
    Calls P f args (w.drewN n) fun e w'' => e = .returned v ∧ ∃ m, w'' = w.drewN m := h.mono fun _ _ ⟨he, hm⟩ => ⟨he, n, hm.symm⟩
theorem blw_drewN {B : Nat} {a w : World} (h : Below B a w) (n : Nat) : Below B a (w.drewN n) := ⟨h.os, h.tape, h.output, h.size, h.block⟩
theorem teethR_allR {xs : List Int} {most lo hi : Int} (h : allR xs lo hi = false) : teethR xs most lo hi = false := by
  cases ht : teethR xs most lo hi
  · rfl
  · exfalso
    obtain ⟨_, _, h3⟩ := teethR_at ht
    unfold allR at h
    rw [List.all_eq_false] at h
    obtain ⟨x, hx, hn⟩ := h
    obtain ⟨k, hk, rfl⟩ := List.getElem_of_mem hx
    have := h3 k hk
    simp only [List.getD_eq_getElem?_getD, List.getElem?_eq_getElem hk, Option.getD_some] at this
    exact hn (inR_iff.2 ⟨this.1, this.2.1⟩)
theorem allR_at {xs : List Int} {lo hi : Int} (h : allR xs lo hi = true) {k : Nat} (hk : k < xs.length) : inR (xs.getD k 0) lo hi = true := by
  unfold allR at h
  rw [List.all_eq_true] at h
  have := h xs[k] (List.getElem_mem hk)
  simpa [List.getD_eq_getElem?_getD, hk] using this
theorem okT_0 {xs : List Int} {lo hi : Int} (h : allR xs lo hi = true) (hp : 0 < xs.length) : (List.range 1).all (okT xs lo hi) = true := by
  have := allR_at h hp
  simp [okT, List.range_succ, this]
  simpa [List.getD_eq_getElem?_getD] using this

set_option maxHeartbeats 800000 in
theorem areTeeth_any (v : Value) (xs : List Int) (most lo hi : Int) (w : World) (hr : RdI w v xs) (hn : xs.length ≤ 1048576) :
    Calls Try.prog 95 #[v, .int .i64 most, .int .i64 lo, .int .i64 hi] w fun e w' => e = .returned (.bool (teethR xs most lo hi)) ∧ Below w.heap.size w w' := by
  have HR := Lib.hid hr
  obtain ⟨a, c, rfl, hcell⟩ := hr
  have HC := Lib.hid hcell
  clear hcell
  by_cases h1 : 1 ≤ xs.length
  rotate_left
  · have h1' : xs.length < 1 := by omega
    go_enter Try.func95, Try.ntmps95
    go_wp2
    go_ret
    exact ⟨ret_bool (teethR_len (by omega)).symm, Below.refl _ _⟩
  by_cases h2 : (xs.length : Int) ≤ most
  rotate_left
  · have h2' : most < (xs.length : Int) := by omega
    go_enter Try.func95, Try.ntmps95
    go_wp2
    go_ret
    exact ⟨ret_bool (teethR_len (by omega)).symm, Below.refl _ _⟩
  cases hA : allR xs lo hi
  · have HF := Lib.hid (teethR_allR (most := most) hA)
    have HA := Lib.hid hA
    clear hA
    go_enter Try.func95, Try.ntmps95
    go_wp2_with fail
    (with_reducible refine (allWithin_any _ xs _ _ _ HR.out hn).mono ?_)
    rintro e w1 ⟨rfl, rfl⟩
    rw [HA.out]
    go_wp2
    go_ret
    exact ⟨ret_bool HF.out.symm, Below.refl _ _⟩
  · have HA := Lib.hid hA
    clear hA
    go_enter Try.func95, Try.ntmps95
    go_wp2_with fail
    (with_reducible refine (allWithin_any _ xs _ _ _ HR.out hn).mono ?_)
    rintro e w1 ⟨rfl, rfl⟩
    rw [HA.out]
    go_wp2
    go_loopw [9] (fun i wr => ∃ k : Nat, 1 ≤ k ∧ k ≤ xs.length ∧ i = .int .i64 k ∧ Below w.heap.size w wr ∧ Hid ((List.range k).all (okT xs lo hi) = true)) (fun i _ => xs.length - (intOf i).toNat)
    case atStart => exact ⟨1, Nat.le_refl _, h1, rfl, Below.refl _ _, okT_0 HA.out h1⟩
    case round =>
      obtain ⟨k, hk1', hk, rfl, hbw, hall⟩ := hrel
      by_cases hlt : k < xs.length
      · skip
        obtain ⟨b, o, rfl, c0⟩ := HC.out k hlt
        have hcp : 0 < k → w.cell? ⟨b, o + (k - 1), none⟩ = some (.int .i64 (xs.getD (k - 1) 0)) := by
          intro hp
          obtain ⟨b', o', e, g0⟩ := HC.out (k - 1) (by omega)
          simp only [Option.some.injEq, Addr.mk.injEq] at e
          obtain ⟨rfl, rfl, -⟩ := e
          exact g0
        have HCP := Lib.hid hcp
        clear hcp
        have hlt' : (k : Int) < (xs.length : Int) := by omega
        have hk0 : (0 : Int) ≤ (k : Int) := by omega
        have HN := Lib.hid (fun h => teethR_no (most := most) (lo := lo) (hi := hi) hlt h)
        have HY := Lib.hid (fun hp => allr_succ (p := okT xs lo hi) (k := k) hall.out hp)
        have HO : Hid (okT xs lo hi k = (inR (xs.getD k 0) lo hi && (decide (k = 0) || decide (xs.getD (k - 1) 0 < xs.getD k 0)))) := rfl
        have hblt : b < w.heap.size := World.block_lt_of_cell? w _ c0
        have g0 : wr.cell? ⟨b, o + k, none⟩ = some (.int .i64 (xs.getD k 0)) := (hbw.cell (p := ⟨b, o + k, none⟩) hblt).trans c0
        have g1 : wr.cell? ⟨b, o + (k - 1), none⟩ = some (.int .i64 (xs.getD (k - 1) 0)) := (hbw.cell (p := ⟨b, o + (k - 1), none⟩) hblt).trans (HCP.out (by omega))
        have HI := Lib.hid (allR_at HA.out hlt)
        have hkm : IntKind.i64.wrap ((k : Int) - 1) = (k : Int) - 1 := IntWalk.i64_in _ (by omega)
        have hkn : ((k : Int) - 1).toNat = k - 1 := by omega
        have hk1 : (0 : Int) ≤ (k : Int) - 1 := by omega
        have hk2 : (k : Int) - 1 < (xs.length : Int) := by omega
        clear c0
        generalize xs.getD k 0 = x at *
        generalize xs.getD (k - 1) 0 = y at *
        by_cases hxy : y < x
        · have HF := Lib.hid (HY.out (by rw [HO.out, HI.out]; simp [hxy]))
          have hd : decide (x ≤ y) = false := by simp; omega
          clear HO HY HN
          go_wp2
          go_quiet (fail)
          go_wp2
          go_roundw
          case rel => exact ⟨k + 1, by omega, by omega, by go_num, (by repeat (first | (with_reducible refine blw_drewN ?_ _) | (with_reducible assumption) | (with_reducible exact Below.refl _ _) | (with_reducible refine Below.drew ?_) | (with_reducible refine blw_al ?_ _) | (with_reducible refine blw_stp (by with_reducible assumption) ?_) | (with_reducible refine blw_set ?_ (by dsimp only; omega) _))), HF⟩
          case measure => simp [intOf]; omega
        · have HF := Lib.hid (HN.out (by rw [HO.out, HI.out]; simp [hxy]; omega))
          have hd : decide (x ≤ y) = true := by simp; omega
          clear HO HY HN
          go_wp2
          go_quiet (fail)
          go_wp2
          go_ret
          exact ⟨ret_bool HF.out.symm, (by repeat (first | (with_reducible refine blw_drewN ?_ _) | (with_reducible assumption) | (with_reducible exact Below.refl _ _) | (with_reducible refine Below.drew ?_) | (with_reducible refine blw_al ?_ _) | (with_reducible refine blw_stp (by with_reducible assumption) ?_) | (with_reducible refine blw_set ?_ (by dsimp only; omega) _)))⟩
      · obtain rfl : k = xs.length := by omega
        have HF := Lib.hid (teethR_yes h1 h2 hall.out)
        go_wp2
        go_ret
        exact ⟨ret_bool HF.out.symm, hbw⟩

set_option maxHeartbeats 800000 in
theorem l09Teeth_any (v : Value) (xs : List Int) (most lo hi : Int) (w : World) (hr : RdI w v xs) (hn : xs.length ≤ 1048576) :
    Calls Try.prog 94 #[v, .int .i64 most, .int .i64 lo, .int .i64 hi] w fun e w' => e = .returned (.bool (teethR xs most lo hi)) ∧ Below w.heap.size w w' := by
  obtain ⟨a, c, rfl, hcell⟩ := hr
  have HC := Lib.hid hcell
  clear hcell
  go_enter Try.func94, Try.ntmps94
  go_wp2
  go_loopw [9] (fun i wr => ∃ k : Nat, k ≤ xs.length ∧ i = .int .i64 k ∧ Below w.heap.size w wr ∧ Hid ((List.range k).all (okT xs lo hi) = true)) (fun i _ => xs.length - (intOf i).toNat)
  case atStart => exact ⟨0, Nat.zero_le _, rfl, Below.refl _ _, rfl⟩
  case round =>
    obtain ⟨k, hk, rfl, hbw, hall⟩ := hrel
    by_cases hlt : k < xs.length
    · skip
      obtain ⟨b, o, rfl, c0⟩ := HC.out k hlt
      have hcp : 0 < k → w.cell? ⟨b, o + (k - 1), none⟩ = some (.int .i64 (xs.getD (k - 1) 0)) := by
        intro hp
        obtain ⟨b', o', e, g0⟩ := HC.out (k - 1) (by omega)
        simp only [Option.some.injEq, Addr.mk.injEq] at e
        obtain ⟨rfl, rfl, -⟩ := e
        exact g0
      have HCP := Lib.hid hcp
      clear hcp
      have hlt' : (k : Int) < (xs.length : Int) := by omega
      have hk0 : (0 : Int) ≤ (k : Int) := by omega
      have HN := Lib.hid (fun h => teethR_no (most := most) (lo := lo) (hi := hi) hlt h)
      have HY := Lib.hid (fun hp => allr_succ (p := okT xs lo hi) (k := k) hall.out hp)
      have HO : Hid (okT xs lo hi k = (inR (xs.getD k 0) lo hi && (decide (k = 0) || decide (xs.getD (k - 1) 0 < xs.getD k 0)))) := rfl
      have hblt : b < w.heap.size := World.block_lt_of_cell? w _ c0
      have g0 : wr.cell? ⟨b, o + k, none⟩ = some (.int .i64 (xs.getD k 0)) := (hbw.cell (p := ⟨b, o + k, none⟩) hblt).trans c0
      have HGP := Lib.hid (fun hp => (hbw.cell (p := ⟨b, o + (k - 1), none⟩) hblt).trans (HCP.out hp))
      clear c0 HCP
      generalize xs.getD k 0 = x at *
      cases hI : inR x lo hi
      · have HF := Lib.hid (HN.out (by rw [HO.out, hI]; rfl))
        clear HO HY HN
        go_wp2
        go_quiet ((go_at_call 70; exact quiet_eqG (l01In_any _ _ _ _)))
        go_wp2
        go_ret
        exact ⟨ret_bool HF.out.symm, (by repeat (first | (with_reducible refine blw_drewN ?_ _) | (with_reducible assumption) | (with_reducible exact Below.refl _ _) | (with_reducible refine Below.drew ?_) | (with_reducible refine blw_al ?_ _) | (with_reducible refine blw_stp (by with_reducible assumption) ?_) | (with_reducible refine blw_set ?_ (by dsimp only; omega) _)))⟩
      by_cases hz : k = 0
      · have HF := Lib.hid (HY.out (by rw [HO.out, hI]; simp [hz]))
        subst hz
        have hd : decide ((0 : Int) < 0) = false := by decide
        simp only [Nat.add_zero] at g0
        clear HO HY HN
        go_wp2
        go_quiet ((go_at_call 70; exact quiet_eqG (l01In_any _ _ _ _)))
        go_wp2
        go_roundw
        case rel => exact ⟨0 + 1, by omega, by go_num, (by repeat (first | (with_reducible refine blw_drewN ?_ _) | (with_reducible assumption) | (with_reducible exact Below.refl _ _) | (with_reducible refine Below.drew ?_) | (with_reducible refine blw_al ?_ _) | (with_reducible refine blw_stp (by with_reducible assumption) ?_) | (with_reducible refine blw_set ?_ (by dsimp only; omega) _))), HF⟩
        case measure => simp [intOf]; omega
      · have hpos : 0 < k := by omega
        have hpos' : (0 : Int) < (k : Int) := by omega
        have hpos1 : (1 : Int) ≤ (k : Int) := by omega
        have hd0 : decide ((0 : Int) < (k : Int)) = true := by simpa using hpos'
        have g1 := HGP.out (by omega)
        have hkm : IntKind.i64.wrap ((k : Int) - 1) = (k : Int) - 1 := IntWalk.i64_in _ (by omega)
        have hkn : ((k : Int) - 1).toNat = k - 1 := by omega
        have hk1 : (0 : Int) ≤ (k : Int) - 1 := by omega
        have hk2 : (k : Int) - 1 < (xs.length : Int) := by omega
        generalize xs.getD (k - 1) 0 = y at *
        by_cases hxy : y < x
        · have HF := Lib.hid (HY.out (by rw [HO.out, hI]; simp [hxy]))
          have hd : decide (x ≤ y) = false := by simp; omega
          clear HO HY HN hz
          go_wp2
          go_quiet ((go_at_call 70; exact quiet_eqG (l01In_any _ _ _ _)))
          go_wp2
          go_roundw
          case rel => exact ⟨k + 1, by omega, by go_num, (by repeat (first | (with_reducible refine blw_drewN ?_ _) | (with_reducible assumption) | (with_reducible exact Below.refl _ _) | (with_reducible refine Below.drew ?_) | (with_reducible refine blw_al ?_ _) | (with_reducible refine blw_stp (by with_reducible assumption) ?_) | (with_reducible refine blw_set ?_ (by dsimp only; omega) _))), HF⟩
          case measure => simp [intOf]; omega
        · have HF := Lib.hid (HN.out (by rw [HO.out, hI]; simp [hz, hxy]))
          have hd : decide (x ≤ y) = true := by simp; omega
          clear HO HY HN hz
          go_wp2
          go_quiet ((go_at_call 70; exact quiet_eqG (l01In_any _ _ _ _)))
          go_wp2
          go_ret
          exact ⟨ret_bool HF.out.symm, (by repeat (first | (with_reducible refine blw_drewN ?_ _) | (with_reducible assumption) | (with_reducible exact Below.refl _ _) | (with_reducible refine Below.drew ?_) | (with_reducible refine blw_al ?_ _) | (with_reducible refine blw_stp (by with_reducible assumption) ?_) | (with_reducible refine blw_set ?_ (by dsimp only; omega) _)))⟩
    · obtain rfl : k = xs.length := by omega
      by_cases h1 : 1 ≤ xs.length
      · by_cases h2 : (xs.length : Int) ≤ most
        · have HF := Lib.hid (teethR_yes h1 h2 hall.out)
          go_wp2
          go_ret
          exact ⟨ret_bool (by (rw [HF.out]) <;> (simp <;> omega)), hbw⟩
        · have h2' : most < (xs.length : Int) := by omega
          have HF := Lib.hid (teethR_len (xs := xs) (most := most) (lo := lo) (hi := hi) (by omega))
          go_wp2
          go_ret
          exact ⟨ret_bool (by (rw [HF.out]) <;> (simp <;> omega)), hbw⟩
      · have h1' : xs.length < 1 := by omega
        have HF := Lib.hid (teethR_len (xs := xs) (most := most) (lo := lo) (hi := hi) (by omega))
        go_wp2
        go_ret
        exact ⟨ret_bool (by rw [HF.out]), hbw⟩

set_option maxHeartbeats 800000 in
theorem IsTrain_any (vF vR : Value) (F R : List Int) (rd : Int) (w : World) (hF : RdI w vF F) (hR : RdI w vR R) (hn : F.length ≤ 1048576) (hm : R.length ≤ 1048576) :
    Calls Try.prog 60 #[.agg #[vF, vR, .int .i64 rd]] w fun e w' => e = .returned (.bool (trainR F R rd)) ∧ Below w.heap.size w w' := by
  have HF := Lib.hid hF
  have HRr := Lib.hid hR
  obtain ⟨aF, cF, rfl, -⟩ := hF
  obtain ⟨aR, cR, rfl, -⟩ := hR
  cases hA : teethR F 3 20 60
  · have HA := Lib.hid hA
    clear hA
    go_enter Try.func60, Try.ntmps60
    go_wp2_with fail
    (with_reducible refine (areTeeth_any _ F 3 20 60 _ (HF.out.below ((by repeat (first | (with_reducible assumption) | (with_reducible exact Below.refl _ _) | (with_reducible refine Below.drew ?_) | (with_reducible refine blw_al ?_ _) | (with_reducible refine blw_stp (by with_reducible assumption) ?_) | (with_reducible refine blw_set ?_ (by dsimp only; omega) _))))) hn).mono ?_)
    rintro e w1 ⟨rfl, hb1⟩
    obtain ⟨hc1, hf1⟩ := bcell hb1
    have hz1 := hb1.size
    (try simp only [World.size_alloc] at hz1)
    have hz1' : w.heap.size < w1.heap.size := by omega
    rw [HA.out]
    go_wp2
    go_ret
    exact ⟨ret_bool (by simp [trainR, HA.out]), (by repeat (first | (with_reducible assumption) | (with_reducible exact Below.refl _ _) | (with_reducible refine Below.drew ?_) | (with_reducible refine blw_al ?_ _) | (with_reducible refine blw_stp (by with_reducible assumption) ?_) | (with_reducible refine blw_set ?_ (by dsimp only; omega) _)))⟩
  · have HA := Lib.hid hA
    clear hA
    cases hB : teethR R 12 9 52
    · have HB := Lib.hid hB
      clear hB
      go_enter Try.func60, Try.ntmps60
      go_wp2_with fail
      (with_reducible refine (areTeeth_any _ F 3 20 60 _ (HF.out.below ((by repeat (first | (with_reducible assumption) | (with_reducible exact Below.refl _ _) | (with_reducible refine Below.drew ?_) | (with_reducible refine blw_al ?_ _) | (with_reducible refine blw_stp (by with_reducible assumption) ?_) | (with_reducible refine blw_set ?_ (by dsimp only; omega) _))))) hn).mono ?_)
      rintro e w1 ⟨rfl, hb1⟩
      obtain ⟨hc1, hf1⟩ := bcell hb1
      have hz1 := hb1.size
      (try simp only [World.size_alloc] at hz1)
      have hz1' : w.heap.size < w1.heap.size := by omega
      rw [HA.out]
      go_wp2_with fail
      (with_reducible refine (areTeeth_any _ R 12 9 52 _ (HRr.out.below ((by repeat (first | (with_reducible assumption) | (with_reducible exact Below.refl _ _) | (with_reducible refine Below.drew ?_) | (with_reducible refine blw_al ?_ _) | (with_reducible refine blw_stp (by with_reducible assumption) ?_) | (with_reducible refine blw_set ?_ (by dsimp only; omega) _))))) hm).mono ?_)
      rintro e w2 ⟨rfl, hb2⟩
      obtain ⟨hc2, hf2⟩ := bcell hb2
      have hz2 := hb2.size
      (try simp only [World.size_alloc] at hz2)
      have hz3 : w.heap.size < w2.heap.size := by omega
      rw [HB.out]
      go_wp2
      go_ret
      exact ⟨ret_bool (by simp [trainR, HA.out, HB.out]), (by repeat (first | (with_reducible assumption) | (with_reducible exact Below.refl _ _) | (with_reducible refine Below.drew ?_) | (with_reducible refine blw_al ?_ _) | (with_reducible refine blw_stp (by with_reducible assumption) ?_) | (with_reducible refine blw_set ?_ (by dsimp only; omega) _)))⟩
    · have HB := Lib.hid hB
      clear hB
      go_enter Try.func60, Try.ntmps60
      go_wp2_with fail
      (with_reducible refine (areTeeth_any _ F 3 20 60 _ (HF.out.below ((by repeat (first | (with_reducible assumption) | (with_reducible exact Below.refl _ _) | (with_reducible refine Below.drew ?_) | (with_reducible refine blw_al ?_ _) | (with_reducible refine blw_stp (by with_reducible assumption) ?_) | (with_reducible refine blw_set ?_ (by dsimp only; omega) _))))) hn).mono ?_)
      rintro e w1 ⟨rfl, hb1⟩
      obtain ⟨hc1, hf1⟩ := bcell hb1
      have hz1 := hb1.size
      (try simp only [World.size_alloc] at hz1)
      have hz1' : w.heap.size < w1.heap.size := by omega
      rw [HA.out]
      go_wp2_with fail
      (with_reducible refine (areTeeth_any _ R 12 9 52 _ (HRr.out.below ((by repeat (first | (with_reducible assumption) | (with_reducible exact Below.refl _ _) | (with_reducible refine Below.drew ?_) | (with_reducible refine blw_al ?_ _) | (with_reducible refine blw_stp (by with_reducible assumption) ?_) | (with_reducible refine blw_set ?_ (by dsimp only; omega) _))))) hm).mono ?_)
      rintro e w2 ⟨rfl, hb2⟩
      obtain ⟨hc2, hf2⟩ := bcell hb2
      have hz2 := hb2.size
      (try simp only [World.size_alloc] at hz2)
      have hz3 : w.heap.size < w2.heap.size := by omega
      rw [HB.out]
      go_wp2_with (go_at_call 73; (with_reducible refine (within_any _ _ _ _).mono ?_); rintro e w' ⟨rfl, rfl⟩)
      go_ret
      exact ⟨ret_bool (by simp [trainR, HA.out, HB.out]), (by repeat (first | (with_reducible assumption) | (with_reducible exact Below.refl _ _) | (with_reducible refine Below.drew ?_) | (with_reducible refine blw_al ?_ _) | (with_reducible refine blw_stp (by with_reducible assumption) ?_) | (with_reducible refine blw_set ?_ (by dsimp only; omega) _)))⟩

set_option maxHeartbeats 800000 in
theorem sIsTrain_any (vF vR : Value) (F R : List Int) (rd : Int) (w : World) (hF : RdI w vF F) (hR : RdI w vR R) (hn : F.length ≤ 1048576) (hm : R.length ≤ 1048576) :
    Calls Try.prog 58 #[.agg #[vF, vR, .int .i64 rd]] w fun e w' => e = .returned (.bool (trainR F R rd)) ∧ Below w.heap.size w w' := by
  have HF := Lib.hid hF
  have HRr := Lib.hid hR
  obtain ⟨aF, cF, rfl, -⟩ := hF
  obtain ⟨aR, cR, rfl, -⟩ := hR
  cases hA : teethR F 3 20 60
  · have HA := Lib.hid hA
    clear hA
    go_enter Try.func58, Try.ntmps58
    go_wp2_with fail
    (with_reducible refine (l09Teeth_any _ F 3 20 60 _ (HF.out.below ((by repeat (first | (with_reducible assumption) | (with_reducible exact Below.refl _ _) | (with_reducible refine Below.drew ?_) | (with_reducible refine blw_al ?_ _) | (with_reducible refine blw_stp (by with_reducible assumption) ?_) | (with_reducible refine blw_set ?_ (by dsimp only; omega) _))))) hn).mono ?_)
    rintro e w1 ⟨rfl, hb1⟩
    obtain ⟨hc1, hf1⟩ := bcell hb1
    have hz1 := hb1.size
    (try simp only [World.size_alloc] at hz1)
    have hz1' : w.heap.size < w1.heap.size := by omega
    rw [HA.out]
    go_wp2
    go_ret
    exact ⟨ret_bool (by simp [trainR, HA.out]), (by repeat (first | (with_reducible assumption) | (with_reducible exact Below.refl _ _) | (with_reducible refine Below.drew ?_) | (with_reducible refine blw_al ?_ _) | (with_reducible refine blw_stp (by with_reducible assumption) ?_) | (with_reducible refine blw_set ?_ (by dsimp only; omega) _)))⟩
  · have HA := Lib.hid hA
    clear hA
    cases hB : teethR R 12 9 52
    · have HB := Lib.hid hB
      clear hB
      go_enter Try.func58, Try.ntmps58
      go_wp2_with fail
      (with_reducible refine (l09Teeth_any _ F 3 20 60 _ (HF.out.below ((by repeat (first | (with_reducible assumption) | (with_reducible exact Below.refl _ _) | (with_reducible refine Below.drew ?_) | (with_reducible refine blw_al ?_ _) | (with_reducible refine blw_stp (by with_reducible assumption) ?_) | (with_reducible refine blw_set ?_ (by dsimp only; omega) _))))) hn).mono ?_)
      rintro e w1 ⟨rfl, hb1⟩
      obtain ⟨hc1, hf1⟩ := bcell hb1
      have hz1 := hb1.size
      (try simp only [World.size_alloc] at hz1)
      have hz1' : w.heap.size < w1.heap.size := by omega
      rw [HA.out]
      go_wp2_with fail
      (with_reducible refine (l09Teeth_any _ R 12 9 52 _ (HRr.out.below ((by repeat (first | (with_reducible assumption) | (with_reducible exact Below.refl _ _) | (with_reducible refine Below.drew ?_) | (with_reducible refine blw_al ?_ _) | (with_reducible refine blw_stp (by with_reducible assumption) ?_) | (with_reducible refine blw_set ?_ (by dsimp only; omega) _))))) hm).mono ?_)
      rintro e w2 ⟨rfl, hb2⟩
      obtain ⟨hc2, hf2⟩ := bcell hb2
      have hz2 := hb2.size
      (try simp only [World.size_alloc] at hz2)
      have hz3 : w.heap.size < w2.heap.size := by omega
      rw [HB.out]
      go_wp2
      go_ret
      exact ⟨ret_bool (by simp [trainR, HA.out, HB.out]), (by repeat (first | (with_reducible assumption) | (with_reducible exact Below.refl _ _) | (with_reducible refine Below.drew ?_) | (with_reducible refine blw_al ?_ _) | (with_reducible refine blw_stp (by with_reducible assumption) ?_) | (with_reducible refine blw_set ?_ (by dsimp only; omega) _)))⟩
    · have HB := Lib.hid hB
      clear hB
      go_enter Try.func58, Try.ntmps58
      go_wp2_with fail
      (with_reducible refine (l09Teeth_any _ F 3 20 60 _ (HF.out.below ((by repeat (first | (with_reducible assumption) | (with_reducible exact Below.refl _ _) | (with_reducible refine Below.drew ?_) | (with_reducible refine blw_al ?_ _) | (with_reducible refine blw_stp (by with_reducible assumption) ?_) | (with_reducible refine blw_set ?_ (by dsimp only; omega) _))))) hn).mono ?_)
      rintro e w1 ⟨rfl, hb1⟩
      obtain ⟨hc1, hf1⟩ := bcell hb1
      have hz1 := hb1.size
      (try simp only [World.size_alloc] at hz1)
      have hz1' : w.heap.size < w1.heap.size := by omega
      rw [HA.out]
      go_wp2_with fail
      (with_reducible refine (l09Teeth_any _ R 12 9 52 _ (HRr.out.below ((by repeat (first | (with_reducible assumption) | (with_reducible exact Below.refl _ _) | (with_reducible refine Below.drew ?_) | (with_reducible refine blw_al ?_ _) | (with_reducible refine blw_stp (by with_reducible assumption) ?_) | (with_reducible refine blw_set ?_ (by dsimp only; omega) _))))) hm).mono ?_)
      rintro e w2 ⟨rfl, hb2⟩
      obtain ⟨hc2, hf2⟩ := bcell hb2
      have hz2 := hb2.size
      (try simp only [World.size_alloc] at hz2)
      have hz3 : w.heap.size < w2.heap.size := by omega
      rw [HB.out]
      go_wp2_with (go_at_call 70; (with_reducible refine (l01In_any _ _ _ _).mono ?_); rintro e w' ⟨rfl, rfl⟩)
      go_ret
      exact ⟨ret_bool (by simp [trainR, HA.out, HB.out]), (by repeat (first | (with_reducible assumption) | (with_reducible exact Below.refl _ _) | (with_reducible refine Below.drew ?_) | (with_reducible refine blw_al ?_ _) | (with_reducible refine blw_stp (by with_reducible assumption) ?_) | (with_reducible refine blw_set ?_ (by dsimp only; omega) _)))⟩

end Go.Proofs.Ytfdnhamkkcmnfaa
