/- The walk of the law on the lives of parts. -/
import Derived.Test.YthfpikpknojffaaWeaN
import Derived.Test.YthfpikpknojffaaWeaH
import Derived.Test.YthfpikpknojffaaWeaC
import Derived.Test.YthfpikpknojffaaWedB
import Derived.Test.YthfpikpknojffaaOpenB
set_option linter.unusedSimpArgs false
set_option linter.unusedVariables false
namespace Go.Proofs.Ythfpikpknojffaa
open Go.RowKit

theorem LifeFor_r (v : Value) (rs : List Rid) (most : Int) (x c : Int) (w : World) (hr : RdRid w v rs) (hn : rs.length ≤ 1048576) (h : (x, c) = lifeR rs most) : Calls Try.prog 33 #[v, .int .i64 most] w fun e w' => e = .returned (.tuple #[.int .i64 x, .int .i64 c]) ∧ Below w.heap.size w w' :=
  (LifeFor_any v rs most w hr hn).mono fun e w' q => by rw [q.1, ← h]; exact ⟨rfl, q.2⟩
theorem sLifeFor_r (v : Value) (rs : List Rid) (most : Int) (x c : Int) (w : World) (hr : RdRid w v rs) (hn : rs.length ≤ 1048576) (h : (x, c) = lifeR rs most) : Calls Try.prog 32 #[v, .int .i64 most] w fun e w' => e = .returned (.tuple #[.int .i64 x, .int .i64 c]) ∧ Below w.heap.size w w' :=
  (sLifeFor_any v rs most w hr hn).mono fun e w' q => by rw [q.1, ← h]; exact ⟨rfl, q.2⟩
theorem WetShare_r (v : Value) (rs : List Rid) (x c : Int) (w : World) (hr : RdRid w v rs) (hn : rs.length ≤ 1048576) (h : (x, c) = wetR rs) : Calls Try.prog 22 #[v] w fun e w' => e = .returned (.tuple #[.int .i64 x, .int .i64 c]) ∧ Below w.heap.size w w' :=
  (WetShare_any v rs w hr hn).mono fun e w' q => by rw [q.1, ← h]; exact ⟨rfl, q.2⟩
theorem sWetShare_r (v : Value) (rs : List Rid) (x c : Int) (w : World) (hr : RdRid w v rs) (hn : rs.length ≤ 1048576) (h : (x, c) = wetR rs) : Calls Try.prog 21 #[v] w fun e w' => e = .returned (.tuple #[.int .i64 x, .int .i64 c]) ∧ Below w.heap.size w w' :=
  (sWetShare_any v rs w hr hn).mono fun e w' q => by rw [q.1, ← h]; exact ⟨rfl, q.2⟩
theorem LongestRide_r (v : Value) (rs : List Rid) (x c : Int) (w : World) (hr : RdRid w v rs) (hn : rs.length ≤ 1048576) (h : (x, c) = longR rs) : Calls Try.prog 20 #[v] w fun e w' => e = .returned (.tuple #[.int .i64 x, .int .i64 c]) ∧ Below w.heap.size w w' :=
  (LongestRide_any v rs w hr hn).mono fun e w' q => by rw [q.1, ← h]; exact ⟨rfl, q.2⟩
theorem sLongestRide_r (v : Value) (rs : List Rid) (x c : Int) (w : World) (hr : RdRid w v rs) (hn : rs.length ≤ 1048576) (h : (x, c) = longR rs) : Calls Try.prog 19 #[v] w fun e w' => e = .returned (.tuple #[.int .i64 x, .int .i64 c]) ∧ Below w.heap.size w w' :=
  (sLongestRide_any v rs w hr hn).mono fun e w' q => by rw [q.1, ← h]; exact ⟨rfl, q.2⟩
theorem bestK_max (rs : List Rid) : ∀ k, k ≤ rs.length → ∀ i, i < k → (rs.getD i (0, 0, false)).2.1 ≤ (rs.getD (bestK rs k) (0, 0, false)).2.1 := by
  intro k
  induction k with
  | zero => intro _ i hi; omega
  | succ k ih =>
    intro hk i hi
    simp only [bestK]
    rcases Nat.lt_or_ge i k with h | h
    · have h1 := ih (by omega) i h
      split
      · omega
      · exact h1
    · have he : i = k := by omega
      subst he
      split
      · exact Int.le_refl _
      · omega
theorem long_law {rs : List Rid} {k c : Int} (h : (k, c) = longR rs) (hc : c = 0) : ∃ m : Nat, k = (m : Int) ∧ m < rs.length ∧ ∀ i, i < rs.length → (rs.getD i (0, 0, false)).2.1 ≤ (rs.getD m (0, 0, false)).2.1 := by
  unfold longR at h
  split at h
  · split at h
    · injection h with h1 h2; omega
    · injection h with h1 h2
      exact ⟨_, h1, bestK_lt rs _ (by omega) (Nat.le_refl _), bestK_max rs _ (Nat.le_refl _)⟩
  · injection h with h1 h2; omega
theorem wet_law {rs : List Rid} {s c : Int} (h : (s, c) = wetR rs) (hc : c = 0) : 0 ≤ s ∧ s ≤ 1000 := by
  unfold wetR at h
  split at h
  · rename_i hA
    split at h
    · injection h with h1 h2; omega
    · injection h with h1 h2
      obtain ⟨b1, b2⟩ := wetK_bd hA rs.length (Nat.le_refl _)
      have b3 : 0 < tensK rs rs.length := by omega
      refine ⟨by rw [h1]; exact Int.ediv_nonneg (by omega) (by omega), ?_⟩
      rw [h1]
      have := Int.ediv_le_ediv b3 (show 1000 * wetK rs rs.length ≤ 1000 * tensK rs rs.length by omega)
      rw [Int.mul_ediv_cancel _ (by omega)] at this
      exact this
  · injection h with h1 h2; omega
theorem life_law {rs : List Rid} {most l c : Int} (h : (l, c) = lifeR rs most) (hc : c = 0) : areR rs = true ∧ 1 ≤ l ∧ l ≤ 10000000 ∧ cntL rs l ≤ most ∧ ∀ L', 1 ≤ L' → L' < l → most < cntL rs L' := by
  cases hA : areR rs
  · unfold lifeR at h
    rw [hA, if_neg (by simp)] at h
    injection h with h1 h2; omega
  · cases hm : inR most 0 40
    · unfold lifeR at h
      rw [hA, if_pos rfl, hm, if_neg (by simp)] at h
      injection h with h1 h2; omega
    · have hm0 := (inR_iff.1 hm).1
      obtain ⟨L, hL, hb⟩ := isLeast_ex hA hm0
      rw [lifeR_least hA hm hL (by omega)] at h
      injection h with h1 h2
      subst h1
      exact ⟨rfl, hL.1, by omega, hL.2.1, hL.2.2⟩
theorem ch_law {rs : List Rid} {l : Int} (hA : areR rs = true) (h1 : 1 ≤ l) (h2 : l ≤ 10000000) : ∃ cl : List Int, (cl, (0 : Int)) = chAR rs l ∧ (cl.length : Int) = cntL rs l := by
  refine ⟨(chK rs l rs.length).1, ?_, rfl⟩
  unfold chAR
  rw [if_pos hA, if_pos (inR_iff.2 ⟨h1, h2⟩)]
theorem blw_ofDrewX {B : Nat} {w w' : World} (h : Below B w.drew w') : Below B w w' := ⟨h.os, h.tape, h.output, h.size, h.block⟩
set_option maxRecDepth 100000 in
set_option maxHeartbeats 16000000 in
theorem FnLives_walk (a : Option Addr) (n c : Nat) (w : World) (h : RdB w w.heap.size a n) :
    Calls Try.prog 12 #[.slice a n c] w fun e w' => e = .returned (.bool true) ∧ Below w.heap.size w w' := by
  by_cases hn : n ≤ 4096
  · have HN : Hid (decide (4096 < n) = false) := by show _ = _; simp; omega
    have HB0 := Lib.hid h
    have T0 := Below.refl w.heap.size w
    clear h
    go_enter Try.func12, Try.ntmps12
    go_wp2_with fail
    (with_reducible refine (big_any _ _ _ _).mono ?_)
    rintro e _ ⟨rfl, rfl⟩
    rw [HN.out]
    go_wp2_with fail
    (with_reducible refine (DrawLifeFor_any a n c _ HB0.out hn).mono ?_)
    rintro e w1 ⟨v, rs, most, rfl, ho, hl61, hb1⟩
    have T1 : Below w.heap.size w w1 := T0.trans (hb1.mono T0.size)
    have HB1 := Lib.hid ((HB0.out.below hb1).keep hb1.size (fun _ _ => rfl))
    clear HB0
    obtain ⟨ao, co, rfl, hrd⟩ := ho.rd.shape
    clear ho
    have hrl : rs.length ≤ 1048576 := by omega
    have FR_1 : Hid (RdRid w1 (.slice ao rs.length co) rs) := hrd
    clear hrd HB1
    obtain ⟨⟨l, bad⟩, hL⟩ : ∃ rr__, rr__ = lifeR rs most := ⟨_, rfl⟩
    have HhL := Lib.hid hL
    go_wp2_with fail
    (with_reducible refine (LifeFor_r _ _ _ _ _ _ FR_1.out hrl HhL.out).mono ?_)
    rintro e w2 ⟨rfl, hb2⟩
    have T2 : Below w.heap.size w w2 := T1.trans (hb2.mono T1.size)
    have FR_2 : Hid (RdRid w2 (.slice ao rs.length co) rs) := FR_1.out.below hb2
    clear FR_1
    go_wp2_with fail
    (with_reducible refine (sLifeFor_r _ _ _ _ _ _ FR_2.out hrl HhL.out).mono ?_)
    rintro e w3 ⟨rfl, hb3⟩
    have T3 : Below w.heap.size w w3 := T2.trans (hb3.mono T2.size)
    have FR_3 : Hid (RdRid w3 (.slice ao rs.length co) rs) := FR_2.out.below hb3
    clear FR_2
    obtain ⟨⟨s, one⟩, hS⟩ : ∃ rr__, rr__ = wetR rs := ⟨_, rfl⟩
    have HhS := Lib.hid hS
    go_wp2_with fail
    (with_reducible refine (WetShare_r _ _ _ _ _ FR_3.out hrl HhS.out).mono ?_)
    rintro e w4 ⟨rfl, hb4⟩
    have T4 : Below w.heap.size w w4 := T3.trans (hb4.mono T3.size)
    have FR_4 : Hid (RdRid w4 (.slice ao rs.length co) rs) := FR_3.out.below hb4
    clear FR_3
    go_wp2_with fail
    (with_reducible refine (sWetShare_r _ _ _ _ _ FR_4.out hrl HhS.out).mono ?_)
    rintro e w5 ⟨rfl, hb5⟩
    have T5 : Below w.heap.size w w5 := T4.trans (hb5.mono T4.size)
    have FR_5 : Hid (RdRid w5 (.slice ao rs.length co) rs) := FR_4.out.below hb5
    clear FR_4
    obtain ⟨⟨k, three⟩, hK⟩ : ∃ rr__, rr__ = longR rs := ⟨_, rfl⟩
    have HhK := Lib.hid hK
    go_wp2_with fail
    (with_reducible refine (LongestRide_r _ _ _ _ _ FR_5.out hrl HhK.out).mono ?_)
    rintro e w6 ⟨rfl, hb6⟩
    have T6 : Below w.heap.size w w6 := T5.trans (hb6.mono T5.size)
    have FR_6 : Hid (RdRid w6 (.slice ao rs.length co) rs) := FR_5.out.below hb6
    clear FR_5
    go_wp2_with fail
    (with_reducible refine (sLongestRide_r _ _ _ _ _ FR_6.out hrl HhK.out).mono ?_)
    rintro e w7 ⟨rfl, hb7⟩
    have T7 : Below w.heap.size w w7 := T6.trans (hb7.mono T6.size)
    have FR_7 : Hid (RdRid w7 (.slice ao rs.length co) rs) := FR_6.out.below hb7
    clear FR_6
    have HLL := Lib.hid (fun h => life_law hL h)
    have HWL := Lib.hid (fun h => wet_law hS h)
    have HKL := Lib.hid (fun h => long_law hK h)
    clear hL hS hK HhL HhS HhK
    by_cases hone : one = 0
    · obtain ⟨s0, s1⟩ := HWL.out hone
      subst hone
      have hs0 : decide (s < 0) = false := by simp; omega
      have hs1 : decide (1000 < s) = false := by simp; omega
      go_wp2
      go_loopw [17] (fun i wr => ∃ j : Nat, j ≤ rs.length ∧ i = .int .i64 j ∧ Below w.heap.size w wr ∧ Hid (RdRid wr (.slice ao rs.length co) rs)) (fun i _ => rs.length - (intOf i).toNat)
      case atStart => exact ⟨0, Nat.zero_le _, rfl, T7, FR_7⟩
      case round =>
        clear T7 FR_7
        obtain ⟨j, hj, rfl, T50, FR_50⟩ := hrel
        obtain ⟨w50, hw50⟩ : ∃ w50, w50 = wr := ⟨_, rfl⟩
        subst hw50
        by_cases hthree : three = 0
        · obtain ⟨m, rfl, hm, hmx⟩ := HKL.out hthree
          subst hthree
          have HMX := Lib.hid hmx
          clear hmx
          by_cases hlt : j < rs.length
          · have HC := Lib.hid FR_50.out.at
            obtain ⟨b, o, rfl, h0, c0, h2⟩ := HC.out j hlt
            obtain ⟨b', o', e, g0, cm, g2⟩ := HC.out m hm
            simp only [Option.some.injEq, Addr.mk.injEq] at e
            obtain ⟨rfl, rfl, -⟩ := e
            have hmx := HMX.out j hlt
            have hlt' : (j : Int) < (rs.length : Int) := by omega
            have hj0 : (0 : Int) ≤ (j : Int) := by omega
            have hmlt' : (m : Int) < (rs.length : Int) := by omega
            have hm0 : (0 : Int) ≤ (m : Int) := by omega
            generalize (rs.getD j (0, 0, false)) = x at *
            obtain ⟨d, t, wt⟩ := x
            generalize (rs.getD m (0, 0, false)) = y at *
            obtain ⟨dm, tm, wm⟩ := y
            simp only at c0 cm hmx
            clear h0 h2 g0 g2 HC
            have hd : decide (tm < t) = false := by simp; omega
            clear HLL HWL HKL HMX
            go_wp2
            go_quiet (fail)
            go_wp2
            go_roundw
            case rel =>
              refine ⟨j + 1, by omega, by go_num, ?_, ?_⟩
              · exact (by repeat (first | (with_reducible refine blw_drewN ?_ _) | (with_reducible assumption) | (with_reducible exact Below.refl _ _) | (with_reducible refine Below.drew ?_)))
              · show RdRid _ _ _
                exact FR_50.out.below (by repeat (first | (with_reducible refine blw_drewN ?_ _) | (with_reducible assumption) | (with_reducible exact Below.refl _ _) | (with_reducible refine Below.drew ?_)))
            case measure => simp [intOf]; omega
          · obtain rfl : j = rs.length := by omega
            by_cases hbad : bad = 0
            · obtain ⟨hA, l1, l2, lc, lm⟩ := HLL.out hbad
              clear HLL HWL HKL
              subst hbad
              have HM := Lib.hid lm
              clear lm
              obtain ⟨cl, hcl, hcn⟩ := ch_law hA l1 l2
              have HCL := Lib.hid hcl
              clear hcl
              go_wp2_with fail
              (with_reducible refine (ChangedAfter_r _ _ _ _ FR_50.out hrl _ HCL.out).mono ?_)
              rintro e w51 ⟨vc, rfl, hoc, hb51⟩
              have T51 : Below w.heap.size w w51 := T50.trans (hb51.mono T50.size)
              have FR_51 : Hid (RdRid w51 (.slice ao rs.length co) rs) := FR_50.out.below hb51
              clear FR_50
              obtain ⟨ac, cc, rfl, -⟩ := hoc.rd.shape
              clear hoc
              have hd1 : decide (most < (cl.length : Int)) = false := by simp; omega
              by_cases hl1 : l = 1
              · subst hl1
                go_wp2
                go_ret
                exact ⟨rfl, T51⟩
              · have hlq : (l == 1) = false := by rw [beq_eq_false_iff_ne]; exact hl1
                have hlw : IntKind.i64.wrap (l - 1) = l - 1 := IntWalk.i64_in _ (by omega)
                obtain ⟨dl, hdl, hdn⟩ := ch_law (l := l - 1) hA (by omega) (by omega)
                have HDL := Lib.hid hdl
                have hm2 := HM.out (l - 1) (by omega) (by omega)
                clear hdl HM
                go_wp2_with fail
                (with_reducible refine (ChangedAfter_r _ _ _ _ FR_51.out hrl _ HDL.out).mono ?_)
                rintro e w52 ⟨vd, rfl, hod, hb52⟩
                have T52 : Below w.heap.size w w52 := T51.trans (hb52.mono T51.size)
                have FR_52 : Hid (RdRid w52 (.slice ao rs.length co) rs) := FR_51.out.below hb52
                clear FR_51
                obtain ⟨ad, cd, rfl, -⟩ := hod.rd.shape
                clear hod
                have hd2 : decide (most < (dl.length : Int)) = true := by simp; omega
                go_wp2
                go_ret
                exact ⟨rfl, T52⟩
            · clear HLL HWL HKL
              have hbq : (bad == 0) = false := by rw [beq_eq_false_iff_ne]; exact hbad
              go_wp2
              go_ret
              exact ⟨rfl, T50⟩
        · have htq : (three == 0) = false := by rw [beq_eq_false_iff_ne]; exact hthree
          by_cases hbad : bad = 0
          · obtain ⟨hA, l1, l2, lc, lm⟩ := HLL.out hbad
            clear HLL HWL HKL
            subst hbad
            have HM := Lib.hid lm
            clear lm
            obtain ⟨cl, hcl, hcn⟩ := ch_law hA l1 l2
            have HCL := Lib.hid hcl
            clear hcl
            go_wp2_with fail
            (with_reducible refine (ChangedAfter_r _ _ _ _ FR_50.out hrl _ HCL.out).mono ?_)
            rintro e w51 ⟨vc, rfl, hoc, hb51⟩
            have T51 : Below w.heap.size w w51 := T50.trans (hb51.mono T50.size)
            have FR_51 : Hid (RdRid w51 (.slice ao rs.length co) rs) := FR_50.out.below hb51
            clear FR_50
            obtain ⟨ac, cc, rfl, -⟩ := hoc.rd.shape
            clear hoc
            have hd1 : decide (most < (cl.length : Int)) = false := by simp; omega
            by_cases hl1 : l = 1
            · subst hl1
              go_wp2
              go_ret
              exact ⟨rfl, T51⟩
            · have hlq : (l == 1) = false := by rw [beq_eq_false_iff_ne]; exact hl1
              have hlw : IntKind.i64.wrap (l - 1) = l - 1 := IntWalk.i64_in _ (by omega)
              obtain ⟨dl, hdl, hdn⟩ := ch_law (l := l - 1) hA (by omega) (by omega)
              have HDL := Lib.hid hdl
              have hm2 := HM.out (l - 1) (by omega) (by omega)
              clear hdl HM
              go_wp2_with fail
              (with_reducible refine (ChangedAfter_r _ _ _ _ FR_51.out hrl _ HDL.out).mono ?_)
              rintro e w52 ⟨vd, rfl, hod, hb52⟩
              have T52 : Below w.heap.size w w52 := T51.trans (hb52.mono T51.size)
              have FR_52 : Hid (RdRid w52 (.slice ao rs.length co) rs) := FR_51.out.below hb52
              clear FR_51
              obtain ⟨ad, cd, rfl, -⟩ := hod.rd.shape
              clear hod
              have hd2 : decide (most < (dl.length : Int)) = true := by simp; omega
              go_wp2
              go_ret
              exact ⟨rfl, T52⟩
          · clear HLL HWL HKL
            have hbq : (bad == 0) = false := by rw [beq_eq_false_iff_ne]; exact hbad
            go_wp2
            go_ret
            exact ⟨rfl, T50⟩
    · have hoq : (one == 0) = false := by rw [beq_eq_false_iff_ne]; exact hone
      go_wp2
      go_loopw [17] (fun i wr => ∃ j : Nat, j ≤ rs.length ∧ i = .int .i64 j ∧ Below w.heap.size w wr ∧ Hid (RdRid wr (.slice ao rs.length co) rs)) (fun i _ => rs.length - (intOf i).toNat)
      case atStart => exact ⟨0, Nat.zero_le _, rfl, T7, FR_7⟩
      case round =>
        clear T7 FR_7
        obtain ⟨j, hj, rfl, T50, FR_50⟩ := hrel
        obtain ⟨w50, hw50⟩ : ∃ w50, w50 = wr := ⟨_, rfl⟩
        subst hw50
        by_cases hthree : three = 0
        · obtain ⟨m, rfl, hm, hmx⟩ := HKL.out hthree
          subst hthree
          have HMX := Lib.hid hmx
          clear hmx
          by_cases hlt : j < rs.length
          · have HC := Lib.hid FR_50.out.at
            obtain ⟨b, o, rfl, h0, c0, h2⟩ := HC.out j hlt
            obtain ⟨b', o', e, g0, cm, g2⟩ := HC.out m hm
            simp only [Option.some.injEq, Addr.mk.injEq] at e
            obtain ⟨rfl, rfl, -⟩ := e
            have hmx := HMX.out j hlt
            have hlt' : (j : Int) < (rs.length : Int) := by omega
            have hj0 : (0 : Int) ≤ (j : Int) := by omega
            have hmlt' : (m : Int) < (rs.length : Int) := by omega
            have hm0 : (0 : Int) ≤ (m : Int) := by omega
            generalize (rs.getD j (0, 0, false)) = x at *
            obtain ⟨d, t, wt⟩ := x
            generalize (rs.getD m (0, 0, false)) = y at *
            obtain ⟨dm, tm, wm⟩ := y
            simp only at c0 cm hmx
            clear h0 h2 g0 g2 HC
            have hd : decide (tm < t) = false := by simp; omega
            clear HLL HWL HKL HMX
            go_wp2
            go_quiet (fail)
            go_wp2
            go_roundw
            case rel =>
              refine ⟨j + 1, by omega, by go_num, ?_, ?_⟩
              · exact (by repeat (first | (with_reducible refine blw_drewN ?_ _) | (with_reducible assumption) | (with_reducible exact Below.refl _ _) | (with_reducible refine Below.drew ?_)))
              · show RdRid _ _ _
                exact FR_50.out.below (by repeat (first | (with_reducible refine blw_drewN ?_ _) | (with_reducible assumption) | (with_reducible exact Below.refl _ _) | (with_reducible refine Below.drew ?_)))
            case measure => simp [intOf]; omega
          · obtain rfl : j = rs.length := by omega
            by_cases hbad : bad = 0
            · obtain ⟨hA, l1, l2, lc, lm⟩ := HLL.out hbad
              clear HLL HWL HKL
              subst hbad
              have HM := Lib.hid lm
              clear lm
              obtain ⟨cl, hcl, hcn⟩ := ch_law hA l1 l2
              have HCL := Lib.hid hcl
              clear hcl
              go_wp2_with fail
              (with_reducible refine (ChangedAfter_r _ _ _ _ FR_50.out hrl _ HCL.out).mono ?_)
              rintro e w51 ⟨vc, rfl, hoc, hb51⟩
              have T51 : Below w.heap.size w w51 := T50.trans (hb51.mono T50.size)
              have FR_51 : Hid (RdRid w51 (.slice ao rs.length co) rs) := FR_50.out.below hb51
              clear FR_50
              obtain ⟨ac, cc, rfl, -⟩ := hoc.rd.shape
              clear hoc
              have hd1 : decide (most < (cl.length : Int)) = false := by simp; omega
              by_cases hl1 : l = 1
              · subst hl1
                go_wp2
                go_ret
                exact ⟨rfl, T51⟩
              · have hlq : (l == 1) = false := by rw [beq_eq_false_iff_ne]; exact hl1
                have hlw : IntKind.i64.wrap (l - 1) = l - 1 := IntWalk.i64_in _ (by omega)
                obtain ⟨dl, hdl, hdn⟩ := ch_law (l := l - 1) hA (by omega) (by omega)
                have HDL := Lib.hid hdl
                have hm2 := HM.out (l - 1) (by omega) (by omega)
                clear hdl HM
                go_wp2_with fail
                (with_reducible refine (ChangedAfter_r _ _ _ _ FR_51.out hrl _ HDL.out).mono ?_)
                rintro e w52 ⟨vd, rfl, hod, hb52⟩
                have T52 : Below w.heap.size w w52 := T51.trans (hb52.mono T51.size)
                have FR_52 : Hid (RdRid w52 (.slice ao rs.length co) rs) := FR_51.out.below hb52
                clear FR_51
                obtain ⟨ad, cd, rfl, -⟩ := hod.rd.shape
                clear hod
                have hd2 : decide (most < (dl.length : Int)) = true := by simp; omega
                go_wp2
                go_ret
                exact ⟨rfl, T52⟩
            · clear HLL HWL HKL
              have hbq : (bad == 0) = false := by rw [beq_eq_false_iff_ne]; exact hbad
              go_wp2
              go_ret
              exact ⟨rfl, T50⟩
        · have htq : (three == 0) = false := by rw [beq_eq_false_iff_ne]; exact hthree
          by_cases hbad : bad = 0
          · obtain ⟨hA, l1, l2, lc, lm⟩ := HLL.out hbad
            clear HLL HWL HKL
            subst hbad
            have HM := Lib.hid lm
            clear lm
            obtain ⟨cl, hcl, hcn⟩ := ch_law hA l1 l2
            have HCL := Lib.hid hcl
            clear hcl
            go_wp2_with fail
            (with_reducible refine (ChangedAfter_r _ _ _ _ FR_50.out hrl _ HCL.out).mono ?_)
            rintro e w51 ⟨vc, rfl, hoc, hb51⟩
            have T51 : Below w.heap.size w w51 := T50.trans (hb51.mono T50.size)
            have FR_51 : Hid (RdRid w51 (.slice ao rs.length co) rs) := FR_50.out.below hb51
            clear FR_50
            obtain ⟨ac, cc, rfl, -⟩ := hoc.rd.shape
            clear hoc
            have hd1 : decide (most < (cl.length : Int)) = false := by simp; omega
            by_cases hl1 : l = 1
            · subst hl1
              go_wp2
              go_ret
              exact ⟨rfl, T51⟩
            · have hlq : (l == 1) = false := by rw [beq_eq_false_iff_ne]; exact hl1
              have hlw : IntKind.i64.wrap (l - 1) = l - 1 := IntWalk.i64_in _ (by omega)
              obtain ⟨dl, hdl, hdn⟩ := ch_law (l := l - 1) hA (by omega) (by omega)
              have HDL := Lib.hid hdl
              have hm2 := HM.out (l - 1) (by omega) (by omega)
              clear hdl HM
              go_wp2_with fail
              (with_reducible refine (ChangedAfter_r _ _ _ _ FR_51.out hrl _ HDL.out).mono ?_)
              rintro e w52 ⟨vd, rfl, hod, hb52⟩
              have T52 : Below w.heap.size w w52 := T51.trans (hb52.mono T51.size)
              have FR_52 : Hid (RdRid w52 (.slice ao rs.length co) rs) := FR_51.out.below hb52
              clear FR_51
              obtain ⟨ad, cd, rfl, -⟩ := hod.rd.shape
              clear hod
              have hd2 : decide (most < (dl.length : Int)) = true := by simp; omega
              go_wp2
              go_ret
              exact ⟨rfl, T52⟩
          · clear HLL HWL HKL
            have hbq : (bad == 0) = false := by rw [beq_eq_false_iff_ne]; exact hbad
            go_wp2
            go_ret
            exact ⟨rfl, T50⟩
  · have HN : Hid (decide (4096 < n) = true) := by show _ = _; simp; omega
    go_enter Try.func12, Try.ntmps12
    go_wp2_with fail
    (with_reducible refine (big_any _ _ _ _).mono ?_)
    rintro e _ ⟨rfl, rfl⟩
    rw [HN.out]
    go_wp2
    go_ret
    exact ⟨rfl, Below.refl _ _⟩
end Go.Proofs.Ythfpikpknojffaa
