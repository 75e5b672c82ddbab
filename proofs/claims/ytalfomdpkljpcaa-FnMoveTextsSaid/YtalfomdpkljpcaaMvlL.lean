/- The walk of the law on the texts of moves. -/
import Derived.Test.YtalfomdpkljpcaaMvdD
import Derived.Test.YtalfomdpkljpcaaIntsB
import Derived.Test.YtalfomdpkljpcaaMovC
import Derived.Test.YtalfomdpkljpcaaMovB
import Derived.Test.YtalfomdpkljpcaaOpenB
set_option linter.unusedSimpArgs false
set_option linter.unusedVariables false
namespace Go.Proofs.Ytalfomdpkljpcaa
open Go.RowKit

set_option maxHeartbeats 1600000 in
theorem likeInts_same (v u : Value) (xs : List Int) (w : World) (hr : RdI w v xs) (hs : RdI w u xs) (hn : xs.length ≤ 1048576) :
    Calls Try.prog 18 #[v, u] w fun e w' => e = .returned (.bool true) ∧ Below w.heap.size w w' := by
  obtain ⟨a, c, rfl, hcell⟩ := hr
  obtain ⟨a', c', rfl, hcell'⟩ := hs
  have HC := Lib.hid hcell
  have HC' := Lib.hid hcell'
  clear hcell hcell'
  go_enter Try.func18, Try.ntmps18
  go_wp2
  go_loopw [5] (fun i wr => ∃ k : Nat, k ≤ xs.length ∧ i = .int .i64 k ∧ Below w.heap.size w wr) (fun i _ => xs.length - (intOf i).toNat)
  case atStart => exact ⟨0, Nat.zero_le _, rfl, Below.refl _ _⟩
  case round =>
    obtain ⟨k, hk, rfl, hbw⟩ := hrel
    by_cases hlt : k < xs.length
    · obtain ⟨b, o, rfl, hc⟩ := HC.out k hlt
      obtain ⟨b', o', rfl, hc'⟩ := HC'.out k hlt
      have h1 : wr.cell? ⟨b, o + k, none⟩ = some (.int .i64 (xs.getD k 0)) := (hbw.cell (p := ⟨b, o + k, none⟩) (World.block_lt_of_cell? w _ hc)).trans hc
      have h2 : wr.cell? ⟨b', o' + k, none⟩ = some (.int .i64 (xs.getD k 0)) := (hbw.cell (p := ⟨b', o' + k, none⟩) (World.block_lt_of_cell? w _ hc')).trans hc'
      generalize xs.getD k 0 = x at h1 h2
      clear hc hc'
      have hlt' : (k : Int) < (xs.length : Int) := by omega
      have hk0 : (0 : Int) ≤ (k : Int) := by omega
      go_wp2
      go_quiet (fail)
      go_wp2
      go_roundw
      case rel => exact ⟨k + 1, by omega, by go_num, (by repeat (first | (with_reducible refine blw_drewN ?_ _) | (with_reducible assumption) | (with_reducible exact Below.refl _ _) | (with_reducible refine Below.drew ?_) | (with_reducible refine blw_al ?_ _) | (with_reducible refine blw_stp (by with_reducible assumption) ?_) | (with_reducible refine blw_set ?_ (by dsimp only; omega) _)))⟩
      case measure => simp [intOf]; omega
    · obtain rfl : k = xs.length := by omega
      go_wp2
      go_ret
      exact ⟨rfl, hbw⟩
theorem sReadMoves_r (s : ByteArray) (r : List Int × Int) (w : World) (hs : s.size ≤ 1048576) (h : r = rmR s.data.toList) : Calls Try.prog 11 #[.string s] w (RetI w r) := by rw [h]; exact sReadMoves_any s w hs
theorem ReadMoves_r (s : ByteArray) (r : List Int × Int) (w : World) (hs : s.size ≤ 1048576) (h : r = rmR s.data.toList) : Calls Try.prog 12 #[.string s] w (RetI w r) := by rw [h]; exact ReadMoves_any s w hs
theorem rmR_len (l : List UInt8) (ys : List Int) (c : Int) (h : (ys, c) = rmR l) : ys.length ≤ 1048576 := by
  unfold rmR at h
  split at h
  · injection h with h1 h2; rw [h1]; simp
  · split at h
    · split at h
      · injection h with h1 h2; rw [h1]; simp; omega
      · injection h with h1 h2; rw [h1]; simp
    · injection h with h1 h2; rw [h1]; simp
theorem text_law {s : ByteArray} {ys : List Int} {c : Int} (h : (ys, c) = rmR s.data.toList) (hc : c = 0) : (s, (0 : Int)) = movesR ys := by
  have e : (rmR s.data.toList).2 = 0 := by rw [← h]; exact hc
  have := text_back e
  rw [← h] at this
  rw [this]
  simp [txt]
theorem back_law {xs : List Int} {t : ByteArray} {c : Int} (h : (t, c) = movesR xs) (hc : c = 0) : (xs, (0 : Int)) = rmR t.data.toList := by
  have e : (movesR xs).2 = 0 := by rw [← h]; exact hc
  have := moves_back e
  rw [← h] at this
  exact this.symm
theorem blw_ofDrewX {B : Nat} {w w' : World} (h : Below B w.drew w') : Below B w w' := ⟨h.os, h.tape, h.output, h.size, h.block⟩
set_option maxRecDepth 100000 in
set_option maxHeartbeats 16000000 in
theorem FnMoveTexts_walk (a : Option Addr) (n c : Nat) (w : World) (h : RdB w w.heap.size a n) :
    Calls Try.prog 5 #[.slice a n c] w fun e w' => e = .returned (.bool true) ∧ Below w.heap.size w w' := by
  by_cases hn : n ≤ 4096
  · have HN : Hid (decide (4096 < n) = false) := by show _ = _; simp; omega
    have HB0 := Lib.hid h
    have T0 := Below.refl w.heap.size w
    clear h
    go_enter Try.func5, Try.ntmps5
    go_wp2_with fail
    (with_reducible refine (big_any _ _ _ _).mono ?_)
    rintro e _ ⟨rfl, rfl⟩
    rw [HN.out]
    go_wp2_with fail
    (with_reducible refine (DrawMovesText_any a n c _ HB0.out hn).mono ?_)
    rintro e w1 ⟨v, rs, rfl, ho, hl61, hb1⟩
    have T1 : Below w.heap.size w w1 := T0.trans (hb1.mono T0.size)
    have HB1 := Lib.hid ((HB0.out.below hb1).keep hb1.size (fun _ _ => rfl))
    clear HB0
    obtain ⟨ao, co, ev, hrd⟩ := ho.rd.shape
    subst ev
    clear ho
    have hrl : rs.length ≤ 1048576 := by omega
    have FR_1 : Hid (RdI w1 (.slice ao rs.length co) rs) := hrd
    clear hrd
    obtain ⟨⟨t, bad⟩, hT⟩ : ∃ rr__, rr__ = movesR rs := ⟨_, rfl⟩
    have HhT := Lib.hid hT
    have hts : t.size ≤ 1048576 := by
      have := movesR_size rs
      rw [← hT] at this
      exact Nat.le_trans this (by omega)
    clear hl61
    go_wp2_with fail
    (with_reducible refine (MovesText_r _ _ _ _ _ FR_1.out hrl HhT.out).mono ?_)
    rintro e w2 ⟨rfl, hb2⟩
    have T2 : Below w.heap.size w w2 := T1.trans (hb2.mono T1.size)
    have HB2 := Lib.hid ((HB1.out.below hb2).keep hb2.size (fun _ _ => rfl))
    have FR_2 : Hid (RdI w2 (.slice ao rs.length co) rs) := FR_1.out.below hb2
    clear HB1 FR_1
    go_wp2_with fail
    (with_reducible refine (sMovesText_r _ _ _ _ _ FR_2.out hrl HhT.out).mono ?_)
    rintro e w3 ⟨rfl, hb3⟩
    have T3 : Below w.heap.size w w3 := T2.trans (hb3.mono T2.size)
    have HB3 := Lib.hid ((HB2.out.below hb3).keep hb3.size (fun _ _ => rfl))
    have FR_3 : Hid (RdI w3 (.slice ao rs.length co) rs) := FR_2.out.below hb3
    clear HB2 FR_2
    go_wp2_with fail
    (with_reducible refine (DrawReadMoves_any a n c _ HB3.out hn).mono ?_)
    rintro e w4 ⟨s, rfl, hss, hb4⟩
    have T4 : Below w.heap.size w w4 := T3.trans (hb4.mono T3.size)
    have HB4 := Lib.hid ((HB3.out.below hb4).keep hb4.size (fun _ _ => rfl))
    have FR_4 : Hid (RdI w4 (.slice ao rs.length co) rs) := FR_3.out.below hb4
    clear HB3 FR_3
    have hss2 : s.size ≤ 1048576 := by omega
    clear hss HB4
    obtain ⟨⟨ys, one⟩, hY⟩ : ∃ rr__, rr__ = rmR s.data.toList := ⟨_, rfl⟩
    have HhY := Lib.hid hY
    have hyl := rmR_len _ _ _ hY
    have HYL := Lib.hid (fun h => text_law hY h)
    have HTL := Lib.hid (fun h => back_law hT h)
    clear hY hT
    go_wp2_with fail
    (with_reducible refine (ReadMoves_r _ _ _ hss2 HhY.out).mono ?_)
    rintro e w5 ⟨vy, rfl, hoy, hb5⟩
    have T5 : Below w.heap.size w w5 := T4.trans (hb5.mono T4.size)
    have FR_5 : Hid (RdI w5 (.slice ao rs.length co) rs) := FR_4.out.below hb5
    clear FR_4
    obtain ⟨ay, cy, ey, hry⟩ := hoy.rd.shape
    subst ey
    clear hoy
    have FY_5 : Hid (RdI w5 (.slice ay ys.length cy) ys) := hry
    clear hry
    go_wp2_with fail
    (with_reducible refine (sReadMoves_r _ _ _ hss2 HhY.out).mono ?_)
    rintro e w6 ⟨vz, rfl, hoz, hb6⟩
    have T6 : Below w.heap.size w w6 := T5.trans (hb6.mono T5.size)
    have FR_6 : Hid (RdI w6 (.slice ao rs.length co) rs) := FR_5.out.below hb6
    have FY_6 : Hid (RdI w6 (.slice ay ys.length cy) ys) := FY_5.out.below hb6
    clear FR_5 FY_5
    obtain ⟨az, cz, ez, hrz⟩ := hoz.rd.shape
    subst ez
    clear hoz
    have FZ_6 : Hid (RdI w6 (.slice az ys.length cz) ys) := hrz
    clear hrz
    go_wp2_with fail
    (with_reducible refine (likeInts_same _ _ ys _ FY_6.out FZ_6.out hyl).mono ?_)
    rintro e w7 ⟨rfl, hb7⟩
    have T7 : Below w.heap.size w w7 := T6.trans (hb7.mono T6.size)
    have FR_7 : Hid (RdI w7 (.slice ao rs.length co) rs) := FR_6.out.below hb7
    have FY_7 : Hid (RdI w7 (.slice ay ys.length cy) ys) := FY_6.out.below hb7
    have FZ_7 : Hid (RdI w7 (.slice az ys.length cz) ys) := FZ_6.out.below hb7
    clear FR_6 FY_6 FZ_6
    by_cases hone : one = 0
    · have hyt := HYL.out hone
      clear HYL
      subst hone
      have HYT := Lib.hid hyt
      clear hyt
      go_wp2_with fail
      (with_reducible refine (MovesText_r _ _ _ _ _ FY_7.out hyl HYT.out).mono ?_)
      rintro e w8 ⟨rfl, hb8⟩
      have T8 : Below w.heap.size w w8 := T7.trans (hb8.mono T7.size)
      have FR_8 : Hid (RdI w8 (.slice ao rs.length co) rs) := FR_7.out.below hb8
      have FY_8 : Hid (RdI w8 (.slice ay ys.length cy) ys) := FY_7.out.below hb8
      have FZ_8 : Hid (RdI w8 (.slice az ys.length cz) ys) := FZ_7.out.below hb8
      clear FR_7 FY_7 FZ_7
      by_cases hbad : bad = 0
      · have hbk := HTL.out hbad
        clear HTL
        subst hbad
        have HBK := Lib.hid hbk
        clear hbk
        go_wp2_with fail
        (with_reducible refine (ReadMoves_r _ _ _ hts HBK.out).mono ?_)
        rintro e w9 ⟨vk, rfl, hok, hb9⟩
        have T9 : Below w.heap.size w w9 := T8.trans (hb9.mono T8.size)
        have FR_9 : Hid (RdI w9 (.slice ao rs.length co) rs) := FR_8.out.below hb9
        have FY_9 : Hid (RdI w9 (.slice ay ys.length cy) ys) := FY_8.out.below hb9
        have FZ_9 : Hid (RdI w9 (.slice az ys.length cz) ys) := FZ_8.out.below hb9
        clear FR_8 FY_8 FZ_8
        obtain ⟨ak, ck, ek, hrk⟩ := hok.rd.shape
        subst ek
        clear hok
        have FK_9 : Hid (RdI w9 (.slice ak rs.length ck) rs) := hrk
        clear hrk
        go_wp2_with fail
        (with_reducible refine (likeInts_same _ _ rs _ FK_9.out FR_9.out hrl).mono ?_)
        rintro e w10 ⟨rfl, hb10⟩
        have T10 : Below w.heap.size w w10 := T9.trans (hb10.mono T9.size)
        have FR_10 : Hid (RdI w10 (.slice ao rs.length co) rs) := FR_9.out.below hb10
        have FY_10 : Hid (RdI w10 (.slice ay ys.length cy) ys) := FY_9.out.below hb10
        have FZ_10 : Hid (RdI w10 (.slice az ys.length cz) ys) := FZ_9.out.below hb10
        have FK_10 : Hid (RdI w10 (.slice ak rs.length ck) rs) := FK_9.out.below hb10
        clear FR_9 FY_9 FZ_9 FK_9
        go_wp2
        go_ret
        exact ⟨rfl, T10⟩
      · clear HTL
        have hbq : (bad == 0) = false := by rw [beq_eq_false_iff_ne]; exact hbad
        go_wp2
        go_ret
        exact ⟨rfl, T8⟩
    · clear HYL
      have hoq : (one == 0) = false := by rw [beq_eq_false_iff_ne]; exact hone
      by_cases hbad : bad = 0
      · have hbk := HTL.out hbad
        clear HTL
        subst hbad
        have HBK := Lib.hid hbk
        clear hbk
        go_wp2_with fail
        (with_reducible refine (ReadMoves_r _ _ _ hts HBK.out).mono ?_)
        rintro e w8 ⟨vk, rfl, hok, hb8⟩
        have T8 : Below w.heap.size w w8 := T7.trans (hb8.mono T7.size)
        have FR_8 : Hid (RdI w8 (.slice ao rs.length co) rs) := FR_7.out.below hb8
        have FY_8 : Hid (RdI w8 (.slice ay ys.length cy) ys) := FY_7.out.below hb8
        have FZ_8 : Hid (RdI w8 (.slice az ys.length cz) ys) := FZ_7.out.below hb8
        clear FR_7 FY_7 FZ_7
        obtain ⟨ak, ck, ek, hrk⟩ := hok.rd.shape
        subst ek
        clear hok
        have FK_8 : Hid (RdI w8 (.slice ak rs.length ck) rs) := hrk
        clear hrk
        go_wp2_with fail
        (with_reducible refine (likeInts_same _ _ rs _ FK_8.out FR_8.out hrl).mono ?_)
        rintro e w9 ⟨rfl, hb9⟩
        have T9 : Below w.heap.size w w9 := T8.trans (hb9.mono T8.size)
        have FR_9 : Hid (RdI w9 (.slice ao rs.length co) rs) := FR_8.out.below hb9
        have FY_9 : Hid (RdI w9 (.slice ay ys.length cy) ys) := FY_8.out.below hb9
        have FZ_9 : Hid (RdI w9 (.slice az ys.length cz) ys) := FZ_8.out.below hb9
        have FK_9 : Hid (RdI w9 (.slice ak rs.length ck) rs) := FK_8.out.below hb9
        clear FR_8 FY_8 FZ_8 FK_8
        go_wp2
        go_ret
        exact ⟨rfl, T9⟩
      · clear HTL
        have hbq : (bad == 0) = false := by rw [beq_eq_false_iff_ne]; exact hbad
        go_wp2
        go_ret
        exact ⟨rfl, T7⟩
  · have HN : Hid (decide (4096 < n) = true) := by show _ = _; simp; omega
    go_enter Try.func5, Try.ntmps5
    go_wp2_with fail
    (with_reducible refine (big_any _ _ _ _).mono ?_)
    rintro e _ ⟨rfl, rfl⟩
    rw [HN.out]
    go_wp2
    go_ret
    exact ⟨rfl, Below.refl _ _⟩
end Go.Proofs.Ytalfomdpkljpcaa
