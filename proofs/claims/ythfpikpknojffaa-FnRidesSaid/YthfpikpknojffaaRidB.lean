/- Contracts of the laws' helpers on slices of Ride. -/
import Derived.Test.YthfpikpknojffaaRidA
import Derived.Deep.QuietTactic
import Derived.BigQuiet
import Derived.Deep.RegionHeld3
set_option linter.unusedSimpArgs false
set_option linter.unusedVariables false
namespace Go.Proofs.Ythfpikpknojffaa
open Go.RowKit

set_option maxHeartbeats 800000 in
theorem toRide_one (x0 : Int) (x1 : Int) (x2 : Bool) (w : World) :
    Calls Try.prog 26 #[.agg #[.int .i64 x0, .int .i64 x1, .bool x2]] w fun e w' => e = .returned (.agg #[.int .i64 x0, .int .i64 x1, .bool x2]) ∧ Below w.heap.size w w' := by
  go_enter Try.func26, Try.ntmps26
  go_wp2
  refine bodyPost_ret (v := .agg #[.int .i64 x0, .int .i64 x1, .bool x2]) (by simp [results, Try.results26, go_sem]) rfl ⟨rfl, ?_⟩
  go_grown
set_option maxHeartbeats 800000 in
theorem eqRide_one (x0 : Int) (x1 : Int) (x2 : Bool) (w : World) :
    Calls Try.prog 49 #[.agg #[.int .i64 x0, .int .i64 x1, .bool x2], .agg #[.int .i64 x0, .int .i64 x1, .bool x2]] w fun e w' => e = .returned (.bool true) ∧ Below w.heap.size w w' := by
  go_enter Try.func49, Try.ntmps49
  go_wp2
  go_ret
  exact ⟨rfl, (by repeat (first | (with_reducible assumption) | (with_reducible exact Below.refl _ _) | (with_reducible refine Below.drew ?_) | (with_reducible refine blw_al ?_ _) | (with_reducible refine blw_stp (by with_reducible assumption) ?_) | (with_reducible refine blw_set ?_ (by dsimp only; omega) _)))⟩
set_option maxHeartbeats 800000 in
theorem szRideS_no (a : Option Addr) (n c : Nat) (left : Int) (w : World) (h : left < n) (h0 : 0 ≤ left) (h1 : left ≤ 1048576) (hn : n ≤ maxLen) :
    Calls Try.prog 14 #[.slice a n c, .int .i64 left] w fun e w' => e = .returned (.int .i64 (-1)) ∧ w = w' := by
  unfold maxLen at hn
  go_enter Try.func14, Try.ntmps14
  go_wp2
  go_ret
  exact ⟨rfl, rfl⟩
set_option maxHeartbeats 800000 in
theorem szRideS_yes (a : Option Addr) (n c : Nat) (left : Int) (w : World) (h : (n : Int) ≤ left) (h1 : left ≤ 1048576) :
    Calls Try.prog 14 #[.slice a n c, .int .i64 left] w fun e w' => e = .returned (.int .i64 (left - n)) ∧ w = w' := by
  go_enter Try.func14, Try.ntmps14
  go_wp2
  go_ret
  exact ⟨rfl, rfl⟩

set_option maxHeartbeats 800000 in
theorem toRideS_any (v : Value) (rs : List (Int × Int × Bool)) (w : World) (hr : RdRid w v rs) (hn : rs.length ≤ 1048576) :
    Calls Try.prog 16 #[v] w fun e w' => e = .returned (.slice (some ⟨w.heap.size, 0, none⟩) rs.length rs.length) ∧ OwRid w' w.heap.size (.slice (some ⟨w.heap.size, 0, none⟩) rs.length rs.length) rs ∧ Below w.heap.size w w' := by
  obtain ⟨a, c, rfl, hcell⟩ := hr
  have HC := Lib.hid hcell
  clear hcell
  obtain ⟨i0, hi, hz0, hz1, hz2⟩ := info_parts Try.infoRid
  go_enter Try.func16, Try.ntmps16
  go_wp2_with (refine wpList_make_full _ rfl _ _ 25 rfl w.heap.size 35 i0 (.agg #[.int .i64 0, .int .i64 0, .bool false]) 3 Try.underlying25 hi hz0 hz1 .i64 .i64 _ _ rs.length rfl rfl rfl rfl (by rw [hz2]; omega) (by unfold maxLen; omega) (Nat.le_refl _) ?_; intro w1 hown hgrow)
  go_loopw [4] (fun i wr => ∃ k : Nat, k ≤ rs.length ∧ i = .int .i64 k ∧ Below w.heap.size w wr ∧ Hid (∃ Ls : List Value, wr.ownsRow w.heap.size 35 3 (.slice (some ⟨w.heap.size, 0, none⟩) rs.length rs.length) rs.length Ls ∧ ∀ i, i < k → Ls[i * 3]? = some (.int .i64 (rs.getD i (0, 0, false)).1) ∧ Ls[i * 3 + 1]? = some (.int .i64 (rs.getD i (0, 0, false)).2.1) ∧ Ls[i * 3 + 2]? = some (.bool (rs.getD i (0, 0, false)).2.2))) (fun i _ => rs.length - (intOf i).toNat)
  case atStart => exact ⟨0, Nat.zero_le _, rfl, below_farRid hgrow (Nat.le_refl _) (fun k h => by cases h), ⟨_, hown, fun j hj => by omega⟩⟩
  case round =>
    clear hown hgrow
    obtain ⟨k, hk, rfl, hbw, hL⟩ := hrel
    obtain ⟨Ls, hown, hLs⟩ := hL
    have HLs := Lib.hid hLs
    clear hLs
    by_cases hlt : k < rs.length
    · obtain ⟨b, o, rfl, h0, h1, h2⟩ := HC.out k hlt
      have c0 : wr.cell? ⟨b, o + k * 3, none⟩ = some (.int .i64 (rs.getD k (0, 0, false)).1) := (hbw.cell (p := ⟨b, o + k * 3, none⟩) (World.block_lt_of_cell? w _ h0)).trans h0
      have c1 : wr.cell? ⟨b, o + k * 3 + 1, none⟩ = some (.int .i64 (rs.getD k (0, 0, false)).2.1) := (hbw.cell (p := ⟨b, o + k * 3 + 1, none⟩) (World.block_lt_of_cell? w _ h1)).trans h1
      have c2 : wr.cell? ⟨b, o + k * 3 + 2, none⟩ = some (.bool (rs.getD k (0, 0, false)).2.2) := (hbw.cell (p := ⟨b, o + k * 3 + 2, none⟩) (World.block_lt_of_cell? w _ h2)).trans h2
      have hsz := hbw.size
      have hsz2 : w.heap.size < wr.heap.size := (World.ownsRow.lt hown w.heap.size rfl).2
      have HO := Lib.hid hown
      obtain ⟨x, hx⟩ : ∃ x, x = (rs.getD k (0, 0, false)) := ⟨_, rfl⟩
      rw [← hx] at c0 c1 c2
      have HX := Lib.hid hx
      clear hown h0 h1 h2 hx
      go_wp2_with fail
      (with_reducible refine (toRide_one _ _ _ _).mono ?_)
      rintro e w1 ⟨rfl, hb1⟩
      have hb2 : Below w.heap.size w w1 := hbw.trans (hb1.mono hsz)
      have hown1 : w1.ownsRow w.heap.size 35 3 (.slice (some ⟨w.heap.size, 0, none⟩) rs.length rs.length) rs.length Ls := World.ownsRow.kept HO.out (w' := w1) (row := none) ⟨hb1.os, hb1.tape, hb1.output, hb1.size, fun k hk _ => hb1.block k hk⟩ (Or.inr (by simp [Value.ownBlock]))
      have hlen : Ls.length = rs.length * 3 := hown1.1
      obtain ⟨y0, d0⟩ : ∃ y, w1.cell? ⟨w.heap.size, k * 3, none⟩ = some y := ⟨Ls[k * 3]'(by omega), by rw [World.ownsRow.cellAt hown1 (k * 3) (by omega)]; exact List.getElem?_eq_getElem _⟩
      have f0 : w1.frozen? ⟨w.heap.size, k * 3, none⟩ = false := World.ownsRow.frozenAt hown1 _
      obtain ⟨y1, d1⟩ : ∃ y, w1.cell? ⟨w.heap.size, k * 3 + 1, none⟩ = some y := ⟨Ls[k * 3 + 1]'(by omega), by rw [World.ownsRow.cellAt hown1 (k * 3 + 1) (by omega)]; exact List.getElem?_eq_getElem _⟩
      have f1 : w1.frozen? ⟨w.heap.size, k * 3 + 1, none⟩ = false := World.ownsRow.frozenAt hown1 _
      obtain ⟨y2, d2⟩ : ∃ y, w1.cell? ⟨w.heap.size, k * 3 + 2, none⟩ = some y := ⟨Ls[k * 3 + 2]'(by omega), by rw [World.ownsRow.cellAt hown1 (k * 3 + 2) (by omega)]; exact List.getElem?_eq_getElem _⟩
      have f2 : w1.frozen? ⟨w.heap.size, k * 3 + 2, none⟩ = false := World.ownsRow.frozenAt hown1 _
      have s1 := (World.ownsRow.stored hown1 (k * 3) (.int .i64 x.1)).1
      have s2 := (World.ownsRow.stored s1 (k * 3 + 1) (.int .i64 x.2.1)).1
      have s3 := (World.ownsRow.stored s2 (k * 3 + 2) (.bool x.2.2)).1
      have HS := Lib.hid s3
      have HL := Lib.hid hlen
      clear s1 s2 s3 hown1 hlen HO
      go_wp2
      go_roundw
      case rel =>
        refine ⟨k + 1, by omega, by go_num, (((hb2.setCell (by simp) _).setCell (by simp) _).setCell (by simp) _), ⟨_, HS.out, ?_⟩⟩
        intro i hi
        by_cases hik : i = k
        · subst hik
          rw [← HX.out]
          have hl := HL.out
          exact ⟨by rw [List.getElem?_set_ne (by omega)]; rw [List.getElem?_set_ne (by omega)]; rw [List.getElem?_set_self (by (try simp only [List.length_set]); omega)], by rw [List.getElem?_set_ne (by omega)]; rw [List.getElem?_set_self (by (try simp only [List.length_set]); omega)], by rw [List.getElem?_set_self (by (try simp only [List.length_set]); omega)]⟩
        · obtain ⟨h0, h1, h2⟩ := HLs.out i (by omega)
          have hl := HL.out
          exact ⟨by rw [List.getElem?_set_ne (by omega)]; rw [List.getElem?_set_ne (by omega)]; rw [List.getElem?_set_ne (by omega)]; exact h0, by rw [List.getElem?_set_ne (by omega)]; rw [List.getElem?_set_ne (by omega)]; rw [List.getElem?_set_ne (by omega)]; exact h1, by rw [List.getElem?_set_ne (by omega)]; rw [List.getElem?_set_ne (by omega)]; rw [List.getElem?_set_ne (by omega)]; exact h2⟩
      case measure => simp [intOf]; omega
    · obtain rfl : k = rs.length := by omega
      have hE : Ls = rs.flatMap cellsRid := flatRid_ext hown.1 HLs.out
      subst hE
      have HO := Lib.hid hown
      clear hown
      go_wp2
      go_ret
      exact ⟨rfl, HO.out, hbw⟩

set_option maxHeartbeats 800000 in
theorem eqRideS_same (v u : Value) (rs : List (Int × Int × Bool)) (w : World) (hr : RdRid w v rs) (hs : RdRid w u rs) (hn : rs.length ≤ 1048576) :
    Calls Try.prog 18 #[v, u] w fun e w' => e = .returned (.bool true) ∧ Below w.heap.size w w' := by
  obtain ⟨a, c, rfl, hcell⟩ := hr
  obtain ⟨a', c', rfl, hcell'⟩ := hs
  have HC := Lib.hid hcell
  have HC' := Lib.hid hcell'
  clear hcell hcell'
  go_enter Try.func18, Try.ntmps18
  go_wp2
  go_loopw [5] (fun i wr => ∃ k : Nat, k ≤ rs.length ∧ i = .int .i64 k ∧ Below w.heap.size w wr) (fun i _ => rs.length - (intOf i).toNat)
  case atStart => exact ⟨0, Nat.zero_le _, rfl, Below.refl _ _⟩
  case round =>
    obtain ⟨k, hk, rfl, hbw⟩ := hrel
    by_cases hlt : k < rs.length
    · obtain ⟨b, o, rfl, h0, h1, h2⟩ := HC.out k hlt
      obtain ⟨b', o', rfl, q0, q1, q2⟩ := HC'.out k hlt
      have c0 : wr.cell? ⟨b, o + k * 3, none⟩ = some (.int .i64 (rs.getD k (0, 0, false)).1) := (hbw.cell (p := ⟨b, o + k * 3, none⟩) (World.block_lt_of_cell? w _ h0)).trans h0
      have d0 : wr.cell? ⟨b', o' + k * 3, none⟩ = some (.int .i64 (rs.getD k (0, 0, false)).1) := (hbw.cell (p := ⟨b', o' + k * 3, none⟩) (World.block_lt_of_cell? w _ q0)).trans q0
      have c1 : wr.cell? ⟨b, o + k * 3 + 1, none⟩ = some (.int .i64 (rs.getD k (0, 0, false)).2.1) := (hbw.cell (p := ⟨b, o + k * 3 + 1, none⟩) (World.block_lt_of_cell? w _ h1)).trans h1
      have d1 : wr.cell? ⟨b', o' + k * 3 + 1, none⟩ = some (.int .i64 (rs.getD k (0, 0, false)).2.1) := (hbw.cell (p := ⟨b', o' + k * 3 + 1, none⟩) (World.block_lt_of_cell? w _ q1)).trans q1
      have c2 : wr.cell? ⟨b, o + k * 3 + 2, none⟩ = some (.bool (rs.getD k (0, 0, false)).2.2) := (hbw.cell (p := ⟨b, o + k * 3 + 2, none⟩) (World.block_lt_of_cell? w _ h2)).trans h2
      have d2 : wr.cell? ⟨b', o' + k * 3 + 2, none⟩ = some (.bool (rs.getD k (0, 0, false)).2.2) := (hbw.cell (p := ⟨b', o' + k * 3 + 2, none⟩) (World.block_lt_of_cell? w _ q2)).trans q2
      generalize (rs.getD k (0, 0, false)) = x at *
      have hlt' : (k : Int) < (rs.length : Int) := by omega
      have hk0 : (0 : Int) ≤ (k : Int) := by omega
      clear h0 h1 h2 q0 q1 q2
      have keep : ∀ (w1 w2 : World), Below w2.heap.size w2 w1 → (w2.cell? ⟨b, o + k * 3, none⟩ = some (.int .i64 x.1) ∧ w2.cell? ⟨b, o + k * 3 + 1, none⟩ = some (.int .i64 x.2.1) ∧ w2.cell? ⟨b, o + k * 3 + 2, none⟩ = some (.bool x.2.2) ∧ w2.cell? ⟨b', o' + k * 3, none⟩ = some (.int .i64 x.1) ∧ w2.cell? ⟨b', o' + k * 3 + 1, none⟩ = some (.int .i64 x.2.1) ∧ w2.cell? ⟨b', o' + k * 3 + 2, none⟩ = some (.bool x.2.2) ∧ Below w.heap.size w w2) → (w1.cell? ⟨b, o + k * 3, none⟩ = some (.int .i64 x.1) ∧ w1.cell? ⟨b, o + k * 3 + 1, none⟩ = some (.int .i64 x.2.1) ∧ w1.cell? ⟨b, o + k * 3 + 2, none⟩ = some (.bool x.2.2) ∧ w1.cell? ⟨b', o' + k * 3, none⟩ = some (.int .i64 x.1) ∧ w1.cell? ⟨b', o' + k * 3 + 1, none⟩ = some (.int .i64 x.2.1) ∧ w1.cell? ⟨b', o' + k * 3 + 2, none⟩ = some (.bool x.2.2) ∧ Below w.heap.size w w1) := by
        intro w1 w2 hb hS
        obtain ⟨g0, g1, g2, g3, g4, g5, g9⟩ := hS
        have e : ∀ (p : Addr), p.block < w2.heap.size → w1.cell? p = w2.cell? p := fun p hp => hb.cell hp
        exact ⟨(e _ (World.block_lt_of_cell? _ _ g0)).trans g0, (e _ (World.block_lt_of_cell? _ _ g1)).trans g1, (e _ (World.block_lt_of_cell? _ _ g2)).trans g2, (e _ (World.block_lt_of_cell? _ _ g3)).trans g3, (e _ (World.block_lt_of_cell? _ _ g4)).trans g4, (e _ (World.block_lt_of_cell? _ _ g5)).trans g5, g9.trans (hb.mono g9.size)⟩
      have KP := Lib.hid keep
      clear keep
      go_wp2
      go_region_held3 (fun w' => w'.cell? ⟨b, o + k * 3, none⟩ = some (.int .i64 x.1) ∧ w'.cell? ⟨b, o + k * 3 + 1, none⟩ = some (.int .i64 x.2.1) ∧ w'.cell? ⟨b, o + k * 3 + 2, none⟩ = some (.bool x.2.2) ∧ w'.cell? ⟨b', o' + k * 3, none⟩ = some (.int .i64 x.1) ∧ w'.cell? ⟨b', o' + k * 3 + 1, none⟩ = some (.int .i64 x.2.1) ∧ w'.cell? ⟨b', o' + k * 3 + 2, none⟩ = some (.bool x.2.2) ∧ Below w.heap.size w w')
        (first | exact ⟨c0, c1, c2, d0, d1, d2, hbw.drew⟩ | exact KP.out _ _ (by assumption) (by assumption) | assumption)
        (first | (go_at_call 49; (with_reducible refine (eqRide_one _ _ _ _).mono ?_); rintro e w' ⟨rfl, hb⟩))
      all_goals
        rename_i hH
        obtain ⟨-, -, -, -, -, -, hB⟩ := hH
        clear c0 c1 c2 d0 d1 d2
        go_wp2
        go_roundw
      all_goals first | exact ⟨k + 1, by omega, by go_num, hB⟩ | (simp [intOf]; omega) | exact ⟨⟨k + 1, by omega, by go_num, hB⟩, by simp [intOf]; omega⟩
    · obtain rfl : k = rs.length := by omega
      go_wp2
      go_ret
      exact ⟨rfl, hbw⟩

end Go.Proofs.Ythfpikpknojffaa
