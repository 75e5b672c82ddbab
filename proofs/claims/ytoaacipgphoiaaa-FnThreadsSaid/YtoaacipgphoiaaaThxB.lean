/- Contracts of the laws' helpers on slices of Thread. -/
import Derived.Test.YtoaacipgphoiaaaThxA
import Derived.Deep.QuietTactic
import Derived.BigQuiet
import Derived.Deep.RegionHeld3
set_option linter.unusedSimpArgs false
set_option linter.unusedVariables false
namespace Go.Proofs.Ytoaacipgphoiaaa
open Go.RowKit

set_option maxHeartbeats 800000 in
theorem toThread_one (x0 : Int) (x1 : Int) (x2 : Bool) (x3 : Bool) (w : World) :
    Calls Try.prog 14 #[.agg #[.int .i64 x0, .int .i64 x1, .bool x2, .bool x3]] w fun e w' => e = .returned (.agg #[.int .i64 x0, .int .i64 x1, .bool x2, .bool x3]) ∧ Below w.heap.size w w' := by
  go_enter Try.func14, Try.ntmps14
  go_wp2
  refine bodyPost_ret (v := .agg #[.int .i64 x0, .int .i64 x1, .bool x2, .bool x3]) (by simp [results, Try.results14, go_sem]) rfl ⟨rfl, ?_⟩
  go_grown
set_option maxHeartbeats 800000 in
theorem eqThread_one (x0 : Int) (x1 : Int) (x2 : Bool) (x3 : Bool) (w : World) :
    Calls Try.prog 22 #[.agg #[.int .i64 x0, .int .i64 x1, .bool x2, .bool x3], .agg #[.int .i64 x0, .int .i64 x1, .bool x2, .bool x3]] w fun e w' => e = .returned (.bool true) ∧ Below w.heap.size w w' := by
  go_enter Try.func22, Try.ntmps22
  go_wp2
  go_ret
  exact ⟨rfl, (by repeat (first | (with_reducible assumption) | (with_reducible exact Below.refl _ _) | (with_reducible refine Below.drew ?_) | (with_reducible refine blw_al ?_ _) | (with_reducible refine blw_stp (by with_reducible assumption) ?_) | (with_reducible refine blw_set ?_ (by dsimp only; omega) _)))⟩
set_option maxHeartbeats 800000 in
theorem szThreadS_no (a : Option Addr) (n c : Nat) (left : Int) (w : World) (h : left < n) (h0 : 0 ≤ left) (h1 : left ≤ 1048576) (hn : n ≤ maxLen) :
    Calls Try.prog 27 #[.slice a n c, .int .i64 left] w fun e w' => e = .returned (.int .i64 (-1)) ∧ w = w' := by
  unfold maxLen at hn
  go_enter Try.func27, Try.ntmps27
  go_wp2
  go_ret
  exact ⟨rfl, rfl⟩
set_option maxHeartbeats 800000 in
theorem szThreadS_yes (a : Option Addr) (n c : Nat) (left : Int) (w : World) (h : (n : Int) ≤ left) (h1 : left ≤ 1048576) :
    Calls Try.prog 27 #[.slice a n c, .int .i64 left] w fun e w' => e = .returned (.int .i64 (left - n)) ∧ w = w' := by
  go_enter Try.func27, Try.ntmps27
  go_wp2
  go_ret
  exact ⟨rfl, rfl⟩

set_option maxHeartbeats 800000 in
theorem toThreadS_any (v : Value) (rs : List (Int × Int × Bool × Bool)) (w : World) (hr : RdThx w v rs) (hn : rs.length ≤ 1048576) :
    Calls Try.prog 29 #[v] w fun e w' => e = .returned (.slice (some ⟨w.heap.size, 0, none⟩) rs.length rs.length) ∧ OwThx w' w.heap.size (.slice (some ⟨w.heap.size, 0, none⟩) rs.length rs.length) rs ∧ Below w.heap.size w w' := by
  obtain ⟨a, c, rfl, hcell⟩ := hr
  have HC := Lib.hid hcell
  clear hcell
  obtain ⟨i0, hi, hz0, hz1, hz2⟩ := info_parts Try.infoThx
  go_enter Try.func29, Try.ntmps29
  go_wp2_with (refine wpList_make_full _ rfl _ _ 43 rfl w.heap.size 25 i0 (.agg #[.int .i64 0, .int .i64 0, .bool false, .bool false]) 4 Try.underlying43 hi hz0 hz1 .i64 .i64 _ _ rs.length rfl rfl rfl rfl (by rw [hz2]; omega) (by unfold maxLen; omega) (Nat.le_refl _) ?_; intro w1 hown hgrow)
  go_loopw [4] (fun i wr => ∃ k : Nat, k ≤ rs.length ∧ i = .int .i64 k ∧ Below w.heap.size w wr ∧ Hid (∃ Ls : List Value, wr.ownsRow w.heap.size 25 4 (.slice (some ⟨w.heap.size, 0, none⟩) rs.length rs.length) rs.length Ls ∧ ∀ i, i < k → Ls[i * 4]? = some (.int .i64 (rs.getD i (0, 0, false, false)).1) ∧ Ls[i * 4 + 1]? = some (.int .i64 (rs.getD i (0, 0, false, false)).2.1) ∧ Ls[i * 4 + 2]? = some (.bool (rs.getD i (0, 0, false, false)).2.2.1) ∧ Ls[i * 4 + 3]? = some (.bool (rs.getD i (0, 0, false, false)).2.2.2))) (fun i _ => rs.length - (intOf i).toNat)
  case atStart => exact ⟨0, Nat.zero_le _, rfl, below_farThx hgrow (Nat.le_refl _) (fun k h => by cases h), ⟨_, hown, fun j hj => by omega⟩⟩
  case round =>
    clear hown hgrow
    obtain ⟨k, hk, rfl, hbw, hL⟩ := hrel
    obtain ⟨Ls, hown, hLs⟩ := hL
    have HLs := Lib.hid hLs
    clear hLs
    by_cases hlt : k < rs.length
    · obtain ⟨b, o, rfl, h0, h1, h2, h3⟩ := HC.out k hlt
      have c0 : wr.cell? ⟨b, o + k * 4, none⟩ = some (.int .i64 (rs.getD k (0, 0, false, false)).1) := (hbw.cell (p := ⟨b, o + k * 4, none⟩) (World.block_lt_of_cell? w _ h0)).trans h0
      have c1 : wr.cell? ⟨b, o + k * 4 + 1, none⟩ = some (.int .i64 (rs.getD k (0, 0, false, false)).2.1) := (hbw.cell (p := ⟨b, o + k * 4 + 1, none⟩) (World.block_lt_of_cell? w _ h1)).trans h1
      have c2 : wr.cell? ⟨b, o + k * 4 + 2, none⟩ = some (.bool (rs.getD k (0, 0, false, false)).2.2.1) := (hbw.cell (p := ⟨b, o + k * 4 + 2, none⟩) (World.block_lt_of_cell? w _ h2)).trans h2
      have c3 : wr.cell? ⟨b, o + k * 4 + 3, none⟩ = some (.bool (rs.getD k (0, 0, false, false)).2.2.2) := (hbw.cell (p := ⟨b, o + k * 4 + 3, none⟩) (World.block_lt_of_cell? w _ h3)).trans h3
      have hsz := hbw.size
      have hsz2 : w.heap.size < wr.heap.size := (World.ownsRow.lt hown w.heap.size rfl).2
      have HO := Lib.hid hown
      obtain ⟨x, hx⟩ : ∃ x, x = (rs.getD k (0, 0, false, false)) := ⟨_, rfl⟩
      rw [← hx] at c0 c1 c2 c3
      have HX := Lib.hid hx
      clear hown h0 h1 h2 h3 hx
      go_wp2_with fail
      (with_reducible refine (toThread_one _ _ _ _ _).mono ?_)
      rintro e w1 ⟨rfl, hb1⟩
      have hb2 : Below w.heap.size w w1 := hbw.trans (hb1.mono hsz)
      have hown1 : w1.ownsRow w.heap.size 25 4 (.slice (some ⟨w.heap.size, 0, none⟩) rs.length rs.length) rs.length Ls := World.ownsRow.kept HO.out (w' := w1) (row := none) ⟨hb1.os, hb1.tape, hb1.output, hb1.size, fun k hk _ => hb1.block k hk⟩ (Or.inr (by simp [Value.ownBlock]))
      have hlen : Ls.length = rs.length * 4 := hown1.1
      obtain ⟨y0, d0⟩ : ∃ y, w1.cell? ⟨w.heap.size, k * 4, none⟩ = some y := ⟨Ls[k * 4]'(by omega), by rw [World.ownsRow.cellAt hown1 (k * 4) (by omega)]; exact List.getElem?_eq_getElem _⟩
      have f0 : w1.frozen? ⟨w.heap.size, k * 4, none⟩ = false := World.ownsRow.frozenAt hown1 _
      obtain ⟨y1, d1⟩ : ∃ y, w1.cell? ⟨w.heap.size, k * 4 + 1, none⟩ = some y := ⟨Ls[k * 4 + 1]'(by omega), by rw [World.ownsRow.cellAt hown1 (k * 4 + 1) (by omega)]; exact List.getElem?_eq_getElem _⟩
      have f1 : w1.frozen? ⟨w.heap.size, k * 4 + 1, none⟩ = false := World.ownsRow.frozenAt hown1 _
      obtain ⟨y2, d2⟩ : ∃ y, w1.cell? ⟨w.heap.size, k * 4 + 2, none⟩ = some y := ⟨Ls[k * 4 + 2]'(by omega), by rw [World.ownsRow.cellAt hown1 (k * 4 + 2) (by omega)]; exact List.getElem?_eq_getElem _⟩
      have f2 : w1.frozen? ⟨w.heap.size, k * 4 + 2, none⟩ = false := World.ownsRow.frozenAt hown1 _
      obtain ⟨y3, d3⟩ : ∃ y, w1.cell? ⟨w.heap.size, k * 4 + 3, none⟩ = some y := ⟨Ls[k * 4 + 3]'(by omega), by rw [World.ownsRow.cellAt hown1 (k * 4 + 3) (by omega)]; exact List.getElem?_eq_getElem _⟩
      have f3 : w1.frozen? ⟨w.heap.size, k * 4 + 3, none⟩ = false := World.ownsRow.frozenAt hown1 _
      have s1 := (World.ownsRow.stored hown1 (k * 4) (.int .i64 x.1)).1
      have s2 := (World.ownsRow.stored s1 (k * 4 + 1) (.int .i64 x.2.1)).1
      have s3 := (World.ownsRow.stored s2 (k * 4 + 2) (.bool x.2.2.1)).1
      have s4 := (World.ownsRow.stored s3 (k * 4 + 3) (.bool x.2.2.2)).1
      have HS := Lib.hid s4
      have HL := Lib.hid hlen
      clear s1 s2 s3 s4 hown1 hlen HO
      go_wp2
      go_roundw
      case rel =>
        refine ⟨k + 1, by omega, by go_num, ((((hb2.setCell (by simp) _).setCell (by simp) _).setCell (by simp) _).setCell (by simp) _), ⟨_, HS.out, ?_⟩⟩
        intro i hi
        by_cases hik : i = k
        · subst hik
          rw [← HX.out]
          have hl := HL.out
          exact ⟨by rw [List.getElem?_set_ne (by omega)]; rw [List.getElem?_set_ne (by omega)]; rw [List.getElem?_set_ne (by omega)]; rw [List.getElem?_set_self (by (try simp only [List.length_set]); omega)], by rw [List.getElem?_set_ne (by omega)]; rw [List.getElem?_set_ne (by omega)]; rw [List.getElem?_set_self (by (try simp only [List.length_set]); omega)], by rw [List.getElem?_set_ne (by omega)]; rw [List.getElem?_set_self (by (try simp only [List.length_set]); omega)], by rw [List.getElem?_set_self (by (try simp only [List.length_set]); omega)]⟩
        · obtain ⟨h0, h1, h2, h3⟩ := HLs.out i (by omega)
          have hl := HL.out
          exact ⟨by rw [List.getElem?_set_ne (by omega)]; rw [List.getElem?_set_ne (by omega)]; rw [List.getElem?_set_ne (by omega)]; rw [List.getElem?_set_ne (by omega)]; exact h0, by rw [List.getElem?_set_ne (by omega)]; rw [List.getElem?_set_ne (by omega)]; rw [List.getElem?_set_ne (by omega)]; rw [List.getElem?_set_ne (by omega)]; exact h1, by rw [List.getElem?_set_ne (by omega)]; rw [List.getElem?_set_ne (by omega)]; rw [List.getElem?_set_ne (by omega)]; rw [List.getElem?_set_ne (by omega)]; exact h2, by rw [List.getElem?_set_ne (by omega)]; rw [List.getElem?_set_ne (by omega)]; rw [List.getElem?_set_ne (by omega)]; rw [List.getElem?_set_ne (by omega)]; exact h3⟩
      case measure => simp [intOf]; omega
    · obtain rfl : k = rs.length := by omega
      have hE : Ls = rs.flatMap cellsThx := flatThx_ext hown.1 HLs.out
      subst hE
      have HO := Lib.hid hown
      clear hown
      go_wp2
      go_ret
      exact ⟨rfl, HO.out, hbw⟩

set_option maxHeartbeats 800000 in
theorem eqThreadS_same (v u : Value) (rs : List (Int × Int × Bool × Bool)) (w : World) (hr : RdThx w v rs) (hs : RdThx w u rs) (hn : rs.length ≤ 1048576) :
    Calls Try.prog 31 #[v, u] w fun e w' => e = .returned (.bool true) ∧ Below w.heap.size w w' := by
  obtain ⟨a, c, rfl, hcell⟩ := hr
  obtain ⟨a', c', rfl, hcell'⟩ := hs
  have HC := Lib.hid hcell
  have HC' := Lib.hid hcell'
  clear hcell hcell'
  go_enter Try.func31, Try.ntmps31
  go_wp2
  go_loopw [5] (fun i wr => ∃ k : Nat, k ≤ rs.length ∧ i = .int .i64 k ∧ Below w.heap.size w wr) (fun i _ => rs.length - (intOf i).toNat)
  case atStart => exact ⟨0, Nat.zero_le _, rfl, Below.refl _ _⟩
  case round =>
    obtain ⟨k, hk, rfl, hbw⟩ := hrel
    by_cases hlt : k < rs.length
    · obtain ⟨b, o, rfl, h0, h1, h2, h3⟩ := HC.out k hlt
      obtain ⟨b', o', rfl, q0, q1, q2, q3⟩ := HC'.out k hlt
      have c0 : wr.cell? ⟨b, o + k * 4, none⟩ = some (.int .i64 (rs.getD k (0, 0, false, false)).1) := (hbw.cell (p := ⟨b, o + k * 4, none⟩) (World.block_lt_of_cell? w _ h0)).trans h0
      have d0 : wr.cell? ⟨b', o' + k * 4, none⟩ = some (.int .i64 (rs.getD k (0, 0, false, false)).1) := (hbw.cell (p := ⟨b', o' + k * 4, none⟩) (World.block_lt_of_cell? w _ q0)).trans q0
      have c1 : wr.cell? ⟨b, o + k * 4 + 1, none⟩ = some (.int .i64 (rs.getD k (0, 0, false, false)).2.1) := (hbw.cell (p := ⟨b, o + k * 4 + 1, none⟩) (World.block_lt_of_cell? w _ h1)).trans h1
      have d1 : wr.cell? ⟨b', o' + k * 4 + 1, none⟩ = some (.int .i64 (rs.getD k (0, 0, false, false)).2.1) := (hbw.cell (p := ⟨b', o' + k * 4 + 1, none⟩) (World.block_lt_of_cell? w _ q1)).trans q1
      have c2 : wr.cell? ⟨b, o + k * 4 + 2, none⟩ = some (.bool (rs.getD k (0, 0, false, false)).2.2.1) := (hbw.cell (p := ⟨b, o + k * 4 + 2, none⟩) (World.block_lt_of_cell? w _ h2)).trans h2
      have d2 : wr.cell? ⟨b', o' + k * 4 + 2, none⟩ = some (.bool (rs.getD k (0, 0, false, false)).2.2.1) := (hbw.cell (p := ⟨b', o' + k * 4 + 2, none⟩) (World.block_lt_of_cell? w _ q2)).trans q2
      have c3 : wr.cell? ⟨b, o + k * 4 + 3, none⟩ = some (.bool (rs.getD k (0, 0, false, false)).2.2.2) := (hbw.cell (p := ⟨b, o + k * 4 + 3, none⟩) (World.block_lt_of_cell? w _ h3)).trans h3
      have d3 : wr.cell? ⟨b', o' + k * 4 + 3, none⟩ = some (.bool (rs.getD k (0, 0, false, false)).2.2.2) := (hbw.cell (p := ⟨b', o' + k * 4 + 3, none⟩) (World.block_lt_of_cell? w _ q3)).trans q3
      generalize (rs.getD k (0, 0, false, false)) = x at *
      have hlt' : (k : Int) < (rs.length : Int) := by omega
      have hk0 : (0 : Int) ≤ (k : Int) := by omega
      clear h0 h1 h2 h3 q0 q1 q2 q3
      have keep : ∀ (w1 w2 : World), Below w2.heap.size w2 w1 → (w2.cell? ⟨b, o + k * 4, none⟩ = some (.int .i64 x.1) ∧ w2.cell? ⟨b, o + k * 4 + 1, none⟩ = some (.int .i64 x.2.1) ∧ w2.cell? ⟨b, o + k * 4 + 2, none⟩ = some (.bool x.2.2.1) ∧ w2.cell? ⟨b, o + k * 4 + 3, none⟩ = some (.bool x.2.2.2) ∧ w2.cell? ⟨b', o' + k * 4, none⟩ = some (.int .i64 x.1) ∧ w2.cell? ⟨b', o' + k * 4 + 1, none⟩ = some (.int .i64 x.2.1) ∧ w2.cell? ⟨b', o' + k * 4 + 2, none⟩ = some (.bool x.2.2.1) ∧ w2.cell? ⟨b', o' + k * 4 + 3, none⟩ = some (.bool x.2.2.2) ∧ Below w.heap.size w w2) → (w1.cell? ⟨b, o + k * 4, none⟩ = some (.int .i64 x.1) ∧ w1.cell? ⟨b, o + k * 4 + 1, none⟩ = some (.int .i64 x.2.1) ∧ w1.cell? ⟨b, o + k * 4 + 2, none⟩ = some (.bool x.2.2.1) ∧ w1.cell? ⟨b, o + k * 4 + 3, none⟩ = some (.bool x.2.2.2) ∧ w1.cell? ⟨b', o' + k * 4, none⟩ = some (.int .i64 x.1) ∧ w1.cell? ⟨b', o' + k * 4 + 1, none⟩ = some (.int .i64 x.2.1) ∧ w1.cell? ⟨b', o' + k * 4 + 2, none⟩ = some (.bool x.2.2.1) ∧ w1.cell? ⟨b', o' + k * 4 + 3, none⟩ = some (.bool x.2.2.2) ∧ Below w.heap.size w w1) := by
        intro w1 w2 hb hS
        obtain ⟨g0, g1, g2, g3, g4, g5, g6, g7, g9⟩ := hS
        have e : ∀ (p : Addr), p.block < w2.heap.size → w1.cell? p = w2.cell? p := fun p hp => hb.cell hp
        exact ⟨(e _ (World.block_lt_of_cell? _ _ g0)).trans g0, (e _ (World.block_lt_of_cell? _ _ g1)).trans g1, (e _ (World.block_lt_of_cell? _ _ g2)).trans g2, (e _ (World.block_lt_of_cell? _ _ g3)).trans g3, (e _ (World.block_lt_of_cell? _ _ g4)).trans g4, (e _ (World.block_lt_of_cell? _ _ g5)).trans g5, (e _ (World.block_lt_of_cell? _ _ g6)).trans g6, (e _ (World.block_lt_of_cell? _ _ g7)).trans g7, g9.trans (hb.mono g9.size)⟩
      have KP := Lib.hid keep
      clear keep
      go_wp2
      go_region_held3 (fun w' => w'.cell? ⟨b, o + k * 4, none⟩ = some (.int .i64 x.1) ∧ w'.cell? ⟨b, o + k * 4 + 1, none⟩ = some (.int .i64 x.2.1) ∧ w'.cell? ⟨b, o + k * 4 + 2, none⟩ = some (.bool x.2.2.1) ∧ w'.cell? ⟨b, o + k * 4 + 3, none⟩ = some (.bool x.2.2.2) ∧ w'.cell? ⟨b', o' + k * 4, none⟩ = some (.int .i64 x.1) ∧ w'.cell? ⟨b', o' + k * 4 + 1, none⟩ = some (.int .i64 x.2.1) ∧ w'.cell? ⟨b', o' + k * 4 + 2, none⟩ = some (.bool x.2.2.1) ∧ w'.cell? ⟨b', o' + k * 4 + 3, none⟩ = some (.bool x.2.2.2) ∧ Below w.heap.size w w')
        (first | exact ⟨c0, c1, c2, c3, d0, d1, d2, d3, hbw.drew⟩ | exact KP.out _ _ (by assumption) (by assumption) | assumption)
        (first | (go_at_call 22; (with_reducible refine (eqThread_one _ _ _ _ _).mono ?_); rintro e w' ⟨rfl, hb⟩))
      all_goals
        rename_i hH
        obtain ⟨-, -, -, -, -, -, -, -, hB⟩ := hH
        clear c0 c1 c2 c3 d0 d1 d2 d3
        go_wp2
        go_roundw
      all_goals first | exact ⟨k + 1, by omega, by go_num, hB⟩ | (simp [intOf]; omega) | exact ⟨⟨k + 1, by omega, by go_num, hB⟩, by simp [intOf]; omega⟩
    · obtain rfl : k = rs.length := by omega
      go_wp2
      go_ret
      exact ⟨rfl, hbw⟩

end Go.Proofs.Ytoaacipgphoiaaa
