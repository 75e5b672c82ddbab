/- Contracts for the law on rides. -/
import Derived.Test.YthfpikpknojffaaRidP
import Derived.Test.YthfpikpknojffaaWeaN
import Derived.Test.YthfpikpknojffaaWeaK
import Derived.Test.YthfpikpknojffaaWedB
import Derived.Test.YthfpikpknojffaaOpenB
set_option linter.unusedSimpArgs false
set_option linter.unusedVariables false
namespace Go.Proofs.Ythfpikpknojffaa
open Go.RowKit

set_option maxHeartbeats 1600000 in
theorem likeInts_same (v u : Value) (xs : List Int) (w : World) (hr : RdI w v xs) (hs : RdI w u xs) (hn : xs.length ≤ 1048576) :
    Calls Try.prog 45 #[v, u] w fun e w' => e = .returned (.bool true) ∧ Below w.heap.size w w' := by
  obtain ⟨a, c, rfl, hcell⟩ := hr
  obtain ⟨a', c', rfl, hcell'⟩ := hs
  have HC := Lib.hid hcell
  have HC' := Lib.hid hcell'
  clear hcell hcell'
  go_enter Try.func45, Try.ntmps45
  go_wp2
  go_loopw [5] (fun i wr => ∃ k : Nat, k ≤ xs.length ∧ i = .int .i64 k ∧ Below w.heap.size w wr) (fun i _ => xs.length - (intOf i).toNat)
  case atStart => exact ⟨0, Nat.zero_le _, rfl, Below.refl _ _⟩
  case round =>
    obtain ⟨k, hk, rfl, hbw⟩ := hrel
    by_cases hlt : k < xs.length
    · obtain ⟨b, o, rfl, hc⟩ := HC.out k hlt
      obtain ⟨b', o', rfl, hc'⟩ := HC'.out k hlt
      have h1 : wr.cell? ⟨b, o + k, none⟩ = some (.int .i64 (xs.getD k 0)) := (hbw.cell (p := ⟨b, o + k, none⟩) (World.block_lt_of_cell? w _ hc)).trans hc
      have h2 : wr.cell? ⟨b', o' + k, none⟩ = some (.int .i64 (xs.getD k 0)) := (hbw.cell (p := ⟨b', o' + k, none⟩) (World.block_lt_of_cell? w _ hc')).trans hc'
      generalize xs.getD k 0 = x at h1 h2
      clear hc hc'
      have hlt' : (k : Int) < (xs.length : Int) := by omega
      have hk0 : (0 : Int) ≤ (k : Int) := by omega
      go_wp2
      go_quiet (fail)
      go_wp2
      go_roundw
      case rel => exact ⟨k + 1, by omega, by go_num, (by repeat (first | (with_reducible refine blw_drewN ?_ _) | (with_reducible assumption) | (with_reducible exact Below.refl _ _) | (with_reducible refine Below.drew ?_) | (with_reducible refine blw_al ?_ _) | (with_reducible refine blw_stp (by with_reducible assumption) ?_) | (with_reducible refine blw_set ?_ (by dsimp only; omega) _)))⟩
      case measure => simp [intOf]; omega
    · obtain rfl : k = xs.length := by omega
      go_wp2
      go_ret
      exact ⟨rfl, hbw⟩
theorem ride_neq_same (x y : Int) (z : Bool) (w : World) : (binOp .neq 35 (.agg #[.int .i64 x, .int .i64 y, .bool z]) (.agg #[.int .i64 x, .int .i64 y, .bool z])).run Try.prog w = .ok (.bool false) w := by
  simp [go_sem]
set_option maxHeartbeats 1600000 in
theorem likeRides_same (v u : Value) (rs : List Rid) (w : World) (hr : RdRid w v rs) (hs : RdRid w u rs) (hn : rs.length ≤ 1048576) :
    Calls Try.prog 46 #[v, u] w fun e w' => e = .returned (.bool true) ∧ Below w.heap.size w w' := by
  obtain ⟨a, c, rfl, hr2⟩ := hr.shape
  obtain ⟨a', c', rfl, hs2⟩ := hs.shape
  have HR := Lib.hid hr2
  have HS := Lib.hid hs2
  clear hr2 hr hs2 hs
  go_enter Try.func46, Try.ntmps46
  go_wp2
  go_loopw [5] (fun i wr => ∃ k : Nat, k ≤ rs.length ∧ i = .int .i64 k ∧ Below w.heap.size w wr) (fun i _ => rs.length - (intOf i).toNat)
  case atStart => exact ⟨0, Nat.zero_le _, rfl, Below.refl _ _⟩
  case round =>
    obtain ⟨k, hk, rfl, hbw⟩ := hrel
    by_cases hlt : k < rs.length
    · obtain ⟨b, o, rfl, c0, c1, c2⟩ := (HR.out.below hbw).at k hlt
      obtain ⟨b', o', rfl, d0, d1, d2⟩ := (HS.out.below hbw).at k hlt
      generalize (rs.getD k (0, 0, false)) = x at *
      obtain ⟨x0, x1, x2⟩ := x
      simp only at c0 c1 c2 d0 d1 d2
      have hlt' : (k : Int) < (rs.length : Int) := by omega
      have hk0 : (0 : Int) ≤ (k : Int) := by omega
      have hneq := ride_neq_same x0 x1 x2
      go_wp2
      go_quiet (fail)
      go_wp2
      go_roundw
      case rel => exact ⟨k + 1, by omega, by go_num, (by repeat (first | (with_reducible refine blw_drewN ?_ _) | (with_reducible assumption) | (with_reducible exact Below.refl _ _) | (with_reducible refine Below.drew ?_)))⟩
      case measure => simp [intOf]; omega
    · obtain rfl : k = rs.length := by omega
      go_wp2
      go_ret
      exact ⟨rfl, hbw⟩
theorem OwRid.shapeC {w : World} {base : Nat} {v : Value} {rs : List (Int × Int × Bool)} (h : OwRid w base v rs) : ∃ a c, v = .slice a rs.length c ∧ rs.length ≤ c ∧ RdRid w v rs := by
  have hrd := h.rd
  unfold OwRid at h
  rcases h.2 with ⟨hv, h0⟩ | ⟨g, cap, cur, hv, hg, hh, hnc, _⟩
  · rw [hv] at hrd ⊢
    exact ⟨none, 0, by rw [h0], by omega, hrd⟩
  · rw [hv] at hrd ⊢
    exact ⟨_, cap, rfl, hnc, hrd⟩
/-- The part of a slice of rides from l to h. -/
def subV (a : Option Addr) (l h c : Nat) : Value := .slice (if c = l then a else a.map (·.add (l * 3))) (h - l) (c - l)
theorem RdRid.sub {w : World} {a : Option Addr} {c : Nat} {rs : List (Int × Int × Bool)} (hr : RdRid w (.slice a rs.length c) rs) (hc : rs.length ≤ c) {l h : Nat} (h1 : l ≤ h) (h2 : h ≤ rs.length) : RdRid w (subV a l h c) ((rs.drop l).take (h - l)) := by
  have hl : ((rs.drop l).take (h - l)).length = h - l := len_sub rs l (h - l) (by omega)
  unfold RdRid subV
  rw [hl]
  refine ⟨_, _, rfl, fun i hi => ?_⟩
  obtain ⟨b, o, ha, c0, c1, c2⟩ := hr.at (l + i) (by omega)
  rw [getD_sub rs l (h - l) i hi]
  have hne : ¬ c = l := by omega
  refine ⟨b, o + l * 3, ?_, ?_, ?_, ?_⟩
  · rw [if_neg hne, ha]
    by_cases h0 : l = 0
    · subst h0; simp [Addr.add]
    · have : l * 3 ≠ 0 := by omega
      simp [Addr.add, h0]
      omega
  · rw [show o + l * 3 + i * 3 = o + (l + i) * 3 by omega]; exact c0
  · rw [show o + l * 3 + i * 3 = o + (l + i) * 3 by omega]; exact c1
  · rw [show o + l * 3 + i * 3 = o + (l + i) * 3 by omega]; exact c2
theorem run_subR (W : World) (a : Option Addr) (n c : Nat) (l h : Nat) (h1 : l ≤ h) (h2 : h ≤ c) : (Instr.slice 25 (.slice a n c) (some (.int .i64 (l : Int))) (some (.int .i64 (h : Int))) none).run Try.prog W = .ok (subV a l h c) W := by
  simp [go_sem, subV, h1, h2]
theorem DayForChange_r (v : Value) (rs : List Rid) (life : Int) (x c : Int) (w : World) (hr : RdRid w v rs) (hn : rs.length ≤ 1048576) (h : (x, c) = dayR rs life) : Calls Try.prog 40 #[v, .int .i64 life] w fun e w' => e = .returned (.tuple #[.int .i64 x, .int .i64 c]) ∧ Below w.heap.size w w' :=
  (DayForChange_any v rs life w hr hn).mono fun e w' q => by rw [q.1, ← h]; exact ⟨rfl, q.2⟩
theorem sDayForChange_r (v : Value) (rs : List Rid) (life : Int) (x c : Int) (w : World) (hr : RdRid w v rs) (hn : rs.length ≤ 1048576) (h : (x, c) = dayR rs life) : Calls Try.prog 39 #[v, .int .i64 life] w fun e w' => e = .returned (.tuple #[.int .i64 x, .int .i64 c]) ∧ Below w.heap.size w w' :=
  (sDayForChange_any v rs life w hr hn).mono fun e w' q => by rw [q.1, ← h]; exact ⟨rfl, q.2⟩
theorem WornPercent_r (v : Value) (rs : List Rid) (life : Int) (x c : Int) (w : World) (hr : RdRid w v rs) (hn : rs.length ≤ 1048576) (h : (x, c) = wornR rs life) : Calls Try.prog 31 #[v, .int .i64 life] w fun e w' => e = .returned (.tuple #[.int .i64 x, .int .i64 c]) ∧ Below w.heap.size w w' :=
  (WornPercent_any v rs life w hr hn).mono fun e w' q => by rw [q.1, ← h]; exact ⟨rfl, q.2⟩
theorem sWornPercent_r (v : Value) (rs : List Rid) (life : Int) (x c : Int) (w : World) (hr : RdRid w v rs) (hn : rs.length ≤ 1048576) (h : (x, c) = wornR rs life) : Calls Try.prog 30 #[v, .int .i64 life] w fun e w' => e = .returned (.tuple #[.int .i64 x, .int .i64 c]) ∧ Below w.heap.size w w' :=
  (sWornPercent_any v rs life w hr hn).mono fun e w' q => by rw [q.1, ← h]; exact ⟨rfl, q.2⟩
theorem WearOf_r (v : Value) (rs : List Rid) (x c : Int) (w : World) (hr : RdRid w v rs) (hn : rs.length ≤ 1048576) (h : (x, c) = wearRR rs) : Calls Try.prog 24 #[v] w fun e w' => e = .returned (.tuple #[.int .i64 x, .int .i64 c]) ∧ Below w.heap.size w w' :=
  (WearOf_any v rs w hr hn).mono fun e w' q => by rw [q.1, ← h]; exact ⟨rfl, q.2⟩
theorem sWearOf_r (v : Value) (rs : List Rid) (x c : Int) (w : World) (hr : RdRid w v rs) (hn : rs.length ≤ 1048576) (h : (x, c) = wearRR rs) : Calls Try.prog 23 #[v] w fun e w' => e = .returned (.tuple #[.int .i64 x, .int .i64 c]) ∧ Below w.heap.size w w' :=
  (sWearOf_any v rs w hr hn).mono fun e w' q => by rw [q.1, ← h]; exact ⟨rfl, q.2⟩
theorem AreRides_r (v : Value) (rs : List Rid) (b : Bool) (w : World) (hr : RdRid w v rs) (hn : rs.length ≤ 1048576) (h : areR rs = b) : Calls Try.prog 17 #[v] w fun e w' => e = .returned (.bool b) ∧ Below w.heap.size w w' := by rw [← h]; exact AreRides_any v rs w hr hn
end Go.Proofs.Ythfpikpknojffaa
