/- Contracts of the laws' helpers on slices of int64: the copy, the comparison of two that read alike, the marking, the asking for marks. -/
import Derived.Test.YtfdnhamkkcmnfaaIntsA
import Derived.Deep.QuietTactic
import Derived.BigQuiet
set_option linter.unusedSimpArgs false
set_option linter.unusedVariables false
namespace Go.Proofs.Ytfdnhamkkcmnfaa
open Go.RowKit

theorem only_setCell {a w : World} {g : Nat} (h : a.grownBy w (some g)) (i : Nat) (u : Value) : a.grownBy (w.setCell ⟨g, i, none⟩ u) (some g) :=
  ⟨h.os, h.tape, h.output, by simpa [World.setCell] using h.size, fun k hk hne => (Below.heap_setCell w ⟨g, i, none⟩ u k (by
    rintro rfl
    exact hne rfl)).trans (h.block k hk hne)⟩
theorem blw_drewN {B : Nat} {a w : World} (h : Below B a w) (n : Nat) : Below B a (w.drewN n) := ⟨h.os, h.tape, h.output, h.size, h.block⟩

set_option maxHeartbeats 800000 in
theorem eqInt64S_same (v u : Value) (xs : List Int) (w : World) (hr : RdI w v xs) (hs : RdI w u xs) (hn : xs.length ≤ 1048576) :
    Calls Try.prog 33 #[v, u] w fun e w' => e = .returned (.bool true) ∧ Below w.heap.size w w' := by
  obtain ⟨a, c, rfl, hcell⟩ := hr
  obtain ⟨a', c', rfl, hcell'⟩ := hs
  have HC := Lib.hid hcell
  have HC' := Lib.hid hcell'
  clear hcell hcell'
  go_enter Try.func33, Try.ntmps33
  go_wp2
  go_loopw [5] (fun i wr => ∃ k : Nat, k ≤ xs.length ∧ i = .int .i64 k ∧ Below w.heap.size w wr) (fun i _ => xs.length - (intOf i).toNat)
  case atStart => exact ⟨0, Nat.zero_le _, rfl, Below.refl _ _⟩
  case round =>
    obtain ⟨k, hk, rfl, hbw⟩ := hrel
    by_cases hlt : k < xs.length
    · obtain ⟨b, o, rfl, hc⟩ := HC.out k hlt
      obtain ⟨b', o', rfl, hc'⟩ := HC'.out k hlt
      have h1 : wr.cell? ⟨b, o + k, none⟩ = some (.int .i64 (xs.getD k 0)) := (hbw.cell (p := ⟨b, o + k, none⟩) (World.block_lt_of_cell? w _ hc)).trans hc
      have h2 : wr.cell? ⟨b', o' + k, none⟩ = some (.int .i64 (xs.getD k 0)) := (hbw.cell (p := ⟨b', o' + k, none⟩) (World.block_lt_of_cell? w _ hc')).trans hc'
      generalize xs.getD k 0 = x at h1 h2
      clear hc hc'
      have hlt' : (k : Int) < (xs.length : Int) := by omega
      have hk0 : (0 : Int) ≤ (k : Int) := by omega
      go_wp2
      go_quiet (fail)
      go_wp2
      go_roundw
      case rel => exact ⟨k + 1, by omega, by go_num, (by repeat (first | (with_reducible refine blw_drewN ?_ _) | (with_reducible assumption) | (with_reducible exact Below.refl _ _) | (with_reducible refine Below.drew ?_) | (with_reducible refine blw_al ?_ _) | (with_reducible refine blw_stp (by with_reducible assumption) ?_) | (with_reducible refine blw_set ?_ (by dsimp only; omega) _)))⟩
      case measure => simp [intOf]; omega
    · obtain rfl : k = xs.length := by omega
      go_wp2
      go_ret
      exact ⟨rfl, hbw⟩

set_option maxHeartbeats 800000 in
theorem markInt64S_any (v : Value) (xs : List Int) (k0 : Int) (base : Nat) (w : World) (ho : OwI w base v xs) (hn : xs.length ≤ 1048576) (hk1 : 0 ≤ k0) (hk2 : k0 ≤ 4194304) :
    Calls Try.prog 35 #[v, .int .i64 k0] w fun e w' => e = .returned (.int .i64 (k0 + xs.length)) ∧ OwI w' base v (marks k0 xs.length) ∧ w.grownBy w' v.ownBlock := by
  rcases ho.form with ⟨rfl, rfl⟩ | ⟨g, cap, rfl, hg, hgl⟩
  · go_enter Try.func35, Try.ntmps35
    go_wp2
    refine wp_loop_rounds 1 ?_
    rw [rounds_succ]
    go_wp2
    go_ret
    exact ⟨by simp, OwI.nil _ _, ⟨rfl, rfl, rfl, Nat.le_refl _, fun _ _ _ => rfl⟩⟩
  · unfold OwI at ho
    have HO := Lib.hid ho
    clear ho
    go_enter Try.func35, Try.ntmps35
    go_wp2
    go_loopw [1, 5] (fun q i wr => ∃ k : Nat, k ≤ xs.length ∧ i = .int .i64 k ∧ q = .int .i64 (k0 + k) ∧ w.grownBy wr (some g) ∧ Hid (∃ Ls : List Value, wr.ownsRow base 2 1 (.slice (some ⟨g, 0, none⟩) xs.length cap) xs.length Ls ∧ ∀ j, j < k → Ls[j]? = some (.int .i64 (k0 + j)))) (fun _ i _ => xs.length - (intOf i).toNat)
    case atStart => exact ⟨0, Nat.zero_le _, rfl, by simp, ⟨rfl, rfl, rfl, Nat.le_refl _, fun _ _ _ => rfl⟩, ⟨_, HO.out, fun j hj => by omega⟩⟩
    case round =>
      obtain ⟨k, hk, rfl, rfl, hgr, hL⟩ := hrel
      obtain ⟨Ls, hown, hLs⟩ := hL
      have HLs := Lib.hid hLs
      clear hLs
      by_cases hlt : k < xs.length
      · have hlen : Ls.length = xs.length := by have := hown.1; omega
        obtain ⟨y, hd⟩ : ∃ y, wr.cell? ⟨g, k, none⟩ = some y := ⟨Ls[k]'(by omega), by rw [World.ownsRow.cellAt hown k (by omega)]; exact List.getElem?_eq_getElem _⟩
        have hfr : wr.frozen? ⟨g, k, none⟩ = false := World.ownsRow.frozenAt hown k
        have hst := World.ownsRow.stored hown k (.int .i64 (k0 + k))
        have HS := Lib.hid hst
        have HL := Lib.hid hlen
        clear hst hown hlen
        go_wp2
        go_roundw
        case rel =>
          refine ⟨k + 1, by omega, by go_num, by go_num, only_setCell hgr _ _, ⟨Ls.set k (.int .i64 (k0 + k)), HS.out.1, ?_⟩⟩
          · intro j hj
            by_cases hjk : j = k
            · subst hjk; rw [List.getElem?_set_self (by have := HL.out; omega)]
            · rw [List.getElem?_set_ne (by omega)]; exact HLs.out j (by omega)
        case measure => simp [intOf]; omega
      · obtain rfl : k = xs.length := by omega
        have hE : Ls = (marks k0 xs.length).map (Value.int .i64) := ext_ints (by have := hown.1; rw [marks_length]; omega) (fun j hj => by rw [marks_length] at hj; rw [HLs.out j hj, marks_getD _ _ _ hj])
        subst hE
        have HO2 := Lib.hid hown
        clear hown
        go_wp2
        go_ret
        exact ⟨rfl, by have := HO2.out; unfold OwI; rw [marks_length]; exact this, hgr⟩

set_option maxHeartbeats 800000 in
theorem heldInt64S_any (v : Value) (n : Nat) (k0 : Int) (w : World) (hr : RdI w v (marks k0 n)) (hn : n ≤ 1048576) (hk1 : 0 ≤ k0) (hk2 : k0 ≤ 4194304) :
    Calls Try.prog 36 #[v, .int .i64 k0] w fun e w' => e = .returned (.int .i64 (k0 + n)) ∧ w = w' := by
  obtain ⟨a, c, rfl, hcell⟩ := hr
  rw [marks_length] at hcell
  rw [marks_length]
  have HC := Lib.hid hcell
  clear hcell
  go_enter Try.func36, Try.ntmps36
  go_wp2
  go_loop [1, 5] (fun q i => ∃ k : Nat, k ≤ n ∧ i = .int .i64 k ∧ q = .int .i64 (k0 + k)) (fun _ i => n - (intOf i).toNat)
  case atStart => exact ⟨0, Nat.zero_le _, rfl, by simp⟩
  case round =>
    obtain ⟨k, hk, rfl, rfl⟩ := hrel
    by_cases hlt : k < n
    · obtain ⟨b, o, rfl, hc⟩ := HC.out k hlt
      rw [marks_getD _ _ _ hlt] at hc
      go_wp2
      go_round
      case rel => exact ⟨k + 1, by omega, by go_num, by go_num⟩
      case measure => simp [intOf]; omega
    · obtain rfl : k = n := by omega
      go_wp2
      go_ret
      exact ⟨rfl, rfl⟩

end Go.Proofs.Ytfdnhamkkcmnfaa
