/- Contracts of markRideS and heldRideS. -/
import Derived.Test.YthfpikpknojffaaRidB
set_option linter.unusedSimpArgs false
set_option linter.unusedVariables false
namespace Go.Proofs.Ythfpikpknojffaa
open Go.RowKit

/-- The marks of n rides from k on. -/
def marksR (k : Int) (n : Nat) : List (Int × Int × Bool) := (List.range n).map (fun (i : Nat) => (k + 3 * (i : Int), k + 3 * (i : Int) + 1, (k + 3 * (i : Int) + 1 + 1) % 3 == 0))
theorem marksR_length (k : Int) (n : Nat) : (marksR k n).length = n := by simp [marksR]
theorem marksR_getD (k : Int) (n i : Nat) (h : i < n) : (marksR k n).getD i (0, 0, false) = (k + 3 * (i : Int), k + 3 * (i : Int) + 1, (k + 3 * (i : Int) + 1 + 1) % 3 == 0) := by simp [marksR, h]
theorem only_setCellR {a w : World} {g : Nat} (h : a.grownBy w (some g)) (i : Nat) (u : Value) : a.grownBy (w.setCell ⟨g, i, none⟩ u) (some g) :=
  ⟨h.os, h.tape, h.output, by simpa [World.setCell] using h.size, fun k hk hne => (Below.heap_setCell w ⟨g, i, none⟩ u k (by
    rintro rfl
    exact hne rfl)).trans (h.block k hk hne)⟩
set_option maxHeartbeats 800000 in
theorem markRideS_any (v : Value) (rs : List (Int × Int × Bool)) (k0 : Int) (base : Nat) (w : World) (ho : OwRid w base v rs) (hn : rs.length ≤ 1048577) (hk1 : 0 ≤ k0) (hk2 : k0 ≤ 4194304) :
    Calls Try.prog 28 #[v, .int .i64 k0] w fun e w' => e = .returned (.int .i64 (k0 + 3 * rs.length)) ∧ OwRid w' base v (marksR k0 rs.length) ∧ w.grownBy w' v.ownBlock := by
  rcases ho.form with ⟨rfl, rfl⟩ | ⟨g, cap, rfl, hg, hgl⟩
  · go_enter Try.func28, Try.ntmps28
    go_wp2
    refine wp_loop_rounds 1 ?_
    rw [rounds_succ]
    go_wp2
    go_ret
    exact ⟨by simp, OwRid.nil _ _, ⟨rfl, rfl, rfl, Nat.le_refl _, fun _ _ _ => rfl⟩⟩
  · unfold OwRid at ho
    have HO := Lib.hid ho
    clear ho
    go_enter Try.func28, Try.ntmps28
    go_wp2
    go_loopw [1, 5] (fun q i wr => ∃ k : Nat, k ≤ rs.length ∧ i = .int .i64 k ∧ q = .int .i64 (k0 + 3 * k) ∧ w.grownBy wr (some g) ∧ Hid (∃ Ls : List Value, wr.ownsRow base 35 3 (.slice (some ⟨g, 0, none⟩) rs.length cap) rs.length Ls ∧ ∀ i, i < k → Ls[i * 3]? = some (.int .i64 (k0 + 3 * (i : Int))) ∧ Ls[i * 3 + 1]? = some (.int .i64 (k0 + 3 * (i : Int) + 1)) ∧ Ls[i * 3 + 2]? = some (.bool ((k0 + 3 * (i : Int) + 1 + 1) % 3 == 0)))) (fun _ i _ => rs.length - (intOf i).toNat)
    case atStart => exact ⟨0, Nat.zero_le _, rfl, by simp, ⟨rfl, rfl, rfl, Nat.le_refl _, fun _ _ _ => rfl⟩, ⟨_, HO.out, fun j hj => by omega⟩⟩
    case round =>
      obtain ⟨k, hk, rfl, rfl, hgr, hL⟩ := hrel
      obtain ⟨Ls, hown, hLs⟩ := hL
      have HLs := Lib.hid hLs
      clear hLs
      by_cases hlt : k < rs.length
      · have hlen : Ls.length = rs.length * 3 := hown.1
        obtain ⟨y0, d0⟩ : ∃ y, wr.cell? ⟨g, k * 3, none⟩ = some y := ⟨Ls[k * 3]'(by omega), by rw [World.ownsRow.cellAt hown (k * 3) (by omega)]; exact List.getElem?_eq_getElem _⟩
        obtain ⟨y1, d1⟩ : ∃ y, wr.cell? ⟨g, k * 3 + 1, none⟩ = some y := ⟨Ls[k * 3 + 1]'(by omega), by rw [World.ownsRow.cellAt hown (k * 3 + 1) (by omega)]; exact List.getElem?_eq_getElem _⟩
        obtain ⟨y2, d2⟩ : ∃ y, wr.cell? ⟨g, k * 3 + 2, none⟩ = some y := ⟨Ls[k * 3 + 2]'(by omega), by rw [World.ownsRow.cellAt hown (k * 3 + 2) (by omega)]; exact List.getElem?_eq_getElem _⟩
        have f0 : wr.frozen? ⟨g, k * 3, none⟩ = false := World.ownsRow.frozenAt hown _
        have f1 : wr.frozen? ⟨g, k * 3 + 1, none⟩ = false := World.ownsRow.frozenAt hown _
        have f2 : wr.frozen? ⟨g, k * 3 + 2, none⟩ = false := World.ownsRow.frozenAt hown _
        have hst : ∀ (x y : Int) (z : Bool), (((wr.setCell ⟨g, k * 3, none⟩ (.int .i64 x)).setCell ⟨g, k * 3 + 1, none⟩ (.int .i64 y)).setCell ⟨g, k * 3 + 2, none⟩ (.bool z)).ownsRow base 35 3 (.slice (some ⟨g, 0, none⟩) rs.length cap) rs.length (((Ls.set (k * 3) (.int .i64 x)).set (k * 3 + 1) (.int .i64 y)).set (k * 3 + 2) (.bool z)) := fun x y z =>
          (World.ownsRow.stored (World.ownsRow.stored (World.ownsRow.stored hown (k * 3) (.int .i64 x)).1 (k * 3 + 1) (.int .i64 y)).1 (k * 3 + 2) (.bool z)).1
        have HS := Lib.hid hst
        have HL := Lib.hid hlen
        clear hst hown hlen
        obtain ⟨q, hq⟩ : ∃ q, q = k0 + 3 * (k : Int) := ⟨_, rfl⟩
        rw [← hq]
        have HQ := Lib.hid hq
        have hq1 : 0 ≤ q := by omega
        have hq2 : q ≤ 8000000 := by omega
        clear hq
        go_wp2
        go_roundw
        case rel =>
          refine ⟨k + 1, by omega, by go_num, by rw [HQ.out]; go_num, only_setCellR (only_setCellR (only_setCellR hgr _ _) _ _) _ _, ⟨_, HS.out _ _ _, ?_⟩⟩
          intro i hi
          have hl := HL.out
          by_cases hik : i = k
          · subst hik
            rw [← HQ.out]
            refine ⟨?_, ?_, ?_⟩
            · rw [List.getElem?_set_ne (by omega), List.getElem?_set_ne (by omega), List.getElem?_set_self (by omega)]
            · rw [List.getElem?_set_ne (by omega), List.getElem?_set_self (by simp only [List.length_set]; omega)]
            · rw [List.getElem?_set_self (by simp only [List.length_set]; omega)]
          · obtain ⟨h0, h1, h2⟩ := HLs.out i (by omega)
            refine ⟨?_, ?_, ?_⟩
            · rw [List.getElem?_set_ne (by omega), List.getElem?_set_ne (by omega), List.getElem?_set_ne (by omega)]; exact h0
            · rw [List.getElem?_set_ne (by omega), List.getElem?_set_ne (by omega), List.getElem?_set_ne (by omega)]; exact h1
            · rw [List.getElem?_set_ne (by omega), List.getElem?_set_ne (by omega), List.getElem?_set_ne (by omega)]; exact h2
        case measure => simp [intOf]; omega
      · obtain rfl : k = rs.length := by omega
        have hE : Ls = (marksR k0 rs.length).flatMap cellsRid := flatRid_ext (by have := hown.1; rw [marksR_length]; exact this) (fun i hi => by rw [marksR_length] at hi; rw [marksR_getD _ _ _ hi]; exact HLs.out i hi)
        subst hE
        have HO2 := Lib.hid hown
        clear hown
        go_wp2
        go_ret
        exact ⟨rfl, by have := HO2.out; unfold OwRid; rw [marksR_length]; exact this, hgr⟩

set_option maxHeartbeats 800000 in
theorem heldRideS_any (v : Value) (n : Nat) (k0 : Int) (w : World) (hr : RdRid w v (marksR k0 n)) (hn : n ≤ 1048577) (hk1 : 0 ≤ k0) (hk2 : k0 ≤ 4194304) :
    Calls Try.prog 29 #[v, .int .i64 k0] w fun e w' => e = .returned (.int .i64 (k0 + 3 * n)) ∧ w = w' := by
  obtain ⟨a, c, rfl, hcell⟩ := hr
  rw [marksR_length] at hcell
  rw [marksR_length]
  have HC := Lib.hid hcell
  clear hcell
  go_enter Try.func29, Try.ntmps29
  go_wp2
  go_loop [1, 5] (fun q i => ∃ k : Nat, k ≤ n ∧ i = .int .i64 k ∧ q = .int .i64 (k0 + 3 * k)) (fun _ i => n - (intOf i).toNat)
  case atStart => exact ⟨0, Nat.zero_le _, rfl, by simp⟩
  case round =>
    obtain ⟨k, hk, rfl, rfl⟩ := hrel
    by_cases hlt : k < n
    · obtain ⟨b, o, rfl, h0, h1, h2⟩ := HC.out k hlt
      rw [marksR_getD _ _ _ hlt] at h0 h1 h2
      obtain ⟨q, hq⟩ : ∃ q, q = k0 + 3 * (k : Int) := ⟨_, rfl⟩
      rw [← hq] at h0 h1 h2
      rw [← hq]
      have HQ := Lib.hid hq
      have hq1 : 0 ≤ q := by omega
      have hq2 : q ≤ 8000000 := by omega
      clear hq
      simp only at h0 h1 h2
      go_wp2
      go_round
      case rel => exact ⟨k + 1, by omega, by go_num, by rw [HQ.out]; go_num⟩
      case measure => simp [intOf]; omega
    · obtain rfl : k = n := by omega
      go_wp2
      go_ret
      exact ⟨rfl, rfl⟩

end Go.Proofs.Ythfpikpknojffaa
