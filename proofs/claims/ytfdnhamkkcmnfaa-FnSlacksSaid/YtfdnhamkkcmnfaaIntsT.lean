/- Contract of the laws' copy of a slice of int64. -/
import Derived.Test.YtfdnhamkkcmnfaaIntsA
import Derived.Deep.QuietTactic
import Derived.BigQuiet
set_option linter.unusedSimpArgs false
set_option linter.unusedVariables false
namespace Go.Proofs.Ytfdnhamkkcmnfaa
open Go.RowKit

set_option maxHeartbeats 800000 in
theorem toInt64S_any (v : Value) (xs : List Int) (w : World) (hr : RdI w v xs) (hn : xs.length ≤ 1048576) :
    Calls Try.prog 59 #[v] w fun e w' => e = .returned (.slice (some ⟨w.heap.size, 0, none⟩) xs.length xs.length) ∧ OwI w' w.heap.size (.slice (some ⟨w.heap.size, 0, none⟩) xs.length xs.length) xs ∧ Below w.heap.size w w' := by
  obtain ⟨a, c, rfl, hcell⟩ := hr
  have HC := Lib.hid hcell
  clear hcell
  obtain ⟨i0, hi, hz0, hz1, hz2⟩ := info_parts Try.infoI64
  go_enter Try.func59, Try.ntmps59
  go_wp2_with (refine wpList_make_full _ rfl _ _ 22 rfl w.heap.size 2 i0 (.int .i64 0) 1 Try.underlying22 hi hz0 hz1 .i64 .i64 _ _ xs.length rfl rfl rfl rfl (by rw [hz2]; omega) (by unfold maxLen; omega) (Nat.le_refl _) ?_; intro w1 hown hgrow)
  go_loopw [4] (fun i wr => ∃ k : Nat, k ≤ xs.length ∧ i = .int .i64 k ∧ Below w.heap.size w wr ∧ Hid (∃ Ls : List Value, wr.ownsRow w.heap.size 2 1 (.slice (some ⟨w.heap.size, 0, none⟩) xs.length xs.length) xs.length Ls ∧ ∀ j, j < k → Ls[j]? = some (.int .i64 (xs.getD j 0)))) (fun i _ => xs.length - (intOf i).toNat)
  case atStart => exact ⟨0, Nat.zero_le _, rfl, below_far hgrow (Nat.le_refl _) (fun k h => by cases h), ⟨_, hown, fun j hj => by omega⟩⟩
  case round =>
    clear hown hgrow
    obtain ⟨k, hk, rfl, hbw, hL⟩ := hrel
    obtain ⟨Ls, hown, hLs⟩ := hL
    have HLs := Lib.hid hLs
    clear hLs
    by_cases hlt : k < xs.length
    · obtain ⟨b, o, rfl, hc⟩ := HC.out k hlt
      have hc' : wr.cell? ⟨b, o + k, none⟩ = some (.int .i64 (xs.getD k 0)) := (hbw.cell (p := ⟨b, o + k, none⟩) (World.block_lt_of_cell? w _ hc)).trans hc
      have hlen : Ls.length = xs.length := by have := hown.1; omega
      obtain ⟨y, hd⟩ : ∃ y, wr.cell? ⟨w.heap.size, k, none⟩ = some y := ⟨Ls[k]'(by omega), by rw [World.ownsRow.cellAt hown k (by omega)]; exact List.getElem?_eq_getElem _⟩
      have hfr : wr.frozen? ⟨w.heap.size, k, none⟩ = false := World.ownsRow.frozenAt hown k
      obtain ⟨x, hx⟩ : ∃ x, x = xs.getD k 0 := ⟨_, rfl⟩
      rw [← hx] at hc'
      have hst := World.ownsRow.stored hown k (.int .i64 x)
      have HX := Lib.hid hx
      have HS := Lib.hid hst
      have HL := Lib.hid hlen
      clear hst hown hc hlen hx
      go_wp2
      go_roundw
      case rel =>
        refine ⟨k + 1, by omega, by go_num, hbw.setCell (by simp) _, ⟨Ls.set k (.int .i64 x), HS.out.1, ?_⟩⟩
        · intro j hj
          by_cases hjk : j = k
          · subst hjk; rw [List.getElem?_set_self (by have := HL.out; omega), HX.out]
          · rw [List.getElem?_set_ne (by omega)]; exact HLs.out j (by omega)
      case measure => simp [intOf]; omega
    · obtain rfl : k = xs.length := by omega
      have hE : Ls = xs.map (Value.int .i64) := ext_ints (by have := hown.1; omega) HLs.out
      subst hE
      have HO := Lib.hid hown
      clear hown
      go_wp2
      go_ret
      exact ⟨rfl, HO.out, hbw⟩

end Go.Proofs.Ytfdnhamkkcmnfaa
