/- Contract of allWithin: are all numbers of a slice in a range? -/
import Derived.Test.YtfdnhamkkcmnfaaIntsA
set_option linter.unusedSimpArgs false
set_option linter.unusedVariables false
namespace Go.Proofs.Ytfdnhamkkcmnfaa
open Go.RowKit

def allR (xs : List Int) (lo hi : Int) : Bool := xs.all (fun x => inR x lo hi)
theorem all_take_succ {p : Int → Bool} {xs : List Int} {k : Nat} (hk : k < xs.length) (h : (xs.take k).all p = true) (hp : p (xs.getD k 0) = true) : (xs.take (k + 1)).all p = true := by
  rw [List.take_succ_eq_append_getElem hk, List.all_append, h]
  simp [List.getD_eq_getElem?_getD, hk] at hp
  simp [hp]
theorem all_no {p : Int → Bool} {xs : List Int} {k : Nat} (hk : k < xs.length) (hp : p (xs.getD k 0) = false) : xs.all p = false := by
  rw [List.all_eq_false]
  refine ⟨xs[k], List.getElem_mem hk, ?_⟩
  simp [List.getD_eq_getElem?_getD, hk] at hp
  simp [hp]

set_option maxHeartbeats 800000 in
theorem allWithin_any (v : Value) (xs : List Int) (lo hi : Int) (w : World) (hr : RdI w v xs) (hn : xs.length ≤ 1048576) :
    Calls Try.prog 110 #[v, .int .i64 lo, .int .i64 hi] w fun e w' => e = .returned (.bool (allR xs lo hi)) ∧ w = w' := by
  obtain ⟨a, c, rfl, hcell⟩ := hr
  have HC := Lib.hid hcell
  clear hcell
  go_enter Try.func110, Try.ntmps110
  go_wp2
  go_loop [11] (fun i => ∃ k : Nat, k ≤ xs.length ∧ i = .int .i64 k ∧ Hid ((xs.take k).all (fun x => inR x lo hi) = true)) (fun i => xs.length - (intOf i).toNat)
  case atStart => exact ⟨0, Nat.zero_le _, rfl, rfl⟩
  case round =>
    obtain ⟨k, hk, rfl, hall⟩ := hrel
    by_cases hlt : k < xs.length
    · obtain ⟨b, o, rfl, hc⟩ := HC.out k hlt
      cases hp : inR (xs.getD k 0) lo hi
      · have HE := Lib.hid (all_no (p := fun x => inR x lo hi) hlt hp)
        generalize xs.getD k 0 = x at *
        go_wp2_with (first | (go_at_call 73; (with_reducible refine (within_any _ _ _ _).mono ?_); rintro e w' ⟨rfl, rfl⟩))
        go_ret
        exact ⟨ret_bool HE.out.symm, rfl⟩
      · have HE := Lib.hid (all_take_succ (p := fun x => inR x lo hi) hlt hall.out hp)
        generalize xs.getD k 0 = x at *
        go_wp2_with (first | (go_at_call 73; (with_reducible refine (within_any _ _ _ _).mono ?_); rintro e w' ⟨rfl, rfl⟩))
        go_round
        case rel => exact ⟨k + 1, by omega, by go_num, HE⟩
        case measure => simp [intOf]; omega
    · obtain rfl : k = xs.length := by omega
      have HE : Hid (xs.all (fun x => inR x lo hi) = true) := by have := hall.out; rw [List.take_length] at this; exact this
      go_wp2
      go_ret
      exact ⟨ret_bool HE.out.symm, rfl⟩

end Go.Proofs.Ytfdnhamkkcmnfaa
