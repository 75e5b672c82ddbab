/- Contracts of MovesText, of the program and of the reference. -/
import Derived.Test.YtalfomdpkljpcaaAllW
import Derived.Test.YtalfomdpkljpcaaIntsB
import Derived.Test.YtalfomdpkljpcaaIntsT
import Derived.Test.YtalfomdpkljpcaaTxt
import Derived.Deep.QuietTactic
import Derived.BigQuiet
set_option linter.unusedSimpArgs false
set_option linter.unusedVariables false
namespace Go.Proofs.Ytalfomdpkljpcaa
open Go.RowKit

/-- The letter of a move. -/
def movB (x : Int) : UInt8 := if x = 0 then 100 else if x = 1 then 117 else if x = 2 then 108 else 114
def movesR (xs : List Int) : ByteArray × Int := if allR xs 0 3 = true then (if xs.length ≤ 60 then (if xs = [] then (⟨#[45]⟩, 0) else (txt (xs.map movB), 0)) else (⟨#[]⟩, 2)) else (⟨#[]⟩, 2)
theorem mov_slice {x : Int} (h0 : 0 ≤ x) (h1 : x ≤ 3) : (ByteArray.mk #[100, 117, 108, 114]).extract x.toNat (x + 1).toNat = txt [movB x] := by
  obtain rfl | rfl | rfl | rfl : x = 0 ∨ x = 1 ∨ x = 2 ∨ x = 3 := by omega
  all_goals rfl
theorem mov_next {xs : List Int} {k : Nat} (hk : k < xs.length) : txt ((xs.take k).map movB) ++ txt [movB (xs.getD k 0)] = txt ((xs.take (k + 1)).map movB) := by
  rw [txt_app, List.take_succ_eq_append_getElem hk, List.map_append]
  simp only [List.getD_eq_getElem?_getD, List.getElem?_eq_getElem hk, Option.getD_some, List.map_cons, List.map_nil]
theorem mov_in {xs : List Int} {k : Nat} (hk : k < xs.length) (h : allR xs 0 3 = true) : 0 ≤ xs.getD k 0 ∧ xs.getD k 0 ≤ 3 := by
  unfold allR at h
  rw [List.all_eq_true] at h
  have := h xs[k] (List.getElem_mem hk)
  simp [List.getD_eq_getElem?_getD, hk]
  exact inR_iff.1 this
theorem mov_end {xs : List Int} (hn : xs.length ≤ 60) (hall : allR xs 0 3 = true) (he : xs.isEmpty = false) : (movesR xs).1 = txt (xs.map movB) := by
  unfold movesR
  rw [if_pos hall, if_pos hn, if_neg (by intro h; subst h; simp at he)]
theorem movesR_end {xs : List Int} {T : ByteArray} {c : Int} (h : movesR xs = (T, c)) : Ending.returned (.tuple #[.string T, .int .i64 c]) = .returned (.tuple #[.string (movesR xs).1, .int .i64 (movesR xs).2]) := by rw [h]

set_option maxHeartbeats 800000 in
theorem l11Text_any (v : Value) (xs : List Int) (w : World) (hr : RdI w v xs) (hn : xs.length ≤ 60) (hall : allR xs 0 3 = true) :
    Calls Try.prog 31 #[v] w fun e w' => e = .returned (.string (movesR xs).1) ∧ Below w.heap.size w w' := by
  have HA := Lib.hid hall
  clear hall
  obtain ⟨a, c, rfl, hcell⟩ := hr
  have HC := Lib.hid hcell
  clear hcell
  go_enter Try.func31, Try.ntmps31
  go_wp2
  go_loopw [3, 4] (fun t i wr => ∃ k : Nat, k ≤ xs.length ∧ i = .int .i64 k ∧ t = .string (txt ((xs.take k).map movB)) ∧ Below w.heap.size w wr) (fun _ i _ => xs.length - (intOf i).toNat)
  case atStart => exact ⟨0, Nat.zero_le _, rfl, rfl, Below.refl _ _⟩
  case round =>
    obtain ⟨k, hk, rfl, rfl, hbw⟩ := hrel
    by_cases hlt : k < xs.length
    · obtain ⟨b, o, rfl, hc⟩ := HC.out k hlt
      have h1 : wr.cell? ⟨b, o + k, none⟩ = some (.int .i64 (xs.getD k 0)) := (hbw.cell (p := ⟨b, o + k, none⟩) (World.block_lt_of_cell? w _ hc)).trans hc
      obtain ⟨x0, x3⟩ := mov_in hlt HA.out
      have HN := Lib.hid (mov_next hlt)
      have hsz : (txt ((xs.take k).map movB)).size ≤ 60 := by rw [txt_size]; simp; omega
      generalize xs.getD k 0 = x at *
      have HM := Lib.hid (mov_slice x0 x3)
      generalize txt ((xs.take k).map movB) = T0 at *
      have hlt' : (k : Int) < (xs.length : Int) := by omega
      have hk0 : (0 : Int) ≤ (k : Int) := by omega
      have hw1 : IntKind.i64.wrap (x + 1) = x + 1 := IntWalk.i64_in _ (by omega)
      clear hc
      go_wp2
      go_quiet (fail)
      go_wp2
      go_roundw
      case rel => exact ⟨k + 1, by omega, by go_num, by rw [← HN.out, ← HM.out], (by repeat (first | (with_reducible refine blw_drewN ?_ _) | (with_reducible assumption) | (with_reducible exact Below.refl _ _) | (with_reducible refine Below.drew ?_) | (with_reducible refine blw_al ?_ _) | (with_reducible refine blw_stp (by with_reducible assumption) ?_) | (with_reducible refine blw_set ?_ (by dsimp only; omega) _)))⟩
      case measure => simp [intOf]; omega
    · obtain rfl : k = xs.length := by omega
      rw [List.take_length]
      have hem := txt_isEmpty (xs.map movB)
      have HE := Lib.hid (fun he => mov_end (xs := xs) hn HA.out he)
      have HT : Hid (xs.isEmpty = (xs.map movB).isEmpty) := by show _ = _; cases xs <;> rfl
      cases hx : (xs.map movB).isEmpty
      · rw [hx] at hem
        have HT2 : Hid (xs.isEmpty = false) := HT.out.trans hx
        clear hx
        generalize txt (xs.map movB) = T1 at *
        go_wp2
        go_ret
        exact ⟨ret_str (HE.out HT2.out).symm, hbw⟩
      · have hxs : xs = [] := by have := HT.out.trans hx; simpa using this
        rw [hx] at hem
        have H2 : Hid ((movesR xs).1 = ⟨#[45]⟩) := by subst hxs; rfl
        clear hxs hx HT HE
        generalize txt (xs.map movB) = T1 at *
        go_wp2
        go_ret
        exact ⟨ret_str H2.out.symm, hbw⟩

set_option maxHeartbeats 800000 in
theorem sMovesText_any (v : Value) (xs : List Int) (w : World) (hr : RdI w v xs) (hn : xs.length ≤ 1048576) :
    Calls Try.prog 7 #[v] w fun e w' => e = .returned (.tuple #[.string (movesR xs).1, .int .i64 (movesR xs).2]) ∧ Below w.heap.size w w' := by
  have HR := Lib.hid hr
  obtain ⟨a, c, rfl, hcell⟩ := hr
  have HC := Lib.hid hcell
  clear hcell
  go_enter Try.func7, Try.ntmps7
  go_wp2
  go_loop [4] (fun i => ∃ k : Nat, k ≤ xs.length ∧ i = .int .i64 k ∧ Hid ((xs.take k).all (fun x => inR x 0 3) = true)) (fun i => xs.length - (intOf i).toNat)
  case atStart => exact ⟨0, Nat.zero_le _, rfl, rfl⟩
  case round =>
    obtain ⟨k, hk, rfl, hall⟩ := hrel
    by_cases hlt : k < xs.length
    · obtain ⟨b, o, rfl, hc⟩ := HC.out k hlt
      cases hp : inR (xs.getD k 0) 0 3
      · have HE := Lib.hid (all_no (p := fun x => inR x 0 3) hlt hp)
        generalize xs.getD k 0 = x at *
        go_wp2_with (go_at_call 30; (with_reducible refine (l01In_any _ _ _ _).mono ?_); rintro e w' ⟨rfl, rfl⟩)
        go_ret2
        exact ⟨movesR_end (by unfold movesR allR; rw [if_neg (by rw [HE.out]; simp)]), Below.refl _ _⟩
      · have HE := Lib.hid (all_take_succ (p := fun x => inR x 0 3) hlt hall.out hp)
        generalize xs.getD k 0 = x at *
        go_wp2_with (go_at_call 30; (with_reducible refine (l01In_any _ _ _ _).mono ?_); rintro e w' ⟨rfl, rfl⟩)
        go_round
        case rel => exact ⟨k + 1, by omega, by go_num, HE⟩
        case measure => simp [intOf]; omega
    · obtain rfl : k = xs.length := by omega
      have HE : Hid (allR xs 0 3 = true) := by have := hall.out; rw [List.take_length] at this; exact this
      by_cases h60 : xs.length ≤ 60
      · go_wp2_with fail
        (with_reducible refine (l11Text_any _ xs _ HR.out h60 HE.out).mono ?_)
        rintro e w1 ⟨rfl, hb⟩
        have H0 : Hid ((movesR xs).2 = 0) := by
          show _ = _
          unfold movesR
          rw [if_pos HE.out, if_pos h60]
          split <;> rfl
        go_wp2
        go_ret2
        exact ⟨movesR_end (by rw [← H0.out]), hb⟩
      · go_wp2
        go_ret2
        exact ⟨movesR_end (by unfold movesR; rw [if_pos HE.out, if_neg (by omega)]), Below.refl _ _⟩

set_option maxHeartbeats 800000 in
theorem MovesText_any (v : Value) (xs : List Int) (w : World) (hr : RdI w v xs) (hn : xs.length ≤ 1048576) :
    Calls Try.prog 9 #[v] w fun e w' => e = .returned (.tuple #[.string (movesR xs).1, .int .i64 (movesR xs).2]) ∧ Below w.heap.size w w' := by
  have HR := Lib.hid hr
  obtain ⟨a, c, rfl, hcell⟩ := hr
  have HC := Lib.hid hcell
  clear hcell
  by_cases h60 : xs.length ≤ 60
  · cases hA : allR xs 0 3
    · have HA := Lib.hid hA
      clear hA
      go_enter Try.func9, Try.ntmps9
      go_wp2_with fail
      (with_reducible refine (allWithin_any _ xs _ _ _ HR.out hn).mono ?_)
      rintro e w1 ⟨rfl, rfl⟩
      rw [HA.out]
      go_wp2
      go_ret2
      exact ⟨movesR_end (by unfold movesR; rw [if_neg (by rw [HA.out]; simp)]), Below.refl _ _⟩
    · have HA := Lib.hid hA
      clear hA
      by_cases he : xs.length = 0
      · have hx : xs = [] := List.length_eq_zero_iff.1 he
        subst hx
        clear he
        have HR0 : Hid (RdI w (.slice a 0 c) []) := HR.out
        go_enter Try.func9, Try.ntmps9
        go_wp2_with fail
        (with_reducible refine (allWithin_any _ [] _ _ _ HR0.out (by simp)).mono ?_)
        rintro e w1 ⟨rfl, rfl⟩
        rw [HA.out]
        go_wp2
        go_ret2
        exact ⟨movesR_end rfl, Below.refl _ _⟩
      · have hpos : 0 < xs.length := by omega
        have hne : ((xs.length : Int) == 0) = false := by rw [beq_eq_false_iff_ne]; omega
        clear he
        go_enter Try.func9, Try.ntmps9
        go_wp2_with fail
        (with_reducible refine (allWithin_any _ xs _ _ _ HR.out hn).mono ?_)
        rintro e w1 ⟨rfl, rfl⟩
        rw [HA.out]
        go_wp2
        go_loop [4, 20] (fun t i => ∃ k : Nat, k ≤ xs.length ∧ i = .int .i64 k ∧ t = .string (txt ((xs.take k).map movB))) (fun _ i => xs.length - (intOf i).toNat)
        case atStart => exact ⟨0, Nat.zero_le _, rfl, rfl⟩
        case round =>
          obtain ⟨k, hk, rfl, rfl⟩ := hrel
          by_cases hlt : k < xs.length
          · obtain ⟨b, o, rfl, hc⟩ := HC.out k hlt
            obtain ⟨x0, x3⟩ := mov_in hlt HA.out
            have HN := Lib.hid (mov_next hlt)
            have hsz : (txt ((xs.take k).map movB)).size ≤ 60 := by rw [txt_size]; simp; omega
            generalize xs.getD k 0 = x at *
            have HM := Lib.hid (mov_slice x0 x3)
            generalize txt ((xs.take k).map movB) = T0 at *
            go_wp2
            go_round
            case rel => exact ⟨k + 1, by omega, by go_num, by rw [← HN.out, ← HM.out]⟩
            case measure => simp [intOf]; omega
          · obtain rfl : k = xs.length := by omega
            have HE : Hid ((movesR xs) = (txt ((xs.take xs.length).map movB), 0)) := by
              show _ = _
              rw [List.take_length]
              unfold movesR
              rw [if_pos HA.out, if_pos h60, if_neg (by intro h; subst h; simp at hpos)]
            generalize txt ((xs.take xs.length).map movB) = T1 at *
            go_wp2
            go_ret2
            exact ⟨movesR_end HE.out, Below.refl _ _⟩
  · have h60' : 60 < xs.length := by omega
    go_enter Try.func9, Try.ntmps9
    go_wp2
    go_ret2
    exact ⟨movesR_end (by unfold movesR; split <;> first | rfl | rw [if_neg (by omega)]), Below.refl _ _⟩

end Go.Proofs.Ytalfomdpkljpcaa
