/- Contract of the program's sorted. -/
import Derived.Test.YthmimkllnjkhaaaSrt
import Derived.Test.YthmimkllnjkhaaaCpyI
import Derived.Deep.QuietTactic
import Derived.BigQuiet
set_option linter.unusedSimpArgs false
set_option linter.unusedVariables false
namespace Go.Proofs.Ythmimkllnjkhaaa
open Go.RowKit

theorem sblw_drewN {B : Nat} {a w : World} (h : Below B a w) (n : Nat) : Below B a (w.drewN n) := ⟨h.os, h.tape, h.output, h.size, h.block⟩
/-- While x goes down through what is in order: it stands at k. -/
def downL (pre : List Int) (x : Int) (k : Nat) (rest : List Int) : List Int := pre.take k ++ x :: (pre.drop k ++ rest)
theorem downL_length {pre rest : List Int} {x : Int} {k : Nat} (hk : k ≤ pre.length) : (downL pre x k rest).length = pre.length + 1 + rest.length := by
  unfold downL; simp; omega
theorem downL_start (pre rest : List Int) (x : Int) : downL pre x pre.length rest = pre ++ x :: rest := by unfold downL; simp
theorem downL_at {pre rest : List Int} {x : Int} {k : Nat} (hk : k ≤ pre.length) : (downL pre x k rest).getD k 0 = x := by
  unfold downL
  rw [List.getD_eq_getElem?_getD, List.getElem?_append_right (by simp; omega)]
  simp [Nat.min_eq_left hk]
theorem downL_prev {pre rest : List Int} {x : Int} {k : Nat} (h0 : 0 < k) (hk : k ≤ pre.length) : (downL pre x k rest).getD (k - 1) 0 = pre.getD (k - 1) 0 := by
  unfold downL
  rw [List.getD_eq_getElem?_getD, List.getElem?_append_left (by simp; omega), List.getElem?_take, if_pos (by omega), ← List.getD_eq_getElem?_getD]
theorem set2 {α : Type} (A T : List α) (x y : α) : ((A ++ y :: x :: T).set (A.length + 1) y).set A.length x = A ++ x :: y :: T := by
  induction A with
  | nil => simp
  | cons a A ih => simp only [List.cons_append, List.length_cons, List.set_cons_succ, ih]
theorem downL_swap {pre rest : List Int} {x : Int} {j : Nat} (hk : j + 1 ≤ pre.length) :
    ((downL pre x (j + 1) rest).set (j + 1) (pre.getD j 0)).set j x = downL pre x j rest := by
  have hk1 : j < pre.length := by omega
  have e1 : pre.take (j + 1) = pre.take j ++ [pre.getD j 0] := by
    rw [List.take_succ_eq_append_getElem hk1]
    simp [List.getD_eq_getElem?_getD, hk1]
  have e2 : pre.drop j = pre.getD j 0 :: pre.drop (j + 1) := by
    rw [List.drop_eq_getElem_cons hk1]
    simp [List.getD_eq_getElem?_getD, hk1]
  have hA : (pre.take j).length = j := by rw [List.length_take]; omega
  unfold downL
  rw [e1, e2]
  generalize pre.take j = A at *
  generalize pre.getD j 0 = y at *
  have := set2 A (pre.drop (j + 1) ++ rest) x y
  rw [hA] at this
  simpa using this
/-- What is known while x goes down: all that it passed is greater. -/
def passed (pre : List Int) (x : Int) (k : Nat) : Prop := ∀ j y, k ≤ j → pre[j]? = some y → leI y x = false
theorem passed_start (pre : List Int) (x : Int) : passed pre x pre.length := fun j y h e => by rw [List.getElem?_eq_none h] at e; cases e
theorem passed_step {pre : List Int} {x : Int} {k : Nat} (h : passed pre x k) (hk : k ≤ pre.length) (h0 : 0 < k) (hx : x < pre.getD (k - 1) 0) : passed pre x (k - 1) := by
  intro j y hj e
  by_cases hjk : j = k - 1
  · subst hjk
    have hl : k - 1 < pre.length := by omega
    rw [List.getElem?_eq_getElem hl] at e
    injection e with e
    rw [List.getD_eq_getElem?_getD, List.getElem?_eq_getElem hl, Option.getD_some, e] at hx
    simp [leI, leK]; omega
  · exact h j y (by omega) e
theorem passed_end {xs : List Int} {x : Int} {k : Nat} (h : passed (srt leI xs) x k) (hk : k ≤ xs.length) (h2 : k = 0 ∨ (srt leI xs).getD (k - 1) 0 ≤ x) (rest : List Int) :
    downL (srt leI xs) x k rest = srt leI (xs ++ [x]) ++ rest := by
  have e := insAt_down leI (leK_tr _) (srt_sorted leI (leK_tr _) (leK_to _) xs) (x := x) (p := k) (by rw [srt_length]; exact hk) h (fun y h0 hy => by
    rcases h2 with h2 | h2
    · omega
    · rw [List.getD_eq_getElem?_getD, hy] at h2
      simpa [leI, leK] using h2)
  rw [srt_snoc, ins_eq, e]
  unfold downL
  simp

set_option maxHeartbeats 800000 in
theorem sorted_any (u : Value) (xs : List Int) (w : World) (hr : RdI w u xs) (hn : xs.length ≤ 4096) :
    Calls Try.prog 34 #[u] w fun e w' => ∃ v, e = .returned v ∧ OwI w' w.heap.size v (srt leI xs) ∧ Below w.heap.size w w' := by
  have HR := Lib.hid hr
  obtain ⟨a, c, rfl, -⟩ := hr
  go_enter Try.func34, Try.ntmps34
  go_wp2_with fail
  (with_reducible refine (copyList_any _ xs _ HR.out (by omega)).mono ?_)
  rintro e w1 ⟨v, rfl, ho, hb⟩
  rcases ho.form with ⟨rfl, rfl⟩ | ⟨g, cap, rfl, hg, hgl⟩
  · have HO := Lib.hid ho
    clear ho
    go_wp2
    refine wp_loop_rounds 1 ?_
    rw [rounds_succ]
    go_wp2
    go_ret
    exact ⟨_, rfl, HO.out, hb⟩
  · have HO := Lib.hid ho
    clear ho
    go_wp2
    go_loopw [11] (fun cc wr => ∃ i : Nat, i ≤ xs.length ∧ cc = .int .i64 i ∧ Below w.heap.size w wr ∧ Hid (OwI wr w.heap.size (.slice (some ⟨g, 0, none⟩) xs.length cap) (srt leI (xs.take i) ++ xs.drop i))) (fun cc _ => xs.length - (intOf cc).toNat)
    case atStart => exact ⟨0, Nat.zero_le _, rfl, hb, HO.out⟩
    case round =>
      clear HO hb HR
      obtain ⟨i, hi, rfl, hbw, ho⟩ := hrel
      by_cases hlt : i < xs.length
      · have HDX : Hid (xs.drop i = xs.getD i 0 :: xs.drop (i + 1)) := by
          show _ = _
          rw [List.drop_eq_getElem_cons hlt]
          simp [List.getD_eq_getElem?_getD, hlt]
        have HTK : Hid (xs.take (i + 1) = xs.take i ++ [xs.getD i 0]) := by
          show _ = _
          rw [List.take_succ_eq_append_getElem hlt]
          simp [List.getD_eq_getElem?_getD, hlt]
        have hpl : (srt leI (xs.take i)).length = i := by rw [srt_length, List.length_take]; omega
        have HPL := Lib.hid hpl
        have ho2 : OwI wr w.heap.size (.slice (some ⟨g, 0, none⟩) xs.length cap) (downL (srt leI (xs.take i)) (xs.getD i 0) i (xs.drop (i + 1))) := by
          have e := downL_start (srt leI (xs.take i)) (xs.drop (i + 1)) (xs.getD i 0)
          rw [hpl] at e
          rw [e, ← HDX.out]
          exact ho.out
        have HO2 := Lib.hid ho2
        have hpa := passed_start (srt leI (xs.take i)) (xs.getD i 0)
        rw [hpl] at hpa
        have HPA := Lib.hid hpa
        clear ho ho2 hpa hpl
        obtain ⟨wo, rfl⟩ : ∃ wo : World, wo = wr := ⟨_, rfl⟩
        go_wp2
        go_loopw [5] (fun kk wr => ∃ k : Nat, k ≤ i ∧ kk = .int .i64 k ∧ Below w.heap.size w wr ∧ Hid (OwI wr w.heap.size (.slice (some ⟨g, 0, none⟩) xs.length cap) (downL (srt leI (xs.take i)) (xs.getD i 0) k (xs.drop (i + 1)))) ∧ Hid (passed (srt leI (xs.take i)) (xs.getD i 0) k)) (fun kk _ => (intOf kk).toNat)
        case atStart => exact ⟨i, Nat.le_refl _, rfl, hbw, HO2, HPA⟩
        case round =>
          clear HO2 HPA hbw
          obtain ⟨k, hk, rfl, hbw, ho, hpa⟩ := hrel
          have hkl : k ≤ (srt leI (xs.take i)).length := by rw [HPL.out]; exact hk
          have hll := downL_length (rest := xs.drop (i + 1)) (x := xs.getD i 0) hkl
          rw [HPL.out, List.length_drop] at hll
          by_cases hk0 : k = 0
          · subst hk0
            have HE := Lib.hid (passed_end (xs := xs.take i) hpa.out (by omega) (Or.inl rfl) (xs.drop (i + 1)))
            have HO3 : Hid (OwI wr w.heap.size (.slice (some ⟨g, 0, none⟩) xs.length cap) (srt leI (xs.take (i + 1)) ++ xs.drop (i + 1))) := by
              show OwI _ _ _ _
              rw [HTK.out, ← HE.out]; exact ho.out
            have hd : decide ((0 : Int) < 0) = false := by decide
            clear ho hpa HE
            go_wp2
            go_quiet (fail)
            go_wp2
            go_roundw
            case rel => exact ⟨i + 1, by omega, by go_num, (by repeat (first | (with_reducible refine sblw_drewN ?_ _) | (with_reducible assumption) | (with_reducible exact Below.refl _ _) | (with_reducible refine Below.drew ?_) | (with_reducible refine blw_al ?_ _) | (with_reducible refine blw_stp (by with_reducible assumption) ?_) | (with_reducible refine blw_set ?_ (by dsimp only; omega) _))), HO3⟩
            case measure => simp [intOf]; omega
          · obtain ⟨j, rfl⟩ : ∃ j, k = j + 1 := ⟨k - 1, by omega⟩
            have c0 := OwI.cell ho.out (k := j + 1) (by omega)
            have c1 := OwI.cell ho.out (k := j) (by omega)
            rw [downL_at hkl] at c0
            have e1 := downL_prev (rest := xs.drop (i + 1)) (x := xs.getD i 0) (by omega) hkl
            simp only [Nat.add_sub_cancel] at e1
            rw [e1] at c1
            have HSW := Lib.hid (downL_swap (rest := xs.drop (i + 1)) (x := xs.getD i 0) hkl)
            have hst := passed_step hpa.out hkl (by omega)
            simp only [Nat.add_sub_cancel] at hst
            have HST := Lib.hid hst
            have hen := fun h => passed_end (xs := xs.take i) hpa.out (by rw [List.length_take]; omega) (Or.inr h) (xs.drop (i + 1))
            simp only [Nat.add_sub_cancel] at hen
            have HEN := Lib.hid hen
            have f0 := OwI.free ho.out (j + 1)
            have f1 := OwI.free ho.out j
            clear e1 hll hkl hk0 hst hen
            have hlx : srt leI (xs.take i) = srt leI (xs.take i) := rfl
            generalize hy : (srt leI (xs.take i)).getD j 0 = y at *
            generalize hx : xs.getD i 0 = x at *
            have HY := Lib.hid hy
            have HX := Lib.hid hx
            clear hy hx hlx
            have hj0 : (0 : Int) ≤ (j : Int) := by omega
            have hj1 : (j : Int) < (xs.length : Int) := by omega
            have hj2 : (j : Int) + 1 < (xs.length : Int) := by omega
            have hkm : IntKind.i64.wrap ((j : Int) + 1 - 1) = (j : Int) := by rw [IntWalk.i64_in _ (by omega)]; omega
            have hkn : ((j : Int) + 1).toNat = j + 1 := by omega
            have hgt : decide ((0 : Int) < (j : Int) + 1) = true := by rw [decide_eq_true_eq]; omega
            simp only [Int.natCast_add, Int.natCast_one]
            by_cases hxy : x < y
            · have hd : decide (x < y) = true := by simpa using hxy
              go_wp2
              go_quiet (fail)
              go_wp2
              go_roundw
              case rel =>
                refine ⟨j, by omega, by go_num, (by repeat (first | (with_reducible refine sblw_drewN ?_ _) | (with_reducible assumption) | (with_reducible exact Below.refl _ _) | (with_reducible refine Below.drew ?_) | (with_reducible refine blw_al ?_ _) | (with_reducible refine blw_stp (by with_reducible assumption) ?_) | (with_reducible refine blw_set ?_ (by dsimp only; omega) _))), ?_, HST.out hxy⟩
                show OwI _ _ _ _
                have hs := ((ho.out.drewN nq).set (j + 1) y).set j x
                rw [HSW.out] at hs
                exact hs
              case measure => simp [intOf]
            · have hd : decide (x < y) = false := by simpa using hxy
              go_wp2
              go_quiet (fail)
              have HE := Lib.hid (HEN.out (by omega))
              have HO3 : Hid (OwI wr w.heap.size (.slice (some ⟨g, 0, none⟩) xs.length cap) (srt leI (xs.take (i + 1)) ++ xs.drop (i + 1))) := by
                show OwI _ _ _ _
                rw [HTK.out, ← HE.out]; exact ho.out
              go_wp2
              go_roundw
              case rel => exact ⟨i + 1, by omega, by go_num, (by repeat (first | (with_reducible refine sblw_drewN ?_ _) | (with_reducible assumption) | (with_reducible exact Below.refl _ _) | (with_reducible refine Below.drew ?_) | (with_reducible refine blw_al ?_ _) | (with_reducible refine blw_stp (by with_reducible assumption) ?_) | (with_reducible refine blw_set ?_ (by dsimp only; omega) _))), HO3⟩
              case measure => simp [intOf]; omega
      · obtain rfl : i = xs.length := by omega
        have HE : Hid (srt leI (xs.take xs.length) ++ xs.drop xs.length = srt leI xs) := by
          show _ = _
          rw [List.take_length, List.drop_length, List.append_nil]
        go_wp2
        go_ret
        exact ⟨_, rfl, by rw [← HE.out]; exact ho.out, hbw⟩
end Go.Proofs.Ythmimkllnjkhaaa
