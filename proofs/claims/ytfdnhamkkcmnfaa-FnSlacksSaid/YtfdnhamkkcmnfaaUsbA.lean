/- Contracts of the laws' helpers on rows: two that read alike, a row that is sought. -/
import Derived.Test.YtfdnhamkkcmnfaaSshA
import Derived.Test.YtfdnhamkkcmnfaaUsbP
import Derived.Test.YtfdnhamkkcmnfaaDrwC
set_option linter.unusedSimpArgs false
set_option linter.unusedVariables false
namespace Go.Proofs.Ytfdnhamkkcmnfaa
open Go.RowKit

set_option maxHeartbeats 800000 in
theorem likeInts_same (v u : Value) (xs : List Int) (w : World) (hr : RdI w v xs) (hs : RdI w u xs) (hn : xs.length ≤ 1048576) :
    Calls Try.prog 49 #[v, u] w fun e w' => e = .returned (.bool true) ∧ Below w.heap.size w w' := by
  obtain ⟨a, c, rfl, hcell⟩ := hr
  obtain ⟨a', c', rfl, hcell'⟩ := hs
  have HC := Lib.hid hcell
  have HC' := Lib.hid hcell'
  clear hcell hcell'
  go_enter Try.func49, Try.ntmps49
  go_wp2
  go_loopw [5] (fun i wr => ∃ k : Nat, k ≤ xs.length ∧ i = .int .i64 k ∧ Below w.heap.size w wr) (fun i _ => xs.length - (intOf i).toNat)
  case atStart => exact ⟨0, Nat.zero_le _, rfl, Below.refl _ _⟩
  case round =>
    obtain ⟨k, hk, rfl, hbw⟩ := hrel
    by_cases hlt : k < xs.length
    · obtain ⟨b, o, rfl, hc⟩ := HC.out k hlt
      obtain ⟨b', o', rfl, hc'⟩ := HC'.out k hlt
      have h1 : wr.cell? ⟨b, o + k, none⟩ = some (.int .i64 (xs.getD k 0)) := (hbw.cell (p := ⟨b, o + k, none⟩) (World.block_lt_of_cell? w _ hc)).trans hc
      have h2 : wr.cell? ⟨b', o' + k, none⟩ = some (.int .i64 (xs.getD k 0)) := (hbw.cell (p := ⟨b', o' + k, none⟩) (World.block_lt_of_cell? w _ hc')).trans hc'
      generalize xs.getD k 0 = x at h1 h2
      clear hc hc'
      have hlt' : (k : Int) < (xs.length : Int) := by omega
      have hk0 : (0 : Int) ≤ (k : Int) := by omega
      go_wp2
      go_quiet (fail)
      go_wp2
      go_roundw
      case rel => exact ⟨k + 1, by omega, by go_num, (by repeat (first | (with_reducible refine blw_drewN ?_ _) | (with_reducible assumption) | (with_reducible exact Below.refl _ _) | (with_reducible refine Below.drew ?_) | (with_reducible refine blw_al ?_ _) | (with_reducible refine blw_stp (by with_reducible assumption) ?_) | (with_reducible refine blw_set ?_ (by dsimp only; omega) _)))⟩
      case measure => simp [intOf]; omega
    · obtain rfl : k = xs.length := by omega
      go_wp2
      go_ret
      exact ⟨rfl, hbw⟩
set_option maxHeartbeats 800000 in
theorem likeRows_same (v u : Value) (L M : List Gb) (w : World) (hr : RdG w v L) (hs : RdG w u M) (he : L.map Prod.fst = M.map Prod.fst) (hn : L.length ≤ 1048576) :
    Calls Try.prog 52 #[v, u] w fun e w' => e = .returned (.bool true) ∧ Below w.heap.size w w' := by
  have HL := Lib.hid hr
  have HMm := Lib.hid hs
  have HE := Lib.hid he
  have hlen : L.length = M.length := by rw [← List.length_map (f := Prod.fst), he, List.length_map]
  obtain ⟨a, c, rfl, -⟩ := hr.1.shape
  obtain ⟨a', c', rfl, -⟩ := hs.1.shape
  have HLEN := Lib.hid hlen
  simp only [List.length_map]
  rw [← hlen]
  clear hr hs he hlen
  go_enter Try.func52, Try.ntmps52
  go_wp2
  go_loopw [5] (fun i wr => ∃ k : Nat, k ≤ L.length ∧ i = .int .i64 k ∧ Below w.heap.size w wr) (fun i _ => L.length - (intOf i).toNat)
  case atStart => exact ⟨0, Nat.zero_le _, rfl, Below.refl _ _⟩
  case round =>
    obtain ⟨k, hk, rfl, hbw⟩ := hrel
    by_cases hlt : k < L.length
    · obtain ⟨⟨⟨x0, x1⟩, px⟩, hx⟩ : ∃ x, L[k]? = some x := ⟨_, List.getElem?_eq_getElem hlt⟩
      obtain ⟨⟨⟨y0, y1⟩, py⟩, hy⟩ : ∃ x, M[k]? = some x := ⟨_, List.getElem?_eq_getElem (by have := HLEN.out; omega)⟩
      have hxy : ((x0, x1) : Gear) = (y0, y1) := by
        have h1 : (L.map Prod.fst)[k]? = some (x0, x1) := by rw [List.getElem?_map, hx]; rfl
        have h2 : (M.map Prod.fst)[k]? = some (y0, y1) := by rw [List.getElem?_map, hy]; rfl
        rw [HE.out, h2] at h1
        injection h1 with h1
        exact h1.symm
      injection hxy with e1 e2
      subst e1 e2
      obtain ⟨b, o, rfl, c1⟩ := (HL.out.below hbw).1.at k (gv ((x0, x1), px)) (by rw [List.getElem?_map, hx]; rfl)
      obtain ⟨b', o', rfl, c2⟩ := (HMm.out.below hbw).1.at k (gv ((x0, x1), py)) (by rw [List.getElem?_map, hy]; rfl)
      have e1 : gv ((x0, x1), px) = .slice (some ⟨px, 0, none⟩) 2 2 := rfl
      have e2 : gv ((x0, x1), py) = .slice (some ⟨py, 0, none⟩) 2 2 := rfl
      rw [e1] at c1
      rw [e2] at c2
      have R1 := Lib.hid (rowRd (x := x0) (y := x1) ((HL.out.below hbw).2 _ (List.mem_of_getElem? hx)))
      have R2 := Lib.hid (rowRd (x := x0) (y := x1) ((HMm.out.below hbw).2 _ (List.mem_of_getElem? hy)))
      clear hx hy e1 e2
      have hkL : (k : Int) < (L.length : Int) := by omega
      have hk0 : (0 : Int) ≤ (k : Int) := by omega
      have hl1 := World.block_lt_of_cell? _ _ c1
      have hl2 := World.block_lt_of_cell? _ _ c2
      have KP : Hid (∀ W' : World, Below wr.heap.size wr W' → (W'.cell? ⟨b, o + k, none⟩ = some (.slice (some ⟨px, 0, none⟩) 2 2) ∧ W'.cell? ⟨b', o' + k, none⟩ = some (.slice (some ⟨py, 0, none⟩) 2 2))) := by
        show ∀ W' : World, _
        intro W' hb
        exact ⟨(hb.cell (p := ⟨b, o + k, none⟩) hl1).trans c1, (hb.cell (p := ⟨b', o' + k, none⟩) hl2).trans c2⟩
      go_wp2
      go_region_held3 (fun W' => W'.cell? ⟨b, o + k, none⟩ = some (.slice (some ⟨px, 0, none⟩) 2 2) ∧ W'.cell? ⟨b', o' + k, none⟩ = some (.slice (some ⟨py, 0, none⟩) 2 2))
        (first | exact ⟨c1, c2⟩ | exact KP.out _ hbc)
        ((first
          | (go_at_call 49
             refine (likeInts_same _ _ [x0, x1] _ ?_ ?_ (by simp)).mono ?_
             · first | exact R1.out | exact R1.out.drew
             · first | exact R2.out | exact R2.out.drew
             rintro e w2 ⟨rfl, hbc0⟩
             have hbc : Below wr.heap.size wr w2 := by first | exact hbc0 | exact blw_ofDrew hbc0
             clear hbc0)
          | fail))
      all_goals
        clear KP c1 c2
        have HB2 : Hid (Below w.heap.size w w2) := hbw.trans (hbc.mono hbw.size)
        go_wp2
        go_roundw
        case rel => exact ⟨k + 1, by omega, by go_num, HB2.out⟩
        case measure => simp [intOf] <;> omega
    · obtain rfl : k = L.length := by omega
      go_wp2
      go_ret
      exact ⟨rfl, hbw⟩
set_option maxHeartbeats 1600000 in
theorem hasRow_any (v : Value) (L : List Gb) (a b : Int) (w : World) (hr : RdG w v L) (hn : L.length ≤ 1048576) :
    Calls Try.prog 54 #[v, .int .i64 a, .int .i64 b] w fun e w' => e = .returned (.bool (hasG (L.map Prod.fst) a b)) ∧ Below w.heap.size w w' := by
  have HL := Lib.hid hr
  obtain ⟨ao, co, rfl, -⟩ := hr.1.shape
  simp only [List.length_map]
  clear hr
  go_enter Try.func54, Try.ntmps54
  go_wp2
  go_loopw [7] (fun i wr => ∃ k : Nat, k ≤ L.length ∧ i = .int .i64 k ∧ Below w.heap.size w wr ∧ Hid (hasG (L.map Prod.fst) a b = hasG ((L.drop k).map Prod.fst) a b)) (fun i _ => L.length - (intOf i).toNat)
  case atStart => exact ⟨0, Nat.zero_le _, rfl, Below.refl _ _, rfl⟩
  case round =>
    obtain ⟨k, hk, rfl, hbw, hin⟩ := hrel
    by_cases hlt : k < L.length
    · obtain ⟨⟨⟨x0, x1⟩, px⟩, hx⟩ : ∃ x, L[k]? = some x := ⟨_, List.getElem?_eq_getElem hlt⟩
      obtain ⟨g, o, rfl, c1⟩ := (HL.out.below hbw).1.at k (gv ((x0, x1), px)) (by rw [List.getElem?_map, hx]; rfl)
      have e1 : gv ((x0, x1), px) = .slice (some ⟨px, 0, none⟩) 2 2 := rfl
      rw [e1] at c1
      have hrow : wr.heap[px]? = some (.cells #[.int .i64 x0, .int .i64 x1] 2 (0, 0)) := (HL.out.below hbw).2 _ (List.mem_of_getElem? hx)
      have r0 := hk_cell (i := 0) hrow rfl
      have r1 := hk_cell (i := 1) hrow rfl
      have HIN : Hid (hasG (L.map Prod.fst) a b = ((decide (x0 = a) && decide (x1 = b)) || hasG ((L.drop (k + 1)).map Prod.fst) a b)) := by
        show _ = _
        have hd : L.drop k = ((x0, x1), px) :: L.drop (k + 1) := by
          rw [List.drop_eq_getElem_cons hlt]
          rw [List.getElem?_eq_getElem hlt] at hx
          injection hx with hx
          rw [hx]
        rw [hin.out, hd]
        rfl
      clear hx e1 hrow hin
      have hkL : (k : Int) < (L.length : Int) := by omega
      have hk0 : (0 : Int) ≤ (k : Int) := by omega
      by_cases ea : x0 = a
      · by_cases eb : x1 = b
        · have HR : Hid (hasG (L.map Prod.fst) a b = true) := by show _ = _; rw [HIN.out, decide_eq_true ea, decide_eq_true eb]; rfl
          subst ea eb
          clear HIN
          go_wp2
          go_ret
          exact ⟨by rw [HR.out]; rfl, (by repeat (first | (with_reducible refine blw_drewN ?_ _) | (with_reducible assumption) | (with_reducible exact Below.refl _ _) | (with_reducible refine Below.drew ?_) | (with_reducible refine blw_al ?_ _) | (with_reducible refine blw_stp (by with_reducible assumption) ?_) | (with_reducible refine blw_set ?_ (by dsimp only; omega) _)))⟩
        · have HR : Hid (hasG (L.map Prod.fst) a b = hasG ((L.drop (k + 1)).map Prod.fst) a b) := by show _ = _; rw [HIN.out, decide_eq_false eb]; simp
          have nb : (x1 == b) = false := by rw [beq_eq_false_iff_ne]; exact eb
          subst ea
          clear HIN eb
          go_wp2
          go_roundw
          case rel => exact ⟨k + 1, by omega, by go_num, (by repeat (first | (with_reducible refine blw_drewN ?_ _) | (with_reducible assumption) | (with_reducible exact Below.refl _ _) | (with_reducible refine Below.drew ?_) | (with_reducible refine blw_al ?_ _) | (with_reducible refine blw_stp (by with_reducible assumption) ?_) | (with_reducible refine blw_set ?_ (by dsimp only; omega) _))), HR⟩
          case measure => simp [intOf] <;> omega
      · have HR : Hid (hasG (L.map Prod.fst) a b = hasG ((L.drop (k + 1)).map Prod.fst) a b) := by show _ = _; rw [HIN.out, decide_eq_false ea]; simp
        have na : (x0 == a) = false := by rw [beq_eq_false_iff_ne]; exact ea
        clear HIN ea
        go_wp2
        go_roundw
        case rel => exact ⟨k + 1, by omega, by go_num, (by repeat (first | (with_reducible refine blw_drewN ?_ _) | (with_reducible assumption) | (with_reducible exact Below.refl _ _) | (with_reducible refine Below.drew ?_) | (with_reducible refine blw_al ?_ _) | (with_reducible refine blw_stp (by with_reducible assumption) ?_) | (with_reducible refine blw_set ?_ (by dsimp only; omega) _))), HR⟩
        case measure => simp [intOf] <;> omega
    · obtain rfl : k = L.length := by omega
      have HR : Hid (hasG (L.map Prod.fst) a b = false) := by
        show _ = _
        rw [hin.out, List.drop_length]
        rfl
      clear hin
      go_wp2
      go_ret
      exact ⟨by rw [HR.out]; rfl, (by repeat (first | (with_reducible refine blw_drewN ?_ _) | (with_reducible assumption) | (with_reducible exact Below.refl _ _) | (with_reducible refine Below.drew ?_) | (with_reducible refine blw_al ?_ _) | (with_reducible refine blw_stp (by with_reducible assumption) ?_) | (with_reducible refine blw_set ?_ (by dsimp only; omega) _)))⟩
end Go.Proofs.Ytfdnhamkkcmnfaa
