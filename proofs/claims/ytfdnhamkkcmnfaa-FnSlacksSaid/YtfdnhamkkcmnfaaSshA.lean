/- Contracts of the laws' helpers on slices of gears: the comparison, the marking, the asking for marks. -/
import Derived.Test.YtfdnhamkkcmnfaaGrdF
import Derived.Test.YtfdnhamkkcmnfaaGeaT
set_option linter.unusedSimpArgs false
set_option linter.unusedVariables false
namespace Go.Proofs.Ytfdnhamkkcmnfaa
open Go.RowKit

/-- v reads as the gears L. -/
def RdG (w : World) (v : Value) (L : List Gb) : Prop := RdV w v (L.map gv) ∧ ∀ x ∈ L, w.heap[x.2]? = some (gobj x)
theorem OwG.rdG {w : World} {B : Nat} {v : Value} {L : List Gb} (h : OwG w B v L) : RdG w v L := ⟨h.1.rd, fun x hx => (h.2.1 x hx).2⟩
theorem RdG.below {w w' : World} {v : Value} {L : List Gb} (h : RdG w v L) (hb : Below w.heap.size w w') : RdG w' v L := ⟨h.1.below hb, fun x hx => obj_below (h.2 x hx) hb⟩
theorem OwG.farLt {w w' : World} {B : Nat} {v : Value} {L : List Gb} {row : Option Nat} (h : OwG w B v L) (hg : w.grownBy w' row) (hr : ∀ q, row = some q → q < B) : OwG w' B v L := by
  refine ⟨h.1.far hg (fun k hk e => ?_), h.2.1.far hg (fun x hx e => ?_), h.2.2⟩
  · have h1 := (World.ownsRow.lt h.1 k hk).1
    have h2 := hr k e
    omega
  · have h1 := (h.2.1 x hx).1
    have h2 := hr _ e
    omega
theorem rowRd {w : World} {p : Nat} {x y : Int} (h : w.heap[p]? = some (.cells #[.int .i64 x, .int .i64 y] 2 (0, 0))) : RdI w (.slice (some ⟨p, 0, none⟩) 2 2) [x, y] := by
  refine ⟨_, _, rfl, fun i hi => ⟨p, 0, rfl, ?_⟩⟩
  have hi2 : i = 0 ∨ i = 1 := by simp at hi; omega
  rcases hi2 with rfl | rfl
  · exact cell_of_row w p 0 _ _ (0, 0) h
  · exact cell_of_row w p 1 _ _ (0, 0) h
theorem rowOw {w : World} {p B : Nat} {x y : Int} (h : w.heap[p]? = some (.cells #[.int .i64 x, .int .i64 y] 2 (0, 0))) (hB : B ≤ p) : OwI w B (.slice (some ⟨p, 0, none⟩) 2 2) [x, y] :=
  ⟨rfl, .inr ⟨p, 2, _, rfl, hB, h, Nat.le_refl _, by unfold maxLen; omega, rfl, rfl⟩⟩
theorem owRow {w : World} {p B : Nat} {x y : Int} (h : OwI w B (.slice (some ⟨p, 0, none⟩) 2 2) [x, y]) : w.heap[p]? = some (.cells #[.int .i64 x, .int .i64 y] 2 (0, 0)) := by
  unfold OwI at h
  rcases h.2 with ⟨hv, _⟩ | ⟨g, cap, cur, hv, hbg, hgh, hnc, hcm, hcs, ht⟩
  · cases hv
  · injection hv with e1 e2 e3
    injection e1 with e1
    injection e1 with e1
    subst e1 e3
    have hc : cur = #[.int .i64 x, .int .i64 y] := by
      rw [← Array.toList_inj]
      have hl : cur.toList.length = 2 := by rw [Array.length_toList]; simpa using hcs
      have := ht
      rw [List.take_of_length_le (by rw [hl]; simp)] at this
      simpa using this
    rw [hgh, hc]
/-- The gears, marked from k on. -/
def mkG (k : Int) : List Gb → List Gb
  | [] => []
  | x :: L => ((k, k + 1), x.2) :: mkG (k + 2) L
theorem mkG_length : ∀ (L : List Gb) (k : Int), (mkG k L).length = L.length := by
  intro L
  induction L with
  | nil => intro k; rfl
  | cons x L ih => intro k; simp [mkG, ih]
theorem mkG_at : ∀ (L : List Gb) (k : Int) (j : Nat) (x : Gb), L[j]? = some x → (mkG k L)[j]? = some ((k + 2 * (j : Int), k + 2 * (j : Int) + 1), x.2) := by
  intro L
  induction L with
  | nil => intro k j x h; simp at h
  | cons y L ih =>
    intro k j x h
    cases j with
    | zero => simp at h; subst h; simp [mkG]
    | succ j =>
      have := ih (k + 2) j x (by simpa using h)
      simp only [mkG, List.getElem?_cons_succ, this]
      have e : k + 2 + 2 * (j : Int) = k + 2 * ((j + 1 : Nat) : Int) := by omega
      rw [e]
theorem mkG_gv : ∀ (L : List Gb) (k : Int), (mkG k L).map gv = L.map gv := by
  intro L
  induction L with
  | nil => intro k; rfl
  | cons x L ih => intro k; simp [mkG, ih, gv]
theorem mkG_snd : ∀ (L : List Gb) (k : Int), (mkG k L).map Prod.snd = L.map Prod.snd := by
  intro L
  induction L with
  | nil => intro k; rfl
  | cons x L ih => intro k; simp [mkG, ih]
theorem sslt {us : List Gb} {j : Nat} {u : Gb} (h : us[j]? = some u) : j < us.length := by
  rcases Nat.lt_or_ge j us.length with h1 | h1
  · exact h1
  · rw [List.getElem?_eq_none h1] at h; cases h
set_option maxHeartbeats 800000 in
theorem eqInt64SS_same (v u : Value) (L M : List Gb) (w : World) (hr : RdG w v L) (hs : RdG w u M) (he : L.map Prod.fst = M.map Prod.fst) (hn : L.length ≤ 1048576) :
    Calls Try.prog 41 #[v, u] w fun e w' => e = .returned (.bool true) ∧ Below w.heap.size w w' := by
  have HL := Lib.hid hr
  have HMm := Lib.hid hs
  have HE := Lib.hid he
  have hlen : L.length = M.length := by rw [← List.length_map (f := Prod.fst), he, List.length_map]
  obtain ⟨a, c, rfl, -⟩ := hr.1.shape
  obtain ⟨a', c', rfl, -⟩ := hs.1.shape
  have HLEN := Lib.hid hlen
  simp only [List.length_map]
  rw [← hlen]
  clear hr hs he hlen
  go_enter Try.func41, Try.ntmps41
  go_wp2
  go_loopw [5] (fun i wr => ∃ k : Nat, k ≤ L.length ∧ i = .int .i64 k ∧ Below w.heap.size w wr) (fun i _ => L.length - (intOf i).toNat)
  case atStart => exact ⟨0, Nat.zero_le _, rfl, Below.refl _ _⟩
  case round =>
    obtain ⟨k, hk, rfl, hbw⟩ := hrel
    by_cases hlt : k < L.length
    · obtain ⟨⟨⟨x0, x1⟩, px⟩, hx⟩ : ∃ x, L[k]? = some x := ⟨_, List.getElem?_eq_getElem hlt⟩
      obtain ⟨⟨⟨y0, y1⟩, py⟩, hy⟩ : ∃ x, M[k]? = some x := ⟨_, List.getElem?_eq_getElem (by have := HLEN.out; omega)⟩
      have hxy : ((x0, x1) : Gear) = (y0, y1) := by
        have h1 : (L.map Prod.fst)[k]? = some (x0, x1) := by rw [List.getElem?_map, hx]; rfl
        have h2 : (M.map Prod.fst)[k]? = some (y0, y1) := by rw [List.getElem?_map, hy]; rfl
        rw [HE.out, h2] at h1
        injection h1 with h1
        exact h1.symm
      injection hxy with e1 e2
      subst e1 e2
      obtain ⟨b, o, rfl, c1⟩ := (HL.out.below hbw).1.at k (gv ((x0, x1), px)) (by rw [List.getElem?_map, hx]; rfl)
      obtain ⟨b', o', rfl, c2⟩ := (HMm.out.below hbw).1.at k (gv ((x0, x1), py)) (by rw [List.getElem?_map, hy]; rfl)
      have e1 : gv ((x0, x1), px) = .slice (some ⟨px, 0, none⟩) 2 2 := rfl
      have e2 : gv ((x0, x1), py) = .slice (some ⟨py, 0, none⟩) 2 2 := rfl
      rw [e1] at c1
      rw [e2] at c2
      have R1 := Lib.hid (rowRd (x := x0) (y := x1) ((HL.out.below hbw).2 _ (List.mem_of_getElem? hx)))
      have R2 := Lib.hid (rowRd (x := x0) (y := x1) ((HMm.out.below hbw).2 _ (List.mem_of_getElem? hy)))
      clear hx hy e1 e2
      have hkL : (k : Int) < (L.length : Int) := by omega
      have hk0 : (0 : Int) ≤ (k : Int) := by omega
      have hl1 := World.block_lt_of_cell? _ _ c1
      have hl2 := World.block_lt_of_cell? _ _ c2
      have KP : Hid (∀ W' : World, Below wr.heap.size wr W' → (W'.cell? ⟨b, o + k, none⟩ = some (.slice (some ⟨px, 0, none⟩) 2 2) ∧ W'.cell? ⟨b', o' + k, none⟩ = some (.slice (some ⟨py, 0, none⟩) 2 2))) := by
        show ∀ W' : World, _
        intro W' hb
        exact ⟨(hb.cell (p := ⟨b, o + k, none⟩) hl1).trans c1, (hb.cell (p := ⟨b', o' + k, none⟩) hl2).trans c2⟩
      go_wp2
      go_region_held3 (fun W' => W'.cell? ⟨b, o + k, none⟩ = some (.slice (some ⟨px, 0, none⟩) 2 2) ∧ W'.cell? ⟨b', o' + k, none⟩ = some (.slice (some ⟨py, 0, none⟩) 2 2))
        (first | exact ⟨c1, c2⟩ | exact KP.out _ hbc)
        ((first
          | (go_at_call 33
             refine (eqInt64S_same _ _ [x0, x1] _ ?_ ?_ (by simp)).mono ?_
             · first | exact R1.out | exact R1.out.drew
             · first | exact R2.out | exact R2.out.drew
             rintro e w2 ⟨rfl, hbc0⟩
             have hbc : Below wr.heap.size wr w2 := by first | exact hbc0 | exact blw_ofDrew hbc0
             clear hbc0)
          | fail))
      all_goals
        clear KP c1 c2
        have HB2 : Hid (Below w.heap.size w w2) := hbw.trans (hbc.mono hbw.size)
        go_wp2
        go_roundw
        case rel => exact ⟨k + 1, by omega, by go_num, HB2.out⟩
        case measure => simp [intOf] <;> omega
    · obtain rfl : k = L.length := by omega
      go_wp2
      go_ret
      exact ⟨rfl, hbw⟩
set_option maxHeartbeats 800000 in
theorem markInt64SS_any (v : Value) (L : List Gb) (k0 : Int) (B : Nat) (w : World) (ho : OwG w B v L) (hB : B ≤ w.heap.size) (hn : L.length ≤ 100000) (hk1 : 0 ≤ k0) (hk2 : k0 ≤ 1000000) :
    Calls Try.prog 42 #[v, .int .i64 k0] w fun e w' => e = .returned (.int .i64 (k0 + 2 * L.length)) ∧ OwG w' B v (mkG k0 L) ∧ Below B w w' := by
  have HO := Lib.hid ho
  obtain ⟨a, c, rfl, -⟩ := ho.1.rd.shape
  simp only [List.length_map] at *
  clear ho
  go_enter Try.func42, Try.ntmps42
  go_wp2
  go_loopw [1, 5] (fun q i wr => ∃ k : Nat, k ≤ L.length ∧ i = .int .i64 k ∧ q = .int .i64 (k0 + 2 * (k : Int)) ∧ Below B w wr ∧ Hid (RdV wr (.slice a L.length c) (L.map gv) ∧ OwV wr B (.slice a L.length c) (L.map gv) ∧ (∀ j x, L[j]? = some x → wr.heap[x.2]? = some (if j < k then gobj ((k0 + 2 * (j : Int), k0 + 2 * (j : Int) + 1), x.2) else gobj x)))) (fun _ i _ => L.length - (intOf i).toNat)
  case atStart => exact ⟨0, Nat.zero_le _, rfl, by simp, Below.refl _ _, ⟨HO.out.1.rd, HO.out.1, fun j x hx => (HO.out.row hx).2⟩⟩
  case round =>
    obtain ⟨k, hk, rfl, rfl, hbw, hI⟩ := hrel
    by_cases hlt : k < L.length
    · obtain ⟨⟨⟨x0, x1⟩, px⟩, hx⟩ : ∃ x, L[k]? = some x := ⟨_, List.getElem?_eq_getElem hlt⟩
      obtain ⟨b, o, rfl, c1⟩ := hI.out.1.at k (gv ((x0, x1), px)) (by rw [List.getElem?_map, hx]; rfl)
      have e1 : gv ((x0, x1), px) = .slice (some ⟨px, 0, none⟩) 2 2 := rfl
      rw [e1] at c1
      have hrow := hI.out.2.2 k _ hx
      rw [if_neg (by omega)] at hrow
      have hBp := (HO.out.row hx).1
      have HOr : Hid (OwI wr B (.slice (some ⟨px, 0, none⟩) 2 2) [x0, x1]) := rowOw hrow hBp
      have HX := Lib.hid hx
      clear hrow hx e1
      have hkL : (k : Int) < (L.length : Int) := by omega
      have hk0 : (0 : Int) ≤ (k : Int) := by omega
      go_wp2_with fail
      (with_reducible refine (markInt64S_any _ [x0, x1] _ _ _ HOr.out (by simp) (by omega) (by omega)).mono ?_)
      rintro e w2 ⟨rfl, ho2, hg2⟩
      have hr2 : w2.heap[px]? = some (.cells #[.int .i64 (k0 + 2 * (k : Int)), .int .i64 (k0 + 2 * (k : Int) + 1)] 2 (0, 0)) := by
        have hm : marks (k0 + 2 * (k : Int)) ([x0, x1] : List Int).length = [k0 + 2 * (k : Int), k0 + 2 * (k : Int) + 1] := by simp [marks, List.range_succ]
        rw [hm] at ho2
        exact owRow ho2
      have hg3 : wr.grownBy w2 (some px) := hg2
      have HB2 : Hid (Below B w w2) := hbw.grown hg3 (Nat.le_trans hB hbw.size) (fun q hq => by injection hq with hq; omega)
      have hvp : ∀ q, (Value.slice (some ⟨b, o, none⟩) L.length c).ownBlock = some q → some px ≠ some q := by
        intro q hq e
        injection e with e
        exact HO.out.2.2.1 _ (List.mem_of_getElem? HX.out) (by rw [hq, e])
      have HI2 : Hid (RdV w2 (.slice (some ⟨b, o, none⟩) L.length c) (L.map gv) ∧ OwV w2 B (.slice (some ⟨b, o, none⟩) L.length c) (L.map gv) ∧ (∀ j x, L[j]? = some x → w2.heap[x.2]? = some (if j < k + 1 then gobj ((k0 + 2 * (j : Int), k0 + 2 * (j : Int) + 1), x.2) else gobj x))) := by
        refine ⟨hI.out.1.far hg3 hvp, hI.out.2.1.far hg3 hvp, fun j x hj => ?_⟩
        by_cases hjk : j = k
        · subst hjk
          rw [HX.out] at hj
          injection hj with hj
          subst hj
          rw [if_pos (by omega)]
          exact hr2
        · have hne : x.2 ≠ px := by
            intro e
            have hnd := HO.out.2.2.2
            have h1 : (L.map Prod.snd)[j]? = some px := by rw [List.getElem?_map, hj]; show some x.2 = _; rw [e]
            have h2 : (L.map Prod.snd)[k]? = some px := by rw [List.getElem?_map, HX.out]; rfl
            have hjl : j < (L.map Prod.snd).length := by rw [List.length_map]; exact sslt hj
            exact hjk ((List.getElem?_inj hjl hnd).1 (h1.trans h2.symm))
          rw [obj_far (hI.out.2.2 j x hj) hg3 (fun e => hne (by injection e with e; exact e.symm))]
          by_cases h1 : j < k
          · rw [if_pos h1, if_pos (by omega)]
          · rw [if_neg h1, if_neg (by omega)]
      clear ho2 hg2 hg3 hr2 hvp hI
      have e9 : k0 + 2 * (k : Int) + (([x0, x1] : List Int).length : Int) = k0 + 2 * ((k + 1 : Nat) : Int) := by simp; omega
      rw [e9]
      go_wp2
      go_roundw
      case rel => exact ⟨k + 1, by omega, by go_num, rfl, HB2.out, HI2⟩
      case measure => simp [intOf] <;> omega
    · obtain rfl : k = L.length := by omega
      have HR : Hid (OwG wr B (.slice a L.length c) (mkG k0 L)) := by
        refine ⟨by rw [mkG_gv]; exact hI.out.2.1, fun y hy => ?_, fun y hy e => ?_, by rw [mkG_snd]; exact HO.out.2.2.2⟩
        · obtain ⟨j, hj⟩ := List.getElem?_of_mem hy
          have hjl : j < L.length := by rw [← mkG_length L k0]; exact sslt hj
          have hx := List.getElem?_eq_getElem hjl
          rw [mkG_at L k0 j _ hx] at hj
          injection hj with hj
          subst hj
          refine ⟨(HO.out.row hx).1, ?_⟩
          have := hI.out.2.2 j _ hx
          rw [if_pos hjl] at this
          exact this
        · obtain ⟨j, hj⟩ := List.getElem?_of_mem hy
          have hjl : j < L.length := by rw [← mkG_length L k0]; exact sslt hj
          have hx := List.getElem?_eq_getElem hjl
          rw [mkG_at L k0 j _ hx] at hj
          injection hj with hj
          subst hj
          exact HO.out.2.2.1 _ (List.getElem_mem hjl) e
      go_wp2
      go_ret
      exact ⟨rfl, HR.out, hbw⟩
set_option maxHeartbeats 800000 in
theorem heldInt64SS_any (v : Value) (L : List Gb) (k0 : Int) (w : World) (hr : RdG w v (mkG k0 L)) (hn : L.length ≤ 100000) (hk1 : 0 ≤ k0) (hk2 : k0 ≤ 1000000) :
    Calls Try.prog 43 #[v, .int .i64 k0] w fun e w' => e = .returned (.int .i64 (k0 + 2 * L.length)) ∧ w = w' := by
  have HR := Lib.hid hr
  obtain ⟨a, c, rfl, -⟩ := hr.1.shape
  simp only [List.length_map, mkG_length] at *
  clear hr
  go_enter Try.func43, Try.ntmps43
  go_wp2
  go_loop [1, 5] (fun q i => ∃ k : Nat, k ≤ L.length ∧ i = .int .i64 k ∧ q = .int .i64 (k0 + 2 * (k : Int))) (fun _ i => L.length - (intOf i).toNat)
  case atStart => exact ⟨0, Nat.zero_le _, rfl, by simp⟩
  case round =>
    obtain ⟨k, hk, rfl, rfl⟩ := hrel
    by_cases hlt : k < L.length
    · have hx := mkG_at L k0 k _ (List.getElem?_eq_getElem hlt)
      generalize (L[k]).2 = px at hx
      obtain ⟨b, o, rfl, c1⟩ := HR.out.1.at k (gv ((k0 + 2 * (k : Int), k0 + 2 * (k : Int) + 1), px)) (by rw [List.getElem?_map, hx]; rfl)
      have e1 : gv ((k0 + 2 * (k : Int), k0 + 2 * (k : Int) + 1), px) = .slice (some ⟨px, 0, none⟩) 2 2 := rfl
      rw [e1] at c1
      have R1 : Hid (RdI w (.slice (some ⟨px, 0, none⟩) 2 2) (marks (k0 + 2 * (k : Int)) 2)) := by
        have hm : marks (k0 + 2 * (k : Int)) 2 = [k0 + 2 * (k : Int), k0 + 2 * (k : Int) + 1] := by simp [marks, List.range_succ]
        show RdI _ _ _
        rw [hm]
        exact rowRd (HR.out.2 _ (List.mem_of_getElem? hx))
      clear hx e1
      have hkL : (k : Int) < (L.length : Int) := by omega
      have hk0 : (0 : Int) ≤ (k : Int) := by omega
      have hneg : ¬ (k0 + 2 * (k : Int) + 2) < 0 := by omega
      go_wp2_with fail
      (with_reducible refine (heldInt64S_any _ 2 _ _ R1.out (by omega) (by omega) (by omega)).mono ?_)
      rintro e _ ⟨rfl, rfl⟩
      have e9 : k0 + 2 * (k : Int) + ((2 : Nat) : Int) = k0 + 2 * ((k + 1 : Nat) : Int) := by omega
      rw [e9]
      have hneg2 : ¬ (k0 + 2 * ((k + 1 : Nat) : Int)) < 0 := by omega
      obtain ⟨kk, hkk⟩ : ∃ kk, kk = k0 + 2 * ((k + 1 : Nat) : Int) := ⟨_, rfl⟩
      rw [← hkk] at hneg2
      rw [← hkk]
      have HKK := Lib.hid hkk
      clear hkk hneg e9
      go_wp2
      go_round
      case rel => exact ⟨k + 1, by omega, by go_num, by rw [HKK.out]⟩
      case measure => simp [intOf] <;> omega
    · obtain rfl : k = L.length := by omega
      go_wp2
      go_ret
      exact ⟨rfl, rfl⟩

end Go.Proofs.Ytfdnhamkkcmnfaa
