/- Contracts of changes and l12Changes: behind which rides a part is changed. -/
import Derived.Test.YthfpikpknojffaaWeaB
import Derived.Test.YthfpikpknojffaaIntsA
set_option linter.unusedSimpArgs false
set_option linter.unusedVariables false
namespace Go.Proofs.Ythfpikpknojffaa
open Go.RowKit

/-- Behind which of the first k rides a part is changed, and the wear of the last part. -/
def chK (rs : List Rid) (life : Int) : Nat → List Int × Int
  | 0 => ([], 0)
  | k + 1 => if life ≤ (chK rs life k).2 + wear1 (rs.getD k (0, 0, false)) then ((chK rs life k).1 ++ [(k : Int)], 0) else ((chK rs life k).1, (chK rs life k).2 + wear1 (rs.getD k (0, 0, false)))
theorem chK_bd {rs : List Rid} (h : areR rs = true) (life : Int) : ∀ k, k ≤ rs.length → 0 ≤ (chK rs life k).2 ∧ (chK rs life k).2 ≤ wearK rs k ∧ (chK rs life k).1.length ≤ k := by
  intro k
  induction k with
  | zero => intro _; simp [chK, wearK]
  | succ k ih =>
    intro hk
    have := ih (by omega)
    have h1 := (areR_at h).2 k (by omega)
    have h2 := wear1_bd h1.2.2.1 h1.2.2.2.1
    have h3 := (wearK_bd h k (by omega)).1
    simp only [chK, wearK]
    split
    · refine ⟨by dsimp only; omega, by dsimp only; omega, ?_⟩
      simp only [List.length_append, List.length_cons, List.length_nil]
      omega
    · exact ⟨by dsimp only; omega, by dsimp only; omega, by dsimp only; omega⟩
theorem chK_lt (rs : List Rid) {life : Int} (h : 1 ≤ life) : ∀ k, (chK rs life k).2 < life := by
  intro k
  induction k with
  | zero => simp [chK]; omega
  | succ k ih => simp only [chK]; split <;> dsimp only <;> omega

set_option maxHeartbeats 800000 in
theorem changes_any (v : Value) (rs : List Rid) (life : Int) (w : World) (hr : RdRid w v rs) (hA : areR rs = true) :
    Calls Try.prog 55 #[v, .int .i64 life] w (RetI w (chK rs life rs.length)) := by
  obtain ⟨i0, hi, hz0, hz1, hz2⟩ := info_parts Try.infoI64
  obtain ⟨hn, hat⟩ := areR_at hA
  have HAT := Lib.hid hat
  have HB := Lib.hid (wearK_bd hA)
  have HCB := Lib.hid (chK_bd hA life)
  clear hat hA
  obtain ⟨a, c, rfl, hcell⟩ := hr
  have HC := Lib.hid hcell
  clear hcell
  go_enter Try.func55, Try.ntmps55
  go_wp2
  go_loopw [6, 7, 12] (fun p q i wr => ∃ k : Nat, k ≤ rs.length ∧ i = .int .i64 k ∧ q = .int .i64 (chK rs life k).2 ∧ Below w.heap.size w wr ∧ Hid (OwI wr w.heap.size p (chK rs life k).1)) (fun _ _ i _ => rs.length - (intOf i).toNat)
  case atStart => exact ⟨0, Nat.zero_le _, rfl, rfl, Below.refl _ _, OwI.nil _ _⟩
  case round =>
    obtain ⟨k, hk, rfl, rfl, hbw, ho⟩ := hrel
    by_cases hlt : k < rs.length
    · skip
      obtain ⟨b, o, rfl, h0, h1, h2⟩ := HC.out k hlt
      have hblt : b < w.heap.size := World.block_lt_of_cell? w _ h0
      have hsz := hbw.size
      have hbr : b < wr.heap.size := by omega
      have c0 : wr.cell? ⟨b, o + k * 3, none⟩ = some (.int .i64 (rs.getD k (0, 0, false)).1) := (hbw.cell (p := ⟨b, o + k * 3, none⟩) hblt).trans h0
      have c1 : wr.cell? ⟨b, o + k * 3 + 1, none⟩ = some (.int .i64 (rs.getD k (0, 0, false)).2.1) := (hbw.cell (p := ⟨b, o + k * 3 + 1, none⟩) hblt).trans h1
      have c2 : wr.cell? ⟨b, o + k * 3 + 2, none⟩ = some (.bool (rs.getD k (0, 0, false)).2.2) := (hbw.cell (p := ⟨b, o + k * 3 + 2, none⟩) hblt).trans h2
      obtain ⟨-, -, t1, t2, -⟩ := HAT.out k hlt
      obtain ⟨y1, y2⟩ := wear1_bd t1 t2
      obtain ⟨z0, z1⟩ := HB.out k hk
      obtain ⟨x1, x2, x3⟩ := HCB.out k hk
      have HW : Hid (chK rs life (k + 1) = if life ≤ (chK rs life k).2 + wear1 (rs.getD k (0, 0, false)) then ((chK rs life k).1 ++ [(k : Int)], 0) else ((chK rs life k).1, (chK rs life k).2 + wear1 (rs.getD k (0, 0, false)))) := rfl
      generalize (rs.getD k (0, 0, false)) = x at *
      obtain ⟨d, t, wt⟩ := x
      simp only at c0 c1 c2 t1 t2
      clear h0 h1 h2
      generalize chK rs life k = P at *
      obtain ⟨ps, q⟩ := P
      simp only at x1 x2 x3 HW ho
      generalize wearK rs k = wk at *
      go_wp2_with fail
      (with_reducible refine (wearOfRide_any _ _ _ _ (by omega) (by omega)).mono ?_)
      rintro e w2 ⟨rfl, hb2⟩
      have hbr2 : Below wr.heap.size wr w2 := (by repeat (first | (with_reducible assumption) | (with_reducible exact Below.refl _ _) | (with_reducible refine Below.drew ?_) | (with_reducible refine blw_al ?_ _) | (with_reducible refine blw_stp (by with_reducible assumption) ?_) | (with_reducible refine blw_set ?_ (by dsimp only; omega) _)))
      have ho2 := Lib.hid (ho.out.below hbr2)
      have hbw2 : Below w.heap.size w w2 := hbw.trans (hbr2.mono hsz)
      have hsz2 := hbw2.size
      clear ho hbr2 hb2
      by_cases hge : life ≤ q + wear1 (d, t, wt)
      · have HE : Hid (chK rs life (k + 1) = (ps ++ [(k : Int)], 0)) := by show _ = _; rw [HW.out]; exact if_pos hge
        clear HW
        go_wp2_with (at_builtin; refine wpList_append_own _ rfl _ _ 41 rfl w.heap.size 2 i0 (.int .i64 0) 1 8 Try.underlying41 hi hz0 hz1 hz2 rfl (by decide) _ _ _ rfl (World.ownsRow.alloc ho2.out _) ⟨w2.heap.size, 0, none⟩ 1 1 [.int .i64 ((k : Int))] rfl rfl (cell_one_new _ _ _) (by intro u hu; simp at hu; subst hu; rfl) (by unfold maxLen; omega) (by omega) (by simp; omega) ?_; intro v' w1 hown' hgrow _)
        obtain ⟨ho3, hb3⟩ := OwI.app hbw2 (by omega) ho2.out hown' hgrow
        have HO3 := Lib.hid ho3
        clear hown' hgrow ho3 ho2
        go_wp2
        go_roundw
        case rel => exact ⟨k + 1, by omega, by go_num, by rw [HE.out], hb3, by rw [HE.out]; exact HO3.out⟩
        case measure => simp [intOf]; omega
      · have HE : Hid (chK rs life (k + 1) = (ps, q + wear1 (d, t, wt))) := by show _ = _; rw [HW.out]; exact if_neg hge
        clear HW
        go_wp2
        go_roundw
        case rel => exact ⟨k + 1, by omega, by go_num, by rw [HE.out], hbw2, by rw [HE.out]; exact ho2.out⟩
        case measure => simp [intOf]; omega
    · obtain rfl : k = rs.length := by omega
      go_wp2
      go_ret2
      exact RetI.mk rfl ho.out hbw

set_option maxHeartbeats 800000 in
theorem l12Changes_any (v : Value) (rs : List Rid) (life : Int) (w : World) (hr : RdRid w v rs) (hA : areR rs = true) :
    Calls Try.prog 53 #[v, .int .i64 life] w (RetI w (chK rs life rs.length)) := by
  obtain ⟨i0, hi, hz0, hz1, hz2⟩ := info_parts Try.infoI64
  obtain ⟨hn, hat⟩ := areR_at hA
  have HAT := Lib.hid hat
  have HB := Lib.hid (wearK_bd hA)
  have HCB := Lib.hid (chK_bd hA life)
  clear hat hA
  obtain ⟨a, c, rfl, hcell⟩ := hr
  have HC := Lib.hid hcell
  clear hcell
  go_enter Try.func53, Try.ntmps53
  go_wp2
  go_loopw [6, 7, 8] (fun p q i wr => ∃ k : Nat, k ≤ rs.length ∧ i = .int .i64 k ∧ q = .int .i64 (chK rs life k).2 ∧ Below w.heap.size w wr ∧ Hid (OwI wr w.heap.size p (chK rs life k).1)) (fun _ _ i _ => rs.length - (intOf i).toNat)
  case atStart => exact ⟨0, Nat.zero_le _, rfl, rfl, (Below.refl _ _).alloc (Nat.le_refl _) _, OwI.lit0 w⟩
  case round =>
    obtain ⟨k, hk, rfl, rfl, hbw, ho⟩ := hrel
    by_cases hlt : k < rs.length
    · skip
      obtain ⟨b, o, rfl, h0, h1, h2⟩ := HC.out k hlt
      have hblt : b < w.heap.size := World.block_lt_of_cell? w _ h0
      have hsz := hbw.size
      have hbr : b < wr.heap.size := by omega
      have c0 : wr.cell? ⟨b, o + k * 3, none⟩ = some (.int .i64 (rs.getD k (0, 0, false)).1) := (hbw.cell (p := ⟨b, o + k * 3, none⟩) hblt).trans h0
      have c1 : wr.cell? ⟨b, o + k * 3 + 1, none⟩ = some (.int .i64 (rs.getD k (0, 0, false)).2.1) := (hbw.cell (p := ⟨b, o + k * 3 + 1, none⟩) hblt).trans h1
      have c2 : wr.cell? ⟨b, o + k * 3 + 2, none⟩ = some (.bool (rs.getD k (0, 0, false)).2.2) := (hbw.cell (p := ⟨b, o + k * 3 + 2, none⟩) hblt).trans h2
      obtain ⟨-, -, t1, t2, -⟩ := HAT.out k hlt
      obtain ⟨y1, y2⟩ := wear1_bd t1 t2
      obtain ⟨z0, z1⟩ := HB.out k hk
      obtain ⟨x1, x2, x3⟩ := HCB.out k hk
      have HW : Hid (chK rs life (k + 1) = if life ≤ (chK rs life k).2 + wear1 (rs.getD k (0, 0, false)) then ((chK rs life k).1 ++ [(k : Int)], 0) else ((chK rs life k).1, (chK rs life k).2 + wear1 (rs.getD k (0, 0, false)))) := rfl
      generalize (rs.getD k (0, 0, false)) = x at *
      obtain ⟨d, t, wt⟩ := x
      simp only at c0 c1 c2 t1 t2
      clear h0 h1 h2
      generalize chK rs life k = P at *
      obtain ⟨ps, q⟩ := P
      simp only at x1 x2 x3 HW ho
      generalize wearK rs k = wk at *
      go_wp2_with fail
      (with_reducible refine (l12Of_any _ _ _ _ (by omega) (by omega)).mono ?_)
      rintro e w2 ⟨rfl, hb2⟩
      have hbr2 : Below wr.heap.size wr w2 := (by repeat (first | (with_reducible assumption) | (with_reducible exact Below.refl _ _) | (with_reducible refine Below.drew ?_) | (with_reducible refine blw_al ?_ _) | (with_reducible refine blw_stp (by with_reducible assumption) ?_) | (with_reducible refine blw_set ?_ (by dsimp only; omega) _)))
      have ho2 := Lib.hid (ho.out.below hbr2)
      have hbw2 : Below w.heap.size w w2 := hbw.trans (hbr2.mono hsz)
      have hsz2 := hbw2.size
      clear ho hbr2 hb2
      by_cases hge : life ≤ q + wear1 (d, t, wt)
      · have HE : Hid (chK rs life (k + 1) = (ps ++ [(k : Int)], 0)) := by show _ = _; rw [HW.out]; exact if_pos hge
        clear HW
        go_wp2_with (at_builtin; refine wpList_append_own _ rfl _ _ 41 rfl w.heap.size 2 i0 (.int .i64 0) 1 8 Try.underlying41 hi hz0 hz1 hz2 rfl (by decide) _ _ _ rfl (World.ownsRow.alloc ho2.out _) ⟨w2.heap.size, 0, none⟩ 1 1 [.int .i64 ((k : Int))] rfl rfl (cell_one_new _ _ _) (by intro u hu; simp at hu; subst hu; rfl) (by unfold maxLen; omega) (by omega) (by simp; omega) ?_; intro v' w1 hown' hgrow _)
        obtain ⟨ho3, hb3⟩ := OwI.app hbw2 (by omega) ho2.out hown' hgrow
        have HO3 := Lib.hid ho3
        clear hown' hgrow ho3 ho2
        go_wp2
        go_roundw
        case rel => exact ⟨k + 1, by omega, by go_num, by rw [HE.out], hb3, by rw [HE.out]; exact HO3.out⟩
        case measure => simp [intOf]; omega
      · have HE : Hid (chK rs life (k + 1) = (ps, q + wear1 (d, t, wt))) := by show _ = _; rw [HW.out]; exact if_neg hge
        clear HW
        go_wp2
        go_roundw
        case rel => exact ⟨k + 1, by omega, by go_num, by rw [HE.out], hbw2, by rw [HE.out]; exact ho2.out⟩
        case measure => simp [intOf]; omega
    · obtain rfl : k = rs.length := by omega
      go_wp2
      go_ret2
      exact RetI.mk rfl ho.out hbw

end Go.Proofs.Ythfpikpknojffaa
