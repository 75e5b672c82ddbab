/- Plain laws of rides: the parts of a list between changes, the day of the next change, the added ride. -/
import Derived.Test.YthfpikpknojffaaWeaJ
import Derived.Test.YthfpikpknojffaaWeaF
import Derived.Test.YthfpikpknojffaaWeaE
set_option linter.unusedSimpArgs false
set_option linter.unusedVariables false
namespace Go.Proofs.Ythfpikpknojffaa
open Go.RowKit

theorem getD_sub (rs : List Rid) (f m i : Nat) (h : i < m) : ((rs.drop f).take m).getD i (0, 0, false) = rs.getD (f + i) (0, 0, false) := by
  simp [List.getD_eq_getElem?_getD, List.getElem?_take, h, List.getElem?_drop]
theorem len_sub (rs : List Rid) (f m : Nat) (hm : f + m ≤ rs.length) : ((rs.drop f).take m).length = m := by simp; omega
theorem areR_sub {rs : List Rid} (h : areR rs = true) {f m : Nat} (hm : f + m ≤ rs.length) : areR ((rs.drop f).take m) = true := by
  obtain ⟨h1, h2⟩ := areR_at h
  have hl := len_sub rs f m hm
  unfold areR
  rw [hl]
  simp only [Bool.and_eq_true, decide_eq_true_eq, List.all_eq_true, List.mem_range]
  refine ⟨by omega, fun k hk => ?_⟩
  obtain ⟨a, b, c, d, e⟩ := h2 (f + k) (by omega)
  have g0 := getD_sub rs f m k hk
  unfold okAt
  rw [g0]
  simp only [Bool.and_eq_true, Bool.or_eq_true, decide_eq_true_eq]
  refine ⟨inR_iff.2 ⟨a, b⟩, inR_iff.2 ⟨c, d⟩, ?_⟩
  rcases Nat.eq_zero_or_pos k with hk0 | hk0
  · left; exact hk0
  · right
    rw [getD_sub rs f m (k - 1) (by omega)]
    have := e (by omega)
    rw [show f + k - 1 = f + (k - 1) by omega] at this
    exact this
theorem wearK_sub (rs : List Rid) (f m : Nat) : ∀ i, i ≤ m → wearK ((rs.drop f).take m) i = wearK rs (f + i) - wearK rs f := by
  intro i
  induction i with
  | zero => intro _; simp [wearK]
  | succ i ih =>
    intro hi
    have h1 := ih (by omega)
    have e1 : wearK rs (f + (i + 1)) = wearK rs (f + i) + wear1 (rs.getD (f + i) (0, 0, false)) := rfl
    have e2 : wearK ((rs.drop f).take m) (i + 1) = wearK ((rs.drop f).take m) i + wear1 (((rs.drop f).take m).getD i (0, 0, false)) := rfl
    rw [e1, e2, h1, getD_sub rs f m i (by omega)]
    omega
theorem wearRR_sub {rs : List Rid} (h : areR rs = true) {f m : Nat} (hm : f + m ≤ rs.length) : (wearK rs (f + m) - wearK rs f, (0 : Int)) = wearRR ((rs.drop f).take m) := by
  unfold wearRR
  rw [if_pos (areR_sub h hm), len_sub rs f m hm, wearK_sub rs f m m (Nat.le_refl _)]
/-- Where the part behind the first i changes begins. -/
def frN (l : List Int) (i : Nat) : Nat := if i = 0 then 0 else (l.getD (i - 1) 0).toNat + 1
theorem frN_app (l : List Int) (c : Int) (i : Nat) (h : i ≤ l.length) : frN (l ++ [c]) i = frN l i := by
  unfold frN
  split
  · rfl
  · rw [List.getD_eq_getElem?_getD, List.getD_eq_getElem?_getD, List.getElem?_append_left (by omega)]
theorem ch_chain (rs : List Rid) (life : Int) : ∀ k, k ≤ rs.length → (∀ i, i < (chK rs life k).1.length → ∃ q : Nat, (chK rs life k).1.getD i 0 = (q : Int) ∧ frN (chK rs life k).1 i ≤ q ∧ q < k ∧ life ≤ wearK rs (q + 1) - wearK rs (frN (chK rs life k).1 i)) ∧ frN (chK rs life k).1 (chK rs life k).1.length ≤ k ∧ (chK rs life k).2 = wearK rs k - wearK rs (frN (chK rs life k).1 (chK rs life k).1.length) := by
  intro k
  induction k with
  | zero => intro _; exact ⟨fun i hi => by simp [chK] at hi, by simp [chK, frN], by simp [chK, frN, wearK]⟩
  | succ k ih =>
    intro hk
    obtain ⟨h1, h2, h3⟩ := ih (by omega)
    simp only [chK]
    generalize chK rs life k = r at *
    obtain ⟨l, acc⟩ := r
    simp only at h1 h2 h3 ⊢
    split
    · rename_i hc
      refine ⟨fun i hi => ?_, ?_, ?_⟩
      · simp only [List.length_append, List.length_singleton] at hi
        rw [frN_app l k i (by omega)]
        rcases Nat.lt_or_ge i l.length with hlt | hge
        · obtain ⟨q, e1, e2, e3, e4⟩ := h1 i hlt
          refine ⟨q, ?_, e2, by omega, e4⟩
          rw [← e1, List.getD_eq_getElem?_getD, List.getD_eq_getElem?_getD, List.getElem?_append_left hlt]
        · obtain rfl : i = l.length := by omega
          refine ⟨k, by simp, h2, by omega, ?_⟩
          simp only [wearK]
          omega
      · unfold frN
        rw [if_neg (by simp)]
        simp
      · have e : frN (l ++ [(k : Int)]) (l ++ [(k : Int)]).length = k + 1 := by
          unfold frN
          rw [if_neg (by simp)]
          simp
        simp only [e, wearK]
        omega
    · refine ⟨fun i hi => ?_, Nat.le_succ_of_le h2, ?_⟩
      rotate_left
      · show acc + _ = _
        simp only [wearK]
        omega
      · obtain ⟨q, e1, e2, e3, e4⟩ := h1 i hi
        exact ⟨q, e1, e2, by omega, e4⟩
theorem parts_law {rs : List Rid} {life : Int} {cl : List Int} {c : Int} (h : (cl, c) = chAR rs life) (hc : c = 0) : areR rs = true ∧ 1 ≤ life ∧ life ≤ 10000000 ∧ rs.length ≤ 40 ∧ cl.length ≤ 40 ∧ (∀ i, i < cl.length → ∃ q : Nat, cl.getD i 0 = (q : Int) ∧ frN cl i ≤ q ∧ q < rs.length ∧ ∃ p : Int, (p, (0 : Int)) = wearRR ((rs.drop (frN cl i)).take (q + 1 - frN cl i)) ∧ life ≤ p) ∧ frN cl cl.length ≤ rs.length ∧ ∃ r : Int, (r, (0 : Int)) = wearRR ((rs.drop (frN cl cl.length)).take (rs.length - frN cl cl.length)) ∧ 0 ≤ r ∧ r < life ∧ r ≤ 1200000 ∧ wornR rs life = (100 * r / life, 0) := by
  unfold chAR at h
  split at h
  · rename_i hA
    split at h
    · rename_i hl
      obtain ⟨l1, l2⟩ := inR_iff.1 hl
      injection h with h1 h2
      have hn := (areR_at hA).1
      obtain ⟨g1, g2, g3⟩ := ch_chain rs life rs.length (Nat.le_refl _)
      obtain ⟨b1, b2, b3⟩ := chK_bd hA life rs.length (Nat.le_refl _)
      have b4 := (wearK_bd hA rs.length (Nat.le_refl _)).2
      have b5 := chK_lt rs l1 rs.length
      rw [← h1] at g1 g2 g3 b3
      refine ⟨hA, l1, l2, hn, by omega, fun i hi => ?_, g2, (chK rs life rs.length).2, ?_, b1, b5, by omega, ?_⟩
      · obtain ⟨q, e1, e2, e3, e4⟩ := g1 i hi
        refine ⟨q, e1, e2, e3, _, wearRR_sub hA (by omega), ?_⟩
        rw [show frN cl i + (q + 1 - frN cl i) = q + 1 by omega]
        exact e4
      · rw [← wearRR_sub hA (by omega), show frN cl cl.length + (rs.length - frN cl cl.length) = rs.length by omega, ← g3]
      · unfold wornR
        rw [if_pos hA, if_pos hl]
    · injection h with h1 h2; omega
  · injection h with h1 h2; omega
theorem day_law {rs : List Rid} {life d c : Int} (h : (d, c) = dayR rs life) (hc : c = 0) : ∃ m : Nat, rs.length = m + 1 ∧ (rs.getD m (0, 0, false)).1 < d := by
  unfold dayR at h
  split at h
  · rename_i hA
    split at h
    · rename_i hl
      obtain ⟨l1, l2⟩ := inR_iff.1 hl
      split at h
      · injection h with h1 h2; omega
      · rename_i hn
        split at h
        · injection h with h1 h2; omega
        · injection h with h1 h2
          refine ⟨rs.length - 1, by omega, ?_⟩
          rw [h1]
          unfold dayOf cdiv
          have b5 := chK_lt rs l1 rs.length
          have b6 := (wearK_bd hA rs.length (Nat.le_refl _)).1
          have b7 := day_mono hA (rs.length - 1) (by omega)
          generalize (rs.getD (rs.length - 1) (0, 0, false)).1 = x at *
          generalize (rs.getD 0 (0, 0, false)).1 = y at *
          generalize wearK rs rs.length = wk at *
          generalize (chK rs life rs.length).2 = u at *
          have m1 : 1 * 1 ≤ (life - u) * (x - y + 1) := Int.mul_le_mul (by omega) (by omega) (by omega) (by omega)
          have m2 : 1 ≤ ((life - u) * (x - y + 1) + wk - 1) / wk := by
            rw [Int.le_ediv_iff_mul_le (by omega)]
            omega
          omega
    · injection h with h1 h2; omega
  · injection h with h1 h2; omega
theorem add_law {rs L : List Rid} {r : Rid} {c : Int} (h : (L, c) = addR rs r) (hc : c = 0) : L = rs ++ [r] ∧ areR L = true ∧ rs.length < 40 := by
  unfold addR at h
  split at h
  · rename_i hA
    have hn := (areR_at hA).1
    split at h
    · injection h with h1 h2; omega
    · split at h
      · rename_i hB
        injection h with h1 h2
        exact ⟨h1, by rw [h1]; exact hB, by omega⟩
      · injection h with h1 h2; omega
  · injection h with h1 h2; omega
theorem wear_code {rs : List Rid} {x c : Int} (h : (x, c) = wearRR rs) : areR rs = (c == 0) := by
  unfold wearRR at h
  cases hA : areR rs
  · rw [hA, if_neg (by simp)] at h
    injection h with h1 h2
    rw [h2]; rfl
  · rw [hA, if_pos rfl] at h
    injection h with h1 h2
    rw [h2]; rfl
end Go.Proofs.Ythfpikpknojffaa
