/- Plain law: the least life with few changes is a sum of rides one behind the other, plus 1. -/
import Derived.Test.YthfpikpknojffaaWeaD
set_option linter.unusedSimpArgs false
set_option linter.unusedVariables false
namespace Go.Proofs.Ythfpikpknojffaa
open Go.RowKit

def cntL (rs : List Rid) (L : Int) : Int := ((chK rs L rs.length).1.length : Int)
theorem chK_mono {rs : List Rid} (h : areR rs = true) {L L' : Int} (hLL : L ≤ L') (hL : 1 ≤ L) : ∀ k, k ≤ rs.length →
    (chK rs L' k).1.length < (chK rs L k).1.length ∨ ((chK rs L' k).1.length = (chK rs L k).1.length ∧ (chK rs L' k).2 ≤ (chK rs L k).2) := by
  intro k
  induction k with
  | zero => intro _; exact Or.inr ⟨rfl, Int.le_refl _⟩
  | succ k ih =>
    intro hk
    have hi := ih (by omega)
    have b1 := (chK_bd h L k (by omega)).1
    have b2 := (chK_bd h L' k (by omega)).1
    have h1 := (areR_at h).2 k (by omega)
    have h2 := (wear1_bd h1.2.2.1 h1.2.2.2.1).1
    generalize hP : chK rs L k = P at *
    generalize hP' : chK rs L' k = P' at *
    obtain ⟨ps, q⟩ := P
    obtain ⟨ps', q'⟩ := P'
    simp only at hi b1 b2
    simp only [chK, hP, hP']
    by_cases c1 : L ≤ q + wear1 (rs.getD k (0, 0, false))
    · by_cases c2 : L' ≤ q' + wear1 (rs.getD k (0, 0, false))
      · rw [if_pos c1, if_pos c2]
        simp only [List.length_append, List.length_cons, List.length_nil]
        omega
      · rw [if_pos c1, if_neg c2]
        simp only [List.length_append, List.length_cons, List.length_nil]
        omega
    · by_cases c2 : L' ≤ q' + wear1 (rs.getD k (0, 0, false))
      · rw [if_neg c1, if_pos c2]
        simp only [List.length_append, List.length_cons, List.length_nil]
        omega
      · rw [if_neg c1, if_neg c2]
        simp only
        omega
theorem cntL_mono {rs : List Rid} (h : areR rs = true) {L L' : Int} (hLL : L ≤ L') (hL : 1 ≤ L) : cntL rs L' ≤ cntL rs L := by
  have := chK_mono h hLL hL rs.length (Nat.le_refl _)
  unfold cntL
  omega
theorem chK_big {rs : List Rid} (h : areR rs = true) {L : Int} (hL : 1200000 < L) : ∀ k, k ≤ rs.length → chK rs L k = ([], wearK rs k) := by
  intro k
  induction k with
  | zero => intro _; rfl
  | succ k ih =>
    intro hk
    have h3 := (wearK_bd h (k + 1) hk).2
    have h4 := (areR_at h).1
    simp only [wearK] at h3
    simp only [chK, ih (by omega), wearK]
    rw [if_neg (by omega)]
theorem cntL_big {rs : List Rid} (h : areR rs = true) {L : Int} (hL : 1200000 < L) : cntL rs L = 0 := by
  unfold cntL; rw [chK_big h hL rs.length (Nat.le_refl _)]; rfl
theorem chK_alike {rs : List Rid} {L : Int} (hn : ∀ i k, i ≤ k → k ≤ rs.length → wearK rs k - wearK rs i ≠ L) : ∀ k, k ≤ rs.length → chK rs (L + 1) k = chK rs L k ∧ ∃ i, i ≤ k ∧ (chK rs L k).2 = wearK rs k - wearK rs i := by
  intro k
  induction k with
  | zero => intro _; exact ⟨rfl, 0, Nat.le_refl _, by simp [chK]⟩
  | succ k ih =>
    intro hk
    obtain ⟨e, i, hik, hi⟩ := ih (by omega)
    have hx := hn i (k + 1) (by omega) hk
    simp only [wearK] at hx
    simp only [chK, e, wearK]
    by_cases c : L ≤ (chK rs L k).2 + wear1 (rs.getD k (0, 0, false))
    · rw [if_pos c, if_pos (by omega)]
      exact ⟨rfl, k + 1, Nat.le_refl _, by simp [wearK]⟩
    · rw [if_neg c, if_neg (by omega)]
      exact ⟨rfl, i, by omega, by dsimp only; omega⟩
/-- L is the least life with at most so many changes. -/
def isLeast (rs : List Rid) (most L : Int) : Prop := 1 ≤ L ∧ cntL rs L ≤ most ∧ ∀ L', 1 ≤ L' → L' < L → most < cntL rs L'
theorem isLeast_uniq {rs : List Rid} {most L L' : Int} (h : isLeast rs most L) (h' : isLeast rs most L') : L = L' := by
  obtain ⟨a, b, c⟩ := h
  obtain ⟨a', b', c'⟩ := h'
  rcases Int.lt_trichotomy L L' with hl | hl | hl
  · have := c' L a hl; omega
  · exact hl
  · have := c L' a' hl; omega
/-- The least is one more than a sum of rides one behind the other. -/
theorem isLeast_sum {rs : List Rid} {most L : Int} (h : isLeast rs most L) : ∃ i k, i ≤ k ∧ k ≤ rs.length ∧ L = wearK rs k - wearK rs i + 1 := by
  obtain ⟨h1, h2, h3⟩ := h
  by_cases he : L = 1
  · exact ⟨0, 0, Nat.le_refl _, Nat.zero_le _, by rw [he]; omega⟩
  by_cases hx : ∃ i k, i ≤ k ∧ k ≤ rs.length ∧ L = wearK rs k - wearK rs i + 1
  · exact hx
  · exfalso
    have hn : ∀ i k, i ≤ k → k ≤ rs.length → wearK rs k - wearK rs i ≠ L - 1 := fun i k a b e => hx ⟨i, k, a, b, by omega⟩
    have e := (chK_alike hn rs.length (Nat.le_refl _)).1
    rw [Int.sub_add_cancel] at e
    have := h3 (L - 1) (by omega) (by omega)
    unfold cntL at this h2
    rw [e] at h2
    omega
def lfF (rs : List Rid) (most : Int) : Nat → Int → Int
  | 0, L => L
  | n + 1, L => if cntL rs L ≤ most then L else lfF rs most n (L + 1)
theorem lfF_eq {rs : List Rid} {most L0 : Int} (h : isLeast rs most L0) : ∀ (n : Nat) (L : Int), 1 ≤ L → L ≤ L0 → L0 < L + n → lfF rs most n L = L0 := by
  intro n
  induction n with
  | zero => intro L _ _ _; omega
  | succ n ih =>
    intro L h1 h2 h3
    unfold lfF
    by_cases he : L = L0
    · subst he; rw [if_pos h.2.1]
    · have := h.2.2 L h1 (by omega)
      rw [if_neg (by omega)]
      exact ih (L + 1) (by omega) (by omega) (by omega)
def leastL (rs : List Rid) (most : Int) (n : Nat) : Int := lfF rs most n 1
def lifeR (rs : List Rid) (most : Int) : Int × Int := if areR rs = true then (if inR most 0 40 = true then (leastL rs most (10 ^ 7), 0) else (0, 2)) else (0, 1)
theorem lifeR_least {rs : List Rid} {most L : Int} (hA : areR rs = true) (hm : inR most 0 40 = true) (h : isLeast rs most L) (hL : L ≤ 10000000) : lifeR rs most = (L, 0) := by
  unfold lifeR leastL
  rw [if_pos hA, if_pos hm, lfF_eq h (10 ^ 7) 1 (by omega) h.1 (by
    have : ((10 ^ 7 : Nat) : Int) = 10000000 := by decide
    omega)]
/-- What the reference's best is while it goes over the sums: i and k are what comes next. -/
def bestI (rs : List Rid) (most : Int) (i k : Nat) (b : Int) : Prop :=
  (b = -1 ∨ (1 ≤ b ∧ b ≤ 1200001 ∧ cntL rs b ≤ most)) ∧
  ∀ i' k', i' ≤ k' → k' ≤ rs.length → (i' < i ∨ (i' = i ∧ k' < k)) → cntL rs (wearK rs k' - wearK rs i' + 1) ≤ most → 1 ≤ b ∧ b ≤ wearK rs k' - wearK rs i' + 1
theorem bestI_0 (rs : List Rid) (most : Int) : bestI rs most 0 0 (-1) := ⟨Or.inl rfl, fun i' k' h1 h2 h3 _ => by omega⟩
theorem bestI_in {rs : List Rid} {most : Int} {i : Nat} {b : Int} (h : bestI rs most i (rs.length + 1) b) : bestI rs most (i + 1) (i + 1) b :=
  ⟨h.1, fun i' k' h1 h2 h3 h4 => h.2 i' k' h1 h2 (by omega) h4⟩
theorem bestI_no {rs : List Rid} {most : Int} {i k : Nat} {b : Int} (h : bestI rs most i k b) (hn : ¬ (cntL rs (wearK rs k - wearK rs i + 1) ≤ most) ∨ (1 ≤ b ∧ b ≤ wearK rs k - wearK rs i + 1)) : bestI rs most i (k + 1) b := by
  refine ⟨h.1, fun i' k' h1 h2 h3 h4 => ?_⟩
  by_cases he : i' = i ∧ k' = k
  · obtain ⟨rfl, rfl⟩ := he
    rcases hn with hn | hn
    · exact absurd h4 hn
    · exact hn
  · exact h.2 i' k' h1 h2 (by omega) h4
theorem bestI_yes {rs : List Rid} {most : Int} {i k : Nat} {b : Int} (h : bestI rs most i k b) (hc : cntL rs (wearK rs k - wearK rs i + 1) ≤ most) (hb : b < 0 ∨ wearK rs k - wearK rs i + 1 < b) (h1 : 1 ≤ wearK rs k - wearK rs i + 1)
    (h2 : wearK rs k - wearK rs i + 1 ≤ 1200001) : bestI rs most i (k + 1) (wearK rs k - wearK rs i + 1) := by
  refine ⟨Or.inr ⟨h1, h2, hc⟩, fun i' k' g1 g2 g3 g4 => ?_⟩
  by_cases he : i' = i ∧ k' = k
  · obtain ⟨rfl, rfl⟩ := he
    omega
  · have := h.2 i' k' g1 g2 (by omega) g4
    omega
theorem bestI_end {rs : List Rid} {most b : Int} (h : bestI rs most (rs.length + 1) (rs.length + 1) b) {L : Int} (hl : isLeast rs most L) : b = L := by
  obtain ⟨i, k, hik, hk, e⟩ := isLeast_sum hl
  have h2 := h.2 i k hik hk (by omega) (by rw [← e]; exact hl.2.1)
  rcases h.1 with rfl | ⟨b1, b2, b3⟩
  · omega
  · rcases Int.lt_trichotomy b L with hlt | hlt | hlt
    · have := hl.2.2 b b1 hlt; omega
    · exact hlt
    · omega
/-- There is a least. -/
theorem isLeast_ex {rs : List Rid} (hA : areR rs = true) {most : Int} (hm : 0 ≤ most) : ∃ L, isLeast rs most L ∧ L ≤ 1200001 := by
  have key : ∀ n : Nat, cntL rs (n + 1) ≤ most → ∃ L, isLeast rs most L ∧ L ≤ n + 1 := by
    intro n
    induction n with
    | zero => intro h; exact ⟨1, ⟨by omega, by simpa using h, fun L' a b => by omega⟩, by omega⟩
    | succ n ih =>
      intro h
      by_cases hc : cntL rs (n + 1) ≤ most
      · obtain ⟨L, h1, h2⟩ := ih hc
        exact ⟨L, h1, by omega⟩
      · refine ⟨((n + 1 : Nat) : Int) + 1, ⟨by omega, h, fun L' a b => ?_⟩, Int.le_refl _⟩
        have := cntL_mono hA (L := L') (L' := (n : Int) + 1) (by omega) a
        omega
  have h0 := cntL_big hA (L := ((1200000 : Nat) : Int) + 1) (by omega)
  obtain ⟨L, h1, h2⟩ := key 1200000 (by rw [h0]; exact hm)
  exact ⟨L, h1, by omega⟩
/-- The halving: what holds of low and high. -/
def halfI (rs : List Rid) (most lo hi : Int) : Prop := 1 ≤ lo ∧ lo ≤ hi ∧ hi ≤ 10000000 ∧ cntL rs hi ≤ most ∧ ∀ L', 1 ≤ L' → L' < lo → most < cntL rs L'
theorem halfI_0 {rs : List Rid} (hA : areR rs = true) {most : Int} (hm : 0 ≤ most) : halfI rs most 1 10000000 :=
  ⟨by omega, by omega, by omega, by rw [cntL_big hA (by omega)]; exact hm, fun L' a b => by omega⟩
theorem halfI_hi {rs : List Rid} {most lo hi m : Int} (h : halfI rs most lo hi) (h1 : lo ≤ m) (h2 : m ≤ hi) (hc : cntL rs m ≤ most) : halfI rs most lo m := by
  obtain ⟨a, b, c, d, e⟩ := h
  exact ⟨a, h1, by omega, hc, e⟩
theorem halfI_lo {rs : List Rid} (hA : areR rs = true) {most lo hi m : Int} (h : halfI rs most lo hi) (h1 : lo ≤ m) (h2 : m < hi) (hc : most < cntL rs m) : halfI rs most (m + 1) hi := by
  obtain ⟨a, b, c, d, e⟩ := h
  refine ⟨by omega, by omega, c, d, fun L' x y => ?_⟩
  have := cntL_mono hA (L := L') (L' := m) (by omega) x
  omega
theorem halfI_end {rs : List Rid} {most lo : Int} (h : halfI rs most lo lo) : isLeast rs most lo := ⟨h.1, h.2.2.2.1, h.2.2.2.2⟩

end Go.Proofs.Ythfpikpknojffaa
