/- Plain law: the loosest gear has the greatest slack, and two links more give 2000 more. -/
import Derived.Test.YtfdnhamkkcmnfaaGrdG
import Derived.Test.YtfdnhamkkcmnfaaGeaD
set_option linter.unusedSimpArgs false
set_option linter.unusedVariables false
namespace Go.Proofs.Ytfdnhamkkcmnfaa
open Go.RowKit

theorem lnkF_law (n : Int) : ∀ k L, 40 ≤ L → L % 2 = 0 → (L = 40 ∨ 1000 * (L - 2) < n) → lnkF n k L = 0 ∨ (lnkF n k L % 2 = 0 ∧ n ≤ 1000 * lnkF n k L ∧ (lnkF n k L = 40 ∨ 1000 * (lnkF n k L - 2) < n)) := by
  intro k
  induction k with
  | zero => intro L _ _ _; exact Or.inl rfl
  | succ k ih =>
    intro L h1 h2 h3
    unfold lnkF
    split
    · exact Or.inr ⟨h2, by omega, h3⟩
    · exact ih (L + 2) (by omega) (by omega) (Or.inr (by omega))
theorem slk_parts {F R : List Int} {rd stay links : Int} {ss : List Int} {one : Int} (h : (ss, one) = slkR F R rd stay links) (h1 : one = 0) : trainR F R rd = true ∧ inR stay 3000 6000 = true ∧ linksOk links = true ∧ ss = slkG F R stay links := by
  unfold slkR at h
  split at h
  · rename_i hT
    split at h
    · rename_i hb
      rw [Bool.and_eq_true] at hb
      injection h with e1 e2
      exact ⟨hT, hb.1, hb.2, e1⟩
    · injection h with e1 e2; omega
  · injection h with e1 e2; omega
theorem slk_ok {F R : List Int} {rd stay links : Int} (hT : trainR F R rd = true) (hs : inR stay 3000 6000 = true) (hl : linksOk links = true) : (slkG F R stay links, (0 : Int)) = slkR F R rd stay links := by
  unfold slkR
  rw [hT, hs, hl]
  rfl
theorem slkG_at {F R : List Int} {stay links : Int} {k : Nat} (hk : k < (ordG F R).length) : (slkG F R stay links).getD k 0 = slkV F R stay links ((ordG F R).getD k (0, 0)) := by
  unfold slkG
  simp [List.getD_eq_getElem?_getD, hk]
theorem linksOk_at {n : Int} (h : linksOk n = true) : 40 ≤ n ∧ n ≤ 200 ∧ n % 2 = 0 := by
  simp only [linksOk, Bool.and_eq_true, inR_iff, decide_eq_true_eq] at h
  omega
theorem linksOk_yes {n : Int} (h0 : 40 ≤ n) (h1 : n ≤ 200) (h2 : n % 2 = 0) : linksOk n = true := by
  simp only [linksOk, Bool.and_eq_true, inR_iff, decide_eq_true_eq]
  omega
theorem slk_needs {F R : List Int} {rd stay : Int} (hT : trainR F R rd = true) (hs : inR stay 3000 6000 = true) {k : Nat} (hk : k < (ordG F R).length) : 0 ≤ needZ stay (tth F ((ordG F R).getD k (0, 0)).1) (tth R ((ordG F R).getD k (0, 0)).2) ∧ needZ stay (tth F ((ordG F R).getD k (0, 0)).1) (tth R ((ordG F R).getD k (0, 0)).2) ≤ 300000 := by
  obtain ⟨tF, tR, -, -⟩ := trainR_at hT
  obtain ⟨s1, s2⟩ := inR_iff.1 hs
  have hj : (ordG F R)[k]? = some ((ordG F R).getD k (0, 0)) := by
    rw [List.getD_eq_getElem?_getD, List.getElem?_eq_getElem hk]
    rfl
  obtain ⟨i, q, e, hi, hq⟩ := ordP_bd (Or.inr ⟨rfl, rfl⟩) (Nat.zero_le _) hj
  rw [e]
  obtain ⟨x1, x2, -⟩ := (teethR_at tF).2.2 i hi
  obtain ⟨z1, z2, -⟩ := (teethR_at tR).2.2 q hq
  rw [tth_eq (by omega), tth_eq (by omega)]
  exact needZ_bd s1 s2 x1 x2 z1 z2
theorem slk_len {F R : List Int} {rd stay links : Int} {ss : List Int} {one : Int} (h : (ss, one) = slkR F R rd stay links) : ss.length ≤ 36 := by
  unfold slkR at h
  split at h
  · rename_i hT
    split at h
    · injection h with e1 e2
      obtain ⟨tF, tR, -, -⟩ := trainR_at hT
      have h1 := (teethR_at tF).2.1
      have h2 := (teethR_at tR).2.1
      have h3 : F.length * R.length ≤ 3 * 12 := Nat.mul_le_mul (by omega) (by omega)
      rw [e1, slkG_length, ordG_length]
      omega
    · injection h with e1 e2; rw [e1]; simp
  · injection h with e1 e2; rw [e1]; simp
/-- Two links more. -/
theorem more_law {F R : List Int} {rd stay links : Int} {ss : List Int} {one : Int} (h : (ss, one) = slkR F R rd stay links) (h1 : one = 0) (h2 : links < 200) : ∃ mo : List Int, (mo, (0 : Int)) = slkR F R rd stay (links + 2) ∧ mo.length = ss.length ∧ (40 ≤ links ∧ links ≤ 200) ∧ ∀ k, k < ss.length → (-1 ≤ ss.getD k 0 ∧ ss.getD k 0 ≤ 200000) ∧ (0 ≤ ss.getD k 0 → mo.getD k 0 = ss.getD k 0 + 2000) := by
  obtain ⟨hT, hs, hl, rfl⟩ := slk_parts h h1
  obtain ⟨l1, l2, l3⟩ := linksOk_at hl
  refine ⟨_, slk_ok hT hs (linksOk_yes (by omega) (by omega) (by omega)), by rw [slkG_length, slkG_length], ⟨l1, l2⟩, fun k hk => ?_⟩
  rw [slkG_length] at hk
  rw [slkG_at hk, slkG_at hk]
  have hn := slk_needs hT hs hk
  unfold slkV
  omega
/-- All gears in order, with a code. -/
def goR (F R : List Int) (rd : Int) : List Gear × Int := if trainR F R rd = true then (ordG F R, 0) else ([], 1)
theorem go_ok {F R : List Int} {rd : Int} (h : trainR F R rd = true) : (ordG F R, (0 : Int)) = goR F R rd := by
  unfold goR
  rw [h]
  rfl
theorem go_len {F R : List Int} {rd : Int} (h : trainR F R rd = true) : (ordG F R).length ≤ 36 := by
  obtain ⟨tF, tR, -, -⟩ := trainR_at h
  have h1 := (teethR_at tF).2.1
  have h2 := (teethR_at tR).2.1
  have h3 : F.length * R.length ≤ 3 * 12 := Nat.mul_le_mul (by omega) (by omega)
  rw [ordG_length]
  omega
/-- The chain for a train: its slack at the greatest gear. -/
theorem chain_law {F R : List Int} {rd st ch five : Int} (h : (ch, five) = chnR F R rd st) (h5 : five = 0) : ∃ al : List Int, (al, (0 : Int)) = slkR F R rd st ch ∧ (ordG F R, (0 : Int)) = goR F R rd ∧ (ordG F R).length ≤ 36 ∧ al.length = (ordG F R).length ∧ ∀ k, k < (ordG F R).length → ((ordG F R).getD k (0, 0)).1 = (F.length : Int) - 1 → ((ordG F R).getD k (0, 0)).2 = (R.length : Int) - 1 → 2000 ≤ al.getD k 0 := by
  unfold chnR at h
  split at h
  · rename_i hT
    split at h
    · rename_i hs
      split at h
      · injection h with e1 e2; omega
      · rename_i hx
        injection h with e1 e2
        obtain ⟨tF, tR, -, -⟩ := trainR_at hT
        have f1 := (teethR_at tF).1
        have r1 := (teethR_at tR).1
        have hb := lnkF_bd (needZ st (F.getD (F.length - 1) 0) (R.getD (R.length - 1) 0)) 81 40 (by omega)
        have hl := lnkF_law (needZ st (F.getD (F.length - 1) 0) (R.getD (R.length - 1) 0)) 81 40 (by omega) (by omega) (Or.inl rfl)
        unfold linksZ at hx e1
        generalize lnkF (needZ st (F.getD (F.length - 1) 0) (R.getD (R.length - 1) 0)) 81 40 = lz at *
        refine ⟨_, slk_ok hT hs (linksOk_yes (by omega) (by omega) (by omega)), go_ok hT, go_len hT, slkG_length _ _ _ _, fun k hk g1 g2 => ?_⟩
        rw [slkG_at hk]
        obtain ⟨x1, x2, -⟩ := (teethR_at tF).2.2 (F.length - 1) (by omega)
        obtain ⟨z1, z2, -⟩ := (teethR_at tR).2.2 (R.length - 1) (by omega)
        unfold slkV
        rw [g1, g2, show (F.length : Int) - 1 = ((F.length - 1 : Nat) : Int) by omega, show (R.length : Int) - 1 = ((R.length - 1 : Nat) : Int) by omega, tth_eq (by omega), tth_eq (by omega)]
        omega
    · injection h with e1 e2; omega
  · injection h with e1 e2; omega
theorem bestK_max (xs : List Int) : ∀ k, k ≤ xs.length → ∀ i, i < k → xs.getD i 0 ≤ xs.getD (bestK xs k) 0 := by
  intro k
  induction k with
  | zero => intro _ i hi; omega
  | succ k ih =>
    intro hk i hi
    unfold bestK
    rcases Nat.lt_or_ge i k with h | h
    · have h1 := ih (by omega) i h
      split
      · omega
      · exact h1
    · have he : i = k := by omega
      subst he
      split
      · exact Int.le_refl _
      · omega
/-- The slack of the last gear among the first k that is g, or -1. -/
def bstS (os : List Gear) (ss : List Int) (f r : Int) : Nat → Int
  | 0 => -1
  | k + 1 => if (os.getD k (0, 0)).1 = f ∧ (os.getD k (0, 0)).2 = r then ss.getD k 0 else bstS os ss f r k
theorem bstS_val {os : List Gear} {ss : List Int} {f r V : Int} {n : Nat} (h : ∀ j, j < n → (os.getD j (0, 0)).1 = f → (os.getD j (0, 0)).2 = r → ss.getD j 0 = V) : ∀ k, k ≤ n → (∃ j, j < k ∧ (os.getD j (0, 0)).1 = f ∧ (os.getD j (0, 0)).2 = r) → bstS os ss f r k = V := by
  intro k
  induction k with
  | zero => rintro _ ⟨j, hj, _⟩; omega
  | succ k ih =>
    rintro hk ⟨j, hj, j1, j2⟩
    unfold bstS
    split
    · rename_i hg
      exact h k (by omega) hg.1 hg.2
    · rename_i hg
      rcases Nat.lt_or_ge j k with h1 | h1
      · exact ih (by omega) ⟨j, h1, j1, j2⟩
      · have he : j = k := by omega
        subst he
        exact absurd ⟨j1, j2⟩ hg
/-- The loosest gear has the greatest slack. -/
theorem loose_law {F R : List Int} {rd stay links f r bad : Int} {ss : List Int} {one : Int} (hl : (f, r, bad) = looR F R rd stay links) (h : (ss, one) = slkR F R rd stay links) (hb : bad = 0) : one = 0 ∧ (ordG F R, (0 : Int)) = goR F R rd ∧ (ordG F R).length ≤ 36 ∧ (ordG F R).length = ss.length ∧ 0 ≤ bstS (ordG F R) ss f r ss.length ∧ ∀ k, k < ss.length → ss.getD k 0 ≤ bstS (ordG F R) ss f r ss.length := by
  unfold looR at hl
  split at hl
  · rename_i hT
    split at hl
    · rename_i hc
      split at hl
      · rename_i hn
        simp only [Prod.mk.injEq] at hl
        obtain ⟨e1, e2, -⟩ := hl
        unfold slkR at h
        rw [hT, hc] at h
        simp only [if_true] at h
        injection h with k1 k2
        obtain ⟨tF, tR, -, -⟩ := trainR_at hT
        have f1 := (teethR_at tF).1
        have r1 := (teethR_at tR).1
        have hp : 1 * 1 ≤ F.length * R.length := Nat.mul_le_mul f1 r1
        have hlen : (ordG F R).length = ss.length := by rw [k1, slkG_length]
        have hol := ordG_length F R
        rw [← k1] at hn e1 e2
        have hbl : bestK ss ss.length < ss.length := by
          obtain ⟨m, hm⟩ : ∃ m, ss.length = m + 1 := ⟨ss.length - 1, by omega⟩
          have := bestK_in ss m
          rw [hm]
          omega
        have hval : bstS (ordG F R) ss f r ss.length = ss.getD (bestK ss ss.length) 0 := by
          have hat : ∀ j, j < ss.length → ss.getD j 0 = slkV F R stay links ((ordG F R).getD j (0, 0)) := by
            intro j hj
            rw [k1]
            exact slkG_at (by omega)
          refine bstS_val (n := ss.length) (fun j hj j1 j2 => ?_) ss.length (Nat.le_refl _) ⟨_, hbl, e1.symm, e2.symm⟩
          rw [hat j hj, hat _ hbl]
          congr 1
          exact Prod.ext (by rw [j1, e1]) (by rw [j2, e2])
        refine ⟨k2, go_ok hT, go_len hT, hlen, ?_, fun k hk => ?_⟩
        · rw [hval]
          unfold nnL at hn
          rw [List.all_eq_true] at hn
          have := hn _ (List.getElem_mem hbl)
          rw [List.getD_eq_getElem?_getD, List.getElem?_eq_getElem hbl]
          simpa using this
        · rw [hval]
          exact bestK_max ss ss.length (Nat.le_refl _) k hk
      · simp only [Prod.mk.injEq] at hl; omega
    · simp only [Prod.mk.injEq] at hl; omega
  · simp only [Prod.mk.injEq] at hl; omega
end Go.Proofs.Ytfdnhamkkcmnfaa
