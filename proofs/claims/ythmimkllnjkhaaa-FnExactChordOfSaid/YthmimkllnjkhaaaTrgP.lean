/- Plain law: the cosines by recurrence, roots, chords. -/
import Derived.Test.YthmimkllnjkhaaaNum
set_option linter.unusedSimpArgs false
set_option linter.unusedVariables false
namespace Go.Proofs.Ythmimkllnjkhaaa
open Go.RowKit

def nea (a : Int) : Int := (2 * a + 1000000000) / 2000000000
/-- The cosines of k and of k + 1 steps. -/
def cosP : Nat → Int × Int
  | 0 => (1000000000, 999961923)
  | k + 1 => ((cosP k).2, nea (1999923846 * (cosP k).2) - (cosP k).1)
theorem cosP_all : ((List.range 182).all fun k => decide (-1000000001 ≤ (cosP k).1) && decide ((cosP k).1 ≤ 1000000001)) = true := by decide +kernel
theorem cosP_bd {k : Nat} (h : k ≤ 180) : -1000000001 ≤ (cosP k).1 ∧ (cosP k).1 ≤ 1000000001 ∧ -1000000001 ≤ (cosP k).2 ∧ (cosP k).2 ≤ 1000000001 := by
  have h0 := cosP_all
  rw [List.all_eq_true] at h0
  have h1 := h0 k (List.mem_range.2 (by omega))
  have h2 := h0 (k + 1) (List.mem_range.2 (by omega))
  simp only [Bool.and_eq_true, decide_eq_true_eq] at h1 h2
  have e : (cosP (k + 1)).1 = (cosP k).2 := rfl
  rw [e] at h2
  exact ⟨h1.1, h1.2, h2.1, h2.2⟩
def cosC (k : Nat) : Int := if k = 180 then 0 else (cosP k).1
theorem cosC_bd {k : Nat} (h : k ≤ 180) : -1000000001 ≤ cosC k ∧ cosC k ≤ 1000000001 := by
  unfold cosC
  split
  · omega
  · exact ⟨(cosP_bd h).1, (cosP_bd h).2.1⟩
def cosR (r : Nat) : Int := if r ≤ 180 then cosC r else - cosC (360 - r)
theorem cosR_bd {r : Nat} (h : r ≤ 360) : -1000000001 ≤ cosR r ∧ cosR r ≤ 1000000001 := by
  unfold cosR
  split
  · exact cosC_bd (by omega)
  · have := cosC_bd (k := 360 - r) (by omega); omega
theorem nea_bd {a : Int} {b : Int} (hb : 0 ≤ b) (h1 : -(1000000000 * b) ≤ a) (h2 : a ≤ 1000000000 * b) : - b ≤ nea a ∧ nea a ≤ b + 1 := by
  unfold nea; omega
def tabL (k : Nat) : List Int := (List.range k).map fun i => (cosP i).1
theorem tabL_succ (k : Nat) : tabL (k + 1) = tabL k ++ [(cosP k).1] := by unfold tabL; rw [List.range_succ, List.map_append]; rfl
theorem tabL_length (k : Nat) : (tabL k).length = k := by simp [tabL]
theorem tabL_at {k i : Nat} (h : i < k) : (tabL k).getD i 0 = (cosP i).1 := by simp [tabL, h]
theorem tab_at {r : Nat} (h : r ≤ 180) : (tabL 180 ++ [0]).getD r 0 = cosC r := by
  unfold cosC
  by_cases he : r = 180
  · subst he
    rw [if_pos rfl, List.getD_eq_getElem?_getD, List.getElem?_append_right (by rw [tabL_length]; omega), tabL_length]
    rfl
  · rw [if_neg he, List.getD_eq_getElem?_getD, List.getElem?_append_left (by rw [tabL_length]; omega), ← List.getD_eq_getElem?_getD, tabL_at (by omega)]
/-- The square of the distance of two points of a circle. -/
def sqB (d : Int) (s : Nat) : Int := d * d + d * d - nea (2 * d * d * cosR s)
theorem sq_bd {d : Int} (h0 : 0 ≤ d) (h : d ≤ 2000) : 0 ≤ d * d ∧ d * d ≤ 4000000 :=
  ⟨Int.mul_nonneg h0 h0, Int.le_trans (Int.mul_le_mul h h h0 (by omega)) (by omega)⟩
theorem prod_bd {p c : Int} (p0 : 0 ≤ p) (p1 : p ≤ 8000000) (c0 : -1000000001 ≤ c) (c1 : c ≤ 1000000001) : -8000000008000000 ≤ p * c ∧ p * c ≤ 8000000008000000 := by
  have h1 : p * c ≤ p * 1000000001 := Int.mul_le_mul_of_nonneg_left c1 p0
  have h2 : p * (-1000000001) ≤ p * c := Int.mul_le_mul_of_nonneg_left c0 p0
  omega
theorem sqB_bd {d : Int} (h0 : 0 ≤ d) (h : d ≤ 2000) {s : Nat} (hs : s ≤ 360) : -8000009 ≤ sqB d s ∧ sqB d s ≤ 16000009 := by
  have hc := cosR_bd hs
  have hd := sq_bd h0 h
  have e : 2 * d * d = 2 * (d * d) := Int.mul_assoc _ _ _
  have hp := prod_bd (p := 2 * d * d) (by omega) (by omega) hc.1 hc.2
  have hn := nea_bd (a := 2 * d * d * cosR s) (b := 8000008) (by omega) (by omega) (by omega)
  unfold sqB
  omega
def isRt (n r : Int) : Prop := 0 ≤ r ∧ r * r ≤ n ∧ n < (r + 1) * (r + 1)
theorem sq_mono {a b : Int} (h0 : 0 ≤ a) (h : a ≤ b) : a * a ≤ b * b := Int.mul_le_mul h h h0 (by omega)
theorem isRt_uniq {n r s : Int} (h : isRt n r) (k : isRt n s) : r = s := by
  obtain ⟨a, b, c⟩ := h
  obtain ⟨a', b', c'⟩ := k
  rcases Int.lt_trichotomy r s with hl | hl | hl
  · have := sq_mono (a := r + 1) (b := s) (by omega) (by omega); omega
  · exact hl
  · have := sq_mono (a := s + 1) (b := r) (by omega) (by omega); omega
def rtF (n : Int) : Nat → Int → Int
  | 0, r => r
  | f + 1, r => if (r + 1) * (r + 1) ≤ n then rtF n f (r + 1) else r
def rtZ (n : Int) : Int := rtF n 5000 0
theorem rtF_ok {n : Int} : ∀ (f : Nat) (r : Int), 0 ≤ r → r * r ≤ n → n < (r + f + 1) * (r + f + 1) → isRt n (rtF n f r) := by
  intro f
  induction f with
  | zero =>
    intro r h0 h1 h2
    have e : r + ((0 : Nat) : Int) + 1 = r + 1 := by omega
    rw [e] at h2
    exact ⟨h0, h1, h2⟩
  | succ f ih =>
    intro r h0 h1 h2
    unfold rtF
    by_cases hc : (r + 1) * (r + 1) ≤ n
    · rw [if_pos hc]
      refine ih (r + 1) (by omega) hc ?_
      have e : r + 1 + (f : Int) + 1 = r + ((f + 1 : Nat) : Int) + 1 := by omega
      rw [e]; exact h2
    · rw [if_neg hc]
      exact ⟨h0, h1, by omega⟩
theorem rtZ_ok {n : Int} (h0 : 0 ≤ n) (h : n ≤ 25000000) : isRt n (rtZ n) := rtF_ok 5000 0 (by omega) (by omega) (by omega)
theorem rtZ_eq {n r : Int} (h : n ≤ 25000000) (hr : isRt n r) : rtZ n = r := by
  have h0 : 0 ≤ n := by
    obtain ⟨a, b, c⟩ := hr
    have := Int.mul_nonneg a a
    omega
  exact isRt_uniq (rtZ_ok h0 h) hr
theorem rtZ_bd {n : Int} (h0 : 0 ≤ n) (h : n ≤ 25000000) : 0 ≤ rtZ n ∧ rtZ n ≤ 5000 ∧ rtZ n * rtZ n ≤ n := by
  obtain ⟨a, b, c⟩ := rtZ_ok h0 h
  refine ⟨a, ?_, b⟩
  by_cases hc : rtZ n ≤ 5000
  · exact hc
  · have := sq_mono (a := 5001) (b := rtZ n) (by omega) (by omega); omega
def nrt (n : Int) : Int := if n < 0 then 0 else if rtZ n < n - rtZ n * rtZ n then rtZ n + 1 else rtZ n
def chordZ (d n : Int) : Int := nrt (sqB d (720 / n).toNat) / 2
theorem big_sq {m : Int} (h0 : 0 ≤ m) (h : m ≤ 3037000499) : 0 ≤ m * m ∧ m * m ≤ 9223372030926249001 :=
  ⟨Int.mul_nonneg h0 h0, Int.le_trans (sq_mono h0 h) (by omega)⟩
theorem steps_bd {n : Int} (h1 : 3 ≤ n) (h2 : n ≤ 40) : 18 ≤ 720 / n ∧ 720 / n ≤ 240 := by
  have a := Int.ediv_mul_le 720 (Int.ne_of_gt (show 0 < n by omega))
  have b := Int.lt_ediv_add_one_mul_self 720 (show 0 < n by omega)
  constructor
  · by_cases h : 18 ≤ 720 / n
    · exact h
    · have : (720 / n + 1) * n ≤ 18 * 40 := Int.mul_le_mul (by omega) h2 (by omega) (by omega)
      omega
  · by_cases h : 720 / n ≤ 240
    · exact h
    · have : 241 * 3 ≤ 720 / n * n := Int.mul_le_mul (by omega) h1 (by omega) (by omega)
      omega
theorem nrt_bd {n : Int} (h : n ≤ 25000000) : 0 ≤ nrt n ∧ nrt n ≤ 5001 := by
  unfold nrt
  split
  · omega
  · have := rtZ_bd (n := n) (by omega) h
    split <;> omega

end Go.Proofs.Ythmimkllnjkhaaa
