/- Plain law: usable gears are those that are not crossed, and no more are reached. -/
import Derived.Test.YtfdnhamkkcmnfaaGrdH
import Derived.Test.YtfdnhamkkcmnfaaRgP
set_option linter.unusedSimpArgs false
set_option linter.unusedVariables false
namespace Go.Proofs.Ytfdnhamkkcmnfaa
open Go.RowKit

theorem mem_srt {α : Type} {le : α → α → Bool} {z : α} (xs : List α) : z ∈ srt le xs ↔ z ∈ xs := by
  induction xs using snocRec with
  | nil => exact Iff.rfl
  | append_singleton l a ih =>
    rw [srt_snoc, mem_ins, ih, List.mem_append, List.mem_singleton]
    exact or_comm
theorem ordG_has {F R : List Int} {f r : Int} (h : gearR F R f r = true) : (f, r) ∈ ordG F R := by
  obtain ⟨h1, h2, h3, h4⟩ := gearR_bd h
  unfold ordG ordP
  rw [mem_srt, List.mem_append]
  left
  have e : gAll F.length R.length = gridG F.length R.length := rfl
  rw [e]
  exact gridG_mem.2 ⟨h1, h2, h3, h4⟩
theorem usG_in {F R : List Int} {limit f r : Int} (h : gearR F R f r = true) : (f, r) ∈ usG F R limit ↔ crossR F.length R.length limit f r = false := by
  unfold usG
  rw [List.mem_filter]
  constructor
  · rintro ⟨_, h2⟩
    simpa using h2
  · intro h2
    exact ⟨ordG_has h, by simp [h2]⟩
/-- A gear is in a list. -/
def hasG (gs : List Gear) (a b : Int) : Bool := gs.any fun g => decide (g.1 = a) && decide (g.2 = b)
theorem hasG_iff {gs : List Gear} {a b : Int} : hasG gs a b = true ↔ (a, b) ∈ gs := by
  unfold hasG
  rw [List.any_eq_true]
  constructor
  · rintro ⟨⟨x, y⟩, hx, h⟩
    simp only [Bool.and_eq_true, decide_eq_true_eq] at h
    rw [← h.1, ← h.2]
    exact hx
  · intro h
    exact ⟨_, h, by simp⟩
theorem usb_cross {F R : List Int} {rd limit f r : Int} {us : List Gear} {one five : Int} {cr : Bool} (hU : (us, one) = usR F R rd limit) (hC : (cr, five) = icR F R rd limit f r) (h5 : five = 0) : hasG us f r = !cr := by
  unfold icR at hC
  split at hC
  · rename_i hT
    split at hC
    · rename_i hg
      rw [Bool.and_eq_true] at hg
      injection hC with c1 c2
      unfold usR at hU
      rw [if_pos hT, if_pos hg.2] at hU
      injection hU with u1 u2
      rw [u1, c1]
      have h1 := hasG_iff (gs := usG F R limit) (a := f) (b := r)
      rw [usG_in hg.1] at h1
      cases h2 : crossR F.length R.length limit f r
      · exact h1.2 h2
      · cases h3 : hasG (usG F R limit) f r
        · rfl
        · rw [h1.1 h3] at h2; cases h2
    · injection hC with c1 c2; omega
  · injection hC with c1 c2; omega
theorem shfK_bd {gs : List Gear} (h : ∀ g ∈ gs, 0 ≤ g.1 ∧ g.1 ≤ 2) : ∀ k, k ≤ gs.length → shfK gs k ≤ 2 * (k : Int) := by
  intro k
  induction k with
  | zero => intro _; simp [shfK]
  | succ k ih =>
    intro hk
    have h1 := ih (by omega)
    have key : ∀ j, j < gs.length → 0 ≤ (gs.getD j (0, 0)).1 ∧ (gs.getD j (0, 0)).1 ≤ 2 := by
      intro j hj
      rw [List.getD_eq_getElem?_getD, List.getElem?_eq_getElem hj]
      exact h _ (List.getElem_mem hj)
    have h2 := key k (by omega)
    have h3 := key (k - 1) (by omega)
    unfold shfK
    split
    · omega
    · unfold absG
      split <;> omega
theorem usb_shift {F R : List Int} {rd limit : Int} {us : List Gear} {one s three : Int} (hU : (us, one) = usR F R rd limit) (hS : (s, three) = shfR F R rd limit) : three = one ∧ (one = 0 → s ≤ 2 * (us.length : Int)) := by
  unfold usR at hU
  unfold shfR at hS
  split at hU
  · rename_i hT
    rw [if_pos hT] at hS
    split at hU
    · rename_i hl
      rw [if_pos hl] at hS
      injection hU with u1 u2
      injection hS with s1 s2
      refine ⟨by omega, fun _ => ?_⟩
      rw [s1, u1]
      refine shfK_bd (fun g hg => ?_) _ (Nat.le_refl _)
      obtain ⟨j, hj⟩ := List.getElem?_of_mem hg
      obtain ⟨i, q, rfl, hi, -⟩ := usG_ok hj
      obtain ⟨tF, -⟩ := trainR_at hT
      have := (teethR_at tF).2.1
      simp only
      omega
    · rename_i hl
      rw [if_neg hl] at hS
      injection hU with u1 u2
      injection hS with s1 s2
      exact ⟨by omega, fun h => by omega⟩
  · rename_i hT
    rw [if_neg hT] at hS
    injection hU with u1 u2
    injection hS with s1 s2
    exact ⟨by omega, fun h => by omega⟩
theorem usb_reach {F R : List Int} {rd limit f r : Int} {us : List Gear} {one n bad : Int} (hU : (us, one) = usR F R rd limit) (hN : (n, bad) = rgR F R rd limit f r) (h : bad = 0) : 1 ≤ n ∧ n ≤ (us.length : Int) := by
  unfold rgR at hN
  split at hN
  · rename_i hc
    injection hN with n1 n2
    obtain ⟨hT, hg, hl, hx⟩ := codeS_ok hc
    unfold usR at hU
    rw [if_pos hT, if_pos hl] at hU
    injection hU with u1 u2
    obtain ⟨tF, tR, -⟩ := trainR_at hT
    have f3 := (teethR_at tF).2.1
    have r12 := (teethR_at tR).2.1
    have hok := okB_of hg hx
    have D := fnd_done hok (by omega) (by omega)
    have h1 := nodup_le _ (usG F R limit) D.nodupL (fun g hg => by
      rw [List.mem_map] at hg
      obtain ⟨x, hx, rfl⟩ := hg
      obtain ⟨j, hj⟩ := List.getElem?_of_mem hx
      have h2 := (D.path j x hj).good hok
      unfold okB okM at h2
      rw [Bool.and_eq_true] at h2
      exact (usG_in h2.1).2 (by simpa using h2.2))
    rw [List.length_map] at h1
    have h3 := D.first
    have h4 : 0 < (fndG F R limit (f, r)).length := by
      rcases Nat.eq_zero_or_pos (fndG F R limit (f, r)).length with h5 | h5
      · rw [List.getElem?_eq_none (by omega)] at h3; cases h3
      · exact h5
    rw [n1, u1]
    omega
  · rename_i hc
    injection hN with n1 n2
    omega
theorem usb_len {F R : List Int} {rd limit : Int} {us : List Gear} {one : Int} (hU : (us, one) = usR F R rd limit) : us.length ≤ 36 := by
  unfold usR at hU
  split at hU
  · rename_i hT
    split at hU
    · injection hU with u1 u2
      rw [u1]
      obtain ⟨tF, tR, -⟩ := trainR_at hT
      have := (teethR_at tF).2.1
      have := (teethR_at tR).2.1
      exact usG_len (by omega) (by omega)
    · injection hU with u1 u2; rw [u1]; simp
  · injection hU with u1 u2; rw [u1]; simp
end Go.Proofs.Ytfdnhamkkcmnfaa
