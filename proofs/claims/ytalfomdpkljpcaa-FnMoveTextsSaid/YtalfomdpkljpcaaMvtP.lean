/- Plain law: moves are recovered from their text, and texts from their moves. -/
import Derived.Test.YtalfomdpkljpcaaMovC
set_option linter.unusedSimpArgs false
set_option linter.unusedVariables false
namespace Go.Proofs.Ytalfomdpkljpcaa
open Go.RowKit

theorem movV_movB {x : Int} (h0 : 0 ≤ x) (h1 : x ≤ 3) : movV (movB x) = x := by
  obtain rfl | rfl | rfl | rfl : x = 0 ∨ x = 1 ∨ x = 2 ∨ x = 3 := by omega
  all_goals rfl
theorem movB_movV {b : UInt8} (h : movOk b = true) : movB (movV b) = b ∧ 0 ≤ movV b ∧ movV b ≤ 3 ∧ b ≠ 45 := by
  unfold movOk at h
  have h' : 0 ≤ movV b := by simpa using h
  rcases movV_cases b with ⟨rfl, e⟩ | ⟨rfl, e⟩ | ⟨rfl, e⟩ | ⟨rfl, e⟩ | ⟨_, _, _, _, e⟩
  · rw [e]; exact ⟨rfl, by omega, by omega, by decide⟩
  · rw [e]; exact ⟨rfl, by omega, by omega, by decide⟩
  · rw [e]; exact ⟨rfl, by omega, by omega, by decide⟩
  · rw [e]; exact ⟨rfl, by omega, by omega, by decide⟩
  · omega
theorem movB_ok {x : Int} (h0 : 0 ≤ x) (h1 : x ≤ 3) : movOk (movB x) = true ∧ movB x ≠ 45 := by
  obtain rfl | rfl | rfl | rfl : x = 0 ∨ x = 1 ∨ x = 2 ∨ x = 3 := by omega
  all_goals exact ⟨rfl, by decide⟩
theorem txt_data (l : List UInt8) : (txt l).data.toList = l := by simp [txt]
/-- A text that moves have gives the moves back. -/
theorem moves_back {xs : List Int} (h : (movesR xs).2 = 0) : rmR (movesR xs).1.data.toList = (xs, 0) := by
  unfold movesR at h ⊢
  split at h
  · rename_i ha
    rw [if_pos ha]
    split at h
    · rename_i hn
      rw [if_pos hn]
      by_cases he : xs = []
      · rw [if_pos he]; subst he; rfl
      · rw [if_neg he]
        simp only [txt_data]
        have hin : ∀ x ∈ xs, 0 ≤ x ∧ x ≤ 3 := by
          unfold allR at ha
          rw [List.all_eq_true] at ha
          exact fun x hx => inR_iff.1 (ha x hx)
        have hp : 1 ≤ xs.length := by
          rcases xs with _ | ⟨x, xs⟩
          · exact absurd rfl he
          · simp
        rw [rm_yes]
        · rw [List.map_map]
          have : xs.map (movV ∘ movB) = xs := by
            conv => rhs; rw [← List.map_id xs]
            exact List.map_congr_left (fun x hx => movV_movB (hin x hx).1 (hin x hx).2)
          rw [this]
        · intro e
          rcases xs with _ | ⟨x, xs⟩
          · exact he rfl
          · simp only [List.map_cons, List.cons.injEq] at e
            exact (movB_ok (hin x (by simp)).1 (hin x (by simp)).2).2 e.1
        · rw [List.all_eq_true]
          intro b hb
          rw [List.mem_map] at hb
          obtain ⟨x, hx, rfl⟩ := hb
          exact (movB_ok (hin x hx).1 (hin x hx).2).1
        · simp; omega
    · simp at h
  · simp at h
/-- Moves that a text has give the text back. -/
theorem text_back {l : List UInt8} (h : (rmR l).2 = 0) : movesR (rmR l).1 = (txt l, 0) := by
  unfold rmR at h ⊢
  split at h
  · rename_i hd
    rw [if_pos hd]; subst hd; rfl
  · rename_i hd
    rw [if_neg hd]
    split at h
    · rename_i ha
      rw [if_pos ha]
      split at h
      · rename_i hn
        rw [if_pos hn]
        rw [List.all_eq_true] at ha
        unfold movesR
        have h1 : allR (l.map movV) 0 3 = true := by
          unfold allR
          rw [List.all_eq_true]
          intro x hx
          rw [List.mem_map] at hx
          obtain ⟨b, hb, rfl⟩ := hx
          have := movB_movV (ha b hb)
          exact inR_iff.2 ⟨this.2.1, this.2.2.1⟩
        rw [if_pos h1, if_pos (by simp; omega), if_neg (by intro e; have := congrArg List.length e; simp at this; subst this; simp at hn)]
        rw [List.map_map]
        have : l.map (movB ∘ movV) = l := by
          conv => rhs; rw [← List.map_id l]
          exact List.map_congr_left (fun b hb => (movB_movV (ha b hb)).1)
        rw [this]
      · simp at h
    · simp at h

end Go.Proofs.Ytalfomdpkljpcaa
