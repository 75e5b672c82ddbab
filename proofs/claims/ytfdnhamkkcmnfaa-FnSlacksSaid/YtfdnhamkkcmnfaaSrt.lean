/- Plain law: lists put in order by insertion. -/
import Derived.Test.YtfdnhamkkcmnfaaNum
set_option linter.unusedSimpArgs false
set_option linter.unusedVariables false
namespace Go.Proofs.Ytfdnhamkkcmnfaa
open Go.RowKit

theorem snocRec {α : Type} {motive : List α → Prop} (l : List α) (nil : motive []) (append_singleton : ∀ (l : List α) (a : α), motive l → motive (l ++ [a])) : motive l := by
  have h : ∀ n (l : List α), l.length = n → motive l := by
    intro n
    induction n with
    | zero => intro l hl; rw [List.length_eq_zero_iff.1 hl]; exact nil
    | succ n ih =>
      intro l hl
      have hne : l ≠ [] := by intro h; subst h; simp at hl
      rw [← List.dropLast_concat_getLast hne]
      exact append_singleton _ _ (ih _ (by simp [hl]))
  exact h _ l rfl
section
variable {α : Type} (le : α → α → Bool)
/-- How many at the head are not greater than x. -/
def insAt : List α → α → Nat
  | [], _ => 0
  | y :: l, x => if le y x = true then insAt l x + 1 else 0
/-- x, put behind all at the head that are not greater. -/
def ins : List α → α → List α
  | [], x => [x]
  | y :: l, x => if le y x = true then y :: ins l x else x :: y :: l
/-- A list, put in order by insertion. -/
def srt (xs : List α) : List α := xs.foldl (ins le) []
theorem insAt_le (l : List α) (x : α) : insAt le l x ≤ l.length := by
  induction l with
  | nil => simp [insAt]
  | cons y l ih => unfold insAt; split <;> simp; omega
theorem ins_eq (l : List α) (x : α) : ins le l x = l.take (insAt le l x) ++ x :: l.drop (insAt le l x) := by
  induction l with
  | nil => simp [ins, insAt]
  | cons y l ih =>
    unfold ins insAt
    split
    · rw [ih]; simp
    · simp
theorem insAt_of {l : List α} {x : α} : ∀ {p : Nat}, p ≤ l.length → (∀ j y, j < p → l[j]? = some y → le y x = true) → (∀ y, l[p]? = some y → le y x = false) → insAt le l x = p := by
  induction l with
  | nil => intro p hp _ _; simp at hp; simp [insAt, hp]
  | cons y l ih =>
    intro p hp h1 h2
    cases p with
    | zero =>
      have := h2 y rfl
      unfold insAt
      rw [if_neg (by rw [this]; simp)]
    | succ p =>
      have := h1 0 y (by omega) rfl
      unfold insAt
      rw [if_pos this, ih (p := p) (by simp at hp; omega) (fun j z hj hz => h1 (j + 1) z (by omega) (by simpa using hz)) (fun z hz => h2 z (by simpa using hz))]
def Srtd (l : List α) : Prop := l.Pairwise (fun a b => le a b = true)
theorem mem_ins {l : List α} {x z : α} : z ∈ ins le l x ↔ z = x ∨ z ∈ l := by
  induction l with
  | nil => simp [ins]
  | cons y l ih =>
    unfold ins
    split
    · rw [List.mem_cons, ih, List.mem_cons]
      constructor
      · rintro (h | h | h)
        · exact Or.inr (Or.inl h)
        · exact Or.inl h
        · exact Or.inr (Or.inr h)
      · rintro (h | h | h)
        · exact Or.inr (Or.inl h)
        · exact Or.inl h
        · exact Or.inr (Or.inr h)
    · rw [List.mem_cons]
theorem ins_sorted (tr : ∀ a b c, le a b = true → le b c = true → le a c = true) (to : ∀ a b, le a b = false → le b a = true) {l : List α} {x : α} (h : Srtd le l) : Srtd le (ins le l x) := by
  unfold Srtd at h ⊢
  induction l with
  | nil => simp [ins]
  | cons y l ih =>
    rw [List.pairwise_cons] at h
    unfold ins
    split
    · rename_i hy
      rw [List.pairwise_cons]
      refine ⟨fun z hz => ?_, ih h.2⟩
      rcases (mem_ins le).1 hz with rfl | hz
      · exact hy
      · exact h.1 z hz
    · rename_i hy
      have hy' : le y x = false := by simpa using hy
      have hxy := to _ _ hy'
      rw [List.pairwise_cons]
      refine ⟨fun z hz => ?_, by rw [List.pairwise_cons]; exact h⟩
      rcases List.mem_cons.1 hz with rfl | hz
      · exact hxy
      · exact tr _ _ _ hxy (h.1 z hz)
theorem ins_length (l : List α) (x : α) : (ins le l x).length = l.length + 1 := by
  induction l with
  | nil => simp [ins]
  | cons y l ih => unfold ins; split <;> simp [ih]
theorem srt_snoc (xs : List α) (x : α) : srt le (xs ++ [x]) = ins le (srt le xs) x := by
  unfold srt; rw [List.foldl_append]; rfl
theorem srt_length (xs : List α) : (srt le xs).length = xs.length := by
  induction xs using snocRec with
  | nil => rfl
  | append_singleton xs x ih => rw [srt_snoc, ins_length, ih]; simp
theorem srt_sorted (tr : ∀ a b c, le a b = true → le b c = true → le a c = true) (to : ∀ a b, le a b = false → le b a = true) (xs : List α) : Srtd le (srt le xs) := by
  induction xs using snocRec with
  | nil => exact List.Pairwise.nil
  | append_singleton xs x ih => rw [srt_snoc]; exact ins_sorted le tr to ih
theorem srt_all {P : α → Prop} {xs : List α} (h : ∀ y ∈ xs, P y) : ∀ y ∈ srt le xs, P y := by
  induction xs using snocRec with
  | nil => intro y hy; simp [srt] at hy
  | append_singleton xs x ih =>
    intro y hy
    rw [srt_snoc] at hy
    rcases (mem_ins le).1 hy with rfl | hy
    · exact h _ (by simp)
    · exact ih (fun z hz => h z (by simp [hz])) y hy
/-- The place as it is found from behind, in a list that is in order. -/
theorem insAt_down (tr : ∀ a b c, le a b = true → le b c = true → le a c = true) {l : List α} {x : α} (hs : Srtd le l) {p : Nat} (hp : p ≤ l.length) (h1 : ∀ j y, p ≤ j → l[j]? = some y → le y x = false)
    (h2 : ∀ y, 0 < p → l[p - 1]? = some y → le y x = true) : insAt le l x = p := by
  refine insAt_of le hp (fun j y hj hy => ?_) (fun y hy => h1 p y (Nat.le_refl _) hy)
  have hp1 : p - 1 < l.length := by omega
  have hz := h2 (l[p - 1]) (by omega) (List.getElem?_eq_getElem hp1)
  by_cases he : j = p - 1
  · subst he
    rw [List.getElem?_eq_getElem hp1] at hy
    injection hy with hy
    rw [← hy]; exact hz
  · have hjl : j < l.length := by omega
    rw [List.getElem?_eq_getElem hjl] at hy
    injection hy with hy
    subst hy
    unfold Srtd at hs
    rw [List.pairwise_iff_getElem] at hs
    exact tr _ _ _ (hs j (p - 1) hjl hp1 (by omega)) hz
end
/-- By a key. -/
def leK {α : Type} (key : α → Int) (a b : α) : Bool := decide (key a ≤ key b)
theorem leK_tr {α : Type} (key : α → Int) : ∀ a b c, leK key a b = true → leK key b c = true → leK key a c = true := by
  intro a b c h1 h2; simp only [leK, decide_eq_true_eq] at *; omega
theorem leK_to {α : Type} (key : α → Int) : ∀ a b, leK key a b = false → leK key b a = true := by
  intro a b h; simp only [leK, decide_eq_true_eq, decide_eq_false_iff_not] at *; omega
def leI : Int → Int → Bool := leK (fun x => x)
theorem ins_map {α : Type} (key : α → Int) (l : List α) (x : α) : (ins (leK key) l x).map key = ins leI (l.map key) (key x) := by
  induction l with
  | nil => rfl
  | cons y l ih =>
    show (ins (leK key) (y :: l) x).map key = ins leI (key y :: l.map key) (key x)
    unfold ins
    have e : leI (key y) (key x) = leK key y x := rfl
    rw [e]
    split
    · rw [List.map_cons, ih]
    · rfl
theorem srt_map {α : Type} (key : α → Int) (xs : List α) : (srt (leK key) xs).map key = srt leI (xs.map key) := by
  induction xs using snocRec with
  | nil => rfl
  | append_singleton xs x ih => rw [srt_snoc, ins_map, ih, List.map_append, List.map_cons, List.map_nil, srt_snoc]

end Go.Proofs.Ytfdnhamkkcmnfaa
