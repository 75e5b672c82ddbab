/- Plain law: a search of a graph of moves in breadth finds the least way to each place; a walk that descends the distances is the same way. -/
import Derived.Test.YtfdnhamkkcmnfaaNum
set_option linter.unusedSimpArgs false
set_option linter.unusedVariables false
namespace Go.Proofs.Ytfdnhamkkcmnfaa
open Go.RowKit

section Bfs
/-- The number of a way: 1, and its moves as digits to the base 4. -/
def numA : Int → List Int → Int
  | a, [] => a
  | a, m :: w => numA (4 * a + m) w
def wayOk (w : List Int) : Prop := ∀ m ∈ w, 0 ≤ m ∧ m ≤ 3
theorem numA_snoc : ∀ (w : List Int) (a m : Int), numA a (w ++ [m]) = 4 * numA a w + m := by
  intro w
  induction w with
  | nil => intro a m; rfl
  | cons x w ih => intro a m; exact ih (4 * a + x) m
theorem numA_lt : ∀ (u v : List Int) (b c : Int), u.length = v.length → wayOk u → wayOk v → b < c → numA b u < numA c v := by
  intro u
  induction u with
  | nil =>
    intro v b c hl _ _ h
    have : v = [] := List.length_eq_zero_iff.1 (by simpa using hl.symm)
    subst this
    exact h
  | cons x u ih =>
    intro v b c hl hu hv h
    rcases v with _ | ⟨y, v⟩
    · simp at hl
    · have hx := hu x (by simp)
      have hy := hv y (by simp)
      exact ih v _ _ (by simpa using hl) (fun m hm => hu m (by simp [hm])) (fun m hm => hv m (by simp [hm])) (by omega)
theorem numA_le_lt (u v : List Int) (b c : Int) (hl : u.length = v.length) (hu : wayOk u) (hv : wayOk v) (h : numA b u < numA c v) : b ≤ c := by
  rcases Int.lt_or_le c b with h1 | h1
  · have := numA_lt v u c b hl.symm hv hu h1
    omega
  · exact h1
theorem numA_pos : ∀ (u : List Int) (a : Int), wayOk u → 1 ≤ a → 1 ≤ numA a u := by
  intro u
  induction u with
  | nil => intro a _ h; exact h
  | cons x u ih =>
    intro a hu h
    have hx := hu x (by simp)
    exact ih _ (fun m hm => hu m (by simp [hm])) (by omega)
theorem way_snoc_ok {w : List Int} {m : Int} (h : wayOk (w ++ [m])) : wayOk w ∧ 0 ≤ m ∧ m ≤ 3 := ⟨fun x hx => h x (by simp [hx]), h m (by simp)⟩
theorem snoc_cases (w : List Int) : w = [] ∨ ∃ u m, w = u ++ [m] := by
  rcases List.eq_nil_or_concat w with h | ⟨u, m, h⟩
  · exact Or.inl h
  · exact Or.inr ⟨u, m, by simpa using h⟩
/-- A longer way has the greater number. -/
theorem num_len : ∀ (n : Nat) (a b : List Int), b.length = n → wayOk a → wayOk b → b.length < a.length → numA 1 b < numA 1 a := by
  intro n
  induction n with
  | zero =>
    intro a b hn ha hb hl
    have : b = [] := List.length_eq_zero_iff.1 hn
    subst this
    rcases snoc_cases a with rfl | ⟨u, m, rfl⟩
    · simp at hl
    · obtain ⟨h1, h2, h3⟩ := way_snoc_ok ha
      have := numA_pos u 1 h1 (by omega)
      rw [numA_snoc]
      show (1 : Int) < _
      omega
  | succ n ih =>
    intro a b hn ha hb hl
    rcases snoc_cases a with rfl | ⟨u, m, rfl⟩
    · simp at hl
    · rcases snoc_cases b with rfl | ⟨v, k, rfl⟩
      · simp at hn
      · obtain ⟨h1, h2, h3⟩ := way_snoc_ok ha
        obtain ⟨k1, k2, k3⟩ := way_snoc_ok hb
        have := ih u v (by simpa using hn) h1 k1 (by simpa using hl)
        rw [numA_snoc, numA_snoc]
        omega
theorem num_inj : ∀ (n : Nat) (a b : List Int), b.length = n → wayOk a → wayOk b → a.length = b.length → numA 1 a = numA 1 b → a = b := by
  intro n
  induction n with
  | zero =>
    intro a b hn ha hb hl _
    rw [List.length_eq_zero_iff.1 hn, List.length_eq_zero_iff.1 (by omega : a.length = 0)]
  | succ n ih =>
    intro a b hn ha hb hl h
    rcases snoc_cases a with rfl | ⟨u, m, rfl⟩
    · simp at hl; omega
    · rcases snoc_cases b with rfl | ⟨v, k, rfl⟩
      · simp at hn
      · obtain ⟨h1, h2, h3⟩ := way_snoc_ok ha
        obtain ⟨k1, k2, k3⟩ := way_snoc_ok hb
        rw [numA_snoc, numA_snoc] at h
        have e1 : m = k := by omega
        have e2 : numA 1 u = numA 1 v := by omega
        rw [ih u v (by simpa using hn) h1 k1 (by simpa using hl) e2, e1]

abbrev Gr := Int × Int
variable (nx : Int → Gr → Gr) (ok : Gr → Bool)
/-- A way leads from one place to another, over good places alone. -/
inductive Path : Gr → List Int → Gr → Prop
  | nil (g : Gr) : Path g [] g
  | cons {g t : Gr} {m : Int} {w : List Int} (h0 : 0 ≤ m) (h3 : m ≤ 3) (hk : ok (nx m g) = true) (h : Path (nx m g) w t) : Path g (m :: w) t
variable {nx : Int → Gr → Gr} {ok : Gr → Bool}
theorem Path.way {s t : Gr} {w : List Int} (h : Path nx ok s w t) : wayOk w := by
  induction h with
  | nil g => intro m hm; cases hm
  | cons h0 h3 _ _ ih =>
    intro m hm
    rcases List.mem_cons.1 hm with rfl | hm
    · exact ⟨h0, h3⟩
    · exact ih m hm
theorem Path.snoc {s u : Gr} {w : List Int} (h : Path nx ok s w u) {m : Int} (h0 : 0 ≤ m) (h3 : m ≤ 3) (hk : ok (nx m u) = true) : Path nx ok s (w ++ [m]) (nx m u) := by
  induction h with
  | nil g => exact .cons h0 h3 hk (.nil _)
  | cons a b c _ ih => exact .cons a b c (ih hk)
theorem Path.unsnoc {s t : Gr} {m : Int} : ∀ {w : List Int}, Path nx ok s (w ++ [m]) t → ∃ u, Path nx ok s w u ∧ t = nx m u ∧ ok t = true ∧ 0 ≤ m ∧ m ≤ 3 := by
  intro w
  induction w generalizing s with
  | nil =>
    intro h
    cases h with
    | cons h0 h3 hk h =>
      cases h
      exact ⟨s, .nil _, rfl, hk, h0, h3⟩
  | cons x w ih =>
    intro h
    cases h with
    | cons h0 h3 hk h =>
      obtain ⟨u, h1, h2⟩ := ih h
      exact ⟨u, .cons h0 h3 hk h1, h2⟩
theorem Path.good {s t : Gr} {w : List Int} (h : Path nx ok s w t) (hs : ok s = true) : ok t = true := by
  induction h with
  | nil g => exact hs
  | cons _ _ hk _ ih => exact ih hk
theorem Path.det {s t u : Gr} {w : List Int} (h : Path nx ok s w t) (k : Path nx ok s w u) : t = u := by
  induction h with
  | nil g => cases k; rfl
  | cons _ _ _ _ ih =>
    cases k with
    | cons _ _ _ k => exact ih k
def revM (m : Int) : Int := if m = 0 then 1 else if m = 1 then 0 else if m = 2 then 3 else 2
theorem revM_in {m : Int} (h0 : 0 ≤ m) (h3 : m ≤ 3) : 0 ≤ revM m ∧ revM m ≤ 3 := by
  unfold revM
  repeat' split
  all_goals omega
/-- The way back. -/
theorem Path.back (hr : ∀ m g, 0 ≤ m → m ≤ 3 → nx (revM m) (nx m g) = g) {s t : Gr} {w : List Int} (h : Path nx ok s w t) (hs : ok s = true) : ∃ w', Path nx ok t w' s ∧ w'.length = w.length := by
  induction h with
  | nil g => exact ⟨[], .nil _, rfl⟩
  | @cons g t m w h0 h3 hk h ih =>
    obtain ⟨w', h1, h2⟩ := ih hk
    have := h1.snoc (revM_in h0 h3).1 (revM_in h0 h3).2 (m := revM m) (by rw [hr m g h0 h3]; exact hs)
    rw [hr m g h0 h3] at this
    exact ⟨_, this, by simp [h2]⟩

abbrev En := Gr × List Int
abbrev Fnd := List En
def hasP (V : Fnd) (g : Gr) : Bool := V.any fun y => decide (y.1 = g)
theorem hasP_iff {V : Fnd} {g : Gr} : hasP V g = true ↔ ∃ (j : Nat) (x : En), V[j]? = some x ∧ x.1 = g := by
  unfold hasP
  rw [List.any_eq_true]
  constructor
  · rintro ⟨x, hx, h⟩
    obtain ⟨j, hj⟩ := List.getElem?_of_mem hx
    exact ⟨j, x, hj, by simpa using h⟩
  · rintro ⟨j, x, hj, h⟩
    exact ⟨x, List.mem_of_getElem? hj, by simpa using h⟩
variable (nx) (ok)
/-- One move from the place x is looked at. -/
def stepV (x : En) (V : Fnd) (m : Int) : Fnd := if (ok (nx m x.1) && !hasP V (nx m x.1)) = true then V ++ [(nx m x.1, x.2 ++ [m])] else V
/-- The moves from m on, k of them. -/
def stepsV (x : En) : Nat → Int → Fnd → Fnd
  | 0, _, V => V
  | k + 1, m, V => stepsV x k (m + 1) (stepV nx ok x V m)
def bfs : Nat → Nat → Fnd → Fnd
  | 0, _, V => V
  | k + 1, i, V => match V[i]? with
    | none => V
    | some x => bfs k (i + 1) (stepsV nx ok x 4 0 V)
/-- What is known when the places before i are done, and the moves before m of place i. -/
structure Bi (s : Gr) (V : Fnd) (i : Nat) (m : Int) : Prop where
  first : V[0]? = some (s, [])
  path : ∀ (j : Nat) (x : En), V[j]? = some x → Path nx ok s x.2 x.1
  parent : ∀ (j : Nat) (x : En), V[j]? = some x → 0 < j → ∃ (p : Nat) (q : Int) (y : En), V[p]? = some y ∧ x.2 = y.2 ++ [q] ∧ q ≤ 3 ∧ (p < i ∨ (p = i ∧ q < m))
  sorted : ∀ (j k : Nat) (x y : En), j < k → V[j]? = some x → V[k]? = some y → numA 1 x.2 < numA 1 y.2
  nodup : ∀ (j k : Nat) (x y : En), j < k → V[j]? = some x → V[k]? = some y → x.1 ≠ y.1
  closed : ∀ (j : Nat) (x : En) (q : Int), V[j]? = some x → (j < i ∨ (j = i ∧ q < m)) → 0 ≤ q → q ≤ 3 → ok (nx q x.1) = true → ∃ (k : Nat) (y : En), V[k]? = some y ∧ y.1 = nx q x.1 ∧ numA 1 y.2 ≤ 4 * numA 1 x.2 + q
variable {nx} {ok}
theorem getq_snoc {α : Type} {V : List α} {a : α} {j : Nat} {x : α} (h : (V ++ [a])[j]? = some x) : (V[j]? = some x ∧ j < V.length) ∨ (j = V.length ∧ x = a) := by
  rcases Nat.lt_trichotomy j V.length with hj | hj | hj
  · rw [List.getElem?_append_left hj] at h; exact Or.inl ⟨h, hj⟩
  · subst hj; simp at h; exact Or.inr ⟨rfl, h.symm⟩
  · rw [List.getElem?_eq_none (by simp; omega)] at h; cases h
theorem getq_lt {α : Type} {V : List α} {j : Nat} {x : α} (h : V[j]? = some x) : j < V.length := by
  rcases Nat.lt_or_ge j V.length with h1 | h1
  · exact h1
  · rw [List.getElem?_eq_none h1] at h; cases h
theorem getq_old {α : Type} {V : List α} {a : α} {j : Nat} {x : α} (h : V[j]? = some x) : (V ++ [a])[j]? = some x := by
  rw [List.getElem?_append_left (getq_lt h)]; exact h
theorem Bi.start (s : Gr) : Bi nx ok s [(s, [])] 0 0 where
  first := rfl
  path := by
    intro j x h
    have := getq_lt h
    obtain rfl : j = 0 := by simp at this; omega
    simp at h; subst h; exact .nil _
  parent := by
    intro j x h h0
    have := getq_lt h
    simp at this; omega
  sorted := by
    intro j k x y hjk _ h
    have := getq_lt h
    simp at this; omega
  nodup := by
    intro j k x y hjk _ h
    have := getq_lt h
    simp at this; omega
  closed := by intro j x q h hj h0 h3; omega
theorem Bi.step {s : Gr} {V : Fnd} {i : Nat} {m : Int} (h : Bi nx ok s V i m) {x : En} (hx : V[i]? = some x) (h0 : 0 ≤ m) (h3 : m ≤ 3) : Bi nx ok s (stepV nx ok x V m) i (m + 1) ∧ (stepV nx ok x V m)[i]? = some x := by
  have hxp := h.path i x hx
  unfold stepV
  by_cases hk : ok (nx m x.1) = true
  · by_cases hh : hasP V (nx m x.1) = true
    · rw [if_neg (by simp [hh])]
      refine ⟨⟨h.first, h.path, fun j y hy hp => ?_, h.sorted, h.nodup, fun j y q hy hj q0 q3 hq => ?_⟩, hx⟩
      · obtain ⟨p, q, z, e1, e2, e3, e4⟩ := h.parent j y hy hp
        exact ⟨p, q, z, e1, e2, e3, by omega⟩
      · by_cases hq2 : j = i ∧ q = m
        · obtain ⟨rfl, rfl⟩ := hq2
          rw [hx] at hy
          injection hy with hy
          subst hy
          obtain ⟨k, z, hz, e⟩ := hasP_iff.1 hh
          refine ⟨k, z, hz, e, ?_⟩
          -- z was found before: its parent is no later
          have hpos : 1 ≤ numA 1 x.2 := numA_pos _ 1 hxp.way (by omega)
          rcases Nat.eq_zero_or_pos k with rfl | hk0
          · rw [h.first] at hz
            injection hz with hz
            subst hz
            show (1 : Int) ≤ _
            omega
          · obtain ⟨p, r, y, e1, e2, e3, e4⟩ := h.parent k z hz hk0
            rw [e2, numA_snoc]
            have hyp := (h.path p y e1)
            rcases e4 with e4 | ⟨e4, e5⟩
            · have := h.sorted p j y x e4 e1 hx
              omega
            · subst e4
              rw [hx] at e1
              injection e1 with e1
              subst e1
              omega
        · exact h.closed j y q hy (by omega) q0 q3 hq
    · have hh' : hasP V (nx m x.1) = false := by simpa using hh
      rw [if_pos (by simp [hh', hk])]
      have hnew : ∀ (j : Nat) (y : En), V[j]? = some y → y.1 ≠ nx m x.1 := fun j y hy e => hh (hasP_iff.2 ⟨j, y, hy, e⟩)
      have hlt : ∀ (j : Nat) (y : En), V[j]? = some y → numA 1 y.2 < numA 1 (x.2 ++ [m]) := by
        intro j y hy
        rw [numA_snoc]
        have hpos : 1 ≤ numA 1 x.2 := numA_pos _ 1 hxp.way (by omega)
        rcases Nat.eq_zero_or_pos j with rfl | hj0
        · rw [h.first] at hy
          injection hy with hy
          subst hy
          show (1 : Int) < _
          omega
        · obtain ⟨p, r, z, e1, e2, e3, e4⟩ := h.parent j y hy hj0
          rw [e2, numA_snoc]
          rcases e4 with e4 | ⟨e4, e5⟩
          · have := h.sorted p i z x e4 e1 hx
            omega
          · subst e4
            rw [hx] at e1
            injection e1 with e1
            subst e1
            omega
      refine ⟨⟨getq_old h.first, fun j y hy => ?_, fun j y hy hp => ?_, fun j k y z hjk hy hz => ?_, fun j k y z hjk hy hz => ?_, fun j y q hy hj q0 q3 hq => ?_⟩, getq_old hx⟩
      · rcases getq_snoc hy with ⟨hy, _⟩ | ⟨_, rfl⟩
        · exact h.path j y hy
        · exact hxp.snoc h0 h3 hk
      · rcases getq_snoc hy with ⟨hy, _⟩ | ⟨_, rfl⟩
        · obtain ⟨p, q, z, e1, e2, e3, e4⟩ := h.parent j y hy hp
          exact ⟨p, q, z, getq_old e1, e2, e3, by omega⟩
        · exact ⟨i, m, x, getq_old hx, rfl, h3, by omega⟩
      · rcases getq_snoc hy with ⟨hy, hjl⟩ | ⟨rfl, rfl⟩
        · rcases getq_snoc hz with ⟨hz, _⟩ | ⟨_, rfl⟩
          · exact h.sorted j k y z hjk hy hz
          · exact hlt j y hy
        · rcases getq_snoc hz with ⟨hz, hl⟩ | ⟨hl, _⟩
          · omega
          · omega
      · rcases getq_snoc hy with ⟨hy, hjl⟩ | ⟨rfl, rfl⟩
        · rcases getq_snoc hz with ⟨hz, _⟩ | ⟨_, rfl⟩
          · exact h.nodup j k y z hjk hy hz
          · exact hnew j y hy
        · rcases getq_snoc hz with ⟨hz, hl⟩ | ⟨hl, _⟩
          · omega
          · omega
      · rcases getq_snoc hy with ⟨hy2, hjl⟩ | ⟨hl, rfl⟩
        · clear hy
          by_cases hq2 : j = i ∧ q = m
          · obtain ⟨rfl, rfl⟩ := hq2
            rw [hx] at hy2
            injection hy2 with hy2
            subst hy2
            exact ⟨V.length, (nx q x.1, x.2 ++ [q]), by simp, rfl, by show numA 1 (x.2 ++ [q]) ≤ _; rw [numA_snoc]; omega⟩
          · obtain ⟨k, z, hz, e⟩ := h.closed j y q hy2 (by omega) q0 q3 hq
            exact ⟨k, z, getq_old hz, e⟩
        · have := getq_lt hx
          omega
  · rw [if_neg (by simp [hk])]
    refine ⟨⟨h.first, h.path, fun j y hy hp => ?_, h.sorted, h.nodup, fun j y q hy hj q0 q3 hq => ?_⟩, hx⟩
    · obtain ⟨p, q, z, e1, e2, e3, e4⟩ := h.parent j y hy hp
      exact ⟨p, q, z, e1, e2, e3, by omega⟩
    · by_cases hq2 : j = i ∧ q = m
      · obtain ⟨rfl, rfl⟩ := hq2
        rw [hx] at hy
        injection hy with hy
        subst hy
        exact absurd hq hk
      · exact h.closed j y q hy (by omega) q0 q3 hq
theorem Bi.steps {s : Gr} {i : Nat} {x : En} : ∀ (k : Nat) (m : Int) (V : Fnd), Bi nx ok s V i m → V[i]? = some x → 0 ≤ m → m + k = 4 → Bi nx ok s (stepsV nx ok x k m V) i 4 ∧ (stepsV nx ok x k m V)[i]? = some x := by
  intro k
  induction k with
  | zero => intro m V h hx h0 h4; obtain rfl : m = 4 := by omega
            exact ⟨h, hx⟩
  | succ k ih =>
    intro m V h hx h0 h4
    obtain ⟨h1, h2⟩ := h.step hx h0 (by omega)
    exact ih (m + 1) _ h1 h2 (by omega) (by omega)
theorem Bi.next {s : Gr} {V : Fnd} {i : Nat} (h : Bi nx ok s V i 4) : Bi nx ok s V (i + 1) 0 where
  first := h.first
  path := h.path
  parent := fun j x hx hp => by
    obtain ⟨p, q, z, e1, e2, e3, e4⟩ := h.parent j x hx hp
    exact ⟨p, q, z, e1, e2, e3, by omega⟩
  sorted := h.sorted
  nodup := h.nodup
  closed := fun j x q hx hj q0 q3 hq => h.closed j x q hx (by omega) q0 q3 hq
/-- All that can be found has been found. -/
structure Done (nx : Int → Gr → Gr) (ok : Gr → Bool) (s : Gr) (V : Fnd) : Prop where
  first : V[0]? = some (s, [])
  path : ∀ (j : Nat) (x : En), V[j]? = some x → Path nx ok s x.2 x.1
  nodup : ∀ (j k : Nat) (x y : En), j < k → V[j]? = some x → V[k]? = some y → x.1 ≠ y.1
  closed : ∀ (j : Nat) (x : En) (q : Int), V[j]? = some x → 0 ≤ q → q ≤ 3 → ok (nx q x.1) = true → ∃ (k : Nat) (y : En), V[k]? = some y ∧ y.1 = nx q x.1 ∧ numA 1 y.2 ≤ 4 * numA 1 x.2 + q
theorem Bi.done {s : Gr} {V : Fnd} {i : Nat} (h : Bi nx ok s V i 0) (hi : V.length ≤ i) : Done nx ok s V :=
  ⟨h.first, h.path, h.nodup, fun j x q hx q0 q3 hq => h.closed j x q hx (Or.inl (by have := getq_lt hx; omega)) q0 q3 hq⟩
/-- The way that was found is the least of all. -/
theorem Done.least {s : Gr} {V : Fnd} (h : Done nx ok s V) : ∀ (n : Nat) (w : List Int) (t : Gr), w.length = n → Path nx ok s w t → ∃ (k : Nat) (y : En), V[k]? = some y ∧ y.1 = t ∧ numA 1 y.2 ≤ numA 1 w := by
  intro n
  induction n with
  | zero =>
    intro w t hn hp
    have : w = [] := List.length_eq_zero_iff.1 hn
    subst this
    cases hp
    exact ⟨0, _, h.first, rfl, Int.le_refl _⟩
  | succ n ih =>
    intro w t hn hp
    rcases snoc_cases w with rfl | ⟨u, m, rfl⟩
    · simp at hn
    · obtain ⟨v, h1, rfl, h2, m0, m3⟩ := hp.unsnoc
      obtain ⟨k, y, hy, rfl, hle⟩ := ih u v (by simpa using hn) h1
      obtain ⟨k2, z, hz, e, hle2⟩ := h.closed k y m hy m0 m3 h2
      exact ⟨k2, z, hz, e, by rw [numA_snoc]; omega⟩
/-- The distance of a place: how long the way is that was found, or -1. -/
def dOf (V : Fnd) (g : Gr) : Int := match V.find? (fun y => decide (y.1 = g)) with
  | some y => (y.2.length : Int)
  | none => -1
theorem dOf_none {V : Fnd} {g : Gr} (h : hasP V g = false) : dOf V g = -1 := by
  unfold dOf
  have : V.find? (fun y => decide (y.1 = g)) = none := by
    rw [List.find?_eq_none]
    intro x hx hg
    unfold hasP at h
    rw [List.any_eq_false] at h
    exact h x hx hg
  rw [this]
theorem dOf_some {V : Fnd} {g : Gr} (h : hasP V g = true) : ∃ (j : Nat) (y : En), V[j]? = some y ∧ y.1 = g ∧ dOf V g = y.2.length := by
  unfold dOf
  cases hf : V.find? (fun y => decide (y.1 = g)) with
  | none =>
    exfalso
    rw [List.find?_eq_none] at hf
    unfold hasP at h
    rw [List.any_eq_true] at h
    obtain ⟨x, hx, hg⟩ := h
    exact hf x hx hg
  | some y =>
    have hy := List.find?_some hf
    have hm := List.mem_of_find?_eq_some hf
    obtain ⟨j, hj⟩ := List.getElem?_of_mem hm
    exact ⟨j, y, hj, by simpa using hy, rfl⟩
theorem dOf_nn {V : Fnd} {g : Gr} : (0 ≤ dOf V g) ↔ hasP V g = true := by
  cases h : hasP V g
  · rw [dOf_none h]; simp
  · obtain ⟨j, y, _, _, e⟩ := dOf_some h
    rw [e]; simp
theorem dOf_ge (V : Fnd) (g : Gr) : -1 ≤ dOf V g := by
  cases h : hasP V g
  · rw [dOf_none h]; omega
  · have := dOf_nn.2 h; omega
/-- dOf is the length of a way, and no way is shorter. -/
theorem Done.dist {s t : Gr} {V : Fnd} (h : Done nx ok s V) (hd : 0 ≤ dOf V t) : (∃ w, Path nx ok s w t ∧ (w.length : Int) = dOf V t) := by
  obtain ⟨j, y, hj, rfl, e⟩ := dOf_some (dOf_nn.1 hd)
  exact ⟨y.2, h.path j y hj, e.symm⟩
theorem Done.uniq {s : Gr} {V : Fnd} (h : Done nx ok s V) {j k : Nat} {x y : En} (hx : V[j]? = some x) (hy : V[k]? = some y) (e : x.1 = y.1) : j = k ∧ x = y := by
  rcases Nat.lt_trichotomy j k with h1 | h1 | h1
  · exact absurd e (h.nodup j k x y h1 hx hy)
  · subst h1
    rw [hx] at hy
    injection hy with hy
    exact ⟨rfl, hy⟩
  · exact absurd e.symm (h.nodup k j y x h1 hy hx)
theorem Done.short {s t : Gr} {V : Fnd} (h : Done nx ok s V) {w : List Int} (hp : Path nx ok s w t) : 0 ≤ dOf V t ∧ dOf V t ≤ w.length := by
  obtain ⟨k, y, hy, e, hle⟩ := h.least _ w t rfl hp
  have hh : hasP V t = true := hasP_iff.2 ⟨k, y, hy, e⟩
  obtain ⟨j, z, hz, e2, e3⟩ := dOf_some hh
  obtain ⟨rfl, rfl⟩ := h.uniq hy hz (e.trans e2.symm)
  refine ⟨dOf_nn.2 hh, ?_⟩
  rw [e3]
  rcases Nat.lt_or_ge w.length y.2.length with h1 | h1
  · have := num_len _ y.2 w rfl (h.path _ _ hy).way hp.way h1
    omega
  · omega
variable (nx) (ok)
/-- The first move from m on, among k, to a good place at distance d. -/
def fstM (V : Fnd) (g : Gr) (d : Int) : Nat → Int → Int
  | 0, m => m
  | k + 1, m => if (ok (nx m g) && decide (dOf V (nx m g) = d)) = true then m else fstM V g d k (m + 1)
/-- The walk down: k moves from g. -/
def down (V : Fnd) : Nat → Gr → List Int
  | 0, _ => []
  | k + 1, g => fstM nx ok V g k 4 0 :: down V k (nx (fstM nx ok V g k 4 0) g)
variable {nx} {ok}
theorem fstM_spec (V : Fnd) (g : Gr) (d : Int) : ∀ (k : Nat) (m q : Int), 0 ≤ m → m + k = 4 → m ≤ q → q ≤ 3 → ok (nx q g) = true → dOf V (nx q g) = d → (m ≤ fstM nx ok V g d k m ∧ fstM nx ok V g d k m ≤ q ∧ ok (nx (fstM nx ok V g d k m) g) = true ∧ dOf V (nx (fstM nx ok V g d k m) g) = d) := by
  intro k
  induction k with
  | zero => intro m q h0 h4 hq q3; omega
  | succ k ih =>
    intro m q h0 h4 hq q3 hk hd
    unfold fstM
    by_cases hc : (ok (nx m g) && decide (dOf V (nx m g) = d)) = true
    · rw [if_pos hc]
      simp only [Bool.and_eq_true, decide_eq_true_eq] at hc
      exact ⟨Int.le_refl _, hq, hc.1, hc.2⟩
    · rw [if_neg hc]
      have hne : q ≠ m := by
        rintro rfl
        exact hc (by simp [hk, hd])
      have := ih (m + 1) q (by omega) (by omega) (by omega) q3 hk hd
      exact ⟨by omega, this.2⟩
section Two
variable (hr : ∀ m g, 0 ≤ m → m ≤ 3 → nx (revM m) (nx m g) = g)
include hr
/-- Distances to t: from a good place at distance k + 1 a move leads to distance k. -/
theorem Done.move {t g : Gr} {V : Fnd} (h : Done nx ok t V) (ht : ok t = true) {k : Nat} (hd : dOf V g = (k : Int) + 1) : ∃ q, 0 ≤ q ∧ q ≤ 3 ∧ ok (nx q g) = true ∧ dOf V (nx q g) = k := by
  obtain ⟨w, hp, hl⟩ := h.dist (t := g) (by omega)
  obtain ⟨w', hb, hl'⟩ := hp.back hr ht
  have hg : ok g = true := hp.good ht
  cases hb with
  | nil => simp at hl'; omega
  | @cons _ _ m w2 h0 h3 hk hb2 =>
    refine ⟨m, h0, h3, hk, ?_⟩
    obtain ⟨w3, hb3, hl3⟩ := hb2.back hr hk
    have := h.short hb3
    have hlen : w2.length + 1 = w.length := by simpa using hl'
    -- not shorter
    have hge : (k : Int) ≤ dOf V (nx m g) := by
      obtain ⟨w4, hp4, hl4⟩ := h.dist (t := nx m g) this.1
      have h5 := hp4.snoc (revM_in h0 h3).1 (revM_in h0 h3).2 (m := revM m) (by rw [hr m g h0 h3]; exact hg)
      rw [hr m g h0 h3] at h5
      have := (h.short h5).2
      simp at this
      omega
    omega
theorem Done.near {t g : Gr} {V : Fnd} (h : Done nx ok t V) {w : List Int} (hp : Path nx ok g w t) (hg : ok g = true) : 0 ≤ dOf V g ∧ dOf V g ≤ w.length := by
  obtain ⟨w', hb, hl⟩ := hp.back hr hg
  have := h.short hb
  omega
theorem Done.down_path {t : Gr} {V : Fnd} (h : Done nx ok t V) (ht : ok t = true) : ∀ (k : Nat) (g : Gr), dOf V g = k → Path nx ok g (down nx ok V k g) t ∧ (down nx ok V k g).length = k := by
  intro k
  induction k with
  | zero =>
    intro g hd
    obtain ⟨w, hp, hl⟩ := h.dist (t := g) (by omega)
    have : w = [] := List.length_eq_zero_iff.1 (by omega)
    subst this
    cases hp
    exact ⟨.nil _, rfl⟩
  | succ k ih =>
    intro g hd
    obtain ⟨q, q0, q3, hq, hqd⟩ := h.move hr ht (k := k) (g := g) (by omega)
    have hs := fstM_spec V g k 4 0 q (by omega) (by omega) q0 q3 hq hqd
    obtain ⟨h1, h2⟩ := ih _ hs.2.2.2
    exact ⟨.cons hs.1 (by omega) hs.2.2.1 h1, by simp [down, h2]⟩
theorem Done.down_least {t : Gr} {V : Fnd} (h : Done nx ok t V) (ht : ok t = true) : ∀ (k : Nat) (g : Gr) (w : List Int) (a : Int), dOf V g = k → Path nx ok g w t → w.length = k → numA a (down nx ok V k g) ≤ numA a w := by
  intro k
  induction k with
  | zero =>
    intro g w a hd hp hl
    have : w = [] := List.length_eq_zero_iff.1 hl
    subst this
    exact Int.le_refl _
  | succ k ih =>
    intro g w a hd hp hl
    cases hp with
    | nil => simp at hl
    | @cons _ _ m w2 h0 h3 hk hp2 =>
      have hn := h.near hr hp2 hk
      have hlen : w2.length = k := by simpa using hl
      have hge : (k : Int) ≤ dOf V (nx m g) := by
        obtain ⟨w4, hp4, hl4⟩ := h.dist (t := nx m g) hn.1
        have hg : ok g = true := by
          obtain ⟨w5, hp5, _⟩ := h.dist (t := g) (by omega)
          exact hp5.good ht
        have h5 := hp4.snoc (revM_in h0 h3).1 (revM_in h0 h3).2 (m := revM m) (by rw [hr m g h0 h3]; exact hg)
        rw [hr m g h0 h3] at h5
        have := (h.short h5).2
        simp at this
        omega
      have hs := fstM_spec V g k 4 0 m (by omega) (by omega) h0 h3 hk (by omega)
      obtain ⟨p1, p2⟩ := h.down_path hr ht k _ hs.2.2.2
      show numA (4 * a + fstM nx ok V g k 4 0) (down nx ok V k (nx (fstM nx ok V g k 4 0) g)) ≤ numA (4 * a + m) w2
      by_cases he : fstM nx ok V g k 4 0 = m
      · rw [he]
        exact ih _ w2 _ (by omega) hp2 hlen
      · exact Int.le_of_lt (numA_lt _ _ _ _ (by omega) p1.way hp2.way (by omega))
/-- The search from s and the walk down the distances to t give the same way. -/
theorem Done.same {s t : Gr} {V U : Fnd} (hs : Done nx ok s V) (ht : Done nx ok t U) (ks : ok s = true) (kt : ok t = true) {j : Nat} {y : En} (hy : V[j]? = some y) (e : y.1 = t) : 0 ≤ dOf U s ∧ (y.2.length : Int) = dOf U s ∧ y.2 = down nx ok U (dOf U s).toNat s := by
  have hp := hs.path j y hy
  rw [e] at hp
  have hn := ht.near hr hp ks
  obtain ⟨k, hk⟩ : ∃ k : Nat, dOf U s = k := ⟨(dOf U s).toNat, by omega⟩
  obtain ⟨p1, p2⟩ := ht.down_path hr kt k s hk
  have hlen : y.2.length = k := by
    obtain ⟨k2, z, hz, e2, hle⟩ := hs.least _ _ t rfl p1
    obtain ⟨rfl, rfl⟩ := hs.uniq hy hz (e.trans e2.symm)
    rcases Nat.lt_or_ge k y.2.length with h1 | h1
    · have := num_len _ y.2 (down nx ok U k s) rfl hp.way p1.way (by omega)
      omega
    · omega
  refine ⟨hn.1, by omega, ?_⟩
  rw [hk, Int.toNat_natCast]
  have h1 := ht.down_least hr kt k s y.2 1 hk hp hlen
  obtain ⟨k2, z, hz, e2, hle⟩ := hs.least _ _ t rfl p1
  obtain ⟨rfl, rfl⟩ := hs.uniq hy hz (e.trans e2.symm)
  exact num_inj k _ _ p2 hp.way p1.way (by omega) (by omega)
theorem Done.both {s t : Gr} {V U : Fnd} (hs : Done nx ok s V) (ht : Done nx ok t U) (ks : ok s = true) (kt : ok t = true) : hasP V t = hasP U s := by
  cases h1 : hasP V t
  · cases h2 : hasP U s
    · rfl
    · exfalso
      obtain ⟨w, hp, _⟩ := ht.dist (dOf_nn.2 h2)
      obtain ⟨w', hb, _⟩ := hp.back hr kt
      have := hs.short hb
      rw [dOf_none h1] at this
      omega
  · obtain ⟨j, y, hy, e⟩ := hasP_iff.1 h1
    have := (hs.same hr ht ks kt hy e).1
    exact (dOf_nn.1 this).symm
end Two
end Bfs
end Go.Proofs.Ytfdnhamkkcmnfaa
