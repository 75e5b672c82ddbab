/- Plain facts on the search among the gears of a train. -/
import Derived.Test.YtfdnhamkkcmnfaaBfsP
import Derived.Test.YtfdnhamkkcmnfaaGeaE
set_option linter.unusedSimpArgs false
set_option linter.unusedVariables false
namespace Go.Proofs.Ytfdnhamkkcmnfaa
open Go.RowKit

theorem nodup_le {α : Type} [DecidableEq α] : ∀ (l1 l2 : List α), l1.Nodup → (∀ x ∈ l1, x ∈ l2) → l1.length ≤ l2.length := by
  intro l1
  induction l1 with
  | nil => intro l2 _ _; exact Nat.zero_le _
  | cons a l ih =>
    intro l2 hn hs
    rw [List.nodup_cons] at hn
    have ha := hs a (by simp)
    have h1 := ih (l2.erase a) hn.2 (fun x hx => by
      have hne : x ≠ a := by rintro rfl; exact hn.1 hx
      exact (List.mem_erase_of_ne hne).2 (hs x (by simp [hx])))
    have h2 := List.length_erase_of_mem ha
    have h3 := List.length_pos_of_mem ha
    simp only [List.length_cons]
    omega
/-- All places of a train. -/
def gridG (m n : Nat) : List Gr := (List.range m).flatMap fun (f : Nat) => (List.range n).map fun (r : Nat) => ((f : Int), (r : Int))
theorem gridG_mem {m n : Nat} {g : Gr} : g ∈ gridG m n ↔ 0 ≤ g.1 ∧ g.1 < m ∧ 0 ≤ g.2 ∧ g.2 < n := by
  unfold gridG
  simp only [List.mem_flatMap, List.mem_map, List.mem_range]
  constructor
  · rintro ⟨f, hf, r, hr, rfl⟩
    simp only
    omega
  · rintro ⟨h1, h2, h3, h4⟩
    exact ⟨g.1.toNat, by omega, g.2.toNat, by omega, by ext <;> simp <;> omega⟩
theorem gridG_len (m n : Nat) : (gridG m n).length = m * n := by
  unfold gridG
  induction m with
  | zero => simp
  | succ m ih =>
    rw [List.range_succ, List.flatMap_append, List.length_append, ih]
    simp [Nat.succ_mul]
theorem gridG_nodup (m n : Nat) : (gridG m n).Nodup := by
  unfold gridG List.Nodup
  rw [List.pairwise_flatMap]
  refine ⟨fun f _ => ?_, ?_⟩
  · rw [List.pairwise_map]
    refine List.Pairwise.imp ?_ (List.nodup_range (n := n))
    intro a b hab e
    apply hab
    simp only [Prod.mk.injEq] at e
    omega
  · refine List.Pairwise.imp ?_ (List.nodup_range (n := m))
    intro a b hab x hx y hy e
    apply hab
    simp only [List.mem_map] at hx hy
    obtain ⟨r, _, rfl⟩ := hx
    obtain ⟨q, _, rfl⟩ := hy
    simp only [Prod.mk.injEq] at e
    omega
abbrev mvB (m : Int) (g : Gr) : Gr := mvG m g.1 g.2
abbrev okB (F R : List Int) (limit : Int) (g : Gr) : Bool := okM F R limit g.1 g.2
theorem mvB_back (m : Int) (g : Gr) (h0 : 0 ≤ m) (h3 : m ≤ 3) : mvB (revM m) (mvB m g) = g := by
  obtain ⟨f, r⟩ := g
  obtain rfl | rfl | rfl | rfl : m = 0 ∨ m = 1 ∨ m = 2 ∨ m = 3 := by omega
  all_goals
    simp [mvB, mvG, revM]
theorem okB_grid {F R : List Int} {limit : Int} {g : Gr} (h : okB F R limit g = true) : 0 ≤ g.1 ∧ g.1 < F.length ∧ 0 ≤ g.2 ∧ g.2 < R.length := by
  unfold okB okM at h
  rw [Bool.and_eq_true] at h
  exact gearR_bd h.1
theorem Bi.nodupL {nx : Int → Gr → Gr} {ok : Gr → Bool} {s : Gr} {V : Fnd} {i : Nat} {m : Int} (h : Bi nx ok s V i m) : (V.map Prod.fst).Nodup := by
  rw [List.Nodup, List.pairwise_iff_getElem]
  intro a b ha hb hab
  simp only [List.length_map] at ha hb
  simp only [List.getElem_map]
  exact h.nodup a b _ _ hab (List.getElem?_eq_getElem ha) (List.getElem?_eq_getElem hb)
theorem Bi.inG {F R : List Int} {limit : Int} {s : Gr} {V : Fnd} {i : Nat} {m : Int} (h : Bi mvB (okB F R limit) s V i m) (hs : okB F R limit s = true) {j : Nat} {x : En} (hx : V[j]? = some x) : okB F R limit x.1 = true := (h.path j x hx).good hs
theorem Bi.len {F R : List Int} {limit : Int} {s : Gr} {V : Fnd} {i : Nat} {m : Int} (h : Bi mvB (okB F R limit) s V i m) (hs : okB F R limit s = true) (hF : F.length ≤ 3) (hR : R.length ≤ 12) : V.length ≤ 36 := by
  have h1 := nodup_le (V.map Prod.fst) (gridG F.length R.length) h.nodupL (fun g hg => by
    rw [List.mem_map] at hg
    obtain ⟨x, hx, rfl⟩ := hg
    obtain ⟨j, hj⟩ := List.getElem?_of_mem hx
    exact gridG_mem.2 (okB_grid (h.inG hs hj)))
  rw [List.length_map, gridG_len] at h1
  have := Nat.mul_le_mul hF hR
  omega
def numG (g : Gr) : Int := g.1 * 12 + g.2
/-- A place is among the numbers of those that were found, if it was found. -/
theorem has_id {F R : List Int} {limit : Int} {V : Fnd} (hV : ∀ (j : Nat) (x : En), V[j]? = some x → okB F R limit x.1 = true) {g : Gr} (hg : okB F R limit g = true) (hR : R.length ≤ 12) : (V.map fun x => numG x.1).any (fun y => decide (y = numG g)) = hasP V g := by
  unfold hasP
  rw [List.any_map]
  have key : ∀ x ∈ V, ((fun y => decide (y = numG g)) ∘ fun x : En => numG x.1) x = decide (x.1 = g) := by
    intro x hx
    obtain ⟨j, hj⟩ := List.getElem?_of_mem hx
    have h1 := okB_grid (hV j x hj)
    have h2 := okB_grid hg
    simp only [Function.comp, decide_eq_decide]
    unfold numG
    constructor
    · intro e
      ext <;> omega
    · intro e
      rw [e]
  rw [Bool.eq_iff_iff, List.any_eq_true, List.any_eq_true]
  constructor
  · rintro ⟨x, hx, h⟩
    exact ⟨x, hx, by rw [← key x hx]; exact h⟩
  · rintro ⟨x, hx, h⟩
    exact ⟨x, hx, by rw [key x hx]; exact h⟩
/-- How many places have a distance. -/
def cntRow (D : Nat → Nat → Int) (f : Nat) : Nat → Int
  | 0 => 0
  | r + 1 => cntRow D f r + (if 0 ≤ D f r then 1 else 0)
def cntG (D : Nat → Nat → Int) (n : Nat) : Nat → Int
  | 0 => 0
  | f + 1 => cntG D n f + cntRow D f n
theorem cntRow_len (p : Gr → Bool) (D : Nat → Nat → Int) (f : Nat) (hp : ∀ r : Nat, p ((f : Int), (r : Int)) = decide (0 ≤ D f r)) : ∀ n : Nat, cntRow D f n = ((((List.range n).map fun r : Nat => ((f : Int), (r : Int))).filter p).length : Int) := by
  intro n
  induction n with
  | zero => rfl
  | succ n ih =>
    rw [cntRow, ih, List.range_succ, List.map_append, List.filter_append, List.length_append]
    by_cases h : 0 ≤ D f n
    · simp [hp, h]
    · simp [hp, h]
theorem cntG_len (p : Gr → Bool) (D : Nat → Nat → Int) (n : Nat) (hp : ∀ f r : Nat, p ((f : Int), (r : Int)) = decide (0 ≤ D f r)) : ∀ m : Nat, cntG D n m = (((gridG m n).filter p).length : Int) := by
  intro m
  induction m with
  | zero => rfl
  | succ m ih =>
    rw [cntG, ih, cntRow_len p D m (hp m)]
    unfold gridG
    rw [List.range_succ, List.flatMap_append, List.filter_append, List.length_append]
    simp
theorem Done.cnt {F R : List Int} {limit : Int} {s : Gr} {V : Fnd} (hs : okB F R limit s = true) (hP : ∀ (j : Nat) (x : En), V[j]? = some x → okB F R limit x.1 = true) (hn : (V.map Prod.fst).Nodup) : cntG (fun f r => dOf V ((f : Int), (r : Int))) R.length F.length = (V.length : Int) := by
  rw [cntG_len (hasP V) _ _ (fun f r => by
    rw [Bool.eq_iff_iff, decide_eq_true_eq]
    exact dOf_nn.symm)]
  have h1 := nodup_le ((gridG F.length R.length).filter (hasP V)) (V.map Prod.fst) (List.Pairwise.filter _ (gridG_nodup _ _)) (fun g hg => by
    rw [List.mem_filter] at hg
    obtain ⟨j, x, hx, e⟩ := hasP_iff.1 hg.2
    exact List.mem_map.2 ⟨x, List.mem_of_getElem? hx, e⟩)
  have h2 := nodup_le (V.map Prod.fst) ((gridG F.length R.length).filter (hasP V)) hn (fun g hg => by
    rw [List.mem_map] at hg
    obtain ⟨x, hx, rfl⟩ := hg
    obtain ⟨j, hj⟩ := List.getElem?_of_mem hx
    rw [List.mem_filter]
    exact ⟨gridG_mem.2 (okB_grid (hP j x hj)), hasP_iff.2 ⟨j, x, hj, rfl⟩⟩)
  rw [List.length_map] at h1 h2
  omega
theorem dOf_at {V : Fnd} (hn : ∀ (j k : Nat) (x y : En), j < k → V[j]? = some x → V[k]? = some y → x.1 ≠ y.1) {j : Nat} {x : En} (hx : V[j]? = some x) : dOf V x.1 = x.2.length := by
  obtain ⟨k, y, hy, e, hd⟩ := dOf_some (hasP_iff.2 ⟨j, x, hx, rfl⟩)
  rcases Nat.lt_trichotomy j k with h | h | h
  · exact absurd e.symm (hn j k x y h hx hy)
  · subst h
    rw [hx] at hy
    injection hy with hy
    subst hy
    exact hd
  · exact absurd e (hn k j y x h hy hx)
theorem dOf_snoc {V : Fnd} {g h : Gr} {w : List Int} (hg : hasP V g = false) : dOf (V ++ [(g, w)]) h = if h = g then (w.length : Int) else dOf V h := by
  unfold dOf
  rw [List.find?_append]
  by_cases e : h = g
  · subst e
    rw [if_pos rfl]
    have : V.find? (fun y => decide (y.1 = h)) = none := by
      rw [List.find?_eq_none]
      intro x hx
      unfold hasP at hg
      rw [List.any_eq_false] at hg
      exact hg x hx
    rw [this]
    simp
  · rw [if_neg e]
    cases hf : V.find? (fun y => decide (y.1 = h)) with
    | some x => simp
    | none => simp [e, Ne.symm (a := h) (b := g) e]
end Go.Proofs.Ytfdnhamkkcmnfaa
