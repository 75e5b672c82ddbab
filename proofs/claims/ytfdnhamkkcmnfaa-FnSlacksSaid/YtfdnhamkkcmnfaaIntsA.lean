/- What a slice of int64 reads as and owns, and how that stays while other memory turns. -/
import Derived.Test.YtfdnhamkkcmnfaaNum
import Derived.Handy
import Derived.Lib.SmallJoins
set_option linter.unusedSimpArgs false
set_option linter.unusedVariables false
namespace Go.Proofs.Ytfdnhamkkcmnfaa
open Go.RowKit

theorem Try.infoI64 : (Try.prog.info? 2).map (fun i => (i.zero, i.size, i.bytes)) = some (some (.int .i64 0), 1, 8) := by kernel_rfl

/-- v reads as xs in w. -/
def RdI (w : World) (v : Value) (xs : List Int) : Prop :=
  ∃ a c, v = .slice a xs.length c ∧ ∀ i, i < xs.length → ∃ b o, a = some ⟨b, o, none⟩ ∧ w.cell? ⟨b, o + i, none⟩ = some (.int .i64 (xs.getD i 0))
/-- v owns xs among the blocks from base on. -/
def OwI (w : World) (base : Nat) (v : Value) (xs : List Int) : Prop := w.ownsRow base 2 1 v xs.length (xs.map (Value.int .i64))

theorem RdI.below {w w' : World} {v : Value} {xs : List Int} (h : RdI w v xs) (hb : Below w.heap.size w w') : RdI w' v xs := by
  obtain ⟨a, c, rfl, hc⟩ := h
  refine ⟨a, c, rfl, fun i hi => ?_⟩
  obtain ⟨b, o, ha, hcell⟩ := hc i hi
  exact ⟨b, o, ha, (hb.cell (p := ⟨b, o + i, none⟩) (World.block_lt_of_cell? w _ hcell)).trans hcell⟩
theorem RdI.shape {w : World} {v : Value} {xs : List Int} (h : RdI w v xs) : ∃ a c, v = .slice a xs.length c ∧ RdI w v xs := by
  obtain ⟨a, c, h1, h2⟩ := h
  exact ⟨a, c, h1, a, c, h1, h2⟩
theorem RdI.far {w w' : World} {v : Value} {xs : List Int} {row : Option Nat} (h : RdI w v xs) (hg : w.grownBy w' row) (hne : ∀ k, v.ownBlock = some k → row ≠ some k) : RdI w' v xs := by
  obtain ⟨a, c, rfl, hc⟩ := h
  refine ⟨a, c, rfl, fun i hi => ?_⟩
  obtain ⟨b, o, rfl, hcell⟩ := hc i hi
  exact ⟨b, o, rfl, hg.cell hcell (fun e => hne b rfl e.symm)⟩
theorem RdI.farB {w0 w w' : World} {v : Value} {xs : List Int} {row : Option Nat} (h : RdI w v xs) (h0 : RdI w0 v xs) (hg : w.grownBy w' row) (hr : ∀ k, row = some k → w0.heap.size ≤ k) : RdI w' v xs := by
  obtain ⟨a, c, rfl, hc⟩ := h
  obtain ⟨a0, c0, e0, hc0⟩ := h0
  injection e0 with e1 e2 e3
  subst e1
  refine ⟨a, c, rfl, fun i hi => ?_⟩
  obtain ⟨b, o, rfl, hcell⟩ := hc i hi
  obtain ⟨b', o', eb, hcell0⟩ := hc0 i hi
  simp only [Option.some.injEq, Addr.mk.injEq] at eb
  have hlt := World.block_lt_of_cell? _ _ hcell0
  refine ⟨b, o, rfl, hg.cell hcell (fun e => ?_)⟩
  have := hr b e.symm
  simp only at hlt
  omega
theorem RdI.nil {w : World} {c : Nat} (a : Option Addr) : RdI w (.slice a 0 c) [] := ⟨a, c, rfl, fun i hi => by simp at hi⟩
theorem OwI.nil (w : World) (base : Nat) : OwI w base (.slice none 0 0) [] := World.ownsRow_nil _ _ _ _
theorem OwI.lit0 (w : World) : OwI (w.alloc (.cells #[] 2)) w.heap.size (.slice (some ⟨w.heap.size, 0, none⟩) 0 0) [] := World.ownsRow_lit _ _ _ (Nat.le_refl _) (by unfold maxLen; omega) rfl
theorem OwI.form {w : World} {base : Nat} {v : Value} {xs : List Int} (h : OwI w base v xs) : (v = .slice none 0 0 ∧ xs = []) ∨ ∃ g cap, v = .slice (some ⟨g, 0, none⟩) xs.length cap ∧ base ≤ g ∧ g < w.heap.size := by
  have h' := h
  unfold OwI at h
  rcases h.2 with ⟨hv, h0⟩ | ⟨g, cap, cur, hv, hg, hh, _⟩
  · exact Or.inl ⟨hv, List.length_eq_zero_iff.1 h0⟩
  · exact Or.inr ⟨g, cap, hv, hg, by
      rcases Nat.lt_or_ge g w.heap.size with h1 | h1
      · exact h1
      · rw [Array.getElem?_eq_none h1] at hh; cases hh⟩
theorem OwI.rd {w : World} {base : Nat} {v : Value} {xs : List Int} (h : OwI w base v xs) : RdI w v xs := by
  rcases h.form with ⟨rfl, rfl⟩ | ⟨g, cap, rfl, hg, hlt⟩
  · exact RdI.nil _
  · refine ⟨_, cap, rfl, fun i hi => ⟨g, 0, rfl, ?_⟩⟩
    have := World.ownsRow.cellAt h i (by omega)
    rw [Nat.zero_add, this]
    simp [hi]
theorem OwI.below {w w' : World} {base : Nat} {v : Value} {xs : List Int} (h : OwI w base v xs) (hb : Below w.heap.size w w') : OwI w' base v xs := by
  have hlt := World.ownsRow.lt h
  refine World.ownsRow.kept h (w' := w') (row := none) ⟨hb.os, hb.tape, hb.output, hb.size, fun k hk _ => hb.block k hk⟩ ?_
  cases hv : v.ownBlock with
  | none => exact Or.inl rfl
  | some k => exact Or.inr (by simp)
theorem OwI.far {w w' : World} {base : Nat} {v : Value} {xs : List Int} {row : Option Nat} (h : OwI w base v xs) (hg : w.grownBy w' row) (hne : ∀ k, v.ownBlock = some k → row ≠ some k) : OwI w' base v xs := by
  refine World.ownsRow.kept h hg ?_
  cases hv : v.ownBlock with
  | none => exact Or.inl rfl
  | some k => exact Or.inr (fun e => hne k hv e.symm)
theorem OwI.farLt {w w' : World} {base : Nat} {v : Value} {xs : List Int} {row : Option Nat} (h : OwI w base v xs) (hg : w.grownBy w' row) (hr : ∀ q, row = some q → q < base) : OwI w' base v xs :=
  OwI.far h hg (fun k hk e => by
    have h1 := (World.ownsRow.lt h k hk).1
    have h2 := hr k e
    omega)
theorem OwI.mono {w : World} {base base' : Nat} {v : Value} {xs : List Int} (h : OwI w base v xs) (hb : base' ≤ base) : OwI w base' v xs := Joins.ownsRow_le h hb
theorem below_far {w w' : World} {row : Option Nat} {B : Nat} (hg : w.grownBy w' row) (hB : B ≤ w.heap.size) (hr : ∀ k, row = some k → B ≤ k) : Below B w w' := (Below.refl B w).grown hg hB hr

/-- k, k + 1, .., n of them. -/
def marks (k : Int) (n : Nat) : List Int := (List.range n).map (fun (i : Nat) => k + (i : Int))
theorem marks_length (k : Int) (n : Nat) : (marks k n).length = n := by simp [marks]
theorem marks_getD (k : Int) (n i : Nat) (h : i < n) : (marks k n).getD i 0 = k + i := by simp [marks, h]
theorem ext_ints {L : List Value} {xs : List Int} (hl : L.length = xs.length) (h : ∀ j, j < xs.length → L[j]? = some (.int .i64 (xs.getD j 0))) : L = xs.map (Value.int .i64) := by
  apply List.ext_getElem?
  intro j
  by_cases hj : j < xs.length
  · rw [h j hj]; simp [hj]
  · rw [List.getElem?_eq_none (by omega), List.getElem?_eq_none (by simp; omega)]

theorem OwI.app {B : Nat} {w wr w1 : World} {o : Obj} {v v' : Value} {xs : List Int} {x : Int} (hbw : Below B w wr) (hB : B ≤ wr.heap.size) (hown : OwI wr B v xs)
    (hown' : w1.ownsRow B 2 1 v' (xs.length + 1) (xs.map (Value.int .i64) ++ [.int .i64 x])) (hgrow : (wr.alloc o).grownBy w1 v.ownBlock) : OwI w1 B v' (xs ++ [x]) ∧ Below B w w1 := by
  refine ⟨?_, ?_⟩
  · unfold OwI
    rw [List.map_append, List.length_append]
    exact hown'
  · exact (hbw.alloc hB o).grown hgrow (by simp; omega) (fun k hk => (World.ownsRow.lt hown k hk).1)
/-- A result that is a slice of the call's own, with a code. -/
def RetI (w : World) (r : List Int × Int) (e : Ending) (w' : World) : Prop := ∃ v, e = .returned (.tuple #[v, .int .i64 r.2]) ∧ OwI w' w.heap.size v r.1 ∧ Below w.heap.size w w'
theorem RetI.mk {w w' : World} {r : List Int × Int} {v : Value} {xs : List Int} {c : Int} (h : r = (xs, c)) (ho : OwI w' w.heap.size v xs) (hb : Below w.heap.size w w') : RetI w r (.returned (.tuple #[v, .int .i64 c])) w' :=
  ⟨v, by rw [h], by rw [h]; exact ho, hb⟩

end Go.Proofs.Ytfdnhamkkcmnfaa
