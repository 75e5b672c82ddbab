/- What a slice of impl.Ride reads as and owns. -/
import Derived.Test.YthfpikpknojffaaNum
import Derived.Handy
import Derived.Lib.SmallJoins
set_option linter.unusedSimpArgs false
set_option linter.unusedVariables false
namespace Go.Proofs.Ythfpikpknojffaa
open Go.RowKit

theorem Try.infoRid : (Try.prog.info? 35).map (fun i => (i.zero, i.size, i.bytes)) = some (some (.agg #[.int .i64 0, .int .i64 0, .bool false]), 3, 24) := by kernel_rfl

def cellsRid (r : Int × Int × Bool) : List Value := [.int .i64 r.1, .int .i64 r.2.1, .bool r.2.2]
/-- v reads as rs in w. -/
def RdRid (w : World) (v : Value) (rs : List (Int × Int × Bool)) : Prop :=
  ∃ a c, v = .slice a rs.length c ∧ ∀ i, i < rs.length → ∃ b o, a = some ⟨b, o, none⟩ ∧ w.cell? ⟨b, o + i * 3, none⟩ = some (.int .i64 (rs.getD i (0, 0, false)).1) ∧ w.cell? ⟨b, o + i * 3 + 1, none⟩ = some (.int .i64 (rs.getD i (0, 0, false)).2.1) ∧ w.cell? ⟨b, o + i * 3 + 2, none⟩ = some (.bool (rs.getD i (0, 0, false)).2.2)
/-- v owns rs among the blocks from base on. -/
def OwRid (w : World) (base : Nat) (v : Value) (rs : List (Int × Int × Bool)) : Prop := w.ownsRow base 35 3 v rs.length (rs.flatMap cellsRid)

theorem RdRid.shape {w : World} {v : Value} {rs : List (Int × Int × Bool)} (h : RdRid w v rs) : ∃ a c, v = .slice a rs.length c ∧ RdRid w v rs := by
  obtain ⟨a, c, h1, h2⟩ := h
  exact ⟨a, c, h1, a, c, h1, h2⟩
theorem RdRid.at {w : World} {a : Option Addr} {n c : Nat} {rs : List (Int × Int × Bool)} (h : RdRid w (.slice a n c) rs) : ∀ i, i < rs.length → ∃ b o, a = some ⟨b, o, none⟩ ∧ w.cell? ⟨b, o + i * 3, none⟩ = some (.int .i64 (rs.getD i (0, 0, false)).1) ∧ w.cell? ⟨b, o + i * 3 + 1, none⟩ = some (.int .i64 (rs.getD i (0, 0, false)).2.1) ∧ w.cell? ⟨b, o + i * 3 + 2, none⟩ = some (.bool (rs.getD i (0, 0, false)).2.2) := by
  obtain ⟨a', c', e, h2⟩ := h
  injection e with e1 e2 e3
  subst e1
  exact h2
theorem RdRid.below {w w' : World} {v : Value} {rs : List (Int × Int × Bool)} (h : RdRid w v rs) (hb : Below w.heap.size w w') : RdRid w' v rs := by
  obtain ⟨a, c, rfl, hc⟩ := h
  refine ⟨a, c, rfl, fun i hi => ?_⟩
  obtain ⟨b, o, ha, h0, h1, h2⟩ := hc i hi
  have hlt : b < w.heap.size := World.block_lt_of_cell? w _ h0
  have e : ∀ q, w'.cell? ⟨b, q, none⟩ = w.cell? ⟨b, q, none⟩ := fun q => hb.cell (p := ⟨b, q, none⟩) hlt
  exact ⟨b, o, ha, (e _).trans h0, (e _).trans h1, (e _).trans h2⟩
theorem RdRid.farB {w0 w w' : World} {v : Value} {rs : List (Int × Int × Bool)} {row : Option Nat} (h : RdRid w v rs) (h0 : RdRid w0 v rs) (hg : w.grownBy w' row) (hr : ∀ k, row = some k → w0.heap.size ≤ k) : RdRid w' v rs := by
  obtain ⟨a, c, rfl, hc⟩ := h
  obtain ⟨a0, c0, e0, hc0⟩ := h0
  injection e0 with e1 e2 e3
  subst e1
  refine ⟨a, c, rfl, fun i hi => ?_⟩
  obtain ⟨b, o, rfl, h0, h1, h2⟩ := hc i hi
  obtain ⟨b', o', eb, hcell0, _⟩ := hc0 i hi
  simp only [Option.some.injEq, Addr.mk.injEq] at eb
  have hlt := World.block_lt_of_cell? _ _ hcell0
  have hne : some b ≠ row := fun e => by
    have := hr b e.symm
    simp only at hlt
    omega
  exact ⟨b, o, rfl, hg.cell h0 hne, hg.cell h1 hne, hg.cell h2 hne⟩
theorem RdRid.nil {w : World} {c : Nat} (a : Option Addr) : RdRid w (.slice a 0 c) [] := ⟨a, c, rfl, fun i hi => by simp at hi⟩
theorem OwRid.nil (w : World) (base : Nat) : OwRid w base (.slice none 0 0) [] := World.ownsRow_nil _ _ _ _
theorem flatRid_len (rs : List (Int × Int × Bool)) : (rs.flatMap cellsRid).length = rs.length * 3 := by
  induction rs with
  | nil => rfl
  | cons r rs ih => simp [cellsRid, ih]; omega
theorem flatRid_get (rs : List (Int × Int × Bool)) : ∀ i, i < rs.length → (rs.flatMap cellsRid)[i * 3]? = some (.int .i64 (rs.getD i (0, 0, false)).1) ∧ (rs.flatMap cellsRid)[i * 3 + 1]? = some (.int .i64 (rs.getD i (0, 0, false)).2.1) ∧ (rs.flatMap cellsRid)[i * 3 + 2]? = some (.bool (rs.getD i (0, 0, false)).2.2) := by
  induction rs with
  | nil => intro i hi; simp at hi
  | cons r rs ih =>
    intro i hi
    cases i with
    | zero => simp [cellsRid]
    | succ i =>
      have := ih i (by simpa using hi)
      have e : ∀ j, (i + 1) * 3 + j = (i * 3 + j) + 3 := by omega
      have e0 : (i + 1) * 3 = (i * 3) + 3 := by omega
      simp only [List.flatMap_cons, cellsRid, List.cons_append, List.nil_append, e, e0, List.getElem?_cons_succ, List.getD_cons_succ]
      simpa [cellsRid] using this
theorem flatRid_ext {L : List Value} : ∀ {rs : List (Int × Int × Bool)}, L.length = rs.length * 3 → (∀ i, i < rs.length → L[i * 3]? = some (.int .i64 (rs.getD i (0, 0, false)).1) ∧ L[i * 3 + 1]? = some (.int .i64 (rs.getD i (0, 0, false)).2.1) ∧ L[i * 3 + 2]? = some (.bool (rs.getD i (0, 0, false)).2.2)) → L = rs.flatMap cellsRid := by
  intro rs hl h
  apply List.ext_getElem?
  intro j
  by_cases hj : j < rs.length * 3
  · have hi : j / 3 < rs.length := by omega
    have h1 := h (j / 3) hi
    have h2 := flatRid_get rs (j / 3) hi
    by_cases m0 : j % 3 = 0
    · have e : j = j / 3 * 3 := by omega
      rw [e, h1.1, h2.1]
    by_cases m1 : j % 3 = 1
    · have e : j = j / 3 * 3 + 1 := by omega
      rw [e, h1.2.1, h2.2.1]
    by_cases m2 : j % 3 = 2
    · have e : j = j / 3 * 3 + 2 := by omega
      rw [e, h1.2.2, h2.2.2]
    omega
  · rw [List.getElem?_eq_none (by omega), List.getElem?_eq_none (by rw [flatRid_len]; omega)]
theorem OwRid.form {w : World} {base : Nat} {v : Value} {rs : List (Int × Int × Bool)} (h : OwRid w base v rs) : (v = .slice none 0 0 ∧ rs = []) ∨ ∃ g cap, v = .slice (some ⟨g, 0, none⟩) rs.length cap ∧ base ≤ g ∧ g < w.heap.size := by
  unfold OwRid at h
  rcases h.2 with ⟨hv, h0⟩ | ⟨g, cap, cur, hv, hg, hh, _⟩
  · exact Or.inl ⟨hv, List.length_eq_zero_iff.1 h0⟩
  · exact Or.inr ⟨g, cap, hv, hg, by
      rcases Nat.lt_or_ge g w.heap.size with h1 | h1
      · exact h1
      · rw [Array.getElem?_eq_none h1] at hh; cases hh⟩
theorem OwRid.rd {w : World} {base : Nat} {v : Value} {rs : List (Int × Int × Bool)} (h : OwRid w base v rs) : RdRid w v rs := by
  rcases h.form with ⟨rfl, rfl⟩ | ⟨g, cap, rfl, hg, hlt⟩
  · exact RdRid.nil _
  · refine ⟨_, cap, rfl, fun i hi => ⟨g, 0, rfl, ?_⟩⟩
    obtain ⟨h0, h1, h2⟩ := flatRid_get rs i hi
    have hc := fun j (hj : j < rs.length * 3) => World.ownsRow.cellAt h j hj
    rw [Nat.zero_add]
    exact ⟨(hc _ (by omega)).trans h0, (hc _ (by omega)).trans h1, (hc _ (by omega)).trans h2⟩
theorem OwRid.below {w w' : World} {base : Nat} {v : Value} {rs : List (Int × Int × Bool)} (h : OwRid w base v rs) (hb : Below w.heap.size w w') : OwRid w' base v rs := by
  refine World.ownsRow.kept h (w' := w') (row := none) ⟨hb.os, hb.tape, hb.output, hb.size, fun k hk _ => hb.block k hk⟩ ?_
  cases hv : v.ownBlock with
  | none => exact Or.inl rfl
  | some k => exact Or.inr (by simp)
theorem below_farRid {w w' : World} {row : Option Nat} {B : Nat} (hg : w.grownBy w' row) (hB : B ≤ w.heap.size) (hr : ∀ k, row = some k → B ≤ k) : Below B w w' := (Below.refl B w).grown hg hB hr

end Go.Proofs.Ythfpikpknojffaa
