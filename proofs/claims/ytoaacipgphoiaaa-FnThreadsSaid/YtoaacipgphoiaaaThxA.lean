/- What a slice of impl.Thread reads as and owns. -/
import Derived.Test.YtoaacipgphoiaaaNum
import Derived.Handy
import Derived.Lib.SmallJoins
set_option linter.unusedSimpArgs false
set_option linter.unusedVariables false
namespace Go.Proofs.Ytoaacipgphoiaaa
open Go.RowKit

theorem Try.infoThx : (Try.prog.info? 25).map (fun i => (i.zero, i.size, i.bytes)) = some (some (.agg #[.int .i64 0, .int .i64 0, .bool false, .bool false]), 4, 24) := by kernel_rfl

def cellsThx (r : Int × Int × Bool × Bool) : List Value := [.int .i64 r.1, .int .i64 r.2.1, .bool r.2.2.1, .bool r.2.2.2]
/-- v reads as rs in w. -/
def RdThx (w : World) (v : Value) (rs : List (Int × Int × Bool × Bool)) : Prop :=
  ∃ a c, v = .slice a rs.length c ∧ ∀ i, i < rs.length → ∃ b o, a = some ⟨b, o, none⟩ ∧ w.cell? ⟨b, o + i * 4, none⟩ = some (.int .i64 (rs.getD i (0, 0, false, false)).1) ∧ w.cell? ⟨b, o + i * 4 + 1, none⟩ = some (.int .i64 (rs.getD i (0, 0, false, false)).2.1) ∧ w.cell? ⟨b, o + i * 4 + 2, none⟩ = some (.bool (rs.getD i (0, 0, false, false)).2.2.1) ∧ w.cell? ⟨b, o + i * 4 + 3, none⟩ = some (.bool (rs.getD i (0, 0, false, false)).2.2.2)
/-- v owns rs among the blocks from base on. -/
def OwThx (w : World) (base : Nat) (v : Value) (rs : List (Int × Int × Bool × Bool)) : Prop := w.ownsRow base 25 4 v rs.length (rs.flatMap cellsThx)

theorem RdThx.shape {w : World} {v : Value} {rs : List (Int × Int × Bool × Bool)} (h : RdThx w v rs) : ∃ a c, v = .slice a rs.length c ∧ RdThx w v rs := by
  obtain ⟨a, c, h1, h2⟩ := h
  exact ⟨a, c, h1, a, c, h1, h2⟩
theorem RdThx.at {w : World} {a : Option Addr} {n c : Nat} {rs : List (Int × Int × Bool × Bool)} (h : RdThx w (.slice a n c) rs) : ∀ i, i < rs.length → ∃ b o, a = some ⟨b, o, none⟩ ∧ w.cell? ⟨b, o + i * 4, none⟩ = some (.int .i64 (rs.getD i (0, 0, false, false)).1) ∧ w.cell? ⟨b, o + i * 4 + 1, none⟩ = some (.int .i64 (rs.getD i (0, 0, false, false)).2.1) ∧ w.cell? ⟨b, o + i * 4 + 2, none⟩ = some (.bool (rs.getD i (0, 0, false, false)).2.2.1) ∧ w.cell? ⟨b, o + i * 4 + 3, none⟩ = some (.bool (rs.getD i (0, 0, false, false)).2.2.2) := by
  obtain ⟨a', c', e, h2⟩ := h
  injection e with e1 e2 e3
  subst e1
  exact h2
theorem RdThx.below {w w' : World} {v : Value} {rs : List (Int × Int × Bool × Bool)} (h : RdThx w v rs) (hb : Below w.heap.size w w') : RdThx w' v rs := by
  obtain ⟨a, c, rfl, hc⟩ := h
  refine ⟨a, c, rfl, fun i hi => ?_⟩
  obtain ⟨b, o, ha, h0, h1, h2, h3⟩ := hc i hi
  have hlt : b < w.heap.size := World.block_lt_of_cell? w _ h0
  have e : ∀ q, w'.cell? ⟨b, q, none⟩ = w.cell? ⟨b, q, none⟩ := fun q => hb.cell (p := ⟨b, q, none⟩) hlt
  exact ⟨b, o, ha, (e _).trans h0, (e _).trans h1, (e _).trans h2, (e _).trans h3⟩
theorem RdThx.farB {w0 w w' : World} {v : Value} {rs : List (Int × Int × Bool × Bool)} {row : Option Nat} (h : RdThx w v rs) (h0 : RdThx w0 v rs) (hg : w.grownBy w' row) (hr : ∀ k, row = some k → w0.heap.size ≤ k) : RdThx w' v rs := by
  obtain ⟨a, c, rfl, hc⟩ := h
  obtain ⟨a0, c0, e0, hc0⟩ := h0
  injection e0 with e1 e2 e3
  subst e1
  refine ⟨a, c, rfl, fun i hi => ?_⟩
  obtain ⟨b, o, rfl, h0, h1, h2, h3⟩ := hc i hi
  obtain ⟨b', o', eb, hcell0, _⟩ := hc0 i hi
  simp only [Option.some.injEq, Addr.mk.injEq] at eb
  have hlt := World.block_lt_of_cell? _ _ hcell0
  have hne : some b ≠ row := fun e => by
    have := hr b e.symm
    simp only at hlt
    omega
  exact ⟨b, o, rfl, hg.cell h0 hne, hg.cell h1 hne, hg.cell h2 hne, hg.cell h3 hne⟩
theorem RdThx.nil {w : World} {c : Nat} (a : Option Addr) : RdThx w (.slice a 0 c) [] := ⟨a, c, rfl, fun i hi => by simp at hi⟩
theorem OwThx.nil (w : World) (base : Nat) : OwThx w base (.slice none 0 0) [] := World.ownsRow_nil _ _ _ _
theorem flatThx_len (rs : List (Int × Int × Bool × Bool)) : (rs.flatMap cellsThx).length = rs.length * 4 := by
  induction rs with
  | nil => rfl
  | cons r rs ih => simp [cellsThx, ih]; omega
theorem flatThx_get (rs : List (Int × Int × Bool × Bool)) : ∀ i, i < rs.length → (rs.flatMap cellsThx)[i * 4]? = some (.int .i64 (rs.getD i (0, 0, false, false)).1) ∧ (rs.flatMap cellsThx)[i * 4 + 1]? = some (.int .i64 (rs.getD i (0, 0, false, false)).2.1) ∧ (rs.flatMap cellsThx)[i * 4 + 2]? = some (.bool (rs.getD i (0, 0, false, false)).2.2.1) ∧ (rs.flatMap cellsThx)[i * 4 + 3]? = some (.bool (rs.getD i (0, 0, false, false)).2.2.2) := by
  induction rs with
  | nil => intro i hi; simp at hi
  | cons r rs ih =>
    intro i hi
    cases i with
    | zero => simp [cellsThx]
    | succ i =>
      have := ih i (by simpa using hi)
      have e : ∀ j, (i + 1) * 4 + j = (i * 4 + j) + 4 := by omega
      have e0 : (i + 1) * 4 = (i * 4) + 4 := by omega
      simp only [List.flatMap_cons, cellsThx, List.cons_append, List.nil_append, e, e0, List.getElem?_cons_succ, List.getD_cons_succ]
      simpa [cellsThx] using this
theorem flatThx_ext {L : List Value} : ∀ {rs : List (Int × Int × Bool × Bool)}, L.length = rs.length * 4 → (∀ i, i < rs.length → L[i * 4]? = some (.int .i64 (rs.getD i (0, 0, false, false)).1) ∧ L[i * 4 + 1]? = some (.int .i64 (rs.getD i (0, 0, false, false)).2.1) ∧ L[i * 4 + 2]? = some (.bool (rs.getD i (0, 0, false, false)).2.2.1) ∧ L[i * 4 + 3]? = some (.bool (rs.getD i (0, 0, false, false)).2.2.2)) → L = rs.flatMap cellsThx := by
  intro rs hl h
  apply List.ext_getElem?
  intro j
  by_cases hj : j < rs.length * 4
  · have hi : j / 4 < rs.length := by omega
    have h1 := h (j / 4) hi
    have h2 := flatThx_get rs (j / 4) hi
    by_cases m0 : j % 4 = 0
    · have e : j = j / 4 * 4 := by omega
      rw [e, h1.1, h2.1]
    by_cases m1 : j % 4 = 1
    · have e : j = j / 4 * 4 + 1 := by omega
      rw [e, h1.2.1, h2.2.1]
    by_cases m2 : j % 4 = 2
    · have e : j = j / 4 * 4 + 2 := by omega
      rw [e, h1.2.2.1, h2.2.2.1]
    by_cases m3 : j % 4 = 3
    · have e : j = j / 4 * 4 + 3 := by omega
      rw [e, h1.2.2.2, h2.2.2.2]
    omega
  · rw [List.getElem?_eq_none (by omega), List.getElem?_eq_none (by rw [flatThx_len]; omega)]
theorem OwThx.form {w : World} {base : Nat} {v : Value} {rs : List (Int × Int × Bool × Bool)} (h : OwThx w base v rs) : (v = .slice none 0 0 ∧ rs = []) ∨ ∃ g cap, v = .slice (some ⟨g, 0, none⟩) rs.length cap ∧ base ≤ g ∧ g < w.heap.size := by
  unfold OwThx at h
  rcases h.2 with ⟨hv, h0⟩ | ⟨g, cap, cur, hv, hg, hh, _⟩
  · exact Or.inl ⟨hv, List.length_eq_zero_iff.1 h0⟩
  · exact Or.inr ⟨g, cap, hv, hg, by
      rcases Nat.lt_or_ge g w.heap.size with h1 | h1
      · exact h1
      · rw [Array.getElem?_eq_none h1] at hh; cases hh⟩
theorem OwThx.rd {w : World} {base : Nat} {v : Value} {rs : List (Int × Int × Bool × Bool)} (h : OwThx w base v rs) : RdThx w v rs := by
  rcases h.form with ⟨rfl, rfl⟩ | ⟨g, cap, rfl, hg, hlt⟩
  · exact RdThx.nil _
  · refine ⟨_, cap, rfl, fun i hi => ⟨g, 0, rfl, ?_⟩⟩
    obtain ⟨h0, h1, h2, h3⟩ := flatThx_get rs i hi
    have hc := fun j (hj : j < rs.length * 4) => World.ownsRow.cellAt h j hj
    rw [Nat.zero_add]
    exact ⟨(hc _ (by omega)).trans h0, (hc _ (by omega)).trans h1, (hc _ (by omega)).trans h2, (hc _ (by omega)).trans h3⟩
theorem OwThx.below {w w' : World} {base : Nat} {v : Value} {rs : List (Int × Int × Bool × Bool)} (h : OwThx w base v rs) (hb : Below w.heap.size w w') : OwThx w' base v rs := by
  refine World.ownsRow.kept h (w' := w') (row := none) ⟨hb.os, hb.tape, hb.output, hb.size, fun k hk _ => hb.block k hk⟩ ?_
  cases hv : v.ownBlock with
  | none => exact Or.inl rfl
  | some k => exact Or.inr (by simp)
theorem below_farThx {w w' : World} {row : Option Nat} {B : Nat} (hg : w.grownBy w' row) (hB : B ≤ w.heap.size) (hr : ∀ k, row = some k → B ≤ k) : Below B w w' := (Below.refl B w).grown hg hB hr

end Go.Proofs.Ytoaacipgphoiaaa
