/- An argument that is a slice of laws.Ride, opened: it reads as a list. -/
import Derived.Test.YthfpikpknojffaaRidA
import Derived.ProofKit
import Derived.Deep.Slices
import Derived.Deep.Fields
import Derived.Deep.Strs
import Derived.Lib.SmallJoins
set_option linter.unusedSimpArgs false
set_option linter.unusedVariables false
namespace Go.Proofs.Ythfpikpknojffaa
open Go.RowKit

theorem list3Rid {α : Type} {l : List α} (h : l.length = 3) : ∃ c0 c1 c2, l = [c0, c1, c2] := by
  match l, h with
  | [c0, c1, c2], _ => exact ⟨c0, c1, c2, rfl⟩
theorem exists_listRid {α : Type} {P : Nat → α → Prop} (z : α) : ∀ n : Nat, (∀ i, i < n → ∃ x, P i x) → ∃ L : List α, L.length = n ∧ ∀ i, i < n → P i (L.getD i z) := by
  intro n
  induction n with
  | zero => intro _; exact ⟨[], rfl, fun i hi => by omega⟩
  | succ n ih =>
    intro h
    obtain ⟨L, hl, hL⟩ := ih (fun i hi => h i (by omega))
    obtain ⟨x, hx⟩ := h n (by omega)
    refine ⟨L ++ [x], by simp [hl], fun i hi => ?_⟩
    by_cases hin : i < n
    · have := hL i hin
      simpa [List.getD_eq_getElem?_getD, List.getElem?_append_left (show i < L.length by omega)] using this
    · obtain rfl : i = n := by omega
      simpa [List.getD_eq_getElem?_getD, List.getElem?_append_right (show L.length ≤ i by omega), hl] using hx
section
variable {H : Type} {enc : TypeId × Value → H} {w : World}
theorem openRid_cells {fuel : Nat} {v : Value} {x : DataW H × List MemPlace} (h : DataW.trod enc Try.prog w 0 (fun _ => true) true fuel 22 [v] = some x) :
    ∃ rs, RdRid w v rs ∧ rs.length ≤ maxLen := by
  rcases Go.Deep.open_slice Try.underlying22 h with ⟨hcs, hx⟩ | ⟨a, len, cap, m, n, D, Pl, hcs, hb, hl, hm, hmm, hx, hi⟩
  · simp at hcs
    subst hcs
    exact ⟨[], RdRid.nil _, by simp⟩
  · simp at hcs
    subst hcs
    simp only [if_true] at hmm
    have hC : Try.prog.cellsOf 32 = 3 := by kernel_rfl
    have kI : Try.prog.cellsOf 2 = 1 := by kernel_rfl
    have kB : Try.prog.cellsOf 4 = 1 := by kernel_rfl
    have key : ∀ i, i < len → ∃ x : Int × Int × Bool, w.cell? ((a.add (i * 3)).add 0) = some (.int .i64 x.1) ∧ w.cell? ((a.add (i * 3)).add 1) = some (.int .i64 x.2.1) ∧ w.cell? ((a.add (i * 3)).add 2) = some (.bool x.2.2) := by
      intro i hil
      obtain ⟨cs', hc, ht⟩ := hi i (by omega)
      rw [hC] at hc
      obtain ⟨_, hcl, hat⟩ := World.cells?_some hc
      obtain ⟨c0, c1, c2, rfl⟩ := list3Rid hcl
      obtain ⟨y0, y1, y2, n', -, -, t0, t1, t2⟩ := Go.Deep.trod_struct3 Try.underlying32 ht
      simp only [List.drop, kI, kB, List.take] at t0 t1 t2
      obtain ⟨x0, e0, -, -⟩ := DataW.trod_int Try.underlying2 t0
      obtain ⟨x1, e1, -, -⟩ := DataW.trod_int Try.underlying2 t1
      obtain ⟨x2, e2, -⟩ := DataW.trod_bool Try.underlying4 t2
      simp only [List.cons.injEq, and_true] at e0 e1 e2
      subst e0 e1 e2
      exact ⟨(x0, x1, x2), by rw [hat 0 (by omega)]; rfl, by rw [hat 1 (by omega)]; rfl, by rw [hat 2 (by omega)]; rfl⟩
    obtain ⟨rs, hlen, hrs⟩ := exists_listRid (0, 0, false) len key
    refine ⟨rs, ⟨some a, cap, by rw [hlen], fun i hil => ?_⟩, by omega⟩
    rw [hlen] at hil
    obtain ⟨g0, g1, g2⟩ := hrs i hil
    have s0 := (hrs 0 (by omega)).1
    obtain ⟨b, off, spot⟩ := a
    have hspot : spot = none := by
      have := World.cell?_spot s0
      simpa [Addr.add] using this
    subst hspot
    have ea : ∀ q : Nat, (⟨b, off, none⟩ : Addr).add q = ⟨b, off + q, none⟩ := fun q => by unfold Addr.add; split <;> simp_all
    have ea2 : ∀ q r : Nat, ((⟨b, off, none⟩ : Addr).add q).add r = ⟨b, off + q + r, none⟩ := fun q r => by rw [ea]; unfold Addr.add; split <;> simp_all
    rw [ea2] at g0 g1 g2
    exact ⟨b, off, rfl, g0, g1, g2⟩
theorem openRid {v : Value} {d : DataW H} {p : List MemPlace} (h : DataW.Trod enc Try.prog w 0 (fun _ => true) true 22 v d p) (hv : ∃ a l c, v = .slice a l c) : ∃ rs, RdRid w v rs ∧ rs.length ≤ maxLen := by
  obtain ⟨a, l, c, rfl⟩ := hv
  obtain ⟨fuel, hf⟩ := h
  exact openRid_cells (by simpa [Value.cells] using hf)
end

end Go.Proofs.Ythfpikpknojffaa
