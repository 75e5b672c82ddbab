/- Laws for boxed structs beside a source of draws. -/
import Derived.Test.YtfdnhamkkcmnfaaDrwA
set_option linter.unusedSimpArgs false
set_option linter.unusedVariables false
namespace Go.Proofs.Ytfdnhamkkcmnfaa
open Go.RowKit

theorem hk_alloc {w : World} {b : Nat} {o : Obj} (h : w.heap[b]? = some o) (o' : Obj) : (w.alloc o').heap[b]? = some o := (Below.heap_alloc w o' b (heap_lt h)).trans h
theorem hk_drew {w : World} {b : Nat} {o : Obj} (h : w.heap[b]? = some o) : w.drew.heap[b]? = some o := h
theorem hk_drewN {w : World} {b : Nat} {o : Obj} (h : w.heap[b]? = some o) (k : Nat) : (w.drewN k).heap[b]? = some o := h
theorem hk_call {w w' : World} {b g : Nat} {o : Obj} (h : w.heap[b]? = some o) (hg : w.grownBy w' (some g)) (hne : b ≠ g) : w'.heap[b]? = some o :=
  (hg.block b (heap_lt h) (fun e => hne (by injection e))).trans h
theorem hk_below {w w' : World} {b : Nat} {o : Obj} (h : w.heap[b]? = some o) (hg : Below w.heap.size w w') : w'.heap[b]? = some o :=
  (hg.block b (heap_lt h)).trans h
theorem hk_set {w : World} {b i : Nat} {cs : Array Value} {t : TypeId} {u : Value} (h : w.heap[b]? = some (.cells cs t (0, 0))) : (w.setCell ⟨b, i, none⟩ u).heap[b]? = some (.cells (cs.setIfInBounds i u) t (0, 0)) := heap_set h
theorem hk_setO {w : World} {b b' i : Nat} {o : Obj} {u : Value} (h : w.heap[b]? = some o) (hne : b ≠ b') : (w.setCell ⟨b', i, none⟩ u).heap[b]? = some o :=
  (Below.heap_setCell w ⟨b', i, none⟩ u b (fun e => hne e)).trans h
theorem hk_cell {w : World} {b i : Nat} {cs : Array Value} {t : TypeId} {v : Value} (h : w.heap[b]? = some (.cells cs t (0, 0))) (hv : cs[i]? = some v) : w.cell? ⟨b, i, none⟩ = some v := (cell_of_row w b i cs t (0, 0) h).trans hv
theorem hk_free {w : World} {b i : Nat} {cs : Array Value} {t : TypeId} (h : w.heap[b]? = some (.cells cs t (0, 0))) : w.frozen? ⟨b, i, none⟩ = false := by simp [World.frozen?, h]
theorem Src.drew {w : World} {g : Nat} {a : Option Addr} {n c : Nat} (h : Src w g a n c) : Src w.drew g a n c := h
theorem Src.set {w : World} {g : Nat} {a : Option Addr} {n c : Nat} (h : Src w g a n c) {b : Nat} (hb : g < b) (i : Nat) (u : Value) : Src (w.setCell ⟨b, i, none⟩ u) g a n c := by
  obtain ⟨p, sd, h1, h2, h3, h4, h5, h6⟩ := h
  refine ⟨p, sd, hk_setO h1 (by omega), h2, h3, h4, h5, h6.keep (Nat.le_refl _) (fun q hq => ?_)⟩
  have hne : q.block ≠ b := by omega
  unfold World.cell?
  rw [Below.heap_setCell w ⟨b, i, none⟩ u q.block (fun e => hne e)]
theorem drw_setN {a w : World} {row : Option Nat} (h : a.grownBy w row) {b : Nat} (hb : a.heap.size ≤ b) (i : Nat) (u : Value) : a.grownBy (w.setCell ⟨b, i, none⟩ u) row :=
  ⟨h.os, h.tape, h.output, by simpa [World.setCell] using h.size, fun k hk hne => (Below.heap_setCell w ⟨b, i, none⟩ u k (by
    intro e
    have e' : k = b := e
    omega)).trans (h.block k hk hne)⟩
theorem drw_below2 {a w w' : World} {row : Option Nat} (h : a.grownBy w row) (hb : Below w.heap.size w w') : a.grownBy w' row := h.trans (drw_below hb row)
theorem rdb_alloc {w : World} {a : Option Addr} {n : Nat} (h : RdB w w.heap.size a n) (o : Obj) : RdB (w.alloc o) (w.alloc o).heap.size a n :=
  h.keep (by simp) (fun p hp => World.cell?_alloc_lt w o p hp)
end Go.Proofs.Ytfdnhamkkcmnfaa
