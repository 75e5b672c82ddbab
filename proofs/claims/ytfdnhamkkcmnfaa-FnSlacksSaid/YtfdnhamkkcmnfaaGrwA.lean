/- A slice of the call's own that grows beside older memory, the literal that it began as included. -/
import Derived.Test.YtfdnhamkkcmnfaaVecA
set_option linter.unusedSimpArgs false
set_option linter.unusedVariables false
namespace Go.Proofs.Ytfdnhamkkcmnfaa
open Go.RowKit

theorem run_appI4 (w : World) (base : Nat) (ty : TypeId) (v u : Value) (xs ys : List Int) (ho : OwI w base v xs) (hr : RdI w u ys) (hn : xs.length + ys.length ≤ 4194304) (hb : base ≤ w.heap.size) :
    ∃ v' w', (Builtin.append_ #[22, 22] ty #[v, u]).run Try.prog w = .ok v' w' ∧ OwI w' base v' (xs ++ ys) ∧ w.grownBy w' v.ownBlock ∧ (v'.ownBlock = v.ownBlock ∨ v'.ownBlock = some w.heap.size) := by
  obtain ⟨i0, hi, hz0, hz1, hz2⟩ := info_parts Try.infoI64
  obtain ⟨a, c, rfl, hc⟩ := hr
  rcases a with _ | ad
  · have hy : ys = [] := by
      rcases ys with _ | ⟨y, ys⟩
      · rfl
      · obtain ⟨b, o, e, _⟩ := hc 0 (by simp)
        cases e
    subst hy
    refine ⟨v, w, ?_, by rw [List.append_nil]; exact ho, ⟨rfl, rfl, rfl, Nat.le_refl _, fun _ _ _ => rfl⟩, Or.inl rfl⟩
    rcases ho.2 with ⟨rfl, h0⟩ | ⟨g, cap, cur, rfl, _, _, hnc, _⟩
    · simp [Builtin.append_, run_underlying Try.underlying22, sizeOf, typeInfo, hi, Builtin.lenOf, Builtin.firstCells]
    · simp [Builtin.append_, run_underlying Try.underlying22, sizeOf, typeInfo, hi, Builtin.lenOf, Builtin.firstCells, hnc, storeCells]
  · have hcell := RdI.cells (c := c) (n := ys.length) ⟨_, _, rfl, hc⟩
    obtain ⟨v', w', hrun, h2, h3, _, h5⟩ := run_append_own_at (P := Try.prog) w base 22 ty 2 i0 (.int .i64 0) 1 8 Try.underlying22 hi hz0 hz1 hz2 rfl (by decide) v xs.length (xs.map (Value.int .i64)) ho ad ys.length c (ys.map (Value.int .i64)) (by simp) hcell
      (by intro u hu; rw [List.mem_map] at hu; obtain ⟨z, _, rfl⟩ := hu; rfl) (by unfold maxLen; omega) (by omega) hb
    refine ⟨v', w', hrun, ?_, h3, h5⟩
    unfold OwI
    rw [List.length_append, List.map_append]
    exact h2
theorem wp_appI4 (w : World) {o : Oper} {a : Act} {K : Act → World → Prop} {Q : Exit → Act → World → Prop} (s x : Operand)
    (ho : o.op = .call { callee := .builtin .append, args := #[s, x], argTypes := #[22, 22] })
    (base : Nat) (v u : Value) (xs ys : List Int) (hs : a.eval s = v) (hx : a.eval x = u) (hv : OwI w base v xs) (hr : RdI w u ys) (hn : xs.length + ys.length ≤ 4194304) (hb : base ≤ w.heap.size)
    (h : ∀ v' w', OwI w' base v' (xs ++ ys) → w.grownBy w' v.ownBlock → (v'.ownBlock = v.ownBlock ∨ v'.ownBlock = some w.heap.size) → K (a.put o.dst v') w') : o.wp Try.prog a w K Q := by
  obtain ⟨v', w', hrun, h2, h3, h4⟩ := run_appI4 w base o.type v u xs ys hv hr hn hb
  unfold Oper.wp execOp
  simp only [ho, resolve, invoke, builtin, Sem.run_bind, Sem.run_pure, Result.andThen_ok, List.map_toArray, List.map_cons, List.map_nil, hs, hx, hrun]
  exact h v' w' h2 h3 h4
theorem wpList_appI4 (w : World) {ops : Array Oper} {rest : List Oper} {o : Oper} {a : Act} {Q : Exit → Act → World → Prop} (hgd : o.guard = none) (s x : Operand)
    (ho : o.op = .call { callee := .builtin .append, args := #[s, x], argTypes := #[22, 22] })
    (base : Nat) (v u : Value) (xs ys : List Int) (hs : a.eval s = v) (hx : a.eval x = u) (hv : OwI w base v xs) (hr : RdI w u ys) (hn : xs.length + ys.length ≤ 4194304) (hb : base ≤ w.heap.size)
    (h : ∀ v' w', OwI w' base v' (xs ++ ys) → w.grownBy w' v.ownBlock → (v'.ownBlock = v.ownBlock ∨ v'.ownBlock = some w.heap.size) → wpList Try.prog ops Q rest (a.put o.dst v') w') : wpList Try.prog ops Q (o :: rest) a w :=
  wpList_plain hgd fun _ hK => wp_appI4 w s x ho base v u xs ys hs hx hv hr hn hb fun v' w' h2 h3 h4 => hK _ _ (h v' w' h2 h3 h4)
theorem step_appI4 (w : World) {ops : Array Oper} {o : Oper} {a : Act} {K : Act → World → Prop} {Q : Exit → Act → World → Prop} {E : Prop} (hgd : o.guard = none) (s x : Operand)
    (ho : o.op = .call { callee := .builtin .append, args := #[s, x], argTypes := #[22, 22] })
    (base : Nat) (v u : Value) (xs ys : List Int) (hs : a.eval s = v) (hx : a.eval x = u) (hv : OwI w base v xs) (hr : RdI w u ys) (hn : xs.length + ys.length ≤ 4194304) (hb : base ≤ w.heap.size)
    (h : ∀ v' w', OwI w' base v' (xs ++ ys) → w.grownBy w' v.ownBlock → (v'.ownBlock = v.ownBlock ∨ v'.ownBlock = some w.heap.size) → K (a.put o.dst v') w') :
    if Region.wanted o (yielded ops a.tmps) = true then Oper.wp Try.prog o a w K Q else E := by
  have hw : Region.wanted o (yielded ops a.tmps) = true := by simp [Region.wanted, hgd]
  rw [if_pos hw]
  exact wp_appI4 w s x ho base v u xs ys hs hx hv hr hn hb h
/-- Since W nothing older has turned but block b0; v lies in b0 or behind all of W. -/
def Grw (W wr : World) (b0 : Nat) (v : Value) : Prop := W.grownBy wr (some b0) ∧ ∀ q, v.ownBlock = some q → q = b0 ∨ W.heap.size ≤ q
theorem Grw.start (W : World) (b0 : Nat) (v : Value) (h : ∀ q, v.ownBlock = some q → q = b0) : Grw W W b0 v := ⟨⟨rfl, rfl, rfl, Nat.le_refl _, fun _ _ _ => rfl⟩, fun q hq => Or.inl (h q hq)⟩
theorem Grw.size {W wr : World} {b0 : Nat} {v : Value} (h : Grw W wr b0 v) : W.heap.size ≤ wr.heap.size := h.1.size
theorem Grw.call {W wr w' : World} {b0 : Nat} {v : Value} (h : Grw W wr b0 v) (hb : Below wr.heap.size wr w') : Grw W w' b0 v :=
  ⟨⟨hb.os.trans h.1.os, hb.tape.trans h.1.tape, hb.output.trans h.1.output, Nat.le_trans h.1.size hb.size, fun i hi hne => (hb.block i (Nat.lt_of_lt_of_le hi h.1.size)).trans (h.1.block i hi hne)⟩, h.2⟩
theorem Grw.app {W wr w1 w' : World} {b0 : Nat} {v v' : Value} (h : Grw W wr b0 v) (ha : Below wr.heap.size wr w1) (hg : w1.grownBy w' v.ownBlock) (hk : v'.ownBlock = v.ownBlock ∨ v'.ownBlock = some w1.heap.size) : Grw W w' b0 v' := by
  have h1 := h.call ha
  refine ⟨⟨hg.os.trans h1.1.os, hg.tape.trans h1.1.tape, hg.output.trans h1.1.output, Nat.le_trans h1.1.size hg.size, fun i hi hne => (hg.block i (Nat.lt_of_lt_of_le hi h1.1.size) (fun e => ?_)).trans (h1.1.block i hi hne)⟩, fun q hq => ?_⟩
  · rcases h.2 i e.symm with e1 | e1
    · exact hne (by rw [e1])
    · omega
  · rcases hk with e | e
    · exact h.2 q (e ▸ hq)
    · rw [e] at hq
      injection hq with hq
      exact Or.inr (by have := h1.1.size; omega)
theorem Grw.below {B : Nat} {w0 W wr : World} {b0 : Nat} {v : Value} (h : Grw W wr b0 v) (hb : Below B w0 W) (hB : B ≤ W.heap.size) (h0 : B ≤ b0) : Below B w0 wr := hb.grown h.1 hB (fun k hk => by injection hk with hk; omega)
theorem Grw.cell {W wr : World} {b0 : Nat} {v : Value} (h : Grw W wr b0 v) {p : Addr} {x : Value} (hc : W.cell? p = some x) (hne : p.block ≠ b0) : wr.cell? p = some x :=
  h.1.cell hc (fun e => hne (by injection e))
theorem Grw.obj {W wr : World} {b0 : Nat} {v : Value} (h : Grw W wr b0 v) {b : Nat} {o : Obj} (hb : W.heap[b]? = some o) (hne : b ≠ b0) : wr.heap[b]? = some o := by
  have hl : b < W.heap.size := by
    rcases Nat.lt_or_ge b W.heap.size with h1 | h1
    · exact h1
    · rw [Array.getElem?_eq_none h1] at hb; cases hb
  exact (h.1.block b hl (fun e => hne (by injection e))).trans hb
theorem Grw.rdI {W wr : World} {b0 : Nat} {v : Value} (h : Grw W wr b0 v) {u : Value} {xs : List Int} (hu : RdI W u xs) (hne : ∀ k, u.ownBlock = some k → k ≠ b0) : RdI wr u xs := hu.far h.1 (fun k hk e => hne k hk (by injection e with e; exact e.symm))
theorem RdI.blkLt {w : World} {v : Value} {xs : List Int} (h : RdI w v xs) (hp : 0 < xs.length) {k : Nat} (hk : v.ownBlock = some k) : k < w.heap.size := by
  obtain ⟨a, c, rfl, hc⟩ := h
  obtain ⟨b, o, rfl, hcell⟩ := hc 0 hp
  have hk' : some b = some k := hk
  injection hk' with hk'
  subst hk'
  exact World.block_lt_of_cell? w _ hcell

end Go.Proofs.Ytfdnhamkkcmnfaa
