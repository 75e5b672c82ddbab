/- Appending a slice of int64 to a row of the call's own; cuts of a slice. -/
import Derived.Test.YtfdnhamkkcmnfaaIntsA
import Derived.Maps.AppendAt
import Derived.Deep.AppendLies
import Derived.RegionTactic
import Derived.OwnWalk
set_option linter.unusedSimpArgs false
set_option linter.unusedVariables false
namespace Go.Proofs.Ytfdnhamkkcmnfaa
open Go.RowKit

theorem addr_add (b o i : Nat) : (⟨b, o, none⟩ : Addr).add i = ⟨b, o + i, none⟩ := by
  unfold Addr.add
  by_cases h : i = 0 <;> simp [h]
/-- The cells that a slice reads, as a list. -/
theorem RdI.cells {w : World} {ad : Addr} {n c : Nat} {xs : List Int} (h : RdI w (.slice (some ad) n c) xs) : ∀ j u, (xs.map (Value.int .i64))[j]? = some u → w.cell? (ad.add j) = some u := by
  intro j u hu
  obtain ⟨a, c', e, hc⟩ := h
  injection e with e1 e2 e3
  subst e1
  have hj : j < xs.length := by
    rcases Nat.lt_or_ge j xs.length with h | h
    · exact h
    · rw [List.getElem?_eq_none (by simp; omega)] at hu; cases hu
  obtain ⟨b, o, e, hcell⟩ := hc j hj
  injection e with e
  subst e
  rw [addr_add, hcell]
  simp [hj] at hu
  rw [← hu]
  simp [List.getD_eq_getElem?_getD, hj]
theorem RdI.at {w : World} {a : Option Addr} {n c : Nat} {xs : List Int} (h : RdI w (.slice a n c) xs) : ∀ i, i < xs.length → ∃ b o, a = some ⟨b, o, none⟩ ∧ w.cell? ⟨b, o + i, none⟩ = some (.int .i64 (xs.getD i 0)) := by
  obtain ⟨a', c', e, h2⟩ := h
  injection e with e1 e2 e3
  subst e1
  exact h2
theorem RdI.cut {w : World} {a : Option Addr} {n c : Nat} {xs : List Int} (h : RdI w (.slice a n c) xs) (i j : Nat) (hij : i ≤ j) (hj : j ≤ xs.length) (hc : xs.length ≤ c) : RdI w (sliced a i j c 1) ((xs.take j).drop i) := by
  have hl : ((xs.take j).drop i).length = j - i := by rw [List.length_drop, List.length_take]; omega
  refine ⟨_, _, by unfold sliced; rw [hl], fun k hk => ?_⟩
  rw [hl] at hk
  obtain ⟨b, o, rfl, hcell⟩ := h.at (i + k) (by omega)
  rw [if_neg (by omega)]
  refine ⟨b, o + i, by simp [addr_add], ?_⟩
  rw [Nat.add_assoc, hcell]
  simp only [List.getD_eq_getElem?_getD, List.getElem?_drop, List.getElem?_take]
  rw [if_pos (by omega)]
theorem OwI.cap {w : World} {base : Nat} {a : Option Addr} {n c : Nat} {xs : List Int} (h : OwI w base (.slice a n c) xs) : xs.length ≤ c ∧ n = xs.length ∧ c ≤ maxLen := by
  unfold OwI at h
  rcases h.2 with ⟨hv, h0⟩ | ⟨g, cap, cur, hv, hg, hh, hnc, hcm, _⟩
  · injection hv with h1 h2 h3
    subst h2 h3
    exact ⟨by omega, h0.symm, by unfold maxLen; omega⟩
  · injection hv with h1 h2 h3
    subst h2 h3
    exact ⟨hnc, rfl, hcm⟩
/-- append(v, u...), v the call's own, u any slice that reads as ys. -/
theorem run_appI (w : World) (base : Nat) (ty : TypeId) (v u : Value) (xs ys : List Int) (ho : OwI w base v xs) (hr : RdI w u ys) (hn : xs.length + ys.length ≤ 4194304) (hb : base ≤ w.heap.size) :
    ∃ v' w', (Builtin.append_ #[22, 22] ty #[v, u]).run Try.prog w = .ok v' w' ∧ OwI w' base v' (xs ++ ys) ∧ w.grownBy w' v.ownBlock := by
  obtain ⟨i0, hi, hz0, hz1, hz2⟩ := info_parts Try.infoI64
  obtain ⟨a, c, rfl, hc⟩ := hr
  rcases a with _ | ad
  · have hy : ys = [] := by
      rcases ys with _ | ⟨y, ys⟩
      · rfl
      · obtain ⟨b, o, e, _⟩ := hc 0 (by simp)
        cases e
    subst hy
    refine ⟨v, w, ?_, by rw [List.append_nil]; exact ho, ⟨rfl, rfl, rfl, Nat.le_refl _, fun _ _ _ => rfl⟩⟩
    rcases ho.2 with ⟨rfl, h0⟩ | ⟨g, cap, cur, rfl, _, _, hnc, _⟩
    · simp [Builtin.append_, run_underlying Try.underlying22, sizeOf, typeInfo, hi, Builtin.lenOf, Builtin.firstCells]
    · simp [Builtin.append_, run_underlying Try.underlying22, sizeOf, typeInfo, hi, Builtin.lenOf, Builtin.firstCells, hnc, storeCells]
  · have hcell := RdI.cells (c := c) (n := ys.length) ⟨_, _, rfl, hc⟩
    obtain ⟨v', w', hrun, h2, h3, _, _⟩ := run_append_own_at (P := Try.prog) w base 22 ty 2 i0 (.int .i64 0) 1 8 Try.underlying22 hi hz0 hz1 hz2 rfl (by decide) v xs.length (xs.map (Value.int .i64)) ho ad ys.length c (ys.map (Value.int .i64)) (by simp) hcell
      (by intro u hu; rw [List.mem_map] at hu; obtain ⟨z, _, rfl⟩ := hu; rfl) (by unfold maxLen; omega) (by omega) hb
    refine ⟨v', w', hrun, ?_, h3⟩
    unfold OwI
    rw [List.length_append, List.map_append]
    exact h2
theorem wp_appI (w : World) {o : Oper} {a : Act} {K : Act → World → Prop} {Q : Exit → Act → World → Prop} (s x : Operand)
    (ho : o.op = .call { callee := .builtin .append, args := #[s, x], argTypes := #[22, 22] })
    (base : Nat) (v u : Value) (xs ys : List Int) (hs : a.eval s = v) (hx : a.eval x = u) (hv : OwI w base v xs) (hr : RdI w u ys) (hn : xs.length + ys.length ≤ 4194304) (hb : base ≤ w.heap.size)
    (h : ∀ v' w', OwI w' base v' (xs ++ ys) → w.grownBy w' v.ownBlock → K (a.put o.dst v') w') : o.wp Try.prog a w K Q := by
  obtain ⟨v', w', hrun, h2, h3⟩ := run_appI w base o.type v u xs ys hv hr hn hb
  unfold Oper.wp execOp
  simp only [ho, resolve, invoke, builtin, Sem.run_bind, Sem.run_pure, Result.andThen_ok, List.map_toArray, List.map_cons, List.map_nil, hs, hx, hrun]
  exact h v' w' h2 h3
theorem wpList_appI (w : World) {ops : Array Oper} {rest : List Oper} {o : Oper} {a : Act} {Q : Exit → Act → World → Prop} (hgd : o.guard = none) (s x : Operand)
    (ho : o.op = .call { callee := .builtin .append, args := #[s, x], argTypes := #[22, 22] })
    (base : Nat) (v u : Value) (xs ys : List Int) (hs : a.eval s = v) (hx : a.eval x = u) (hv : OwI w base v xs) (hr : RdI w u ys) (hn : xs.length + ys.length ≤ 4194304) (hb : base ≤ w.heap.size)
    (h : ∀ v' w', OwI w' base v' (xs ++ ys) → w.grownBy w' v.ownBlock → wpList Try.prog ops Q rest (a.put o.dst v') w') : wpList Try.prog ops Q (o :: rest) a w :=
  wpList_plain hgd fun _ hK => wp_appI w s x ho base v u xs ys hs hx hv hr hn hb fun v' w' h2 h3 => hK _ _ (h v' w' h2 h3)
theorem step_appI (w : World) {ops : Array Oper} {o : Oper} {a : Act} {K : Act → World → Prop} {Q : Exit → Act → World → Prop} {E : Prop} (hgd : o.guard = none) (s x : Operand)
    (ho : o.op = .call { callee := .builtin .append, args := #[s, x], argTypes := #[22, 22] })
    (base : Nat) (v u : Value) (xs ys : List Int) (hs : a.eval s = v) (hx : a.eval x = u) (hv : OwI w base v xs) (hr : RdI w u ys) (hn : xs.length + ys.length ≤ 4194304) (hb : base ≤ w.heap.size)
    (h : ∀ v' w', OwI w' base v' (xs ++ ys) → w.grownBy w' v.ownBlock → K (a.put o.dst v') w') :
    if Region.wanted o (yielded ops a.tmps) = true then Oper.wp Try.prog o a w K Q else E := by
  have hw : Region.wanted o (yielded ops a.tmps) = true := by simp [Region.wanted, hgd]
  rw [if_pos hw]
  exact wp_appI w s x ho base v u xs ys hs hx hv hr hn hb h
theorem RdI.one (w : World) (x : Int) : RdI (w.alloc (.cells #[.int .i64 x] 2)) (.slice (some ⟨w.heap.size, 0, none⟩) 1 1) [x] := by
  refine ⟨_, _, rfl, fun i hi => ⟨w.heap.size, 0, rfl, ?_⟩⟩
  simp at hi
  subst hi
  have := cell_one_new w (.int .i64 x) 2 0 _ rfl
  rw [addr_add] at this
  simp [this]
/-- What a row of the call's own is after an append, and that nothing older has turned. -/
theorem OwI.grown {B : Nat} {w wr w1 : World} {v : Value} {xs : List Int} (hown : OwI wr B v xs) (hbw : Below B w wr) (hB : B ≤ wr.heap.size) (hgrow : wr.grownBy w1 v.ownBlock) : Below B w w1 :=
  hbw.grown hgrow hB (fun k hk => (World.ownsRow.lt hown k hk).1)
theorem OwI.cell {w : World} {base g n c : Nat} {xs : List Int} (h : OwI w base (.slice (some ⟨g, 0, none⟩) n c) xs) {k : Nat} (hk : k < xs.length) : w.cell? ⟨g, k, none⟩ = some (.int .i64 (xs.getD k 0)) := by
  obtain ⟨b, o, e, hc⟩ := h.rd.at k hk
  simp only [Option.some.injEq, Addr.mk.injEq] at e
  obtain ⟨rfl, rfl, -⟩ := e
  rw [Nat.zero_add] at hc
  exact hc
theorem OwI.free {w : World} {base g n c : Nat} {xs : List Int} (h : OwI w base (.slice (some ⟨g, 0, none⟩) n c) xs) (k : Nat) : w.frozen? ⟨g, k, none⟩ = false := by
  have hl := (OwI.cap h).2.1
  subst hl
  exact World.ownsRow.frozenAt h k
theorem OwI.set {w : World} {base g n c : Nat} {xs : List Int} (h : OwI w base (.slice (some ⟨g, 0, none⟩) n c) xs) (k : Nat) (x : Int) : OwI (w.setCell ⟨g, k, none⟩ (.int .i64 x)) base (.slice (some ⟨g, 0, none⟩) n c) (xs.set k x) := by
  have hl := (OwI.cap h).2.1
  subst hl
  have := (World.ownsRow.stored h k (.int .i64 x)).1
  unfold OwI
  rw [List.length_set, List.map_set]
  exact this
theorem OwI.drewN {w : World} {base : Nat} {v : Value} {xs : List Int} (h : OwI w base v xs) (n : Nat) : OwI (w.drewN n) base v xs := h
theorem OwI.alloc {w : World} {base : Nat} {v : Value} {xs : List Int} (h : OwI w base v xs) (o : Obj) : OwI (w.alloc o) base v xs := World.ownsRow.alloc h o
theorem RdI.alloc {w : World} {v : Value} {xs : List Int} (h : RdI w v xs) (o : Obj) : RdI (w.alloc o) v xs := h.below ((Below.refl _ _).alloc (Nat.le_refl _) o)
theorem RdI.drewN {w : World} {v : Value} {xs : List Int} (h : RdI w v xs) (n : Nat) : RdI (w.drewN n) v xs := h
theorem OwI.drew {w : World} {base : Nat} {v : Value} {xs : List Int} (h : OwI w base v xs) : OwI w.drew base v xs := h
theorem RdI.drew {w : World} {v : Value} {xs : List Int} (h : RdI w v xs) : RdI w.drew v xs := h
theorem blw_ofDrew {B : Nat} {w w' : World} (h : Below B w.drew w') : Below B w w' := ⟨h.os, h.tape, h.output, h.size, h.block⟩
theorem blw_ofAlloc {B : Nat} {w w' : World} {o : Obj} (hB : B ≤ w.heap.size) (h : Below B (w.alloc o) w') : Below B w w' := ((Below.refl B w).alloc hB o).trans h
theorem RdI.head {w : World} {a : Option Addr} {n c : Nat} {xs : List Int} (h : RdI w (.slice a n c) xs) {p : Nat} (hp : p ≤ xs.length) : RdI w (.slice a p c) (xs.take p) := by
  have hl : (xs.take p).length = p := by rw [List.length_take]; omega
  refine ⟨a, c, by rw [hl], fun k hk => ?_⟩
  rw [hl] at hk
  obtain ⟨b, o, e, hc⟩ := h.at k (by omega)
  refine ⟨b, o, e, ?_⟩
  rw [hc]
  simp only [List.getD_eq_getElem?_getD, List.getElem?_take]
  rw [if_pos hk]
theorem RdI.tail {w : World} {g n c : Nat} {xs : List Int} (h : RdI w (.slice (some ⟨g, 0, none⟩) n c) xs) (hn : n = xs.length) (hc : n ≤ c) {p : Nat} (hp : p ≤ xs.length) : RdI w (.slice (if c = p then some ⟨g, 0, none⟩ else some ⟨g, p, none⟩) (n - p) (c - p)) (xs.drop p) := by
  subst hn
  have := h.cut p xs.length hp (Nat.le_refl _) hc
  rw [List.take_length] at this
  unfold sliced at this
  simpa [addr_add] using this
theorem RdI.tail' {w : World} {g n c : Nat} {xs : List Int} (h : RdI w (.slice (some ⟨g, 0, none⟩) n c) xs) (hn : n = xs.length) (hc : n ≤ c) {p : Nat} (hp : p < xs.length) : RdI w (.slice (some ⟨g, p, none⟩) (n - p) (c - p)) (xs.drop p) := by
  have := h.tail hn hc (p := p) (by omega)
  rw [if_neg (by omega)] at this
  exact this

end Go.Proofs.Ytfdnhamkkcmnfaa
