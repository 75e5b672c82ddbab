/- Appending a slice of Rid to a row of the call's own. -/
import Derived.Test.YthfpikpknojffaaRidA
import Derived.Maps.AppendAt
import Derived.Deep.AppendLies
import Derived.RegionTactic
import Derived.OwnWalk
set_option linter.unusedSimpArgs false
set_option linter.unusedVariables false
namespace Go.Proofs.Ythfpikpknojffaa
open Go.RowKit

theorem addr_addRid (b o i : Nat) : (⟨b, o, none⟩ : Addr).add i = ⟨b, o + i, none⟩ := by
  unfold Addr.add
  by_cases h : i = 0 <;> simp [h]
theorem RdRid.cells {w : World} {ad : Addr} {n c : Nat} {rs : List (Int × Int × Bool)} (h : RdRid w (.slice (some ad) n c) rs) : ∀ j u, (rs.flatMap cellsRid)[j]? = some u → w.cell? (ad.add j) = some u := by
  intro j u hu
  have hj : j < rs.length * 3 := by
    rcases Nat.lt_or_ge j (rs.length * 3) with h | h
    · exact h
    · rw [List.getElem?_eq_none (by rw [flatRid_len]; omega)] at hu; cases hu
  obtain ⟨i, k, hk, rfl⟩ : ∃ i k, k < 3 ∧ j = i * 3 + k := ⟨j / 3, j % 3, Nat.mod_lt _ (by omega), by omega⟩
  have hi : i < rs.length := by omega
  obtain ⟨b, o, e, h0, h1, h2⟩ := h.at i hi
  injection e with e
  subst e
  obtain ⟨g0, g1, g2⟩ := flatRid_get rs i hi
  obtain rfl | rfl | rfl : k = 0 ∨ k = 1 ∨ k = 2 := by omega
  · simp only [Nat.add_zero] at hu ⊢
    rw [g0] at hu
    injection hu with hu
    subst hu
    rw [addr_addRid]
    exact h0
  · rw [g1] at hu
    injection hu with hu
    subst hu
    rw [addr_addRid, ← Nat.add_assoc]
    exact h1
  · rw [g2] at hu
    injection hu with hu
    subst hu
    rw [addr_addRid, ← Nat.add_assoc]
    exact h2
theorem oneRid (rs : List (Int × Int × Bool)) : ∀ u ∈ rs.flatMap cellsRid, u.oneCell' = true := by
  intro u hu
  rw [List.mem_flatMap] at hu
  obtain ⟨r, _, hr⟩ := hu
  simp only [cellsRid, List.mem_cons, List.not_mem_nil, or_false] at hr
  rcases hr with rfl | rfl | rfl <;> rfl
theorem OwRid.drew {w : World} {base : Nat} {v : Value} {rs : List (Int × Int × Bool)} (h : OwRid w base v rs) : OwRid w.drew base v rs := h
theorem RdRid.drew {w : World} {v : Value} {rs : List (Int × Int × Bool)} (h : RdRid w v rs) : RdRid w.drew v rs := h
theorem OwRid.alloc {w : World} {base : Nat} {v : Value} {rs : List (Int × Int × Bool)} (h : OwRid w base v rs) (o : Obj) : OwRid (w.alloc o) base v rs := World.ownsRow.alloc h o
theorem RdRid.alloc {w : World} {v : Value} {rs : List (Int × Int × Bool)} (h : RdRid w v rs) (o : Obj) : RdRid (w.alloc o) v rs := h.below ((Below.refl _ _).alloc (Nat.le_refl _) o)
theorem OwRid.mono {w : World} {base base' : Nat} {v : Value} {rs : List (Int × Int × Bool)} (h : OwRid w base v rs) (hb : base' ≤ base) : OwRid w base' v rs := Joins.ownsRow_le h hb
theorem OwRid.farLt {w w' : World} {base : Nat} {v : Value} {rs : List (Int × Int × Bool)} {row : Option Nat} (h : OwRid w base v rs) (hg : w.grownBy w' row) (hr : ∀ q, row = some q → q < base) : OwRid w' base v rs := by
  refine World.ownsRow.kept h hg ?_
  cases hv : v.ownBlock with
  | none => exact Or.inl rfl
  | some k =>
    refine Or.inr (fun e => ?_)
    have h1 := (World.ownsRow.lt h k hv).1
    have h2 := hr k e.symm
    omega
theorem OwRid.lit0 (w : World) {base N : Nat} (hN : w.heap.size = N) (hb : base ≤ N) : OwRid (w.alloc (.cells #[] 35)) base (.slice (some ⟨N, 0, none⟩) 0 0) [] := by
  subst hN
  exact World.ownsRow_lit _ _ _ hb (by unfold maxLen; omega) rfl
theorem RdRid.far {w w' : World} {g o : Nat} {n c : Nat} {rs : List (Int × Int × Bool)} {row : Option Nat} (h : RdRid w (.slice (some ⟨g, o, none⟩) n c) rs) (hg : w.grownBy w' row) (hne : row ≠ some g) : RdRid w' (.slice (some ⟨g, o, none⟩) n c) rs := by
  obtain ⟨a, c', e, hc⟩ := h
  injection e with e1 e2 e3
  subst e1 e2
  refine ⟨_, _, rfl, fun i hi => ?_⟩
  obtain ⟨b, q, e, h0, h1, h2⟩ := hc i hi
  simp only [Option.some.injEq, Addr.mk.injEq] at e
  obtain ⟨rfl, rfl, -⟩ := e
  exact ⟨_, _, rfl, hg.cell h0 (fun e => hne e.symm), hg.cell h1 (fun e => hne e.symm), hg.cell h2 (fun e => hne e.symm)⟩
theorem RdRid.one (w : World) (x : Int × Int × Bool) {N : Nat} (hN : w.heap.size = N) : RdRid (w.alloc (.cells #[.int .i64 x.1, .int .i64 x.2.1, .bool x.2.2] 35)) (.slice (some ⟨N, 0, none⟩) 1 1) [x] := by
  subst hN
  refine ⟨_, _, rfl, fun i hi => ⟨w.heap.size, 0, rfl, ?_⟩⟩
  simp at hi
  subst hi
  have hb : (w.alloc (.cells #[.int .i64 x.1, .int .i64 x.2.1, .bool x.2.2] 35)).heap[w.heap.size]? = some (.cells #[.int .i64 x.1, .int .i64 x.2.1, .bool x.2.2] 35 (0, 0)) := heap_alloc_new w _
  have h := World.news_of_block hb
  have e : ∀ j, (⟨w.heap.size, 0, none⟩ : Addr).add j = ⟨w.heap.size, j, none⟩ := fun j => by rw [addr_addRid, Nat.zero_add]
  simp only [e] at h
  simp only [Nat.zero_add, Nat.zero_mul, List.getD_cons_zero]
  exact ⟨h 0 _ rfl, h 1 _ rfl, h 2 _ rfl⟩
theorem OwRid.grown {B : Nat} {w wr w1 : World} {v : Value} {rs : List (Int × Int × Bool)} (hown : OwRid wr B v rs) (hbw : Below B w wr) (hB : B ≤ wr.heap.size) (hgrow : wr.grownBy w1 v.ownBlock) : Below B w w1 :=
  hbw.grown hgrow hB (fun k hk => (World.ownsRow.lt hown k hk).1)
theorem run_appRid (w : World) (base : Nat) (ty : TypeId) (v u : Value) (xs ys : List (Int × Int × Bool)) (ho : OwRid w base v xs) (hr : RdRid w u ys) (hn : xs.length + ys.length ≤ 4194304) (hb : base ≤ w.heap.size) :
    ∃ v' w', (Builtin.append_ #[25, 25] ty #[v, u]).run Try.prog w = .ok v' w' ∧ OwRid w' base v' (xs ++ ys) ∧ w.grownBy w' v.ownBlock := by
  obtain ⟨i0, hi, hz0, hz1, hz2⟩ := info_parts Try.infoRid
  obtain ⟨a, c, rfl, hc⟩ := hr
  rcases a with _ | ad
  · have hy : ys = [] := by
      rcases ys with _ | ⟨y, ys⟩
      · rfl
      · obtain ⟨b, o, e, _⟩ := hc 0 (by simp)
        cases e
    subst hy
    refine ⟨v, w, ?_, by rw [List.append_nil]; exact ho, ⟨rfl, rfl, rfl, Nat.le_refl _, fun _ _ _ => rfl⟩⟩
    rcases ho.2 with ⟨rfl, h0⟩ | ⟨g, cap, cur, rfl, _, _, hnc, _⟩
    · simp [Builtin.append_, run_underlying Try.underlying25, sizeOf, typeInfo, hi, Builtin.lenOf, Builtin.firstCells]
    · simp [Builtin.append_, run_underlying Try.underlying25, sizeOf, typeInfo, hi, Builtin.lenOf, Builtin.firstCells, hnc, storeCells]
  · have hcell := RdRid.cells (c := c) (n := ys.length) ⟨_, _, rfl, hc⟩
    obtain ⟨v', w', hrun, h2, h3, _, _⟩ := run_append_own_at (P := Try.prog) w base 25 ty 35 i0 _ 3 24 Try.underlying25 hi hz0 hz1 hz2 rfl (by decide) v xs.length (xs.flatMap cellsRid) ho ad ys.length c (ys.flatMap cellsRid) (flatRid_len ys) hcell
      (oneRid ys) (by unfold maxLen; omega) (by omega) hb
    refine ⟨v', w', hrun, ?_, h3⟩
    unfold OwRid
    rw [List.length_append, List.flatMap_append]
    exact h2
theorem wp_appRid (w : World) {o : Oper} {a : Act} {K : Act → World → Prop} {Q : Exit → Act → World → Prop} (s x : Operand)
    (ho : o.op = .call { callee := .builtin .append, args := #[s, x], argTypes := #[25, 25] })
    (base : Nat) (v u : Value) (xs ys : List (Int × Int × Bool)) (hs : a.eval s = v) (hx : a.eval x = u) (hv : OwRid w base v xs) (hr : RdRid w u ys) (hn : xs.length + ys.length ≤ 4194304) (hb : base ≤ w.heap.size)
    (h : ∀ v' w', OwRid w' base v' (xs ++ ys) → w.grownBy w' v.ownBlock → K (a.put o.dst v') w') : o.wp Try.prog a w K Q := by
  obtain ⟨v', w', hrun, h2, h3⟩ := run_appRid w base o.type v u xs ys hv hr hn hb
  unfold Oper.wp execOp
  simp only [ho, resolve, invoke, builtin, Sem.run_bind, Sem.run_pure, Result.andThen_ok, List.map_toArray, List.map_cons, List.map_nil, hs, hx, hrun]
  exact h v' w' h2 h3
theorem wpList_appRid (w : World) {ops : Array Oper} {rest : List Oper} {o : Oper} {a : Act} {Q : Exit → Act → World → Prop} (hgd : o.guard = none) (s x : Operand)
    (ho : o.op = .call { callee := .builtin .append, args := #[s, x], argTypes := #[25, 25] })
    (base : Nat) (v u : Value) (xs ys : List (Int × Int × Bool)) (hs : a.eval s = v) (hx : a.eval x = u) (hv : OwRid w base v xs) (hr : RdRid w u ys) (hn : xs.length + ys.length ≤ 4194304) (hb : base ≤ w.heap.size)
    (h : ∀ v' w', OwRid w' base v' (xs ++ ys) → w.grownBy w' v.ownBlock → wpList Try.prog ops Q rest (a.put o.dst v') w') : wpList Try.prog ops Q (o :: rest) a w :=
  wpList_plain hgd fun _ hK => wp_appRid w s x ho base v u xs ys hs hx hv hr hn hb fun v' w' h2 h3 => hK _ _ (h v' w' h2 h3)
theorem step_appRid (w : World) {ops : Array Oper} {o : Oper} {a : Act} {K : Act → World → Prop} {Q : Exit → Act → World → Prop} {E : Prop} (hgd : o.guard = none) (s x : Operand)
    (ho : o.op = .call { callee := .builtin .append, args := #[s, x], argTypes := #[25, 25] })
    (base : Nat) (v u : Value) (xs ys : List (Int × Int × Bool)) (hs : a.eval s = v) (hx : a.eval x = u) (hv : OwRid w base v xs) (hr : RdRid w u ys) (hn : xs.length + ys.length ≤ 4194304) (hb : base ≤ w.heap.size)
    (h : ∀ v' w', OwRid w' base v' (xs ++ ys) → w.grownBy w' v.ownBlock → K (a.put o.dst v') w') :
    if Region.wanted o (yielded ops a.tmps) = true then Oper.wp Try.prog o a w K Q else E := by
  have hw : Region.wanted o (yielded ops a.tmps) = true := by simp [Region.wanted, hgd]
  rw [if_pos hw]
  exact wp_appRid w s x ho base v u xs ys hs hx hv hr hn hb h

end Go.Proofs.Ythfpikpknojffaa
