/- What a slice of slices reads as and owns; appends to one of the call's own, and cuts. -/
import Derived.Test.YtfdnhamkkcmnfaaIntsC
import Derived.Laws.CopyOwn
import Derived.Laws.CopyRow
import Derived.Laws.IdiomCopy
set_option linter.unusedSimpArgs false
set_option linter.unusedVariables false
namespace Go.Proofs.Ytfdnhamkkcmnfaa
open Go.RowKit

theorem Try.infoSL : (Try.prog.info? 22).map (fun i => (i.zero, i.size, i.bytes)) = some (some (.slice none 0 0), 1, 24) := by kernel_rfl
/-- v is a slice of the values us. -/
def RdV (w : World) (v : Value) (us : List Value) : Prop :=
  ∃ a c, v = .slice a us.length c ∧ ∀ i u, us[i]? = some u → ∃ b o, a = some ⟨b, o, none⟩ ∧ w.cell? ⟨b, o + i, none⟩ = some u
/-- v owns the values us among the blocks from base on. -/
def OwV (w : World) (base : Nat) (v : Value) (us : List Value) : Prop := w.ownsRow base 22 1 v us.length us
theorem getV_lt {us : List Value} {j : Nat} {u : Value} (h : us[j]? = some u) : j < us.length := by
  rcases Nat.lt_or_ge j us.length with h1 | h1
  · exact h1
  · rw [List.getElem?_eq_none h1] at h; cases h
theorem getV_ex {us : List Value} {j : Nat} (h : j < us.length) : ∃ u, us[j]? = some u := ⟨_, List.getElem?_eq_getElem h⟩
theorem RdV.at {w : World} {a : Option Addr} {n c : Nat} {us : List Value} (h : RdV w (.slice a n c) us) : ∀ i u, us[i]? = some u → ∃ b o, a = some ⟨b, o, none⟩ ∧ w.cell? ⟨b, o + i, none⟩ = some u := by
  obtain ⟨a', c', e, h2⟩ := h
  injection e with e1 e2 e3
  subst e1
  exact h2
theorem RdV.below {w w' : World} {v : Value} {us : List Value} (h : RdV w v us) (hb : Below w.heap.size w w') : RdV w' v us := by
  obtain ⟨a, c, rfl, hc⟩ := h
  refine ⟨a, c, rfl, fun i u hu => ?_⟩
  obtain ⟨b, o, ha, hcell⟩ := hc i u hu
  exact ⟨b, o, ha, (hb.cell (p := ⟨b, o + i, none⟩) (World.block_lt_of_cell? w _ hcell)).trans hcell⟩
theorem RdV.shape {w : World} {v : Value} {us : List Value} (h : RdV w v us) : ∃ a c, v = .slice a us.length c ∧ RdV w v us := by
  obtain ⟨a, c, h1, h2⟩ := h
  exact ⟨a, c, h1, a, c, h1, h2⟩
theorem RdV.far {w w' : World} {v : Value} {us : List Value} {row : Option Nat} (h : RdV w v us) (hg : w.grownBy w' row) (hne : ∀ k, v.ownBlock = some k → row ≠ some k) : RdV w' v us := by
  obtain ⟨a, c, rfl, hc⟩ := h
  refine ⟨a, c, rfl, fun i u hu => ?_⟩
  obtain ⟨b, o, rfl, hcell⟩ := hc i u hu
  exact ⟨b, o, rfl, hg.cell hcell (fun e => hne b rfl e.symm)⟩
theorem RdV.farG {w w' : World} {g o n c : Nat} {us : List Value} {row : Option Nat} (h : RdV w (.slice (some ⟨g, o, none⟩) n c) us) (hg : w.grownBy w' row) (hne : row ≠ some g) : RdV w' (.slice (some ⟨g, o, none⟩) n c) us :=
  RdV.far h hg (fun k hk e => by
    have hk' : some g = some k := hk
    rw [e, hk'] at hne
    exact hne rfl)
theorem RdV.nil {w : World} {c : Nat} (a : Option Addr) : RdV w (.slice a 0 c) [] := ⟨a, c, rfl, fun i u hu => by simp at hu⟩
theorem RdV.cells {w : World} {ad : Addr} {n c : Nat} {us : List Value} (h : RdV w (.slice (some ad) n c) us) : ∀ j u, us[j]? = some u → w.cell? (ad.add j) = some u := by
  intro j u hu
  obtain ⟨b, o, e, hcell⟩ := h.at j u hu
  injection e with e
  subst e
  rw [addr_add, hcell]
theorem RdV.cut {w : World} {a : Option Addr} {n c : Nat} {us : List Value} (h : RdV w (.slice a n c) us) (i j : Nat) (hij : i ≤ j) (hj : j ≤ us.length) (hc : us.length ≤ c) : RdV w (sliced a i j c 1) ((us.take j).drop i) := by
  have hl : ((us.take j).drop i).length = j - i := by rw [List.length_drop, List.length_take]; omega
  refine ⟨_, _, by unfold sliced; rw [hl], fun k u hu => ?_⟩
  have hk := getV_lt hu
  rw [hl] at hk
  rw [List.getElem?_drop, List.getElem?_take, if_pos (by omega)] at hu
  obtain ⟨b, o, rfl, hcell⟩ := h.at (i + k) u hu
  rw [if_neg (by omega)]
  exact ⟨b, o + i, by simp [addr_add], by rw [Nat.add_assoc, hcell]⟩
theorem RdV.head {w : World} {a : Option Addr} {n c : Nat} {us : List Value} (h : RdV w (.slice a n c) us) {p : Nat} (hp : p ≤ us.length) : RdV w (.slice a p c) (us.take p) := by
  have hl : (us.take p).length = p := by rw [List.length_take]; omega
  refine ⟨a, c, by rw [hl], fun k u hu => ?_⟩
  have hk := getV_lt hu
  rw [hl] at hk
  rw [List.getElem?_take, if_pos hk] at hu
  exact h.at k u hu
theorem RdV.tail {w : World} {g n c : Nat} {us : List Value} (h : RdV w (.slice (some ⟨g, 0, none⟩) n c) us) (hn : n = us.length) (hc : n ≤ c) {p : Nat} (hp : p ≤ us.length) : RdV w (.slice (if c = p then some ⟨g, 0, none⟩ else some ⟨g, p, none⟩) (n - p) (c - p)) (us.drop p) := by
  subst hn
  have := h.cut p us.length hp (Nat.le_refl _) hc
  rw [List.take_length] at this
  unfold sliced at this
  simpa [addr_add] using this
theorem RdV.tail' {w : World} {g n c : Nat} {us : List Value} (h : RdV w (.slice (some ⟨g, 0, none⟩) n c) us) (hn : n = us.length) (hc : n ≤ c) {p : Nat} (hp : p < us.length) : RdV w (.slice (some ⟨g, p, none⟩) (n - p) (c - p)) (us.drop p) := by
  have := h.tail hn hc (p := p) (by omega)
  rw [if_neg (by omega)] at this
  exact this
theorem RdV.oneN (w : World) (u : Value) {N : Nat} (hN : w.heap.size = N) : RdV (w.alloc (.cells #[u] 22)) (.slice (some ⟨N, 0, none⟩) 1 1) [u] := by
  subst hN
  refine ⟨_, _, rfl, fun i v hv => ⟨w.heap.size, 0, rfl, ?_⟩⟩
  have := cell_one_new w u 22 i v hv
  rw [addr_add] at this
  exact this
theorem RdV.alloc {w : World} {v : Value} {us : List Value} (h : RdV w v us) (o : Obj) : RdV (w.alloc o) v us := h.below ((Below.refl _ _).alloc (Nat.le_refl _) o)
theorem RdV.drewN {w : World} {v : Value} {us : List Value} (h : RdV w v us) (n : Nat) : RdV (w.drewN n) v us := h
theorem RdV.drew {w : World} {v : Value} {us : List Value} (h : RdV w v us) : RdV w.drew v us := h
theorem OwV.nil (w : World) (base : Nat) : OwV w base (.slice none 0 0) [] := World.ownsRow_nil _ _ _ _
theorem OwV.lit0N (w : World) {base N : Nat} (hN : w.heap.size = N) (hb : base ≤ N) : OwV (w.alloc (.cells #[] 22)) base (.slice (some ⟨N, 0, none⟩) 0 0) [] := by
  subst hN
  exact World.ownsRow_lit _ _ _ hb (by unfold maxLen; omega) rfl
theorem OwV.form {w : World} {base : Nat} {v : Value} {us : List Value} (h : OwV w base v us) : (v = .slice none 0 0 ∧ us = []) ∨ ∃ g cap, v = .slice (some ⟨g, 0, none⟩) us.length cap ∧ base ≤ g ∧ g < w.heap.size := by
  have h' := h
  unfold OwV at h
  rcases h.2 with ⟨hv, h0⟩ | ⟨g, cap, cur, hv, hg, hh, _⟩
  · exact Or.inl ⟨hv, List.length_eq_zero_iff.1 h0⟩
  · exact Or.inr ⟨g, cap, hv, hg, by
      rcases Nat.lt_or_ge g w.heap.size with h1 | h1
      · exact h1
      · rw [Array.getElem?_eq_none h1] at hh; cases hh⟩
theorem OwV.rd {w : World} {base : Nat} {v : Value} {us : List Value} (h : OwV w base v us) : RdV w v us := by
  rcases h.form with ⟨rfl, rfl⟩ | ⟨g, cap, rfl, hg, hlt⟩
  · exact RdV.nil _
  · refine ⟨_, cap, rfl, fun i u hu => ⟨g, 0, rfl, ?_⟩⟩
    have := World.ownsRow.cellAt h i (by have := getV_lt hu; omega)
    rw [Nat.zero_add, this, hu]
theorem OwV.cap {w : World} {base : Nat} {a : Option Addr} {n c : Nat} {us : List Value} (h : OwV w base (.slice a n c) us) : us.length ≤ c ∧ n = us.length ∧ c ≤ maxLen := by
  unfold OwV at h
  rcases h.2 with ⟨hv, h0⟩ | ⟨g, cap, cur, hv, hg, hh, hnc, hcm, _⟩
  · injection hv with h1 h2 h3
    subst h2 h3
    exact ⟨by omega, h0.symm, by unfold maxLen; omega⟩
  · injection hv with h1 h2 h3
    subst h2 h3
    exact ⟨hnc, rfl, hcm⟩
theorem OwV.below {w w' : World} {base : Nat} {v : Value} {us : List Value} (h : OwV w base v us) (hb : Below w.heap.size w w') : OwV w' base v us := by
  refine World.ownsRow.kept h (w' := w') (row := none) ⟨hb.os, hb.tape, hb.output, hb.size, fun k hk _ => hb.block k hk⟩ ?_
  cases hv : v.ownBlock with
  | none => exact Or.inl rfl
  | some k => exact Or.inr (by simp)
theorem OwV.far {w w' : World} {base : Nat} {v : Value} {us : List Value} {row : Option Nat} (h : OwV w base v us) (hg : w.grownBy w' row) (hne : ∀ k, v.ownBlock = some k → row ≠ some k) : OwV w' base v us := by
  refine World.ownsRow.kept h hg ?_
  cases hv : v.ownBlock with
  | none => exact Or.inl rfl
  | some k => exact Or.inr (fun e => hne k hv e.symm)
theorem OwV.mono {w : World} {base base' : Nat} {v : Value} {us : List Value} (h : OwV w base v us) (hb : base' ≤ base) : OwV w base' v us := Joins.ownsRow_le h hb
theorem OwV.cell {w : World} {base g n c : Nat} {us : List Value} (h : OwV w base (.slice (some ⟨g, 0, none⟩) n c) us) {k : Nat} {u : Value} (hk : us[k]? = some u) : w.cell? ⟨g, k, none⟩ = some u := by
  obtain ⟨b, o, e, hc⟩ := h.rd.at k u hk
  simp only [Option.some.injEq, Addr.mk.injEq] at e
  obtain ⟨rfl, rfl, -⟩ := e
  rw [Nat.zero_add] at hc
  exact hc
theorem OwV.free {w : World} {base g n c : Nat} {us : List Value} (h : OwV w base (.slice (some ⟨g, 0, none⟩) n c) us) (k : Nat) : w.frozen? ⟨g, k, none⟩ = false := by
  have hl := (OwV.cap h).2.1
  subst hl
  exact World.ownsRow.frozenAt h k
theorem OwV.set {w : World} {base g n c : Nat} {us : List Value} (h : OwV w base (.slice (some ⟨g, 0, none⟩) n c) us) (k : Nat) (u : Value) : OwV (w.setCell ⟨g, k, none⟩ u) base (.slice (some ⟨g, 0, none⟩) n c) (us.set k u) := by
  have hl := (OwV.cap h).2.1
  subst hl
  have := (World.ownsRow.stored h k u).1
  unfold OwV
  rw [List.length_set]
  exact this
theorem OwV.drewN {w : World} {base : Nat} {v : Value} {us : List Value} (h : OwV w base v us) (n : Nat) : OwV (w.drewN n) base v us := h
theorem OwV.drew {w : World} {base : Nat} {v : Value} {us : List Value} (h : OwV w base v us) : OwV w.drew base v us := h
theorem OwV.alloc {w : World} {base : Nat} {v : Value} {us : List Value} (h : OwV w base v us) (o : Obj) : OwV (w.alloc o) base v us := World.ownsRow.alloc h o
theorem OwV.grown {B : Nat} {w wr w1 : World} {v : Value} {us : List Value} (hown : OwV wr B v us) (hbw : Below B w wr) (hB : B ≤ wr.heap.size) (hgrow : wr.grownBy w1 v.ownBlock) : Below B w w1 :=
  hbw.grown hgrow hB (fun k hk => (World.ownsRow.lt hown k hk).1)
theorem run_appV (w : World) (base : Nat) (ty : TypeId) (v u : Value) (xs ys : List Value) (ho : OwV w base v xs) (hr : RdV w u ys) (h1 : ∀ z ∈ ys, z.oneCell' = true) (hn : xs.length + ys.length ≤ 4194304) (hb : base ≤ w.heap.size) :
    ∃ v' w', (Builtin.append_ #[48, 48] ty #[v, u]).run Try.prog w = .ok v' w' ∧ OwV w' base v' (xs ++ ys) ∧ w.grownBy w' v.ownBlock ∧ (v'.ownBlock = v.ownBlock ∨ v'.ownBlock = some w.heap.size) := by
  obtain ⟨i0, hi, hz0, hz1, hz2⟩ := info_parts Try.infoSL
  obtain ⟨a, c, rfl, hc⟩ := hr
  rcases a with _ | ad
  · have hy : ys = [] := by
      rcases ys with _ | ⟨y, ys⟩
      · rfl
      · obtain ⟨b, o, e, _⟩ := hc 0 y rfl
        cases e
    subst hy
    refine ⟨v, w, ?_, by rw [List.append_nil]; exact ho, ⟨rfl, rfl, rfl, Nat.le_refl _, fun _ _ _ => rfl⟩, Or.inl rfl⟩
    rcases ho.2 with ⟨rfl, h0⟩ | ⟨g, cap, cur, rfl, _, _, hnc, _⟩
    · simp [Builtin.append_, run_underlying Try.underlying48, sizeOf, typeInfo, hi, Builtin.lenOf, Builtin.firstCells]
    · simp [Builtin.append_, run_underlying Try.underlying48, sizeOf, typeInfo, hi, Builtin.lenOf, Builtin.firstCells, hnc, storeCells]
  · have hcell := RdV.cells (c := c) (n := ys.length) ⟨_, _, rfl, hc⟩
    obtain ⟨v', w', hrun, h2, h3, _, h5⟩ := run_append_own_at (P := Try.prog) w base 48 ty 22 i0 (.slice none 0 0) 1 24 Try.underlying48 hi hz0 hz1 hz2 rfl (by decide) v xs.length xs ho ad ys.length c ys (by simp) hcell
      h1 (by unfold maxLen; omega) (by omega) hb
    refine ⟨v', w', hrun, ?_, h3, h5⟩
    unfold OwV
    rw [List.length_append]
    exact h2
theorem wp_appV (w : World) {o : Oper} {a : Act} {K : Act → World → Prop} {Q : Exit → Act → World → Prop} (s x : Operand)
    (ho : o.op = .call { callee := .builtin .append, args := #[s, x], argTypes := #[48, 48] })
    (base : Nat) (v u : Value) (xs ys : List Value) (hs : a.eval s = v) (hx : a.eval x = u) (hv : OwV w base v xs) (hr : RdV w u ys) (h1 : ∀ z ∈ ys, z.oneCell' = true) (hn : xs.length + ys.length ≤ 4194304) (hb : base ≤ w.heap.size)
    (h : ∀ v' w', OwV w' base v' (xs ++ ys) → w.grownBy w' v.ownBlock → (v'.ownBlock = v.ownBlock ∨ v'.ownBlock = some w.heap.size) → K (a.put o.dst v') w') : o.wp Try.prog a w K Q := by
  obtain ⟨v', w', hrun, h2, h3, h4⟩ := run_appV w base o.type v u xs ys hv hr h1 hn hb
  unfold Oper.wp execOp
  simp only [ho, resolve, invoke, builtin, Sem.run_bind, Sem.run_pure, Result.andThen_ok, List.map_toArray, List.map_cons, List.map_nil, hs, hx, hrun]
  exact h v' w' h2 h3 h4
theorem wpList_appV (w : World) {ops : Array Oper} {rest : List Oper} {o : Oper} {a : Act} {Q : Exit → Act → World → Prop} (hgd : o.guard = none) (s x : Operand)
    (ho : o.op = .call { callee := .builtin .append, args := #[s, x], argTypes := #[48, 48] })
    (base : Nat) (v u : Value) (xs ys : List Value) (hs : a.eval s = v) (hx : a.eval x = u) (hv : OwV w base v xs) (hr : RdV w u ys) (h1 : ∀ z ∈ ys, z.oneCell' = true) (hn : xs.length + ys.length ≤ 4194304) (hb : base ≤ w.heap.size)
    (h : ∀ v' w', OwV w' base v' (xs ++ ys) → w.grownBy w' v.ownBlock → (v'.ownBlock = v.ownBlock ∨ v'.ownBlock = some w.heap.size) → wpList Try.prog ops Q rest (a.put o.dst v') w') : wpList Try.prog ops Q (o :: rest) a w :=
  wpList_plain hgd fun _ hK => wp_appV w s x ho base v u xs ys hs hx hv hr h1 hn hb fun v' w' h2 h3 h4 => hK _ _ (h v' w' h2 h3 h4)
theorem step_appV (w : World) {ops : Array Oper} {o : Oper} {a : Act} {K : Act → World → Prop} {Q : Exit → Act → World → Prop} {E : Prop} (hgd : o.guard = none) (s x : Operand)
    (ho : o.op = .call { callee := .builtin .append, args := #[s, x], argTypes := #[48, 48] })
    (base : Nat) (v u : Value) (xs ys : List Value) (hs : a.eval s = v) (hx : a.eval x = u) (hv : OwV w base v xs) (hr : RdV w u ys) (h1 : ∀ z ∈ ys, z.oneCell' = true) (hn : xs.length + ys.length ≤ 4194304) (hb : base ≤ w.heap.size)
    (h : ∀ v' w', OwV w' base v' (xs ++ ys) → w.grownBy w' v.ownBlock → (v'.ownBlock = v.ownBlock ∨ v'.ownBlock = some w.heap.size) → K (a.put o.dst v') w') :
    if Region.wanted o (yielded ops a.tmps) = true then Oper.wp Try.prog o a w K Q else E := by
  have hw : Region.wanted o (yielded ops a.tmps) = true := by simp [Region.wanted, hgd]
  rw [if_pos hw]
  exact wp_appV w s x ho base v u xs ys hs hx hv hr h1 hn hb h
set_option maxRecDepth 100000 in
/-- copy(v[k+1:], v[k:]): all from k on goes one place up. -/
theorem step_moveV (w : World) {ops : Array Oper} {o : Oper} {a : Act} {K : Act → World → Prop} {Q : Exit → Act → World → Prop} {E : Prop} (hgd : o.guard = none) (d s : Operand)
    (hop : o.op = .call { callee := .builtin .copy, args := #[d, s], argTypes := #[48, 48] })
    (base g n cap : Nat) (xs : List Value) (ho : OwV w base (.slice (some ⟨g, 0, none⟩) n cap) xs) (h1 : ∀ z ∈ xs, z.oneCell' = true) (k : Nat) (hk : k < n) (dp sp : Option Addr) (dl c1 sl c2 : Nat) (hd : a.eval d = .slice dp dl c1) (hs : a.eval s = .slice sp sl c2)
    (hdl : dl = n - (k + 1)) (hsl : sl = n - k) (hdp : k + 1 < n → dp = some ⟨g, k + 1, none⟩) (hsp : sp = some ⟨g, k, none⟩)
    (h : ∀ w', OwV w' base (.slice (some ⟨g, 0, none⟩) n cap) (xs.take (k + 1) ++ (xs.drop k).take (n - (k + 1))) → w.grownBy w' (some g) → K (a.put o.dst (goInt ((n - (k + 1) : Nat) : Int))) w') :
    if Region.wanted o (yielded ops a.tmps) = true then Oper.wp Try.prog o a w K Q else E := by
  have hn := (OwV.cap ho).2.1
  subst hdl hsl hsp
  have hw : Region.wanted o (yielded ops a.tmps) = true := by simp [Region.wanted, hgd]
  rw [if_pos hw]
  by_cases hz : n - (k + 1) = 0
  · have hrun := run_copy_none (P := Try.prog) w 48 48 o.type 22 dp (some ⟨g, k, none⟩) (n - (k + 1)) c1 (n - k) c2 Try.underlying48 (by kernel_rfl) (by rw [hz]; exact Nat.min_zero _)
    unfold Oper.wp
    simp [execOp, hop, resolve, invoke, builtin, hd, hs, hrun, Result.andThen]
    have e : xs.take (k + 1) ++ (xs.drop k).take (n - (k + 1)) = xs := by rw [hz, List.take_zero, List.append_nil, List.take_of_length_le (by omega)]
    have key := h w (by rw [e]; exact ho) ⟨rfl, rfl, rfl, Nat.le_refl _, fun _ _ _ => rfl⟩
    have e0 : goInt ((n - (k + 1) : Nat) : Int) = goInt 0 := by rw [hz]; rfl
    rw [e0] at key
    exact key
  · rw [hdp (by omega)] at hd
    have hown := ho
    unfold OwV at hown
    rcases hown.2 with ⟨hv, _⟩ | ⟨g', cap', cur, hv, hbg, hgh, hnc, hcm, hcs, htake⟩
    · cases hv
    · injection hv with e1 e2 e3
      injection e1 with e1
      injection e1 with e1
      subst e1 e3
      obtain ⟨cs, hcd⟩ : ∃ cs, cs = (xs.drop k).take (n - (k + 1)) := ⟨_, rfl⟩
      have hcl : cs.length = n - (k + 1) := by rw [hcd, List.length_take, List.length_drop]; omega
      simp only [Nat.mul_one] at hcs htake
      have hrun := run_copy_row (P := Try.prog) w 48 48 o.type 22 g (k + 1) (n - (k + 1)) c1 ⟨g, k, none⟩ (n - k) c2 cur 22 cs Try.underlying48 (by kernel_rfl) hgh (by rw [hcl]; show _ = min _ _; omega)
        (fun j v hj => by
          have hjl : j < n - (k + 1) := by have := getV_lt hj; omega
          rw [hcd, List.getElem?_take, if_pos hjl, List.getElem?_drop] at hj
          rw [addr_add]
          exact OwV.cell ho hj) (by rw [hcl]; omega) (fun v hv => h1 v (List.mem_of_mem_drop (List.mem_of_mem_take (hcd ▸ hv))))
      have hcur : cur.toList.length = cap := by rw [Array.length_toList]; exact hcs
      have hl1 : (cur.toList.take (k + 1) ++ cs).length = n := by rw [List.length_append, hcl, List.length_take, hcur]; omega
      have hl2 : (xs.take (k + 1) ++ (xs.drop k).take (n - (k + 1))).length = n := by rw [List.length_append, ← hcd, hcl, List.length_take]; omega
      unfold Oper.wp
      simp [execOp, hop, resolve, invoke, builtin, hd, hs, hrun, Result.andThen]
      have key := h (w.setRow g (cur.toList.take (k + 1) ++ (cs ++ cur.toList.drop (k + 1 + cs.length))).toArray) ?_ ⟨rfl, rfl, rfl, by simp [World.setRow], fun i hi hne => setRow_other w g i _ (by
        intro e
        exact hne (by rw [e]))⟩
      · rw [← hcl] at key
        exact key
      · unfold OwV
        rw [hl2]
        refine ⟨by rw [hl2]; omega, .inr ⟨g, cap, _, rfl, hbg, setRow_heap w g _ _ _ _ hgh, by omega, hcm, ?_, ?_⟩⟩
        · have e9 : (cur.toList.take (k + 1) ++ (cs ++ cur.toList.drop (k + 1 + cs.length))).length = cap := by
            rw [← List.append_assoc, List.length_append, hl1, List.length_drop, hcur]
            omega
          rw [List.size_toArray, e9, Nat.mul_one]
        · rw [Nat.mul_one, ← List.append_assoc, List.take_append_of_le_length (by omega), List.take_of_length_le (by omega), ← hcd]
          congr 1
          rw [← htake, List.take_take, Nat.min_eq_left (by omega)]
end Go.Proofs.Ytfdnhamkkcmnfaa
