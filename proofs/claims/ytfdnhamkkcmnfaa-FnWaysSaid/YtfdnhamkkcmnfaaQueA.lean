/- A queue: a slice of slices that need not begin at its block's beginning; what it reads as, its first taken away, one put behind. -/
import Derived.Test.YtfdnhamkkcmnfaaGrwA
import Derived.ArgAppend
set_option linter.unusedSimpArgs false
set_option linter.unusedVariables false
namespace Go.Proofs.Ytfdnhamkkcmnfaa
open Go.RowKit

theorem qheap_set {w : World} {g i : Nat} {cs : Array Value} {t : TypeId} {u : Value} (h : w.heap[g]? = some (.cells cs t (0, 0))) : (w.setCell ⟨g, i, none⟩ u).heap[g]? = some (.cells (cs.setIfInBounds i u) t (0, 0)) := by
  simp [World.setCell, Array.getElem?_modify, h]
theorem ok_injV {v v' : Value} {w w' : World} (h : Result.ok v w = Result.ok v' w') : v = v' := by cases h; rfl
theorem qk_lt {w : World} {b : Nat} {o : Obj} (h : w.heap[b]? = some o) : b < w.heap.size := by
  rcases Nat.lt_or_ge b w.heap.size with h1 | h1
  · exact h1
  · rw [Array.getElem?_eq_none h1] at h; cases h
theorem qk_set {w : World} {b i : Nat} {cs : Array Value} {t : TypeId} {u : Value} (h : w.heap[b]? = some (.cells cs t (0, 0))) : (w.setCell ⟨b, i, none⟩ u).heap[b]? = some (.cells (cs.setIfInBounds i u) t (0, 0)) := qheap_set h
theorem qk_setO {w : World} {b b' i : Nat} {o : Obj} {u : Value} (h : w.heap[b]? = some o) (hne : b ≠ b') : (w.setCell ⟨b', i, none⟩ u).heap[b]? = some o :=
  (Below.heap_setCell w ⟨b', i, none⟩ u b (fun e => hne e)).trans h
theorem qk_cell {w : World} {b i : Nat} {cs : Array Value} {t : TypeId} {v : Value} (h : w.heap[b]? = some (.cells cs t (0, 0))) (hv : cs[i]? = some v) : w.cell? ⟨b, i, none⟩ = some v := (cell_of_row w b i cs t (0, 0) h).trans hv
theorem qk_free {w : World} {b i : Nat} {cs : Array Value} {t : TypeId} (h : w.heap[b]? = some (.cells cs t (0, 0))) : w.frozen? ⟨b, i, none⟩ = false := by simp [World.frozen?, h]
theorem qk_grown {w w' : World} {b : Nat} {o : Obj} {row : Option Nat} (h : w.heap[b]? = some o) (hg : w.grownBy w' row) (hne : row ≠ some b) : w'.heap[b]? = some o := (hg.block b (qk_lt h) (fun e => hne e.symm)).trans h
theorem grown_setCell (w : World) (b i : Nat) (u : Value) : w.grownBy (w.setCell ⟨b, i, none⟩ u) (some b) :=
  ⟨rfl, rfl, rfl, by simp [World.setCell], fun k _ hne => Below.heap_setCell w ⟨b, i, none⟩ u k (fun e => hne (by rw [show k = b from e]))⟩
/-- v is a queue of the values us. -/
def QuV (w : World) (base : Nat) (v : Value) (us : List Value) : Prop :=
  ∃ (g o cap : Nat) (cur : Array Value), v = .slice (some ⟨g, o, none⟩) us.length cap ∧ base ≤ g ∧ w.heap[g]? = some (.cells cur 22 (0, 0)) ∧ us.length ≤ cap ∧ o + cap ≤ cur.size ∧ cap ≤ maxLen ∧ ∀ j u, us[j]? = some u → cur[o + j]? = some u
theorem QuV.below {w w' : World} {base : Nat} {v : Value} {us : List Value} (h : QuV w base v us) (hb : Below w.heap.size w w') : QuV w' base v us := by
  obtain ⟨g, o, cap, cur, e, h1, h2, h3⟩ := h
  exact ⟨g, o, cap, cur, e, h1, (hb.block g (qk_lt h2)).trans h2, h3⟩
theorem QuV.far {w w' : World} {base : Nat} {v : Value} {us : List Value} {row : Option Nat} (h : QuV w base v us) (hg : w.grownBy w' row) (hne : ∀ k, v.ownBlock = some k → row ≠ some k) : QuV w' base v us := by
  obtain ⟨g, o, cap, cur, rfl, h1, h2, h3⟩ := h
  exact ⟨g, o, cap, cur, rfl, h1, qk_grown h2 hg (hne g rfl), h3⟩
theorem QuV.alloc {w : World} {base : Nat} {v : Value} {us : List Value} (h : QuV w base v us) (o : Obj) : QuV (w.alloc o) base v us := h.below ((Below.refl _ _).alloc (Nat.le_refl _) o)
theorem QuV.drew {w : World} {base : Nat} {v : Value} {us : List Value} (h : QuV w base v us) : QuV w.drew base v us := h
theorem QuV.drewN {w : World} {base : Nat} {v : Value} {us : List Value} (h : QuV w base v us) (n : Nat) : QuV (w.drewN n) base v us := h
theorem QuV.mono {w : World} {base base' : Nat} {v : Value} {us : List Value} (h : QuV w base v us) (hb : base' ≤ base) : QuV w base' v us := by
  obtain ⟨g, o, cap, cur, e, h1, h2⟩ := h
  exact ⟨g, o, cap, cur, e, Nat.le_trans hb h1, h2⟩
theorem QuV.blk {w : World} {base : Nat} {v : Value} {us : List Value} (h : QuV w base v us) {k : Nat} (hk : v.ownBlock = some k) : base ≤ k ∧ k < w.heap.size := by
  obtain ⟨g, o, cap, cur, rfl, h1, h2, _⟩ := h
  have hk' : some g = some k := hk
  injection hk' with hk'
  subst hk'
  exact ⟨h1, qk_lt h2⟩
theorem QuV.ofOw {w : World} {base : Nat} {v : Value} {us : List Value} (h : OwV w base v us) (hp : 0 < us.length) : QuV w base v us := by
  unfold OwV at h
  rcases h.2 with ⟨hv, h0⟩ | ⟨g, cap, cur, hv, hg, hh, hnc, hcm, hcs, htake⟩
  · omega
  · refine ⟨g, 0, cap, cur, hv, hg, hh, hnc, by omega, hcm, fun j u hu => ?_⟩
    have hj := getV_lt hu
    have : (cur.toList.take (us.length * 1))[j]? = some u := by rw [htake]; exact hu
    rw [List.getElem?_take, if_pos (by omega), Array.getElem?_toList] at this
    rw [Nat.zero_add]
    exact this
theorem QuV.oneN (w : World) (u : Value) {N base : Nat} (hN : w.heap.size = N) (hb : base ≤ N) : QuV (w.alloc (.cells #[u] 22)) base (.slice (some ⟨N, 0, none⟩) 1 1) [u] := by
  subst hN
  refine ⟨w.heap.size, 0, 1, #[u], rfl, hb, heap_alloc_new _ _, Nat.le_refl _, Nat.le_refl _, by unfold maxLen; omega, fun j v hv => ?_⟩
  have hj := getV_lt hv
  simp at hj
  subst hj
  simpa using hv
/-- The first of the queue, and the queue behind it. -/
theorem QuV.pop {w : World} {base : Nat} {v u : Value} {us : List Value} (h : QuV w base v (u :: us)) : ∃ g o cap, v = .slice (some ⟨g, o, none⟩) (us.length + 1) (cap + 1) ∧ us.length ≤ cap ∧ cap + 1 ≤ maxLen ∧ base ≤ g ∧ g < w.heap.size ∧ w.cell? ⟨g, o, none⟩ = some u ∧ QuV w base (sliced (some ⟨g, o, none⟩) 1 (us.length + 1) (cap + 1) 1) us := by
  obtain ⟨g, o, cap, cur, rfl, h1, h2, h3, h4, h5, h6⟩ := h
  simp only [List.length_cons] at h3 ⊢
  obtain ⟨c, rfl⟩ : ∃ c, cap = c + 1 := ⟨cap - 1, by omega⟩
  refine ⟨g, o, c, rfl, by omega, h5, h1, qk_lt h2, qk_cell h2 (by simpa using h6 0 u rfl), ?_⟩
  have key : ∀ j x, us[j]? = some x → cur[o + 1 + j]? = some x := fun j x hx => by
    have := h6 (j + 1) x (by simpa using hx)
    rw [show o + 1 + j = o + (j + 1) by omega]
    exact this
  unfold sliced
  by_cases hc : c + 1 = 1
  · rw [if_pos hc]
    have hu : us = [] := List.length_eq_zero_iff.1 (by omega)
    subst hu
    exact ⟨g, o, c, cur, by simp, h1, h2, by simp, by omega, by omega, fun j x hx => by simp at hx⟩
  · rw [if_neg hc]
    exact ⟨g, o + 1, c, cur, by simp [addr_add], h1, h2, by omega, by omega, by omega, key⟩
theorem run_appQ (w : World) (base : Nat) (ty : TypeId) (v u x : Value) (us : List Value) (hq : QuV w base v us) (hr : RdV w u [x]) (h1 : x.oneCell' = true) (hn : us.length ≤ 4194303) (hb : base ≤ w.heap.size) :
    ∃ v' w', (Builtin.append_ #[48, 48] ty #[v, u]).run Try.prog w = .ok v' w' ∧ QuV w' base v' (us ++ [x]) ∧ w.grownBy w' v.ownBlock ∧ (v'.ownBlock = v.ownBlock ∨ v'.ownBlock = some w.heap.size) := by
  obtain ⟨i0, hi, hz0, hz1, hz2⟩ := info_parts Try.infoSL
  obtain ⟨g, o, cap, cur, rfl, hbg, hh, hnc, hoc, hcm, hcs⟩ := hq
  obtain ⟨a, c, rfl, hc⟩ := hr
  obtain ⟨b2, o2, rfl, hcell2⟩ := hc 0 x rfl
  have hnews := RdV.cells (ad := ⟨b2, o2, none⟩) (n := 1) (c := c) (us := [x]) ⟨_, _, rfl, hc⟩
  have hone : ∀ u ∈ [x], u.oneCell' = true := by intro u hu; simp at hu; subst hu; exact h1
  have holds : ∀ j u, us[j]? = some u → w.cell? ((⟨g, o, none⟩ : Addr).add j) = some u := fun j u hu => by rw [addr_add]; exact qk_cell hh (hcs j u hu)
  by_cases hroom : us.length + 1 ≤ cap
  · have hsm : cur[o + us.length]? = some (cur[o + us.length]'(by omega)) := Array.getElem?_eq_getElem _
    have hrun := run_append_room_cells (P := Try.prog) w 48 ty 22 i0 Try.underlying48 hi g o us.length cap ⟨b2, o2, none⟩ 1 c [x] (by simp [hz1]) hnews hone hroom
      (fun j hj => by
        simp at hj
        subst hj
        rw [hz1, Nat.mul_one, Nat.add_zero, qk_cell hh hsm]
        rfl)
      (fun j hj => qk_free hh)
    refine ⟨_, _, hrun, ?_, ?_, Or.inl rfl⟩
    · rw [hz1, Nat.mul_one]
      refine ⟨g, o, cap, cur.setIfInBounds (o + us.length) x, by simp, hbg, qk_set hh, by simp; omega, by simp; omega, hcm, fun j u hu => ?_⟩
      rcases Nat.lt_trichotomy j us.length with hj | hj | hj
      · rw [List.getElem?_append_left hj] at hu
        rw [Array.getElem?_setIfInBounds_ne (by omega)]
        exact hcs j u hu
      · subst hj
        simp at hu
        subst hu
        rw [Array.getElem?_setIfInBounds_self_of_lt (by omega)]
      · rw [List.getElem?_eq_none (by simp; omega)] at hu
        cases hu
    · rw [hz1, Nat.mul_one]
      exact grown_setCell w g (o + us.length) x
  · obtain ⟨v', w', hrun, h2, h3⟩ := run_append_arg_grows (P := Try.prog) w 48 ty 22 i0 (.slice none 0 0) 1 24 Try.underlying48 hi hz0 hz1 hz2 rfl (by decide) ⟨g, o, none⟩ us.length cap us (by simp) holds ⟨b2, o2, none⟩ 1 c [x] rfl hnews (by omega) (by unfold maxLen; omega) (by omega)
    have ho : OwV w' w.heap.size v' (us ++ [x]) := by unfold OwV; rw [List.length_append]; exact h2
    refine ⟨v', w', hrun, (QuV.ofOw ho (by simp)).mono hb, ⟨h3.os, h3.tape, h3.output, h3.size, fun k hk _ => h3.block k hk (fun e => by cases e)⟩, Or.inr ?_⟩
    have hr2 := run_append_grow (P := Try.prog) w 48 ty 22 i0 (.slice none 0 0) Try.underlying48 hi hz0 ⟨g, o, none⟩ us.length cap us (by simp [hz1]) holds ⟨b2, o2, none⟩ 1 c [x] (by simp [hz1]) hnews (by omega) (by unfold maxLen at hcm; omega) (growslice_fits (by omega) (by rw [hz2]; omega))
    rw [hrun] at hr2
    rw [ok_injV hr2]
    rfl
theorem wpList_appQ (w : World) {ops : Array Oper} {rest : List Oper} {o : Oper} {a : Act} {Q : Exit → Act → World → Prop} (hgd : o.guard = none) (s y : Operand)
    (ho : o.op = .call { callee := .builtin .append, args := #[s, y], argTypes := #[48, 48] })
    (base : Nat) (v u x : Value) (us : List Value) (hs : a.eval s = v) (hx : a.eval y = u) (hq : QuV w base v us) (hr : RdV w u [x]) (h1 : x.oneCell' = true) (hn : us.length ≤ 4194303) (hb : base ≤ w.heap.size)
    (h : ∀ v' w', QuV w' base v' (us ++ [x]) → w.grownBy w' v.ownBlock → (v'.ownBlock = v.ownBlock ∨ v'.ownBlock = some w.heap.size) → wpList Try.prog ops Q rest (a.put o.dst v') w') : wpList Try.prog ops Q (o :: rest) a w :=
  wpList_plain hgd fun _ hK => by
    obtain ⟨v', w', hrun, h2, h3, h4⟩ := run_appQ w base o.type v u x us hq hr h1 hn hb
    unfold Oper.wp execOp
    simp only [ho, resolve, invoke, builtin, Sem.run_bind, Sem.run_pure, Result.andThen_ok, List.map_toArray, List.map_cons, List.map_nil, hs, hx, hrun]
    exact hK _ _ (h v' w' h2 h3 h4)
theorem step_appQ (w : World) {ops : Array Oper} {o : Oper} {a : Act} {K : Act → World → Prop} {Q : Exit → Act → World → Prop} {E : Prop} (hgd : o.guard = none) (s y : Operand)
    (ho : o.op = .call { callee := .builtin .append, args := #[s, y], argTypes := #[48, 48] })
    (base : Nat) (v u x : Value) (us : List Value) (hs : a.eval s = v) (hx : a.eval y = u) (hq : QuV w base v us) (hr : RdV w u [x]) (h1 : x.oneCell' = true) (hn : us.length ≤ 4194303) (hb : base ≤ w.heap.size)
    (h : ∀ v' w', QuV w' base v' (us ++ [x]) → w.grownBy w' v.ownBlock → (v'.ownBlock = v.ownBlock ∨ v'.ownBlock = some w.heap.size) → K (a.put o.dst v') w') :
    if Region.wanted o (yielded ops a.tmps) = true then Oper.wp Try.prog o a w K Q else E := by
  have hw : Region.wanted o (yielded ops a.tmps) = true := by simp [Region.wanted, hgd]
  rw [if_pos hw]
  obtain ⟨v', w', hrun, h2, h3, h4⟩ := run_appQ w base o.type v u x us hq hr h1 hn hb
  unfold Oper.wp execOp
  simp only [ho, resolve, invoke, builtin, Sem.run_bind, Sem.run_pure, Result.andThen_ok, List.map_toArray, List.map_cons, List.map_nil, hs, hx, hrun]
  exact h v' w' h2 h3 h4
end Go.Proofs.Ytfdnhamkkcmnfaa
