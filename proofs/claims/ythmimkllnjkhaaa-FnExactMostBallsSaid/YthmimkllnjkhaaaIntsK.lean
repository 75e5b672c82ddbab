/- Appending to a row of the call's own: the old slice still reads what it read. -/
import Derived.Test.YthmimkllnjkhaaaIntsC
set_option linter.unusedSimpArgs false
set_option linter.unusedVariables false
namespace Go.Proofs.Ythmimkllnjkhaaa
open Go.RowKit

/-- As run_appI, for a row that is not nil and a source that is not nil: the old slice reads as before. -/
theorem run_appK (w : World) (base : Nat) (ty : TypeId) (g n cap : Nat) (ad : Addr) (m c : Nat) (xs ys : List Int) (ho : OwI w base (.slice (some ⟨g, 0, none⟩) n cap) xs) (hr : RdI w (.slice (some ad) m c) ys) (hn : xs.length + ys.length ≤ 4194304) (hb : base ≤ w.heap.size) :
    ∃ v' w', (Builtin.append_ #[28, 28] ty #[.slice (some ⟨g, 0, none⟩) n cap, .slice (some ad) m c]).run Try.prog w = .ok v' w' ∧ OwI w' base v' (xs ++ ys) ∧ w.grownBy w' (some g) ∧ RdI w' (.slice (some ⟨g, 0, none⟩) n cap) xs := by
  obtain ⟨i0, hi, hz0, hz1, hz2⟩ := info_parts Try.infoI64
  have hcap := OwI.cap ho
  obtain ⟨h1, h2, h3⟩ := hcap
  subst h2
  have hm : m = ys.length := by obtain ⟨a, c', e, _⟩ := hr; injection e with e1 e2
  subst hm
  have hcell := RdI.cells hr
  have hone : ∀ u ∈ ys.map (Value.int .i64), u.oneCell' = true := by intro u hu; rw [List.mem_map] at hu; obtain ⟨z, _, rfl⟩ := hu; rfl
  obtain ⟨v', w', hrun, hown, hg, _, _⟩ := run_append_own_at (P := Try.prog) w base 28 ty 2 i0 (.int .i64 0) 1 8 Try.underlying28 hi hz0 hz1 hz2 rfl (by decide) _ xs.length (xs.map (Value.int .i64)) ho ad ys.length c (ys.map (Value.int .i64)) (by simp) hcell hone (by unfold maxLen; omega) (by omega) hb
  have hO : OwI w' base v' (xs ++ ys) := by unfold OwI; rw [List.length_append, List.map_append]; exact hown
  refine ⟨v', w', hrun, hO, hg, ?_⟩
  have hown0 := ho
  unfold OwI at hown0
  rcases hown0.2 with ⟨hv, _⟩ | ⟨g', cap', cur, hv, hbg, hgh, hnc, hcm, hcs, htake⟩
  · cases hv
  · injection hv with e1 e2 e3
    injection e1 with e1
    injection e1 with e1
    subst e1 e3
    by_cases hroom : xs.length + ys.length ≤ cap
    · have hr2 := run_append_room (P := Try.prog) w 28 ty 2 i0 Try.underlying28 hi g xs.length cap cur hgh ad ys.length c (ys.map (Value.int .i64)) (by simp [hz1]) hcell hone hroom (by simp only [hz1, List.length_map] at hcs ⊢; omega)
      rw [hrun] at hr2
      injection hr2 with ev ew
      subst ev
      refine ⟨_, _, rfl, fun k hk => ⟨g, 0, rfl, ?_⟩⟩
      have := OwI.cell hO (k := k) (by rw [List.length_append]; omega)
      rw [Nat.zero_add, this]
      simp only [List.getD_eq_getElem?_getD, List.getElem?_append_left hk]
    · have holds : ∀ j u, (xs.map (Value.int .i64))[j]? = some u → w.cell? ((⟨g, 0, none⟩ : Addr).add j) = some u := World.ownsRow.cells ho (g := g) rfl
      have hr2 := run_append_grow (P := Try.prog) w 28 ty 2 i0 (.int .i64 0) Try.underlying28 hi hz0 ⟨g, 0, none⟩ xs.length cap (xs.map (Value.int .i64)) (by simp [hz1]) holds ad ys.length c (ys.map (Value.int .i64)) (by simp [hz1]) hcell (by omega) (by omega) (growslice_fits (by omega) (by rw [hz2]; omega))
      rw [hrun] at hr2
      injection hr2 with ev ew
      subst ew
      exact (RdI.alloc ho.rd.drew _)
theorem step_appK (w : World) {ops : Array Oper} {o : Oper} {a : Act} {K : Act → World → Prop} {Q : Exit → Act → World → Prop} {E : Prop} (hgd : o.guard = none) (s x : Operand)
    (hop : o.op = .call { callee := .builtin .append, args := #[s, x], argTypes := #[28, 28] })
    (base : Nat) (g n cap : Nat) (ad : Addr) (m c : Nat) (xs ys : List Int) (hs : a.eval s = .slice (some ⟨g, 0, none⟩) n cap) (hx : a.eval x = .slice (some ad) m c) (ho : OwI w base (.slice (some ⟨g, 0, none⟩) n cap) xs) (hr : RdI w (.slice (some ad) m c) ys) (hn : xs.length + ys.length ≤ 4194304) (hb : base ≤ w.heap.size)
    (h : ∀ v' w', OwI w' base v' (xs ++ ys) → w.grownBy w' (some g) → RdI w' (.slice (some ⟨g, 0, none⟩) n cap) xs → K (a.put o.dst v') w') :
    if Region.wanted o (yielded ops a.tmps) = true then Oper.wp Try.prog o a w K Q else E := by
  have hw : Region.wanted o (yielded ops a.tmps) = true := by simp [Region.wanted, hgd]
  rw [if_pos hw]
  obtain ⟨v', w', hrun, h2, h3, h4⟩ := run_appK w base o.type g n cap ad m c xs ys ho hr hn hb
  unfold Oper.wp execOp
  simp only [hop, resolve, invoke, builtin, Sem.run_bind, Sem.run_pure, Result.andThen_ok, List.map_toArray, List.map_cons, List.map_nil, hs, hx, hrun]
  exact h v' w' h2 h3 h4

end Go.Proofs.Ythmimkllnjkhaaa
