/- Contract of the draw for NearestThread. -/
import Derived.Test.YtoaacipgphoiaaaThdB
import Derived.Test.YtoaacipgphoiaaaThxC
import Derived.Test.YtoaacipgphoiaaaDrwS
set_option linter.unusedSimpArgs false
set_option linter.unusedVariables false
namespace Go.Proofs.Ytoaacipgphoiaaa
open Go.RowKit

theorem run_appThx4 (w : World) (base : Nat) (ty : TypeId) (v u : Value) (xs ys : List (Int × Int × Bool × Bool)) (ho : OwThx w base v xs) (hr : RdThx w u ys) (hn : xs.length + ys.length ≤ 4194304) (hb : base ≤ w.heap.size) :
    ∃ v' w', (Builtin.append_ #[43, 43] ty #[v, u]).run Try.prog w = .ok v' w' ∧ OwThx w' base v' (xs ++ ys) ∧ w.grownBy w' v.ownBlock ∧ (v'.ownBlock = v.ownBlock ∨ v'.ownBlock = some w.heap.size) := by
  obtain ⟨i0, hi, hz0, hz1, hz2⟩ := info_parts Try.infoThx
  obtain ⟨a, c, rfl, hc⟩ := hr
  rcases a with _ | ad
  · have hy : ys = [] := by
      rcases ys with _ | ⟨y, ys⟩
      · rfl
      · obtain ⟨b, o, e, _⟩ := hc 0 (by simp)
        cases e
    subst hy
    refine ⟨v, w, ?_, by rw [List.append_nil]; exact ho, ⟨rfl, rfl, rfl, Nat.le_refl _, fun _ _ _ => rfl⟩, Or.inl rfl⟩
    rcases ho.2 with ⟨rfl, h0⟩ | ⟨g, cap, cur, rfl, _, _, hnc, _⟩
    · simp [Builtin.append_, run_underlying Try.underlying43, sizeOf, typeInfo, hi, Builtin.lenOf, Builtin.firstCells]
    · simp [Builtin.append_, run_underlying Try.underlying43, sizeOf, typeInfo, hi, Builtin.lenOf, Builtin.firstCells, hnc, storeCells]
  · have hcell := RdThx.cells (c := c) (n := ys.length) ⟨_, _, rfl, hc⟩
    obtain ⟨v', w', hrun, h2, h3, _, h5⟩ := run_append_own_at (P := Try.prog) w base 43 ty 25 i0 _ 4 24 Try.underlying43 hi hz0 hz1 hz2 rfl (by decide) v xs.length (xs.flatMap cellsThx) ho ad ys.length c (ys.flatMap cellsThx) (flatThx_len ys) hcell
      (oneThx ys) (by unfold maxLen; omega) (by omega) hb
    refine ⟨v', w', hrun, ?_, h3, h5⟩
    unfold OwThx
    rw [List.length_append, List.flatMap_append]
    exact h2
theorem wp_appThx4 (w : World) {o : Oper} {a : Act} {K : Act → World → Prop} {Q : Exit → Act → World → Prop} (s x : Operand)
    (ho : o.op = .call { callee := .builtin .append, args := #[s, x], argTypes := #[43, 43] })
    (base : Nat) (v u : Value) (xs ys : List (Int × Int × Bool × Bool)) (hs : a.eval s = v) (hx : a.eval x = u) (hv : OwThx w base v xs) (hr : RdThx w u ys) (hn : xs.length + ys.length ≤ 4194304) (hb : base ≤ w.heap.size)
    (h : ∀ v' w', OwThx w' base v' (xs ++ ys) → w.grownBy w' v.ownBlock → (v'.ownBlock = v.ownBlock ∨ v'.ownBlock = some w.heap.size) → K (a.put o.dst v') w') : o.wp Try.prog a w K Q := by
  obtain ⟨v', w', hrun, h2, h3, h4⟩ := run_appThx4 w base o.type v u xs ys hv hr hn hb
  unfold Oper.wp execOp
  simp only [ho, resolve, invoke, builtin, Sem.run_bind, Sem.run_pure, Result.andThen_ok, List.map_toArray, List.map_cons, List.map_nil, hs, hx, hrun]
  exact h v' w' h2 h3 h4
theorem wpList_appThx4 (w : World) {ops : Array Oper} {rest : List Oper} {o : Oper} {a : Act} {Q : Exit → Act → World → Prop} (hgd : o.guard = none) (s x : Operand)
    (ho : o.op = .call { callee := .builtin .append, args := #[s, x], argTypes := #[43, 43] })
    (base : Nat) (v u : Value) (xs ys : List (Int × Int × Bool × Bool)) (hs : a.eval s = v) (hx : a.eval x = u) (hv : OwThx w base v xs) (hr : RdThx w u ys) (hn : xs.length + ys.length ≤ 4194304) (hb : base ≤ w.heap.size)
    (h : ∀ v' w', OwThx w' base v' (xs ++ ys) → w.grownBy w' v.ownBlock → (v'.ownBlock = v.ownBlock ∨ v'.ownBlock = some w.heap.size) → wpList Try.prog ops Q rest (a.put o.dst v') w') : wpList Try.prog ops Q (o :: rest) a w :=
  wpList_plain hgd fun _ hK => wp_appThx4 w s x ho base v u xs ys hs hx hv hr hn hb fun v' w' h2 h3 h4 => hK _ _ (h v' w' h2 h3 h4)
set_option maxRecDepth 100000 in
set_option maxHeartbeats 3200000 in
theorem DrawNearest_any (a : Option Addr) (n c : Nat) (w : World) (h : RdB w w.heap.size a n) (hn : n ≤ 4096) :
    Calls Try.prog 37 #[.slice a n c] w fun e w' => ∃ (v : Value) (rs : List (Int × Int × Bool × Bool)) (d p : Int), e = .returned (.tuple #[v, .int .i64 d, .int .i64 p]) ∧ RdThx w' v rs ∧ rs.length ≤ 61 ∧ Below w.heap.size w w' := by
  have HB0 := Lib.hid h
  clear h
  go_enter Try.func37, Try.ntmps37
  go_wp2_with fail
  (with_reducible refine (From_any a n c _ HB0.out hn).mono ?_)
  rintro e w0 ⟨g, rfl, hs0, hgw, hb0⟩
  have hgb := hs0.lt
  have hlt0 := hb0.size
  have S0 := Lib.hid hs0
  have D0 := World.grownBy.refl w0 (some g)
  clear hs0
  go_wp2_with fail
  generalize hw : w0.alloc (.cells #[] 25) = w1
  have S1 : Hid (Src w1 g a n c) := by show Src _ _ _ _ _; rw [← hw]; exact S0.out.alloc _
  have D1 : w0.grownBy w1 (some g) := by rw [← hw]; exact drw_alloc D0 _
  have O1 : Hid (OwThx w1 w0.heap.size (.slice (some ⟨w0.heap.size, 0, none⟩) 0 0) []) := by show OwThx _ _ _ _; rw [← hw]; exact OwThx.lit0 w0 rfl (Nat.le_refl _)
  clear hw S0 D0
  go_wp2_with fail
  (with_reducible refine (Next_any g a n c _ _ S1.out).mono ?_)
  rintro e w2 ⟨x2, rfl, ⟨l2, -, u2⟩, hs2, hg2⟩
  have S2 := Lib.hid hs2
  have D2 := D1.trans hg2
  have O2 : Hid (OwThx w2 w0.heap.size (.slice (some ⟨w0.heap.size, 0, none⟩) 0 0) ([] : List (Int × Int × Bool × Bool))) := O1.out.farLt hg2 (fun q hq => by injection hq with hq; omega)
  clear hg2 hs2 S1 O1
  replace u2 := u2 (by omega)
  obtain ⟨k0, hk0⟩ : ∃ k : Nat, x2 = (k : Int) := ⟨x2.toNat, by omega⟩
  subst hk0
  go_wp2
  go_loopw [6, 7] (fun ov kk wr => ∃ (k : Nat) (ao : Option Addr) (co : Nat) (rs : List (Int × Int × Bool × Bool)), kk = .int .i64 k ∧ rs.length + k ≤ 7 ∧ ov = .slice ao rs.length co ∧ w0.grownBy wr (some g) ∧ Hid (Src wr g a n c ∧ OwThx wr w0.heap.size (.slice ao rs.length co) rs)) (fun _ kk _ => (intOf kk).toNat)
  case atStart => exact ⟨k0, _, _, [], rfl, by simp; omega, rfl, D2, ⟨S2.out, O2.out⟩⟩
  case round =>
    clear S2 O2 D2 l2 u2
    obtain ⟨k, ao, co, rs, rfl, hk, rfl, D0, hso⟩ := hrel
    have S0 := Lib.hid hso.out.1
    have O0 := Lib.hid hso.out.2
    clear hso
    by_cases hpos : 0 < k
    · have hd : decide ((0 : Int) < (k : Int)) = true := by simp; omega
      go_wp2_with fail
      (with_reducible refine (Draw14_any g a n c _ S0.out).mono ?_)
      rintro e w1 ⟨d, p, l, i, rfl, hs1, hg1⟩
      have S1 := Lib.hid hs1
      have D1 := D0.trans hg1
      have O1 : Hid (OwThx w1 w0.heap.size (.slice ao rs.length co) rs) := O0.out.farLt hg1 (fun q hq => by injection hq with hq; omega)
      clear hg1 hs1 S0 O0
      go_wp2_with (at_builtin; refine wpList_appThx _ rfl _ _ rfl w0.heap.size _ _ (rs) [(d, p, l, i)] rfl rfl ((O1.out.alloc _)) (RdThx.one _ (d, p, l, i) rfl) (by (try simp); omega) (by have := D1.size; (try simp); omega) ?_; intro v2 w2 ho2 hg2)
      have S2 := Lib.hid ((S1.out.alloc _).far hg2 (fun q hq => by have := (World.ownsRow.lt O1.out q hq).1; omega))
      have D2 := drw_far (drw_alloc D1 _) hg2 (fun q hq => (World.ownsRow.lt O1.out q hq).1)
      obtain ⟨ao2, co2, e2, -⟩ := ho2.rd.shape
      have ll2 : (rs ++ [(d, p, l, i)]).length = (rs).length + 1 := by simp
      rw [ll2] at e2
      subst e2
      have O2 := Lib.hid ho2
      clear ho2 hg2 O1 S1
      go_wp2
      go_roundw
      case rel => exact ⟨k - 1, _, _, rs ++ [(d, p, l, i)], by rw [show ((k - 1 : Nat) : Int) = (k : Int) - 1 by omega], by simp; omega, by rw [ll2], D2, ⟨S2.out, by rw [ll2]; exact O2.out⟩⟩
      case measure => simp [intOf] <;> omega
    · have hd : decide ((0 : Int) < (k : Int)) = false := by simp; omega
      obtain rfl : k = 0 := by omega
      go_wp2_with fail
      (with_reducible refine (Next_any g a n c _ _ S0.out).mono ?_)
      rintro e w1 ⟨x1, rfl, ⟨l1, -, u1⟩, hs1, hg1⟩
      have S1 := Lib.hid hs1
      have D1 := D0.trans hg1
      have O1 : Hid (OwThx w1 w0.heap.size (.slice ao rs.length co) rs) := O0.out.farLt hg1 (fun q hq => by injection hq with hq; omega)
      clear hg1 hs1 S0 O0
      replace u1 := u1 (by omega)
      by_cases e0 : x1 = 0
      · subst e0
        go_wp2_with fail
        (with_reducible refine (Good14_any g a n c _ S1.out).mono ?_)
        rintro e w2 ⟨d, p, l, i, rfl, hs2, hg2⟩
        have S2 := Lib.hid hs2
        have D2 := D1.trans hg2
        have O2 : Hid (OwThx w2 w0.heap.size (.slice ao rs.length co) rs) := O1.out.farLt hg2 (fun q hq => by injection hq with hq; omega)
        clear hg2 hs2 S1 O1
        go_wp2_with fail
        generalize hw : w2.alloc (.cells #[.int .i64 d, .int .i64 p, .bool l, .bool i] 25) = wb
        obtain ⟨bb, hbb⟩ : ∃ bb, bb = w2.heap.size := ⟨_, rfl⟩
        have hKB : wb.heap[bb]? = some (.cells #[.int .i64 d, .int .i64 p, .bool l, .bool i] 25 (0, 0)) := by rw [← hw, hbb]; exact heap_alloc_new _ _
        have SB : Hid (Src wb g a n c) := by show Src _ _ _ _ _; rw [← hw]; exact S2.out.alloc _
        have OB : Hid (OwThx wb w0.heap.size (.slice ao rs.length co) rs) := by show OwThx _ _ _ _; rw [← hw]; exact O2.out.alloc _
        have DB : w0.grownBy wb (some g) := by rw [← hw]; exact drw_alloc D2 _
        have hbg : bb ≠ g := by have := S2.out.lt; omega
        have hb0b : w0.heap.size ≤ bb := by have := D2.size; omega
        have hob : ∀ q, (Value.slice ao rs.length co).ownBlock = some q → q ≠ bb := fun q hq => by have := (World.ownsRow.lt O2.out q hq).2; omega
        rw [← hbb]
        clear hw hbb S2 O2 D2
        go_loopw [6] (fun ov wr => ∃ (ao : Option Addr) (co : Nat) (rs : List (Int × Int × Bool × Bool)), rs.length ≤ 61 ∧ ov = .slice ao rs.length co ∧ (∀ q, (Value.slice ao rs.length co).ownBlock = some q → q ≠ bb) ∧ w0.grownBy wr (some g) ∧ Hid (Src wr g a n c ∧ OwThx wr w0.heap.size (.slice ao rs.length co) rs ∧ wr.heap[bb]? = some (.cells #[.int .i64 d, .int .i64 p, .bool l, .bool i] 25 (0, 0)))) (fun ov _ => 62 - lenV ov)
        case atStart => exact ⟨ao, co, rs, by omega, rfl, hob, DB, ⟨SB.out, OB.out, hKB⟩⟩
        case round =>
          clear SB OB DB hKB
          obtain ⟨ao, co, rs, hk, rfl, hob, D0, hso⟩ := hrel
          have S0 := Lib.hid hso.out.1
          have O0 := Lib.hid hso.out.2.1
          have KB0 := Lib.hid hso.out.2.2
          clear hso
          go_wp2_with fail
          (with_reducible refine (Next_any g a n c _ _ S0.out).mono ?_)
          rintro e w1 ⟨x1, rfl, ⟨l1, -, u1⟩, hs1, hg1⟩
          have S1 := Lib.hid hs1
          have D1 := D0.trans hg1
          have O1 : Hid (OwThx w1 w0.heap.size (.slice ao rs.length co) rs) := O0.out.farLt hg1 (fun q hq => by injection hq with hq; omega)
          have KB1 : Hid (w1.heap[bb]? = some (.cells #[.int .i64 d, .int .i64 p, .bool l, .bool i] 25 (0, 0))) := hk_call KB0.out hg1 hbg
          clear hg1 hs1 S0 O0 KB0
          replace u1 := u1 (by omega)
          have hxw : IntKind.i64.wrap (60 + x1) = 60 + x1 := IntWalk.i64_in _ (by omega)
          by_cases hmore : (rs.length : Int) < 60 + x1
          · have hd : decide ((rs.length : Int) < 60 + x1) = true := by simpa using hmore
            have cb0 := hk_cell (i := 0) KB1.out rfl
            have cb1 := hk_cell (i := 1) KB1.out rfl
            have cb2 := hk_cell (i := 2) KB1.out rfl
            have cb3 := hk_cell (i := 3) KB1.out rfl
            go_wp2_with (at_builtin; refine wpList_appThx4 _ rfl _ _ rfl w0.heap.size _ _ (rs) [(d, p, l, i)] rfl rfl ((O1.out.alloc _)) (RdThx.one _ (d, p, l, i) rfl) (by (try simp); omega) (by have := D1.size; (try simp); omega) ?_; intro v2 w2 ho2 hg2 hk2)
            have S2 := Lib.hid ((S1.out.alloc _).far hg2 (fun q hq => by have := (World.ownsRow.lt O1.out q hq).1; omega))
            have D2 := drw_far (drw_alloc D1 _) hg2 (fun q hq => (World.ownsRow.lt O1.out q hq).1)
            obtain ⟨ao2, co2, e2, -⟩ := ho2.rd.shape
            have ll2 : (rs ++ [(d, p, l, i)]).length = (rs).length + 1 := by simp
            rw [ll2] at e2
            subst e2
            have O2 := Lib.hid ho2
            have KB2 : Hid (w2.heap[bb]? = some (.cells #[.int .i64 d, .int .i64 p, .bool l, .bool i] 25 (0, 0))) := by
              show _ = _
              have ha := hk_alloc KB1.out (Obj.cells #[.int .i64 d, .int .i64 p, .bool l, .bool i] 25 (0, 0))
              exact (hg2.block bb (heap_lt ha) (fun e => hob bb e.symm rfl)).trans ha
            have hob2 : ∀ q, (Value.slice ao2 (rs.length + 1) co2).ownBlock = some q → q ≠ bb := by
              intro q hq
              rcases hk2 with e | e
              · rw [e] at hq
                exact hob q hq
              · rw [e] at hq
                injection hq with hq
                have := heap_lt KB1.out
                simp only [World.size_alloc] at hq
                omega
            clear hk2
            clear ho2 hg2 O1 S1
            go_wp2
            go_roundw
            case rel => exact ⟨_, _, rs ++ [(d, p, l, i)], by simp; omega, by rw [ll2], by rw [ll2]; exact hob2, D2, ⟨S2.out, by rw [ll2]; exact O2.out, KB2.out⟩⟩
            case measure => simp [lenV] <;> omega
          · have hd : decide ((rs.length : Int) < 60 + x1) = false := by simpa using hmore
            go_wp2_with fail
            (with_reducible refine (Next_any g a n c _ _ S1.out).mono ?_)
            rintro e w2 ⟨x2, rfl, ⟨l2, -, u2⟩, hs2, hg2⟩
            have S2 := Lib.hid hs2
            have D2 := D1.trans hg2
            have O2 : Hid (OwThx w2 w0.heap.size (.slice ao rs.length co) rs) := O1.out.farLt hg2 (fun q hq => by injection hq with hq; omega)
            clear hg2 hs2 S1 O1
            replace u2 := u2 (by omega)
            have hpl2 := S2.out.lt
            go_wp2_with fail
            (with_reducible refine (Pick_any g a n c _ 4 _ _ (S2.out.alloc _) (heap_alloc_new _ _) rfl (by omega) (by omega) (by simp) (by omega)).mono ?_)
            rintro e w3 ⟨x3, rfl, hs3, hg3⟩
            have S3 := Lib.hid hs3
            have D3 := (drw_alloc D2 _).trans hg3
            have O3 : Hid (OwThx w3 w0.heap.size (.slice ao rs.length co) rs) := (O2.out.alloc _).farLt hg3 (fun q hq => by injection hq with hq; omega)
            clear hg3 hs3 S2 O2
            go_wp2_with fail
            (with_reducible refine (Next_any g a n c _ _ S3.out).mono ?_)
            rintro e w4 ⟨x4, rfl, ⟨l4, -, u4⟩, hs4, hg4⟩
            have S4 := Lib.hid hs4
            have D4 := D3.trans hg4
            have O4 : Hid (OwThx w4 w0.heap.size (.slice ao rs.length co) rs) := O3.out.farLt hg4 (fun q hq => by injection hq with hq; omega)
            clear hg4 hs4 S3 O3
            replace u4 := u4 (by omega)
            have hpl4 := S4.out.lt
            go_wp2_with fail
            (with_reducible refine (Pick_any g a n c _ 4 _ _ (S4.out.alloc _) (heap_alloc_new _ _) rfl (by omega) (by omega) (by simp) (by omega)).mono ?_)
            rintro e w5 ⟨x5, rfl, hs5, hg5⟩
            have S5 := Lib.hid hs5
            have D5 := (drw_alloc D4 _).trans hg5
            have O5 : Hid (OwThx w5 w0.heap.size (.slice ao rs.length co) rs) := (O4.out.alloc _).farLt hg5 (fun q hq => by injection hq with hq; omega)
            clear hg5 hs5 S4 O4
            have hOf := O5.out.rd
            go_wp2
            go_ret3
            exact ⟨_, rs, x3, x5, rfl, hOf, by omega, hb0.grown D5 (by omega) (fun q hq => by injection hq with hq; omega)⟩
      · have n0 : (x1 == 0) = false := by rw [beq_eq_false_iff_ne]; exact e0
        go_wp2_with fail
        (with_reducible refine (Next_any g a n c _ _ S1.out).mono ?_)
        rintro e w2 ⟨x2, rfl, ⟨l2, -, u2⟩, hs2, hg2⟩
        have S2 := Lib.hid hs2
        have D2 := D1.trans hg2
        have O2 : Hid (OwThx w2 w0.heap.size (.slice ao rs.length co) rs) := O1.out.farLt hg2 (fun q hq => by injection hq with hq; omega)
        clear hg2 hs2 S1 O1
        replace u2 := u2 (by omega)
        have hpl2 := S2.out.lt
        go_wp2_with fail
        (with_reducible refine (Pick_any g a n c _ 4 _ _ (S2.out.alloc _) (heap_alloc_new _ _) rfl (by omega) (by omega) (by simp) (by omega)).mono ?_)
        rintro e w3 ⟨x3, rfl, hs3, hg3⟩
        have S3 := Lib.hid hs3
        have D3 := (drw_alloc D2 _).trans hg3
        have O3 : Hid (OwThx w3 w0.heap.size (.slice ao rs.length co) rs) := (O2.out.alloc _).farLt hg3 (fun q hq => by injection hq with hq; omega)
        clear hg3 hs3 S2 O2
        go_wp2_with fail
        (with_reducible refine (Next_any g a n c _ _ S3.out).mono ?_)
        rintro e w4 ⟨x4, rfl, ⟨l4, -, u4⟩, hs4, hg4⟩
        have S4 := Lib.hid hs4
        have D4 := D3.trans hg4
        have O4 : Hid (OwThx w4 w0.heap.size (.slice ao rs.length co) rs) := O3.out.farLt hg4 (fun q hq => by injection hq with hq; omega)
        clear hg4 hs4 S3 O3
        replace u4 := u4 (by omega)
        have hpl4 := S4.out.lt
        go_wp2_with fail
        (with_reducible refine (Pick_any g a n c _ 4 _ _ (S4.out.alloc _) (heap_alloc_new _ _) rfl (by omega) (by omega) (by simp) (by omega)).mono ?_)
        rintro e w5 ⟨x5, rfl, hs5, hg5⟩
        have S5 := Lib.hid hs5
        have D5 := (drw_alloc D4 _).trans hg5
        have O5 : Hid (OwThx w5 w0.heap.size (.slice ao rs.length co) rs) := (O4.out.alloc _).farLt hg5 (fun q hq => by injection hq with hq; omega)
        clear hg5 hs5 S4 O4
        have hOf := O5.out.rd
        go_wp2
        go_ret3
        exact ⟨_, rs, x3, x5, rfl, hOf, by omega, hb0.grown D5 (by omega) (fun q hq => by injection hq with hq; omega)⟩
end Go.Proofs.Ytoaacipgphoiaaa
