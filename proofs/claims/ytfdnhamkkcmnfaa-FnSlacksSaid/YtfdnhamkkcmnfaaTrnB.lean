/- Contract of the draw of a train, rarely of something else. -/
import Derived.Test.YtfdnhamkkcmnfaaTrnA
import Derived.Deep.QuietTactic
import Derived.BigQuiet
import Derived.Deep.RegionHeld3
import Derived.Deep.RegionLaw
import Derived.Deep.CutBlock
set_option linter.unusedSimpArgs false
set_option linter.unusedVariables false
namespace Go.Proofs.Ytfdnhamkkcmnfaa
open Go.RowKit

theorem step_goCall (w : World) {ops : Array Oper} {o : Oper} {a : Act} {K : Act → World → Prop} {Q : Exit → Act → World → Prop} {E : Prop} (hgd : o.guard = none) (f : FuncId) (args : Array Value) (hrun : (execOp a.eval o).run Try.prog w = .ok (.enter f args) w)
    (Post : Ending → World → Prop) (hc : Calls Try.prog f args w Post) (h : ∀ e w', Post e w' → ∃ v, e = .returned v ∧ K (a.put o.dst v) w') :
    if Region.wanted o (yielded ops a.tmps) = true then Oper.wp Try.prog o a w K Q else E := by
  have hw : Region.wanted o (yielded ops a.tmps) = true := by simp [Region.wanted, hgd]
  rw [if_pos hw]
  unfold Oper.wp
  rw [hrun, Oper.upon_enter]
  refine hc.mono fun e w'' hh => ?_
  obtain ⟨v, rfl, hk⟩ := h e w'' hh
  exact hk
theorem RdI.oneX9 (w : World) (x : Int) {N : Nat} (hN : w.heap.size = N) : RdI (w.alloc (.cells #[.int .i64 x] 2)) (.slice (some ⟨N, 0, none⟩) 1 1) [x] := by
  subst hN
  exact RdI.one w x
def cellAt (W : World) (b i : Nat) : Value := (W.cell? ⟨b, i, none⟩).getD undef
theorem cellAt_of {W : World} {b i : Nat} {v : Value} (h : W.cell? ⟨b, i, none⟩ = some v) : cellAt W b i = v := by unfold cellAt; rw [h]; rfl
theorem cellAt_is {W : World} {b i : Nat} {v : Value} (h : W.cell? ⟨b, i, none⟩ = some v) : W.cell? ⟨b, i, none⟩ = some (cellAt W b i) := by rw [cellAt_of h]; exact h
/-- What l09Draw gives. -/
def TrnD (w w' : World) (g : Nat) (a : Option Addr) (n c : Nat) (e : Ending) : Prop := ∃ (vF vR : Value) (F R : List Int) (rd : Int), e = .returned (.agg #[vF, vR, .int .i64 rd]) ∧ OwI w' w.heap.size vF F ∧ OwI w' w.heap.size vR R ∧ (∀ k, vF.ownBlock = some k → vR.ownBlock ≠ some k) ∧ 1 ≤ F.length ∧ F.length ≤ 3 ∧ R.length ≤ 10 ∧ Src w' g a n c ∧ w.grownBy w' (some g)
/-- The draw's result, put into a box. -/
theorem TrS.ofR {w w1 : World} {g : Nat} {a : Option Addr} {n c : Nat} {vF vR : Value} {F R : List Int} {rd : Int} (hl : g < w.heap.size) (hF : OwI w1 (w.heap.size + 1) vF F) (hR : OwI w1 (w.heap.size + 1) vR R) (hne : ∀ k, vF.ownBlock = some k → vR.ownBlock ≠ some k) (hs : Src w1 g a n c) (hg : (w.alloc (.cells #[.slice none 0 0, .slice none 0 0, .int .i64 0] 28)).grownBy w1 (some g)) :
    TrS w (w1.alloc (.cells #[vF, vR, .int .i64 rd] 28)) g a n c w1.heap.size w.heap.size vF vR F R rd := by
  have hz := hg.size
  simp only [World.size_alloc] at hz
  have lF := World.ownsRow.lt hF
  have lR := World.ownsRow.lt hR
  refine ⟨hs.alloc _, drw_alloc ((drw_alloc (World.grownBy.refl w (some g)) _).trans hg) _, heap_alloc_new _ _, hk_alloc (hk_call (heap_alloc_new w _) hg (by omega)) _, (hF.mono (by omega)).alloc _, (hR.mono (by omega)).alloc _, fun k hk => ⟨?_, ?_, hne k hk⟩, fun k hk => ⟨?_, ?_⟩, by omega, by omega, Nat.le_refl _, hl⟩
  · have := lF k hk; omega
  · have := lF k hk; omega
  · have := lR k hk; omega
  · have := lR k hk; omega
/-- A tooth is stored. -/
theorem TrS.setF {w wr : World} {g : Nat} {a : Option Addr} {n c bx br gF m cF : Nat} {vR : Value} {F R : List Int} {rd : Int} (h : TrS w wr g a n c bx br (.slice (some ⟨gF, 0, none⟩) m cF) vR F R rd) (k : Nat) (x : Int) : TrS w (wr.setCell ⟨gF, k, none⟩ (.int .i64 x)) g a n c bx br (.slice (some ⟨gF, 0, none⟩) m cF) vR (F.set k x) R rd := by
  have h1 := h.lg
  have hx := h.aF gF rfl
  have hb := (World.ownsRow.lt h.front gF rfl).1
  exact ⟨h.src.set (by omega) k _, drw_setN h.grown hb k _, hk_setO h.box (fun e => hx.1 e.symm), hk_setO h.res (fun e => hx.2.1 e.symm), h.front.set k x, h.rear.far (grown_setCellT _ _ _ _) (fun q hq e => by injection e with e; subst e; exact hx.2.2 hq), h.aF, h.aR, h.ne, h.lb, h.lr, h.lg⟩
theorem TrS.setRd {w wr : World} {g : Nat} {a : Option Addr} {n c bx br : Nat} {vF vR : Value} {F R : List Int} {rd : Int} (h : TrS w wr g a n c bx br vF vR F R rd) (x : Int) : TrS w (wr.setCell ⟨bx, 2, none⟩ (.int .i64 x)) g a n c bx br vF vR F R x := by
  have h1 := h.lg
  have h2 := h.lb
  exact ⟨h.src.set (by omega) 2 _, drw_setN h.grown h2 2 _, hk_set (i := 2) (u := .int .i64 x) h.box, hk_setO h.res (fun e => h.ne e.symm), h.front.far (grown_setCellT _ _ _ _) (fun q hq e => by injection e with e; exact (h.aF q hq).1 e.symm), h.rear.far (grown_setCellT _ _ _ _) (fun q hq e => by injection e with e; exact (h.aR q hq).1 e.symm), h.aF, h.aR, h.ne, h.lb, h.lr, h.lg⟩
/-- The rear is made empty. -/
theorem TrS.setR0 {w wr : World} {g : Nat} {a : Option Addr} {n c bx br : Nat} {vF vR : Value} {F R : List Int} {rd : Int} (h : TrS w wr g a n c bx br vF vR F R rd) : TrS w ((wr.alloc (.cells #[] 2)).setCell ⟨bx, 1, none⟩ (.slice (some ⟨wr.heap.size, 0, none⟩) 0 0)) g a n c bx br vF (.slice (some ⟨wr.heap.size, 0, none⟩) 0 0) F [] rd := by
  have h1 := h.lg
  have h2 := h.lb
  have hz := h.grown.size
  have hbl := heap_lt h.box
  have hrl := heap_lt h.res
  have lF := World.ownsRow.lt h.front
  have ha := h.alloc (.cells #[] 2)
  have o1 : OwI (wr.alloc (.cells #[] 2)) w.heap.size (.slice (some ⟨wr.heap.size, 0, none⟩) 0 0) [] := OwI.lit0N9 wr rfl hz
  refine ⟨ha.src.set (by omega) 1 _, drw_setN ha.grown h2 1 _, hk_set (i := 1) (u := .slice (some ⟨wr.heap.size, 0, none⟩) 0 0) ha.box, hk_setO ha.res (fun e => h.ne e.symm), ha.front.far (grown_setCellT _ _ _ _) (fun q hq e => by injection e with e; exact (h.aF q hq).1 e.symm), o1.far (grown_setCellT _ _ _ _) (fun q hq e => ?_), fun q hq => ⟨(h.aF q hq).1, (h.aF q hq).2.1, fun e => ?_⟩, fun q hq => ?_, h.ne, h.lb, h.lr, h.lg⟩
  · have hq' : some wr.heap.size = some q := hq
    have e' := e.trans hq'.symm
    injection e' with e'
    omega
  · have e' : some wr.heap.size = some q := e
    injection e' with e'
    have := (lF q hq).2
    omega
  · have hq' : some wr.heap.size = some q := hq
    injection hq' with hq'
    exact ⟨by omega, by omega⟩
theorem TrS.drew {w wr : World} {g : Nat} {a : Option Addr} {n c bx br : Nat} {vF vR : Value} {F R : List Int} {rd : Int} (h : TrS w wr g a n c bx br vF vR F R rd) : TrS w wr.drew g a n c bx br vF vR F R rd :=
  ⟨h.src.drew, drw_drew h.grown, h.box, h.res, h.front, h.rear, h.aF, h.aR, h.ne, h.lb, h.lr, h.lg⟩
set_option maxRecDepth 100000 in
set_option maxHeartbeats 4000000 in
theorem Draw09_any (g : Nat) (a : Option Addr) (n c : Nat) (w : World) (h : Src w g a n c) :
    Calls Try.prog 89 #[.pointer (some ⟨g, 0, none⟩)] w fun e w' => TrnD w w' g a n c e := by
  have S0 := Lib.hid h
  have hgb := h.lt
  clear h
  go_enter Try.func89, Try.ntmps89
  go_wp2_with fail
  (with_reducible refine (Good09_any g a n c _ (S0.out.alloc _)).mono ?_)
  rintro e w1 ⟨vF, vR, F, R, rd, rfl, hF, hR, hne, hF1, hF3, hR9, hs1, hg1⟩
  rw [World.size_alloc] at hF hR
  have HT1 := Lib.hid (TrS.ofR (rd := rd) hgb hF hR hne hs1 hg1)
  have hbx0 : w.heap.size < w1.heap.size := by have := hg1.size; simp only [World.size_alloc] at this; omega
  rcases hF.form with ⟨-, e0⟩ | ⟨gF, cF, eF, -, -⟩
  · rw [e0] at hF1; simp at hF1
  subst eF
  obtain ⟨aR, cR, eR, -⟩ := hR.rd.shape
  subst eR
  obtain ⟨bx, hbx⟩ : ∃ bx, w1.heap.size = bx := ⟨_, rfl⟩
  rw [hbx] at HT1
  clear S0 hs1 hg1 hF hR hne
  go_wp2_with fail
  generalize hw2 : w1.alloc (.cells #[.slice (some ⟨gF, 0, none⟩) F.length cF, .slice aR R.length cR, .int .i64 rd] 28) = wa at *
  clear hw2
  (with_reducible refine (Next_any g a n c _ _ HT1.out.src).mono ?_)
  rintro e w2 ⟨x2, rfl, ⟨lo2, -, up2⟩, hs2, hg2⟩
  replace up2 := up2 (by omega)
  have HT2 := Lib.hid (HT1.out.call hs2 hg2)
  have hgl := HT2.out.src.lt
  clear hs2 hg2 HT1
  by_cases e0 : x2 = 0
  · subst e0
    obtain ⟨cx0, cx1, cx2, fx, -, -, -, -⟩ := HT2.out.cells
    have cF0 := OwI.cell HT2.out.front (k := 0) (by omega)
    have fF0 := OwI.free HT2.out.front 0
    obtain ⟨z0, hz0⟩ : ∃ z0, F.getD 0 0 = z0 := ⟨_, rfl⟩
    have HZ := Lib.hid hz0
    rw [hz0] at cF0
    have hFI : (0 : Int) < (F.length : Int) := by omega
    have hFn : F ≠ [] := by intro e; rw [e] at hF1; simp at hF1
    have hFN : 0 < F.length := by omega
    clear cx1 cx2 fx hz0
    have KT : Hid (∀ (W' : World) (vR' : Value) (F' R' : List Int) (rd' : Int), TrS w W' g a n c bx w.heap.size (.slice (some ⟨gF, 0, none⟩) F.length cF) vR' F' R' rd' → (W'.cell? ⟨bx, 0, none⟩ = some (.slice (some ⟨gF, 0, none⟩) F.length cF))) := by
      show ∀ (W' : World) (vR' : Value) (F' R' : List Int) (rd' : Int), _
      intro W' vR' F' R' rd' h
      exact h.cells.1
    go_wp2
    go_region_held3 (fun W' => W'.cell? ⟨bx, 0, none⟩ = some (.slice (some ⟨gF, 0, none⟩) F.length cF))
      (first | exact cx0 | exact KT.out _ _ _ _ _ HT3.out | exact KT.out _ _ _ _ _ (HT3.out.setF 0 x3) | exact KT.out _ _ _ _ _ HT2.out.drew | exact KT.out _ _ _ _ _ (HT2.out.alloc _) | exact KT.out _ _ _ _ _ (HT2.out.alloc _).drew)
      ((first
        | (go_at_call 109
           (with_reducible refine (Pick_any g a n c w2.heap.size 4 #[.int .i64 19, .int .i64 20, .int .i64 60, .int .i64 61] _ (by first | exact HT2.out.src.alloc _ | exact (HT2.out.src.alloc _).drew) (by first | exact heap_alloc_new _ _ | exact hk_drew (heap_alloc_new w2 _)) rfl (by omega) (by omega) (by simp) (by omega)).mono ?_)
           rintro e w3 ⟨x3, rfl, hs3, hg3⟩
           have HT3 : Hid (TrS w w3 g a n c bx w.heap.size (.slice (some ⟨gF, 0, none⟩) F.length cF) (.slice aR R.length cR) F R rd) := (by first | exact (HT2.out.alloc _).call hs3 hg3 | exact (HT2.out.alloc _).drew.call hs3 hg3)
           obtain ⟨z3, cF3⟩ : ∃ z, w3.cell? ⟨gF, 0, none⟩ = some (.int .i64 z) := ⟨_, OwI.cell HT3.out.front (k := 0) (by omega)⟩
           have fF3 := OwI.free HT3.out.front 0
           clear hs3 hg3)
        | fail))
    all_goals
      have HTE := Lib.hid (HT3.out.setF 0 x3)
      clear cx0 cF0 fF0 KT
      generalize w3.setCell ⟨gF, 0, none⟩ (.int .i64 x3) = w4 at *
      obtain ⟨cx0, cx1, cx2, fx, cr0, cr1, cr2, fr⟩ := HTE.out.cells
      have f0 := fr 0
      have f1 := fr 1
      have f2 := fr 2
      have haF := HTE.out.aF
      have HAF := Lib.hid haF
      have hbn := HTE.out.ne
      clear fx fr haF
      go_wp2
      refine bodyPost_ret (v := .agg #[.slice (some ⟨gF, 0, none⟩) F.length cF, .slice aR R.length cR, .int .i64 rd]) (by simp [results, Try.results89, go_sem, *]) rfl ⟨_, _, (F.set 0 x3), R, rd, rfl, (HTE.out.fin _ _ _).1, (HTE.out.fin _ _ _).2.1, fun k hk => (HAF.out k hk).2.2, by (try rw [List.length_set]); omega, by (try rw [List.length_set]); omega, by omega, (HTE.out.fin _ _ _).2.2.1, (HTE.out.fin _ _ _).2.2.2⟩
  have n0 : (x2 == 0) = false := by rw [beq_eq_false_iff_ne]; exact e0
  by_cases e1 : x2 = 1
  · subst e1
    obtain ⟨cx0, cx1, cx2, fx, -, -, -, -⟩ := HT2.out.cells
    have hbl := heap_lt HT2.out.box
    clear cx0 cx2 fx
    go_wp2
    go_region_law (first
        | (refine step_goCall _ (by rfl) 109 #[.pointer (some ⟨g, 0, none⟩), .slice (some ⟨w2.heap.size, 0, none⟩) 3 3] (by first | rfl | (go_simp; done) | (simp [go_sem, execOp, resolve, invoke]; done)) _ (Pick_any g a n c w2.heap.size 3 #[.int .i64 52, .int .i64 53, .int .i64 9] _ (by first | exact HT2.out.src.alloc _ | exact (HT2.out.src.alloc _).drew) (by first | exact heap_alloc_new _ _ | exact hk_drew (heap_alloc_new w2 _)) rfl (by omega) (by omega) (by simp) (by omega)) ?_
           rintro e w3 ⟨x3, rfl, hs3, hg3⟩
           refine ⟨_, rfl, ?_⟩
           have HT3 : Hid (TrS w w3 g a n c bx w.heap.size (.slice (some ⟨gF, 0, none⟩) F.length cF) (.slice aR R.length cR) F R rd) := (by first | exact (HT2.out.alloc _).call hs3 hg3 | exact (HT2.out.alloc _).drew.call hs3 hg3)
           have cy1 := HT3.out.cells.2.1
           have hbl3 := heap_lt HT3.out.box
           clear hs3 hg3)
        | (refine step_appI4 _ (by rfl) _ _ (by rfl) w.heap.size (.slice aR R.length cR) _ R [x3] (by rfl) (by rfl) ?_ ?_ ?_ ?_ ?_
           · repeat (first | (with_reducible exact HT3.out.rear) | (with_reducible refine OwI.drew ?_) | (with_reducible refine OwI.alloc ?_ _))
           · repeat (first | (exact RdI.oneX9 _ x3 (by simp)) | (with_reducible refine RdI.drew ?_) | (with_reducible refine RdI.alloc ?_ _))
           · (try simp); (try omega)
           · (have := HT3.out.grown.size; (try simp); (try omega))
           intro v4 w4 ho4 hg4 hk4
           obtain ⟨g4, c4, e4⟩ := ho4.shapeN9
           subst e4
           have HT4 := Lib.hid (HT3.out.appR hg4 ho4 hk4)
           have cb := hk_cell (i := 1) (HT3.out.appR1 (v1 := .slice none 0 0) hg4) rfl
           have fb := hk_free (i := 1) (HT3.out.appR1 (v1 := .slice none 0 0) hg4)
           clear ho4 hg4 hk4)
        | fail)
    all_goals
      have HTE := HT4
      clear cb fb cx1 cy1 HT4
      generalize w4.setCell ⟨bx, 1, none⟩ (.slice (some ⟨g4, 0, none⟩) (R.length + 1) c4) = w5 at *
      obtain ⟨cx0, cx1, cx2, fx, cr0, cr1, cr2, fr⟩ := HTE.out.cells
      have f0 := fr 0
      have f1 := fr 1
      have f2 := fr 2
      have haF := HTE.out.aF
      have HAF := Lib.hid haF
      have hbn := HTE.out.ne
      clear fx fr haF
      go_wp2
      refine bodyPost_ret (v := .agg #[.slice (some ⟨gF, 0, none⟩) F.length cF, .slice (some ⟨g4, 0, none⟩) (R.length + 1) c4, .int .i64 rd]) (by simp [results, Try.results89, go_sem, *]) rfl ⟨_, _, F, (R ++ [x3]), rd, rfl, (HTE.out.fin _ _ _).1, (HTE.out.fin _ _ _).2.1, fun k hk => (HAF.out k hk).2.2, by (try rw [List.length_set]); omega, by (try rw [List.length_set]); omega, by rw [List.length_append, List.length_singleton]; omega, (HTE.out.fin _ _ _).2.2.1, (HTE.out.fin _ _ _).2.2.2⟩
  have n1 : (x2 == 1) = false := by rw [beq_eq_false_iff_ne]; exact e1
  by_cases e2 : x2 = 2
  · subst e2
    go_wp2_with fail
    (with_reducible refine (Pick_any g a n c _ 4 _ _ (HT2.out.src.alloc _) (heap_alloc_new _ _) rfl (by omega) (by omega) (by simp) (by omega)).mono ?_)
    rintro e w3 ⟨x3, rfl, hs3, hg3⟩
    have HT3 := Lib.hid ((HT2.out.alloc _).call hs3 hg3)
    obtain ⟨d0, d1, d2, fx, -, -, -, -⟩ := HT3.out.cells
    have fx2 := fx 2
    have HTE := Lib.hid (HT3.out.setRd x3)
    clear hs3 hg3 HT2 fx
    obtain ⟨cx0, cx1, cx2, fx, cr0, cr1, cr2, fr⟩ := HTE.out.cells
    have f0 := fr 0
    have f1 := fr 1
    have f2 := fr 2
    have haF := HTE.out.aF
    have HAF := Lib.hid haF
    have hbn := HTE.out.ne
    clear fx fr haF
    go_wp2
    refine bodyPost_ret (v := .agg #[.slice (some ⟨gF, 0, none⟩) F.length cF, .slice aR R.length cR, .int .i64 x3]) (by simp [results, Try.results89, go_sem, *]) rfl ⟨_, _, F, R, x3, rfl, (HTE.out.fin _ _ _).1, (HTE.out.fin _ _ _).2.1, fun k hk => (HAF.out k hk).2.2, by (try rw [List.length_set]); omega, by (try rw [List.length_set]); omega, by omega, (HTE.out.fin _ _ _).2.2.1, (HTE.out.fin _ _ _).2.2.2⟩
  have n2 : (x2 == 2) = false := by rw [beq_eq_false_iff_ne]; exact e2
  by_cases e3 : x2 = 3
  · subst e3
    obtain ⟨d0, d1, d2, fx, -, -, -, -⟩ := (HT2.out.alloc (.cells #[] 2)).cells
    have fx1 := fx 1
    clear fx
    have hbl := heap_lt HT2.out.box
    have hs0 := HT2.out.setR0
    rw [World.setCell_alloc_past (hn := hbl)] at hs0
    have HTE := Lib.hid hs0
    clear hs0
    go_upto_region 11 with fail
    generalize hw4 : (w2.setCell ⟨bx, 1, none⟩ (.slice (some ⟨w2.heap.size, 0, none⟩) 0 0)).alloc (.cells #[] 2) = w4 at *
    clear d0 d1 d2 fx1 hw4
    obtain ⟨cx0, cx1, cx2, fx, cr0, cr1, cr2, fr⟩ := HTE.out.cells
    have f0 := fr 0
    have f1 := fr 1
    have f2 := fr 2
    have haF := HTE.out.aF
    have HAF := Lib.hid haF
    have hbn := HTE.out.ne
    clear fx fr haF
    go_wp2
    refine bodyPost_ret (v := .agg #[.slice (some ⟨gF, 0, none⟩) F.length cF, .slice (some ⟨w2.heap.size, 0, none⟩) 0 0, .int .i64 rd]) (by simp [results, Try.results89, go_sem, *]) rfl ⟨_, _, F, [], rd, rfl, (HTE.out.fin _ _ _).1, (HTE.out.fin _ _ _).2.1, fun k hk => (HAF.out k hk).2.2, by (try rw [List.length_set]); omega, by (try rw [List.length_set]); omega, by simp, (HTE.out.fin _ _ _).2.2.1, (HTE.out.fin _ _ _).2.2.2⟩
  have n3 : (x2 == 3) = false := by rw [beq_eq_false_iff_ne]; exact e3
  have HTE := HT2
  obtain ⟨cx0, cx1, cx2, fx, cr0, cr1, cr2, fr⟩ := HTE.out.cells
  have f0 := fr 0
  have f1 := fr 1
  have f2 := fr 2
  have haF := HTE.out.aF
  have HAF := Lib.hid haF
  have hbn := HTE.out.ne
  clear fx fr haF
  go_wp2
  refine bodyPost_ret (v := .agg #[.slice (some ⟨gF, 0, none⟩) F.length cF, .slice aR R.length cR, .int .i64 rd]) (by simp [results, Try.results89, go_sem, *]) rfl ⟨_, _, F, R, rd, rfl, (HTE.out.fin _ _ _).1, (HTE.out.fin _ _ _).2.1, fun k hk => (HAF.out k hk).2.2, by (try rw [List.length_set]); omega, by (try rw [List.length_set]); omega, by omega, (HTE.out.fin _ _ _).2.2.1, (HTE.out.fin _ _ _).2.2.2⟩
end Go.Proofs.Ytfdnhamkkcmnfaa
