/- Contracts of the draws for IsCrossed and ReachableGears. -/
import Derived.Test.YtfdnhamkkcmnfaaTrnC
set_option linter.unusedSimpArgs false
set_option linter.unusedVariables false
namespace Go.Proofs.Ytfdnhamkkcmnfaa
open Go.RowKit

/-- A train that is drawn from a code, in its box bx; the result's box lies at the call's beginning. -/
structure TopS (w wr : World) (g : Nat) (a : Option Addr) (n c bx : Nat) (vF vR : Value) (F R : List Int) (rd : Int) : Prop where
  src : Src wr g a n c
  below : Below w.heap.size w wr
  box : wr.heap[bx]? = some (.cells #[vF, vR, .int .i64 rd] 28 (0, 0))
  res : wr.heap[w.heap.size]? = some (.cells #[.slice none 0 0, .slice none 0 0, .int .i64 0] 28 (0, 0))
  front : OwI wr (g + 1) vF F
  rear : OwI wr (g + 1) vR R
  lg : w.heap.size < g
  lb : g < bx
theorem TopS.start {w w2 : World} {g : Nat} {a : Option Addr} {n c B : Nat} {vF vR : Value} {F R : List Int} {rd : Int} (hb : Below w.heap.size w w2) (hK : w2.heap[w.heap.size]? = some (.cells #[.slice none 0 0, .slice none 0 0, .int .i64 0] 28 (0, 0))) (hs : Src w2 g a n c) (hF : OwI w2 B vF F) (hR : OwI w2 B vR R) (hg : w.heap.size < g) (hgB : g < B) : TopS w (w2.alloc (.cells #[vF, vR, .int .i64 rd] 28)) g a n c w2.heap.size vF vR F R rd :=
  ⟨hs.alloc _, hb.alloc hb.size _, heap_alloc_new _ _, hk_alloc hK _, (hF.mono (by omega)).alloc _, (hR.mono (by omega)).alloc _, hg, hs.lt⟩
theorem TopS.call {w wr w1 : World} {g : Nat} {a : Option Addr} {n c bx : Nat} {vF vR : Value} {F R : List Int} {rd : Int} (h : TopS w wr g a n c bx vF vR F R rd) (hs : Src w1 g a n c) (hg : wr.grownBy w1 (some g)) : TopS w w1 g a n c bx vF vR F R rd := by
  have h1 := h.lg
  have h2 := h.lb
  exact ⟨hs, h.below.grown hg h.below.size (fun q hq => by injection hq with hq; omega), hk_call h.box hg (by omega), hk_call h.res hg (by omega), h.front.farLt hg (fun q hq => by injection hq with hq; omega), h.rear.farLt hg (fun q hq => by injection hq with hq; omega), h.lg, h.lb⟩
theorem TopS.drew {w wr : World} {g : Nat} {a : Option Addr} {n c bx : Nat} {vF vR : Value} {F R : List Int} {rd : Int} (h : TopS w wr g a n c bx vF vR F R rd) : TopS w wr.drew g a n c bx vF vR F R rd :=
  ⟨h.src.drew, h.below.drew, h.box, h.res, h.front, h.rear, h.lg, h.lb⟩
theorem TopS.cells {w wr : World} {g : Nat} {a : Option Addr} {n c bx : Nat} {vF vR : Value} {F R : List Int} {rd : Int} (h : TopS w wr g a n c bx vF vR F R rd) : (wr.cell? ⟨bx, 0, none⟩ = some vF ∧ wr.cell? ⟨bx, 1, none⟩ = some vR ∧ wr.cell? ⟨bx, 2, none⟩ = some (.int .i64 rd)) ∧ wr.cell? ⟨w.heap.size, 0, none⟩ = some (.slice none 0 0) ∧ wr.cell? ⟨w.heap.size, 1, none⟩ = some (.slice none 0 0) ∧ wr.cell? ⟨w.heap.size, 2, none⟩ = some (.int .i64 0) ∧ ∀ i, wr.frozen? ⟨w.heap.size, i, none⟩ = false :=
  ⟨⟨hk_cell (i := 0) h.box rfl, hk_cell (i := 1) h.box rfl, hk_cell (i := 2) h.box rfl⟩, hk_cell (i := 0) h.res rfl, hk_cell (i := 1) h.res rfl, hk_cell (i := 2) h.res rfl, fun i => hk_free (i := i) h.res⟩
theorem TopS.fin {w wr : World} {g : Nat} {a : Option Addr} {n c bx : Nat} {vF vR : Value} {F R : List Int} {rd : Int} (h : TopS w wr g a n c bx vF vR F R rd) (u0 u1 u2 : Value) :
    OwI (((wr.setCell ⟨w.heap.size, 0, none⟩ u0).setCell ⟨w.heap.size, 1, none⟩ u1).setCell ⟨w.heap.size, 2, none⟩ u2) w.heap.size vF F ∧ OwI (((wr.setCell ⟨w.heap.size, 0, none⟩ u0).setCell ⟨w.heap.size, 1, none⟩ u1).setCell ⟨w.heap.size, 2, none⟩ u2) w.heap.size vR R ∧ Below w.heap.size w (((wr.setCell ⟨w.heap.size, 0, none⟩ u0).setCell ⟨w.heap.size, 1, none⟩ u1).setCell ⟨w.heap.size, 2, none⟩ u2) := by
  have h1 := h.lg
  have kF : ∀ (i : Nat) (W : World) (u : Value), OwI W (g + 1) vF F → OwI (W.setCell ⟨w.heap.size, i, none⟩ u) (g + 1) vF F := fun i W u ho => ho.farLt (grown_setCellT W _ i u) (fun q hq => by injection hq with hq; omega)
  have kR : ∀ (i : Nat) (W : World) (u : Value), OwI W (g + 1) vR R → OwI (W.setCell ⟨w.heap.size, i, none⟩ u) (g + 1) vR R := fun i W u ho => ho.farLt (grown_setCellT W _ i u) (fun q hq => by injection hq with hq; omega)
  exact ⟨(kF 2 _ _ (kF 1 _ _ (kF 0 _ _ h.front))).mono (by omega), (kR 2 _ _ (kR 1 _ _ (kR 0 _ _ h.rear))).mono (by omega), ((h.below.setCell (Nat.le_refl _) _).setCell (Nat.le_refl _) _).setCell (Nat.le_refl _) _⟩
theorem TopS.cellsFin {w wr : World} {g : Nat} {a : Option Addr} {n c bx : Nat} {vF vR : Value} {F R : List Int} {rd : Int} (h : TopS w wr g a n c bx vF vR F R rd) (u0 u1 u2 : Value) :
    (((wr.setCell ⟨w.heap.size, 0, none⟩ u0).setCell ⟨w.heap.size, 1, none⟩ u1).setCell ⟨w.heap.size, 2, none⟩ u2).cell? ⟨bx, 0, none⟩ = some vF ∧ (((wr.setCell ⟨w.heap.size, 0, none⟩ u0).setCell ⟨w.heap.size, 1, none⟩ u1).setCell ⟨w.heap.size, 2, none⟩ u2).cell? ⟨bx, 1, none⟩ = some vR ∧ (((wr.setCell ⟨w.heap.size, 0, none⟩ u0).setCell ⟨w.heap.size, 1, none⟩ u1).setCell ⟨w.heap.size, 2, none⟩ u2).cell? ⟨bx, 2, none⟩ = some (.int .i64 rd) := by
  have h1 := h.lg
  have h2 := h.lb
  have hne : bx ≠ w.heap.size := by omega
  have hk := hk_setO (u := u2) (i := 2) (hk_setO (u := u1) (i := 1) (hk_setO (u := u0) (i := 0) h.box hne) hne) hne
  exact ⟨hk_cell (i := 0) hk rfl, hk_cell (i := 1) hk rfl, hk_cell (i := 2) hk rfl⟩
set_option maxRecDepth 100000 in
set_option maxHeartbeats 4000000 in
theorem DrawIsCrossed_any (a : Option Addr) (n c : Nat) (w : World) (h : RdB w w.heap.size a n) (hn : n ≤ 4096) :
    Calls Try.prog 91 #[.slice a n c] w fun e w' => ∃ (vF vR : Value) (F R : List Int) (rd l i j : Int), e = .returned (.tuple #[.agg #[vF, vR, .int .i64 rd], .int .i64 l, .int .i64 i, .int .i64 j]) ∧ OwI w' w.heap.size vF F ∧ OwI w' w.heap.size vR R ∧ 1 ≤ F.length ∧ F.length ≤ 3 ∧ R.length ≤ 10 ∧ Below w.heap.size w w' := by
  have HB0 := Lib.hid h
  clear h
  go_enter Try.func91, Try.ntmps91
  go_wp2_with fail
  (with_reducible refine (From_any a n c _ (rdb_alloc HB0.out _) hn).mono ?_)
  rintro e w1 ⟨g, rfl, hs1, hgw, hb1⟩
  have K1 : w1.heap[w.heap.size]? = some (.cells #[.slice none 0 0, .slice none 0 0, .int .i64 0] 28 (0, 0)) := hk_below (heap_alloc_new _ _) hb1
  have T1 : Below w.heap.size w w1 := ((Below.refl _ _).alloc (Nat.le_refl _) _).trans (hb1.mono (by simp))
  have hgl := hs1.lt
  (try simp only [World.size_alloc] at hgw)
  go_wp2_with fail
  (with_reducible refine (Some09_any g a n c _ hs1).mono ?_)
  rintro e w2 ⟨vF, vR, F, R, rd, f, r, rfl, hF, hR, hne, hF1, hF3, hR10, hs2, hg2⟩
  have hg0 : w.heap.size < g := by omega
  have T2 : Below w.heap.size w w2 := T1.grown hg2 T1.size (fun q hq => by injection hq with hq; omega)
  have HT0 := Lib.hid (TopS.start (rd := rd) T2 (hk_call K1 hg2 (by omega)) hs2 hF hR hg0 hgl)
  obtain ⟨aF, cF, eF, -⟩ := hF.rd.shape
  subst eF
  obtain ⟨aR, cR, eR, -⟩ := hR.rd.shape
  subst eR
  obtain ⟨bx, hbx⟩ : ∃ bx, w2.heap.size = bx := ⟨_, rfl⟩
  rw [hbx] at HT0
  have hbxr : w.heap.size < bx := by have := HT0.out.lb; omega
  clear K1 T1 T2 hs1 hb1 hs2 hg2 hF hR hne hgw hgl
  go_upto_region 3 with fail
  generalize hw2 : w2.alloc (.cells #[.slice aF F.length cF, .slice aR R.length cR, .int .i64 rd] 28) = wa at *
  clear hw2
  have HTX0 := HT0
  clear HT0
  obtain ⟨⟨cx0, cx1, cx2⟩, cr0, cr1, cr2, fr⟩ := HTX0.out.cells
  have f0 := fr 0
  have f1 := fr 1
  have f2 := fr 2
  clear fr
  have KT : Hid (∀ (W' : World), TopS w W' g a n c bx (.slice aF F.length cF) (.slice aR R.length cR) F R rd → (W'.cell? ⟨bx, 0, none⟩ = some (.slice aF F.length cF) ∧ W'.cell? ⟨bx, 1, none⟩ = some (.slice aR R.length cR) ∧ W'.cell? ⟨bx, 2, none⟩ = some (.int .i64 rd))) := by
    show ∀ (W' : World), _
    intro W' h
    exact h.cells.1
  go_region_held3 (fun W' => W'.cell? ⟨bx, 0, none⟩ = some (.slice aF F.length cF) ∧ W'.cell? ⟨bx, 1, none⟩ = some (.slice aR R.length cR) ∧ W'.cell? ⟨bx, 2, none⟩ = some (.int .i64 rd))
    (first | exact ⟨cx0, cx1, cx2⟩ | exact KT.out _ HTX1.out | exact KT.out _ HTX1.out.drew | exact KT.out _ HTX0.out | exact KT.out _ HTX0.out.drew | exact HTX1.out.cellsFin _ _ _)
    ((first
      | (go_at_call 93
         (with_reducible refine (Limit11_any g a n c _ (by first | exact HTX0.out.src | exact HTX0.out.src.drew)).mono ?_)
         rintro e wx1 ⟨xx1, rfl, hs3, hg3⟩
         have HTX1 : Hid (TopS w wx1 g a n c bx (.slice aF F.length cF) (.slice aR R.length cR) F R rd) := (by first | exact HTX0.out.call hs3 hg3 | exact HTX0.out.drew.call hs3 hg3)
         obtain ⟨-, rr0, rr1, rr2, rfr⟩ := HTX1.out.cells
         have rf0 := rfr 0
         have rf1 := rfr 1
         have rf2 := rfr 2
         clear hs3 hg3 rfr)
      | fail))
  all_goals
    clear cx0 cx1 cx2 KT
    go_wp2
    refine bodyPost_ret (v := .tuple #[.agg #[.slice aF F.length cF, .slice aR R.length cR, .int .i64 rd], .int .i64 xx1, .int .i64 f, .int .i64 r]) (by simp [results, Try.results91, go_sem, *]) rfl ⟨_, _, F, R, rd, _, _, _, rfl, (HTX1.out.fin _ _ _).1, (HTX1.out.fin _ _ _).2.1, hF1, hF3, hR10, (HTX1.out.fin _ _ _).2.2⟩
theorem OwI.setT {w : World} {p : Nat} {v : Value} {L : List Int} (h : OwI w (p + 1) v L) (i : Nat) (u : Value) : OwI (w.setCell ⟨p, i, none⟩ u) (p + 1) v L := h.farLt (grown_setCellT w _ i u) (fun q hq => by injection hq with hq; omega)
set_option maxHeartbeats 800000 in
theorem DrawReachableGears_any (a : Option Addr) (n c : Nat) (w : World) (h : RdB w w.heap.size a n) (hn : n ≤ 4096) :
    Calls Try.prog 53 #[.slice a n c] w fun e w' => ∃ (vF vR : Value) (F R : List Int) (rd l i j : Int), e = .returned (.tuple #[.agg #[vF, vR, .int .i64 rd], .int .i64 l, .int .i64 i, .int .i64 j]) ∧ OwI w' w.heap.size vF F ∧ OwI w' w.heap.size vR R ∧ 1 ≤ F.length ∧ F.length ≤ 3 ∧ R.length ≤ 10 ∧ Below w.heap.size w w' := by
  have HB0 := Lib.hid h
  clear h
  go_enter Try.func53, Try.ntmps53
  go_wp2_with fail
  (with_reducible refine (DrawIsCrossed_any a n c _ (rdb_alloc HB0.out _) hn).mono ?_)
  rintro e w1 ⟨vF, vR, F, R, rd, l, i, j, rfl, hF, hR, h1, h3, h10, hb1⟩
  have K1 : w1.heap[w.heap.size]? = some (.cells #[.slice none 0 0, .slice none 0 0, .int .i64 0] 28 (0, 0)) := hk_below (heap_alloc_new _ _) hb1
  have T1 : Below w.heap.size w w1 := ((Below.refl _ _).alloc (Nat.le_refl _) _).trans (hb1.mono (by simp))
  have HF := Lib.hid hF
  have HR := Lib.hid hR
  have HT := Lib.hid T1
  have cr0 := hk_cell (i := 0) K1 rfl
  have cr1 := hk_cell (i := 1) K1 rfl
  have cr2 := hk_cell (i := 2) K1 rfl
  have f0 := hk_free (i := 0) K1
  have f1 := hk_free (i := 1) K1
  have f2 := hk_free (i := 2) K1
  obtain ⟨aF, cF, eF, -⟩ := hF.rd.shape
  subst eF
  obtain ⟨aR, cR, eR, -⟩ := hR.rd.shape
  subst eR
  clear hF hR K1 hb1 T1
  go_wp2
  refine bodyPost_ret (v := .tuple #[.agg #[.slice aF F.length cF, .slice aR R.length cR, .int .i64 rd], .int .i64 l, .int .i64 i, .int .i64 j]) (by simp [results, Try.results53, go_sem, *]) rfl ⟨_, _, F, R, rd, _, _, _, rfl, ?_, ?_, h1, h3, h10, ?_⟩
  · have h0 : OwI w1 (w.heap.size + 1) (.slice aF F.length cF) F := by have := HF.out; rwa [World.size_alloc] at this
    exact (OwI.setT (OwI.setT (OwI.setT h0 0 _) 1 _) 2 _).mono (Nat.le_succ _)
  · have h0 : OwI w1 (w.heap.size + 1) (.slice aR R.length cR) R := by have := HR.out; rwa [World.size_alloc] at this
    exact (OwI.setT (OwI.setT (OwI.setT h0 0 _) 1 _) 2 _).mono (Nat.le_succ _)
  · exact ((HT.out.setCell (Nat.le_refl _) _).setCell (Nat.le_refl _) _).setCell (Nat.le_refl _) _
end Go.Proofs.Ytfdnhamkkcmnfaa
