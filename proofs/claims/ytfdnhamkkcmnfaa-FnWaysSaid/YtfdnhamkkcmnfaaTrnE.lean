/- Contracts of the draws for ShortestWay and ShiftGear. -/
import Derived.Test.YtfdnhamkkcmnfaaTrnD
set_option linter.unusedSimpArgs false
set_option linter.unusedVariables false
namespace Go.Proofs.Ytfdnhamkkcmnfaa
open Go.RowKit

set_option maxRecDepth 100000 in
set_option maxHeartbeats 4000000 in
theorem DrawShortestWay_any (a : Option Addr) (n c : Nat) (w : World) (h : RdB w w.heap.size a n) (hn : n ≤ 4096) :
    Calls Try.prog 55 #[.slice a n c] w fun e w' => ∃ (vF vR : Value) (F R : List Int) (rd l i j tf tr : Int), e = .returned (.tuple #[.agg #[vF, vR, .int .i64 rd], .int .i64 l, .int .i64 i, .int .i64 j, .int .i64 tf, .int .i64 tr]) ∧ OwI w' w.heap.size vF F ∧ OwI w' w.heap.size vR R ∧ 1 ≤ F.length ∧ F.length ≤ 3 ∧ R.length ≤ 10 ∧ Below w.heap.size w w' := by
  have HB0 := Lib.hid h
  clear h
  go_enter Try.func55, Try.ntmps55
  go_wp2_with fail
  (with_reducible refine (From_any a n c _ (rdb_alloc HB0.out _) hn).mono ?_)
  rintro e w1 ⟨g, rfl, hs1, hgw, hb1⟩
  have K1 : w1.heap[w.heap.size]? = some (.cells #[.slice none 0 0, .slice none 0 0, .int .i64 0] 28 (0, 0)) := hk_below (heap_alloc_new _ _) hb1
  have T1 : Below w.heap.size w w1 := ((Below.refl _ _).alloc (Nat.le_refl _) _).trans (hb1.mono (by simp))
  have hgl := hs1.lt
  (try simp only [World.size_alloc] at hgw)
  go_wp2_with fail
  (with_reducible refine (Some09_any g a n c _ hs1).mono ?_)
  rintro e w2 ⟨vF, vR, F, R, rd, f, r, rfl, hF, hR, hne, hF1, hF3, hR10, hs2, hg2⟩
  have hg0 : w.heap.size < g := by omega
  have T2 : Below w.heap.size w w2 := T1.grown hg2 T1.size (fun q hq => by injection hq with hq; omega)
  have HT0 := Lib.hid (TopS.start (rd := rd) T2 (hk_call K1 hg2 (by omega)) hs2 hF hR hg0 hgl)
  obtain ⟨aF, cF, eF, -⟩ := hF.rd.shape
  subst eF
  obtain ⟨aR, cR, eR, -⟩ := hR.rd.shape
  subst eR
  obtain ⟨bx, hbx⟩ : ∃ bx, w2.heap.size = bx := ⟨_, rfl⟩
  rw [hbx] at HT0
  have hbxr : w.heap.size < bx := by have := HT0.out.lb; omega
  clear K1 T1 T2 hs1 hb1 hs2 hg2 hF hR hne hgw hgl
  go_wp2_with fail
  generalize hw2 : w2.alloc (.cells #[.slice aF F.length cF, .slice aR R.length cR, .int .i64 rd] 28) = wa at *
  clear hw2
  (with_reducible refine (Limit11_any g a n c _ HT0.out.src).mono ?_)
  rintro e w3 ⟨l, rfl, hs3, hg3⟩
  have HT1 := Lib.hid (HT0.out.call hs3 hg3)
  clear HT0 hs3 hg3
  have hFw : (F.length : Int) ≤ 3 := by omega
  have hRw : (R.length : Int) ≤ 10 := by omega
  go_upto_region 4 with fail
  have HTX0 := HT1
  clear HT1
  obtain ⟨⟨cx0, cx1, cx2⟩, cr0, cr1, cr2, fr⟩ := HTX0.out.cells
  have f0 := fr 0
  have f1 := fr 1
  have f2 := fr 2
  clear fr
  have KT : Hid (∀ (W' : World), TopS w W' g a n c bx (.slice aF F.length cF) (.slice aR R.length cR) F R rd → (W'.cell? ⟨bx, 0, none⟩ = some (.slice aF F.length cF) ∧ W'.cell? ⟨bx, 1, none⟩ = some (.slice aR R.length cR) ∧ W'.cell? ⟨bx, 2, none⟩ = some (.int .i64 rd))) := by
    show ∀ (W' : World), _
    intro W' h
    exact h.cells.1
  go_region_held3 (fun W' => W'.cell? ⟨bx, 0, none⟩ = some (.slice aF F.length cF) ∧ W'.cell? ⟨bx, 1, none⟩ = some (.slice aR R.length cR) ∧ W'.cell? ⟨bx, 2, none⟩ = some (.int .i64 rd))
    (first | exact ⟨cx0, cx1, cx2⟩ | exact KT.out _ HTX4.out | exact KT.out _ HTX4.out.drew | exact KT.out _ HTX3.out | exact KT.out _ HTX3.out.drew | exact KT.out _ HTX2.out | exact KT.out _ HTX2.out.drew | exact KT.out _ HTX1.out | exact KT.out _ HTX1.out.drew | exact KT.out _ HTX0.out | exact KT.out _ HTX0.out.drew | exact HTX4.out.cellsFin _ _ _)
    ((first
      | (go_at_call 88
         (with_reducible refine (Next_any g a n c _ _ (by first | exact HTX3.out.src | exact HTX3.out.src.drew)).mono ?_)
         rintro e wx4 ⟨xx4, rfl, ⟨lx4, -, ux4⟩, hs3, hg3⟩
         have HTX4 : Hid (TopS w wx4 g a n c bx (.slice aF F.length cF) (.slice aR R.length cR) F R rd) := (by first | exact HTX3.out.call hs3 hg3 | exact HTX3.out.drew.call hs3 hg3)
         obtain ⟨-, rr0, rr1, rr2, rfr⟩ := HTX4.out.cells
         have rf0 := rfr 0
         have rf1 := rfr 1
         have rf2 := rfr 2
         clear hs3 hg3 rfr)
      | (go_at_call 88
         (with_reducible refine (Next_any g a n c _ _ (by first | exact HTX2.out.src | exact HTX2.out.src.drew)).mono ?_)
         rintro e wx3 ⟨xx3, rfl, ⟨lx3, -, ux3⟩, hs3, hg3⟩
         have HTX3 : Hid (TopS w wx3 g a n c bx (.slice aF F.length cF) (.slice aR R.length cR) F R rd) := (by first | exact HTX2.out.call hs3 hg3 | exact HTX2.out.drew.call hs3 hg3)
         obtain ⟨-, rr0, rr1, rr2, rfr⟩ := HTX3.out.cells
         have rf0 := rfr 0
         have rf1 := rfr 1
         have rf2 := rfr 2
         clear hs3 hg3 rfr)
      | (go_at_call 88
         (with_reducible refine (Next_any g a n c _ _ (by first | exact HTX1.out.src | exact HTX1.out.src.drew)).mono ?_)
         rintro e wx2 ⟨xx2, rfl, ⟨lx2, -, ux2⟩, hs3, hg3⟩
         have HTX2 : Hid (TopS w wx2 g a n c bx (.slice aF F.length cF) (.slice aR R.length cR) F R rd) := (by first | exact HTX1.out.call hs3 hg3 | exact HTX1.out.drew.call hs3 hg3)
         obtain ⟨-, rr0, rr1, rr2, rfr⟩ := HTX2.out.cells
         have rf0 := rfr 0
         have rf1 := rfr 1
         have rf2 := rfr 2
         clear hs3 hg3 rfr)
      | (go_at_call 88
         (with_reducible refine (Next_any g a n c _ _ (by first | exact HTX0.out.src | exact HTX0.out.src.drew)).mono ?_)
         rintro e wx1 ⟨xx1, rfl, ⟨lx1, -, ux1⟩, hs3, hg3⟩
         have HTX1 : Hid (TopS w wx1 g a n c bx (.slice aF F.length cF) (.slice aR R.length cR) F R rd) := (by first | exact HTX0.out.call hs3 hg3 | exact HTX0.out.drew.call hs3 hg3)
         obtain ⟨-, rr0, rr1, rr2, rfr⟩ := HTX1.out.cells
         have rf0 := rfr 0
         have rf1 := rfr 1
         have rf2 := rfr 2
         clear hs3 hg3 rfr)
      | fail))
  all_goals
    clear cx0 cx1 cx2 KT
    go_wp2
    refine bodyPost_ret (v := .tuple #[.agg #[.slice aF F.length cF, .slice aR R.length cR, .int .i64 rd], .int .i64 l, .int .i64 f, .int .i64 r, .int .i64 xx2, .int .i64 xx4]) (by simp [results, Try.results55, go_sem, *]) rfl ⟨_, _, F, R, rd, _, _, _, _, _, rfl, (HTX4.out.fin _ _ _).1, (HTX4.out.fin _ _ _).2.1, hF1, hF3, hR10, (HTX4.out.fin _ _ _).2.2⟩
set_option maxRecDepth 100000 in
set_option maxHeartbeats 4000000 in
theorem DrawShiftGear_any (a : Option Addr) (n c : Nat) (w : World) (h : RdB w w.heap.size a n) (hn : n ≤ 4096) :
    Calls Try.prog 56 #[.slice a n c] w fun e w' => ∃ (vF vR : Value) (F R : List Int) (rd l i j mv : Int), e = .returned (.tuple #[.agg #[vF, vR, .int .i64 rd], .int .i64 l, .int .i64 i, .int .i64 j, .int .i64 mv]) ∧ OwI w' w.heap.size vF F ∧ OwI w' w.heap.size vR R ∧ 1 ≤ F.length ∧ F.length ≤ 3 ∧ R.length ≤ 10 ∧ Below w.heap.size w w' := by
  have HB0 := Lib.hid h
  clear h
  go_enter Try.func56, Try.ntmps56
  go_wp2_with fail
  (with_reducible refine (From_any a n c _ (rdb_alloc HB0.out _) hn).mono ?_)
  rintro e w1 ⟨g, rfl, hs1, hgw, hb1⟩
  have K1 : w1.heap[w.heap.size]? = some (.cells #[.slice none 0 0, .slice none 0 0, .int .i64 0] 28 (0, 0)) := hk_below (heap_alloc_new _ _) hb1
  have T1 : Below w.heap.size w w1 := ((Below.refl _ _).alloc (Nat.le_refl _) _).trans (hb1.mono (by simp))
  have HB1 := Lib.hid ((HB0.out.below T1).keep T1.size (fun _ _ => rfl))
  have hgl := hs1.lt
  (try simp only [World.size_alloc] at hgw)
  have HS1 := Lib.hid hs1
  clear hs1 hb1
  go_wp2_with fail
  (with_reducible refine (DrawIsCrossed_any a n c _ HB1.out hn).mono ?_)
  rintro e w2 ⟨vF, vR, F, R, rd, l, f, r, rfl, hF, hR, hF1, hF3, hR10, hb2⟩
  have hg0 : w.heap.size < g := by omega
  have T2 : Below w.heap.size w w2 := T1.trans (hb2.mono T1.size)
  have HT0 := Lib.hid (TopS.start (rd := rd) T2 (hk_below K1 hb2) (HS1.out.below hb2) hF hR hg0 hgl)
  obtain ⟨aF, cF, eF, -⟩ := hF.rd.shape
  subst eF
  obtain ⟨aR, cR, eR, -⟩ := hR.rd.shape
  subst eR
  obtain ⟨bx, hbx⟩ : ∃ bx, w2.heap.size = bx := ⟨_, rfl⟩
  rw [hbx] at HT0
  have hbxr : w.heap.size < bx := by have := HT0.out.lb; omega
  clear K1 T1 T2 HS1 HB1 hb2 hF hR hgw hgl
  go_upto_region 3 with fail
  generalize hw2 : w2.alloc (.cells #[.slice aF F.length cF, .slice aR R.length cR, .int .i64 rd] 28) = wa at *
  clear hw2
  have HTX0 := HT0
  clear HT0
  obtain ⟨⟨cx0, cx1, cx2⟩, cr0, cr1, cr2, fr⟩ := HTX0.out.cells
  have f0 := fr 0
  have f1 := fr 1
  have f2 := fr 2
  clear fr
  have KT : Hid (∀ (W' : World), TopS w W' g a n c bx (.slice aF F.length cF) (.slice aR R.length cR) F R rd → (W'.cell? ⟨bx, 0, none⟩ = some (.slice aF F.length cF) ∧ W'.cell? ⟨bx, 1, none⟩ = some (.slice aR R.length cR) ∧ W'.cell? ⟨bx, 2, none⟩ = some (.int .i64 rd))) := by
    show ∀ (W' : World), _
    intro W' h
    exact h.cells.1
  go_region_held3 (fun W' => W'.cell? ⟨bx, 0, none⟩ = some (.slice aF F.length cF) ∧ W'.cell? ⟨bx, 1, none⟩ = some (.slice aR R.length cR) ∧ W'.cell? ⟨bx, 2, none⟩ = some (.int .i64 rd))
    (first | exact ⟨cx0, cx1, cx2⟩ | exact KT.out _ HTX2.out | exact KT.out _ HTX2.out.drew | exact KT.out _ HTX1.out | exact KT.out _ HTX1.out.drew | exact KT.out _ HTX0.out | exact KT.out _ HTX0.out.drew | exact HTX2.out.cellsFin _ _ _)
    ((first
      | (go_at_call 88
         (with_reducible refine (Next_any g a n c _ _ (by first | exact HTX1.out.src | exact HTX1.out.src.drew)).mono ?_)
         rintro e wx2 ⟨xx2, rfl, ⟨lx2, -, ux2⟩, hs3, hg3⟩
         have HTX2 : Hid (TopS w wx2 g a n c bx (.slice aF F.length cF) (.slice aR R.length cR) F R rd) := (by first | exact HTX1.out.call hs3 hg3 | exact HTX1.out.drew.call hs3 hg3)
         obtain ⟨-, rr0, rr1, rr2, rfr⟩ := HTX2.out.cells
         have rf0 := rfr 0
         have rf1 := rfr 1
         have rf2 := rfr 2
         clear hs3 hg3 rfr)
      | (go_at_call 88
         (with_reducible refine (Next_any g a n c _ _ (by first | exact HTX0.out.src | exact HTX0.out.src.drew)).mono ?_)
         rintro e wx1 ⟨xx1, rfl, ⟨lx1, -, ux1⟩, hs3, hg3⟩
         have HTX1 : Hid (TopS w wx1 g a n c bx (.slice aF F.length cF) (.slice aR R.length cR) F R rd) := (by first | exact HTX0.out.call hs3 hg3 | exact HTX0.out.drew.call hs3 hg3)
         obtain ⟨-, rr0, rr1, rr2, rfr⟩ := HTX1.out.cells
         have rf0 := rfr 0
         have rf1 := rfr 1
         have rf2 := rfr 2
         clear hs3 hg3 rfr)
      | fail))
  all_goals
    clear cx0 cx1 cx2 KT
    have hqq : xx2.tdiv 23 = xx2 / 23 := Int.tdiv_eq_ediv_of_nonneg (by omega)
    have hq1 : 0 ≤ xx2 / 23 := Int.ediv_nonneg (by omega) (by omega)
    have hq2 : xx2 / 23 ≤ 1 := by omega
    have hwv : IntKind.i64.wrap (xx2 / 23) = xx2 / 23 := IntWalk.i64_in _ (by omega)
    have hww : IntKind.i64.wrap (xx1 + xx2 / 23) = xx1 + xx2 / 23 := IntWalk.i64_in _ (by omega)
    go_wp2
    refine bodyPost_ret (v := .tuple #[.agg #[.slice aF F.length cF, .slice aR R.length cR, .int .i64 rd], .int .i64 l, .int .i64 f, .int .i64 r, .int .i64 (xx1 + xx2 / 23)]) (by simp [results, Try.results56, go_sem, *]) rfl ⟨_, _, F, R, rd, _, _, _, _, rfl, (HTX2.out.fin _ _ _).1, (HTX2.out.fin _ _ _).2.1, hF1, hF3, hR10, (HTX2.out.fin _ _ _).2.2⟩
end Go.Proofs.Ytfdnhamkkcmnfaa
