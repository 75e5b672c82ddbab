/- Contracts of the draws for chains: ChainForTrain, SlacksOf, LoosestGear. -/
import Derived.Test.YtfdnhamkkcmnfaaTrnD
import Derived.Test.YtfdnhamkkcmnfaaDrwE
import Derived.Test.YtfdnhamkkcmnfaaGeaD
set_option linter.unusedSimpArgs false
set_option linter.unusedVariables false
namespace Go.Proofs.Ytfdnhamkkcmnfaa
open Go.RowKit

set_option maxRecDepth 100000 in
set_option maxHeartbeats 4000000 in
theorem DrawChainForTrain_any (a : Option Addr) (n c : Nat) (w : World) (h : RdB w w.heap.size a n) (hn : n ≤ 4096) :
    Calls Try.prog 48 #[.slice a n c] w fun e w' => ∃ (vF vR : Value) (F R : List Int) (rd st : Int), e = .returned (.tuple #[.agg #[vF, vR, .int .i64 rd], .int .i64 st]) ∧ OwI w' w.heap.size vF F ∧ OwI w' w.heap.size vR R ∧ 1 ≤ F.length ∧ F.length ≤ 3 ∧ R.length ≤ 10 ∧ Below w.heap.size w w' := by
  have HB0 := Lib.hid h
  clear h
  go_enter Try.func48, Try.ntmps48
  go_wp2_with fail
  (with_reducible refine (From_any a n c _ (rdb_alloc HB0.out _) hn).mono ?_)
  rintro e w1 ⟨g, rfl, hs1, hgw, hb1⟩
  have K1 : w1.heap[w.heap.size]? = some (.cells #[.slice none 0 0, .slice none 0 0, .int .i64 0] 28 (0, 0)) := hk_below (heap_alloc_new _ _) hb1
  have T1 : Below w.heap.size w w1 := ((Below.refl _ _).alloc (Nat.le_refl _) _).trans (hb1.mono (by simp))
  have hgl := hs1.lt
  (try simp only [World.size_alloc] at hgw)
  go_wp2_with fail
  (with_reducible refine (Draw09_any g a n c _ hs1).mono ?_)
  rintro e w2 ⟨vF, vR, F, R, rd, rfl, hF, hR, hne, hF1, hF3, hR10, hs2, hg2⟩
  have hg0 : w.heap.size < g := by omega
  have T2 : Below w.heap.size w w2 := T1.grown hg2 T1.size (fun q hq => by injection hq with hq; omega)
  have HT0 := Lib.hid (TopS.start (rd := rd) T2 (hk_call K1 hg2 (by omega)) hs2 hF hR hg0 hgl)
  obtain ⟨aF, cF, eF, -⟩ := hF.rd.shape
  subst eF
  obtain ⟨aR, cR, eR, -⟩ := hR.rd.shape
  subst eR
  obtain ⟨bx, hbx⟩ : ∃ bx, w2.heap.size = bx := ⟨_, rfl⟩
  rw [hbx] at HT0
  have hbxr : w.heap.size < bx := by have := HT0.out.lb; omega
  clear K1 T1 T2 hs1 hb1 hs2 hg2 hF hR hne hgw hgl
  go_upto_region 3 with fail
  generalize hw2 : w2.alloc (.cells #[.slice aF F.length cF, .slice aR R.length cR, .int .i64 rd] 28) = wa at *
  clear hw2
  have HTX0 := HT0
  clear HT0
  obtain ⟨⟨cx0, cx1, cx2⟩, cr0, cr1, cr2, fr⟩ := HTX0.out.cells
  have f0 := fr 0
  have f1 := fr 1
  have f2 := fr 2
  clear fr
  have KT : Hid (∀ (W' : World), TopS w W' g a n c bx (.slice aF F.length cF) (.slice aR R.length cR) F R rd → (W'.cell? ⟨bx, 0, none⟩ = some (.slice aF F.length cF) ∧ W'.cell? ⟨bx, 1, none⟩ = some (.slice aR R.length cR) ∧ W'.cell? ⟨bx, 2, none⟩ = some (.int .i64 rd))) := by
    show ∀ (W' : World), _
    intro W' h
    exact h.cells.1
  go_region_held3 (fun W' => W'.cell? ⟨bx, 0, none⟩ = some (.slice aF F.length cF) ∧ W'.cell? ⟨bx, 1, none⟩ = some (.slice aR R.length cR) ∧ W'.cell? ⟨bx, 2, none⟩ = some (.int .i64 rd))
    (first | exact ⟨cx0, cx1, cx2⟩ | exact KT.out _ HTX1.out | exact KT.out _ HTX1.out.drew | exact KT.out _ HTX0.out | exact KT.out _ HTX0.out.drew | exact HTX1.out.cellsFin _ _ _)
    ((first
      | (go_at_call 90
         (with_reducible refine (DrawStay_any g a n c _ (by first | exact HTX0.out.src | exact HTX0.out.src.drew)).mono ?_)
         rintro e wx1 ⟨xx1, rfl, hs3, hg3⟩
         have HTX1 : Hid (TopS w wx1 g a n c bx (.slice aF F.length cF) (.slice aR R.length cR) F R rd) := (by first | exact HTX0.out.call hs3 hg3 | exact HTX0.out.drew.call hs3 hg3)
         obtain ⟨-, rr0, rr1, rr2, rfr⟩ := HTX1.out.cells
         have rf0 := rfr 0
         have rf1 := rfr 1
         have rf2 := rfr 2
         clear hs3 hg3 rfr)
      | fail))
  all_goals
    clear cx0 cx1 cx2 KT
    go_wp2
    refine bodyPost_ret (v := .tuple #[.agg #[.slice aF F.length cF, .slice aR R.length cR, .int .i64 rd], .int .i64 xx1]) (by simp [results, Try.results48, go_sem, *]) rfl ⟨_, _, F, R, rd, _, rfl, (HTX1.out.fin _ _ _).1, (HTX1.out.fin _ _ _).2.1, hF1, hF3, hR10, (HTX1.out.fin _ _ _).2.2⟩
set_option maxRecDepth 100000 in
set_option maxHeartbeats 4000000 in
theorem DrawSlacksOf_any (a : Option Addr) (n c : Nat) (w : World) (h : RdB w w.heap.size a n) (hn : n ≤ 4096) :
    Calls Try.prog 87 #[.slice a n c] w fun e w' => ∃ (vF vR : Value) (F R : List Int) (rd st lk : Int), e = .returned (.tuple #[.agg #[vF, vR, .int .i64 rd], .int .i64 st, .int .i64 lk]) ∧ OwI w' w.heap.size vF F ∧ OwI w' w.heap.size vR R ∧ 1 ≤ F.length ∧ F.length ≤ 3 ∧ R.length ≤ 10 ∧ Below w.heap.size w w' := by
  have HB0 := Lib.hid h
  clear h
  go_enter Try.func87, Try.ntmps87
  go_wp2_with fail
  (with_reducible refine (From_any a n c _ (rdb_alloc HB0.out _) hn).mono ?_)
  rintro e w1 ⟨g, rfl, hs1, hgw, hb1⟩
  have K1 : w1.heap[w.heap.size]? = some (.cells #[.slice none 0 0, .slice none 0 0, .int .i64 0] 28 (0, 0)) := hk_below (heap_alloc_new _ _) hb1
  have T1 : Below w.heap.size w w1 := ((Below.refl _ _).alloc (Nat.le_refl _) _).trans (hb1.mono (by simp))
  have hgl := hs1.lt
  (try simp only [World.size_alloc] at hgw)
  go_wp2_with fail
  (with_reducible refine (Draw09_any g a n c _ hs1).mono ?_)
  rintro e w2 ⟨vF, vR, F, R, rd, rfl, hF, hR, hne, hF1, hF3, hR10, hs2, hg2⟩
  have hg0 : w.heap.size < g := by omega
  have T2 : Below w.heap.size w w2 := T1.grown hg2 T1.size (fun q hq => by injection hq with hq; omega)
  have HT0 := Lib.hid (TopS.start (rd := rd) T2 (hk_call K1 hg2 (by omega)) hs2 hF hR hg0 hgl)
  obtain ⟨aF, cF, eF, -⟩ := hF.rd.shape
  subst eF
  obtain ⟨aR, cR, eR, -⟩ := hR.rd.shape
  subst eR
  obtain ⟨bx, hbx⟩ : ∃ bx, w2.heap.size = bx := ⟨_, rfl⟩
  rw [hbx] at HT0
  have hbxr : w.heap.size < bx := by have := HT0.out.lb; omega
  clear K1 T1 T2 hs1 hb1 hs2 hg2 hF hR hne hgw hgl
  go_wp2_with fail
  generalize hw2 : w2.alloc (.cells #[.slice aF F.length cF, .slice aR R.length cR, .int .i64 rd] 28) = wa at *
  clear hw2
  (with_reducible refine (DrawStay_any g a n c _ HT0.out.src).mono ?_)
  rintro e w3 ⟨st, rfl, hs3, hg3⟩
  have HT1 := Lib.hid (HT0.out.call hs3 hg3)
  clear HT0 hs3 hg3
  go_upto_region 4 with fail
  have HTX0 := HT1
  clear HT1
  obtain ⟨⟨cx0, cx1, cx2⟩, cr0, cr1, cr2, fr⟩ := HTX0.out.cells
  have f0 := fr 0
  have f1 := fr 1
  have f2 := fr 2
  clear fr
  have KT : Hid (∀ (W' : World), TopS w W' g a n c bx (.slice aF F.length cF) (.slice aR R.length cR) F R rd → (W'.cell? ⟨bx, 0, none⟩ = some (.slice aF F.length cF) ∧ W'.cell? ⟨bx, 1, none⟩ = some (.slice aR R.length cR) ∧ W'.cell? ⟨bx, 2, none⟩ = some (.int .i64 rd))) := by
    show ∀ (W' : World), _
    intro W' h
    exact h.cells.1
  go_region_held3 (fun W' => W'.cell? ⟨bx, 0, none⟩ = some (.slice aF F.length cF) ∧ W'.cell? ⟨bx, 1, none⟩ = some (.slice aR R.length cR) ∧ W'.cell? ⟨bx, 2, none⟩ = some (.int .i64 rd))
    (first | exact ⟨cx0, cx1, cx2⟩ | exact KT.out _ HTX1.out | exact KT.out _ HTX1.out.drew | exact KT.out _ HTX0.out | exact KT.out _ HTX0.out.drew | exact HTX1.out.cellsFin _ _ _)
    ((first
      | (go_at_call 107
         (with_reducible refine (DrawLinks_any g a n c _ (by first | exact HTX0.out.src | exact HTX0.out.src.drew)).mono ?_)
         rintro e wx1 ⟨xx1, rfl, hs3, hg3⟩
         have HTX1 : Hid (TopS w wx1 g a n c bx (.slice aF F.length cF) (.slice aR R.length cR) F R rd) := (by first | exact HTX0.out.call hs3 hg3 | exact HTX0.out.drew.call hs3 hg3)
         obtain ⟨-, rr0, rr1, rr2, rfr⟩ := HTX1.out.cells
         have rf0 := rfr 0
         have rf1 := rfr 1
         have rf2 := rfr 2
         clear hs3 hg3 rfr)
      | fail))
  all_goals
    clear cx0 cx1 cx2 KT
    go_wp2
    refine bodyPost_ret (v := .tuple #[.agg #[.slice aF F.length cF, .slice aR R.length cR, .int .i64 rd], .int .i64 st, .int .i64 xx1]) (by simp [results, Try.results87, go_sem, *]) rfl ⟨_, _, F, R, rd, _, _, rfl, (HTX1.out.fin _ _ _).1, (HTX1.out.fin _ _ _).2.1, hF1, hF3, hR10, (HTX1.out.fin _ _ _).2.2⟩
theorem TopS.blw {w wr w1 : World} {g : Nat} {a : Option Addr} {n c bx : Nat} {vF vR : Value} {F R : List Int} {rd : Int} (h : TopS w wr g a n c bx vF vR F R rd) (hb : Below wr.heap.size wr w1) : TopS w w1 g a n c bx vF vR F R rd :=
  ⟨h.src.below hb, h.below.trans (hb.mono h.below.size), hk_below h.box hb, hk_below h.res hb, h.front.below hb, h.rear.below hb, h.lg, h.lb⟩
theorem sChain_r (vF vR : Value) (F R : List Int) (rd st : Int) (w : World) (hF : RdI w vF F) (hR : RdI w vR R) (hn : F.length ≤ 1048576) (hm : R.length ≤ 1048576) (x c : Int) (h : (x, c) = chnR F R rd st) : Calls Try.prog 23 #[.agg #[vF, vR, .int .i64 rd], .int .i64 st] w fun e w' => e = .returned (.tuple #[.int .i64 x, .int .i64 c]) ∧ Below w.heap.size w w' :=
  (sChainForTrain_any vF vR F R rd st w hF hR hn hm).mono fun e w' q => by rw [q.1, ← h]; exact ⟨rfl, q.2⟩
set_option maxRecDepth 100000 in
set_option maxHeartbeats 4000000 in
theorem DrawLoosestGear_any (a : Option Addr) (n c : Nat) (w : World) (h : RdB w w.heap.size a n) (hn : n ≤ 4096) :
    Calls Try.prog 47 #[.slice a n c] w fun e w' => ∃ (vF vR : Value) (F R : List Int) (rd st lk : Int), e = .returned (.tuple #[.agg #[vF, vR, .int .i64 rd], .int .i64 st, .int .i64 lk]) ∧ OwI w' w.heap.size vF F ∧ OwI w' w.heap.size vR R ∧ 1 ≤ F.length ∧ F.length ≤ 3 ∧ R.length ≤ 10 ∧ Below w.heap.size w w' := by
  have HB0 := Lib.hid h
  clear h
  go_enter Try.func47, Try.ntmps47
  go_wp2_with fail
  (with_reducible refine (From_any a n c _ (rdb_alloc HB0.out _) hn).mono ?_)
  rintro e w1 ⟨g, rfl, hs1, hgw, hb1⟩
  have K1 : w1.heap[w.heap.size]? = some (.cells #[.slice none 0 0, .slice none 0 0, .int .i64 0] 28 (0, 0)) := hk_below (heap_alloc_new _ _) hb1
  have T1 : Below w.heap.size w w1 := ((Below.refl _ _).alloc (Nat.le_refl _) _).trans (hb1.mono (by simp))
  have HB1 := Lib.hid ((HB0.out.below T1).keep T1.size (fun _ _ => rfl))
  have hgl := hs1.lt
  (try simp only [World.size_alloc] at hgw)
  have HS1 := Lib.hid hs1
  clear hs1 hb1
  go_wp2_with fail
  (with_reducible refine (DrawSlacksOf_any a n c _ HB1.out hn).mono ?_)
  rintro e w2 ⟨vF, vR, F, R, rd, st, lk, rfl, hF, hR, hF1, hF3, hR10, hb2⟩
  have hg0 : w.heap.size < g := by omega
  have T2 : Below w.heap.size w w2 := T1.trans (hb2.mono T1.size)
  have HT0 := Lib.hid (TopS.start (rd := rd) T2 (hk_below K1 hb2) (HS1.out.below hb2) hF hR hg0 hgl)
  obtain ⟨aF, cF, eF, -⟩ := hF.rd.shape
  subst eF
  obtain ⟨aR, cR, eR, -⟩ := hR.rd.shape
  subst eR
  obtain ⟨bx, hbx⟩ : ∃ bx, w2.heap.size = bx := ⟨_, rfl⟩
  rw [hbx] at HT0
  have hbxr : w.heap.size < bx := by have := HT0.out.lb; omega
  clear K1 T1 T2 HS1 HB1 hb2 hF hR hgw hgl
  go_upto_region 3 with fail
  generalize hw2 : w2.alloc (.cells #[.slice aF F.length cF, .slice aR R.length cR, .int .i64 rd] 28) = wa at *
  clear hw2
  obtain ⟨⟨cx0, cx1, cx2⟩, cr0, cr1, cr2, fr⟩ := HT0.out.cells
  have f0 := fr 0
  have f1 := fr 1
  have f2 := fr 2
  clear fr
  obtain ⟨⟨own, bad⟩, hch⟩ : ∃ rr__, rr__ = chnR F R rd st := ⟨_, rfl⟩
  have HCH := Lib.hid hch
  have hFn : F.length ≤ 1048576 := by omega
  have hRn : R.length ≤ 1048576 := by omega
  clear hch
  go_wp2_with fail
  (with_reducible refine (sChain_r _ _ F R rd st _ HT0.out.front.rd HT0.out.rear.rd hFn hRn _ _ HCH.out).mono ?_)
  rintro e w3 ⟨rfl, hb3⟩
  have HT1 := Lib.hid (HT0.out.blw hb3)
  clear cx0 cx1 cx2 cr0 cr1 cr2 f0 f1 f2 HT0 hb3 HCH
  by_cases hbad : bad = 0
  · subst hbad
    go_wp2_with fail
    (with_reducible refine (Next_any g a n c _ _ HT1.out.src).mono ?_)
    rintro e w4 ⟨x, rfl, ⟨lx, -, ux⟩, hs4, hg4⟩
    have HT2 := Lib.hid (HT1.out.call hs4 hg4)
    clear HT1 hs4 hg4
    obtain ⟨⟨cx0, cx1, cx2⟩, cr0, cr1, cr2, fr⟩ := HT2.out.cells
    have f0 := fr 0
    have f1 := fr 1
    have f2 := fr 2
    clear fr
    by_cases hx : 0 < x
    · have hxd : decide (0 < x) = true := by simpa using hx
      go_wp2
      clear cx0 cx1 cx2
      refine bodyPost_ret (v := .tuple #[.agg #[.slice aF F.length cF, .slice aR R.length cR, .int .i64 rd], .int .i64 st, .int .i64 own]) (by simp [results, Try.results47, go_sem, *]) rfl ⟨_, _, F, R, rd, _, _, rfl, (HT2.out.fin _ _ _).1, (HT2.out.fin _ _ _).2.1, hF1, hF3, hR10, (HT2.out.fin _ _ _).2.2⟩
    · have hxd : decide (0 < x) = false := by simpa using hx
      go_wp2
      clear cx0 cx1 cx2
      refine bodyPost_ret (v := .tuple #[.agg #[.slice aF F.length cF, .slice aR R.length cR, .int .i64 rd], .int .i64 st, .int .i64 lk]) (by simp [results, Try.results47, go_sem, *]) rfl ⟨_, _, F, R, rd, _, _, rfl, (HT2.out.fin _ _ _).1, (HT2.out.fin _ _ _).2.1, hF1, hF3, hR10, (HT2.out.fin _ _ _).2.2⟩
  · have hbq : (bad == 0) = false := by rw [beq_eq_false_iff_ne]; exact hbad
    obtain ⟨⟨cx0, cx1, cx2⟩, cr0, cr1, cr2, fr⟩ := HT1.out.cells
    have f0 := fr 0
    have f1 := fr 1
    have f2 := fr 2
    clear fr
    go_wp2
    clear cx0 cx1 cx2
    refine bodyPost_ret (v := .tuple #[.agg #[.slice aF F.length cF, .slice aR R.length cR, .int .i64 rd], .int .i64 st, .int .i64 lk]) (by simp [results, Try.results47, go_sem, *]) rfl ⟨_, _, F, R, rd, _, _, rfl, (HT1.out.fin _ _ _).1, (HT1.out.fin _ _ _).2.1, hF1, hF3, hR10, (HT1.out.fin _ _ _).2.2⟩
end Go.Proofs.Ytfdnhamkkcmnfaa
