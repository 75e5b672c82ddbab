/- The walk of the law on slacks. -/
import Derived.Test.YtfdnhamkkcmnfaaGoA
import Derived.Test.YtfdnhamkkcmnfaaUsbA
import Derived.Test.YtfdnhamkkcmnfaaTrnF
import Derived.Test.YtfdnhamkkcmnfaaGrdG
import Derived.Test.YtfdnhamkkcmnfaaGeaC
import Derived.Test.YtfdnhamkkcmnfaaOpenB
import Derived.Deep.QuietTactic
import Derived.BigQuiet
set_option linter.unusedSimpArgs false
set_option linter.unusedVariables false
namespace Go.Proofs.Ytfdnhamkkcmnfaa
open Go.RowKit

theorem CapacityOf_r (vF vR : Value) (F R : List Int) (rd : Int) (w : World) (hF : RdI w vF F) (hR : RdI w vR R) (hn : F.length ≤ 1048576) (hm : R.length ≤ 1048576) (x : Int) (c : Int) (h : (x, c) = capR F R rd ) : Calls Try.prog 19 #[.agg #[vF, vR, .int .i64 rd]] w fun e w' => e = .returned (.tuple #[.int .i64 x, .int .i64 c]) ∧ Below w.heap.size w w' :=
  (CapacityOf_any vF vR F R rd  w hF hR hn hm).mono fun e w' q => by rw [q.1, ← h]; exact ⟨rfl, q.2⟩
theorem sCapacityOf_r (vF vR : Value) (F R : List Int) (rd : Int) (w : World) (hF : RdI w vF F) (hR : RdI w vR R) (hn : F.length ≤ 1048576) (hm : R.length ≤ 1048576) (x : Int) (c : Int) (h : (x, c) = capR F R rd ) : Calls Try.prog 17 #[.agg #[vF, vR, .int .i64 rd]] w fun e w' => e = .returned (.tuple #[.int .i64 x, .int .i64 c]) ∧ Below w.heap.size w w' :=
  (sCapacityOf_any vF vR F R rd  w hF hR hn hm).mono fun e w' q => by rw [q.1, ← h]; exact ⟨rfl, q.2⟩
theorem ChainForTrain_r (vF vR : Value) (F R : List Int) (rd st : Int) (w : World) (hF : RdI w vF F) (hR : RdI w vR R) (hn : F.length ≤ 1048576) (hm : R.length ≤ 1048576) (x : Int) (c : Int) (h : (x, c) = chnR F R rd st) : Calls Try.prog 24 #[.agg #[vF, vR, .int .i64 rd], .int .i64 st] w fun e w' => e = .returned (.tuple #[.int .i64 x, .int .i64 c]) ∧ Below w.heap.size w w' :=
  (ChainForTrain_any vF vR F R rd st w hF hR hn hm).mono fun e w' q => by rw [q.1, ← h]; exact ⟨rfl, q.2⟩
theorem sChainForTrain_r (vF vR : Value) (F R : List Int) (rd st : Int) (w : World) (hF : RdI w vF F) (hR : RdI w vR R) (hn : F.length ≤ 1048576) (hm : R.length ≤ 1048576) (x : Int) (c : Int) (h : (x, c) = chnR F R rd st) : Calls Try.prog 23 #[.agg #[vF, vR, .int .i64 rd], .int .i64 st] w fun e w' => e = .returned (.tuple #[.int .i64 x, .int .i64 c]) ∧ Below w.heap.size w w' :=
  (sChainForTrain_any vF vR F R rd st w hF hR hn hm).mono fun e w' q => by rw [q.1, ← h]; exact ⟨rfl, q.2⟩
theorem LoosestGear_r (vF vR : Value) (F R : List Int) (rd st lk : Int) (w : World) (hF : RdI w vF F) (hR : RdI w vR R) (hn : F.length ≤ 1048576) (hm : R.length ≤ 1048576) (x : Int) (y : Int) (c : Int) (h : (x, y, c) = looR F R rd st lk) : Calls Try.prog 30 #[.agg #[vF, vR, .int .i64 rd], .int .i64 st, .int .i64 lk] w fun e w' => e = .returned (.tuple #[.int .i64 x, .int .i64 y, .int .i64 c]) ∧ Below w.heap.size w w' :=
  (LoosestGear_any vF vR F R rd st lk w hF hR hn hm).mono fun e w' q => by rw [q.1, ← h]; exact ⟨rfl, q.2⟩
theorem sLoosestGear_r (vF vR : Value) (F R : List Int) (rd st lk : Int) (w : World) (hF : RdI w vF F) (hR : RdI w vR R) (hn : F.length ≤ 1048576) (hm : R.length ≤ 1048576) (x : Int) (y : Int) (c : Int) (h : (x, y, c) = looR F R rd st lk) : Calls Try.prog 29 #[.agg #[vF, vR, .int .i64 rd], .int .i64 st, .int .i64 lk] w fun e w' => e = .returned (.tuple #[.int .i64 x, .int .i64 y, .int .i64 c]) ∧ Below w.heap.size w w' :=
  (sLoosestGear_any vF vR F R rd st lk w hF hR hn hm).mono fun e w' q => by rw [q.1, ← h]; exact ⟨rfl, q.2⟩
theorem SlacksOf_r (vF vR : Value) (F R : List Int) (rd st lk : Int) (w : World) (hF : RdI w vF F) (hR : RdI w vR R) (hn : F.length ≤ 1048576) (hm : R.length ≤ 1048576) (ws : List Int) (c : Int) (h : (ws, c) = slkR F R rd st lk) : Calls Try.prog 32 #[.agg #[vF, vR, .int .i64 rd], .int .i64 st, .int .i64 lk] w fun e w' => ∃ v, e = .returned (.tuple #[v, .int .i64 c]) ∧ OwI w' w.heap.size v ws ∧ Below w.heap.size w w' := by
  have q := SlacksOf_any vF vR F R rd st lk w hF hR hn hm
  rw [← h] at q
  exact q
theorem sSlacksOf_r (vF vR : Value) (F R : List Int) (rd st lk : Int) (w : World) (hF : RdI w vF F) (hR : RdI w vR R) (hn : F.length ≤ 1048576) (hm : R.length ≤ 1048576) (ws : List Int) (c : Int) (h : (ws, c) = slkR F R rd st lk) : Calls Try.prog 31 #[.agg #[vF, vR, .int .i64 rd], .int .i64 st, .int .i64 lk] w fun e w' => ∃ v, e = .returned (.tuple #[v, .int .i64 c]) ∧ OwI w' w.heap.size v ws ∧ Below w.heap.size w w' := by
  have q := sSlacksOf_any vF vR F R rd st lk w hF hR hn hm
  rw [← h] at q
  exact q
set_option maxRecDepth 100000 in
set_option maxHeartbeats 32000000 in
theorem FnSlacks_walk (a : Option Addr) (n c : Nat) (w : World) (h : RdB w w.heap.size a n) :
    Calls Try.prog 13 #[.slice a n c] w fun e w' => e = .returned (.bool true) ∧ Below w.heap.size w w' := by
  by_cases hn : n ≤ 4096
  · have HN : Hid (decide (4096 < n) = false) := by show _ = _; simp; omega
    have HB0 := Lib.hid h
    have T0 := Below.refl w.heap.size w
    clear h
    go_enter Try.func13, Try.ntmps13
    go_wp2_with fail
    (with_reducible refine (big_any _ _ _ _).mono ?_)
    rintro e _ ⟨rfl, rfl⟩
    rw [HN.out]
    go_wp2_with fail
    (with_reducible refine (DrawLoosestGear_any a n c _ HB0.out hn).mono ?_)
    rintro e w1 ⟨vF, vR, F, R, rd, st, lk, rfl, hoF, hoR, hF1, hF3, hR10, hb1⟩
    have T1 : Below w.heap.size w w1 := T0.trans (hb1.mono T0.size)
    have HB1 := Lib.hid ((HB0.out.below hb1).keep hb1.size (fun _ _ => rfl))
    clear HB0
    obtain ⟨aF, cF, eF, -⟩ := hoF.rd.shape
    subst eF
    obtain ⟨aR, cR, eR, -⟩ := hoR.rd.shape
    subst eR
    have hFn : F.length ≤ 1048576 := by omega
    have hRn : R.length ≤ 1048576 := by omega
    have FA_1 : Hid (RdI w1 (.slice aF F.length cF) F) := hoF.rd
    have FB_1 : Hid (RdI w1 (.slice aR R.length cR) R) := hoR.rd
    clear hoF hoR hF1 hF3 hR10
    go_wp2_with fail
    generalize hw : w1.alloc (Obj.cells #[(.slice aF F.length cF), (.slice aR R.length cR), .int .i64 rd] 28) = w2
    have hb2 : Below w1.heap.size w1 w2 := by
      rw [← hw]
      exact (Below.refl _ _).alloc (by simp) _
    have Kx_2 : Hid (w2.heap[w1.heap.size]? = some (.cells #[(.slice aF F.length cF), (.slice aR R.length cR), .int .i64 rd] 28 (0, 0))) := by
      show _ = _
      rw [← hw]
      exact (heap_alloc_new _ _)
    clear hw
    have T2 : Below w.heap.size w w2 := T1.trans (hb2.mono T1.size)
    have HB2 := Lib.hid ((HB1.out.below hb2).keep hb2.size (fun _ _ => rfl))
    have FA_2 : Hid (RdI w2 (.slice aF F.length cF) F) := FA_1.out.below hb2
    have FB_2 : Hid (RdI w2 (.slice aR R.length cR) R) := FB_1.out.below hb2
    clear HB1 FA_1 FB_1
    obtain ⟨⟨f, r, bad⟩, hB⟩ : ∃ rr__, rr__ = looR F R rd st lk := ⟨_, rfl⟩
    have HhB := Lib.hid hB
    have cx0 : w2.cell? ⟨w1.heap.size, 0, none⟩ = some ((.slice aF F.length cF)) := hk_cell (i := 0) Kx_2.out rfl
    have cx1 : w2.cell? ⟨w1.heap.size, 1, none⟩ = some ((.slice aR R.length cR)) := hk_cell (i := 1) Kx_2.out rfl
    have cx2 : w2.cell? ⟨w1.heap.size, 2, none⟩ = some (.int .i64 rd) := hk_cell (i := 2) Kx_2.out rfl
    go_wp2_with fail
    (with_reducible refine (LoosestGear_r _ _ F R rd st lk _ FA_2.out FB_2.out hFn hRn _ _ _ HhB.out).mono ?_)
    rintro e w3 ⟨rfl, hb3⟩
    clear cx0 cx1 cx2
    have T3 : Below w.heap.size w w3 := T2.trans (hb3.mono T2.size)
    have HB3 := Lib.hid ((HB2.out.below hb3).keep hb3.size (fun _ _ => rfl))
    have Kx_3 : Hid (w3.heap[w1.heap.size]? = some (.cells #[(.slice aF F.length cF), (.slice aR R.length cR), .int .i64 rd] 28 (0, 0))) := hk_below Kx_2.out hb3
    have FA_3 : Hid (RdI w3 (.slice aF F.length cF) F) := FA_2.out.below hb3
    have FB_3 : Hid (RdI w3 (.slice aR R.length cR) R) := FB_2.out.below hb3
    clear HB2 Kx_2 FA_2 FB_2
    have cx0 : w3.cell? ⟨w1.heap.size, 0, none⟩ = some ((.slice aF F.length cF)) := hk_cell (i := 0) Kx_3.out rfl
    have cx1 : w3.cell? ⟨w1.heap.size, 1, none⟩ = some ((.slice aR R.length cR)) := hk_cell (i := 1) Kx_3.out rfl
    have cx2 : w3.cell? ⟨w1.heap.size, 2, none⟩ = some (.int .i64 rd) := hk_cell (i := 2) Kx_3.out rfl
    go_wp2_with fail
    (with_reducible refine (sLoosestGear_r _ _ F R rd st lk _ FA_3.out FB_3.out hFn hRn _ _ _ HhB.out).mono ?_)
    rintro e w4 ⟨rfl, hb4⟩
    clear cx0 cx1 cx2
    have T4 : Below w.heap.size w w4 := T3.trans (hb4.mono T3.size)
    have HB4 := Lib.hid ((HB3.out.below hb4).keep hb4.size (fun _ _ => rfl))
    have Kx_4 : Hid (w4.heap[w1.heap.size]? = some (.cells #[(.slice aF F.length cF), (.slice aR R.length cR), .int .i64 rd] 28 (0, 0))) := hk_below Kx_3.out hb4
    have FA_4 : Hid (RdI w4 (.slice aF F.length cF) F) := FA_3.out.below hb4
    have FB_4 : Hid (RdI w4 (.slice aR R.length cR) R) := FB_3.out.below hb4
    clear HB3 Kx_3 FA_3 FB_3
    obtain ⟨⟨ss, one⟩, hS⟩ : ∃ rr__, rr__ = slkR F R rd st lk := ⟨_, rfl⟩
    have HhS := Lib.hid hS
    have hsl := slk_len hS
    have hsn : ss.length ≤ 1048576 := by omega
    have cx0 : w4.cell? ⟨w1.heap.size, 0, none⟩ = some ((.slice aF F.length cF)) := hk_cell (i := 0) Kx_4.out rfl
    have cx1 : w4.cell? ⟨w1.heap.size, 1, none⟩ = some ((.slice aR R.length cR)) := hk_cell (i := 1) Kx_4.out rfl
    have cx2 : w4.cell? ⟨w1.heap.size, 2, none⟩ = some (.int .i64 rd) := hk_cell (i := 2) Kx_4.out rfl
    go_wp2_with fail
    (with_reducible refine (SlacksOf_r _ _ F R rd st lk _ FA_4.out FB_4.out hFn hRn _ _ HhS.out).mono ?_)
    rintro e w5 ⟨vS, rfl, hoS, hb5⟩
    clear cx0 cx1 cx2
    have T5 : Below w.heap.size w w5 := T4.trans (hb5.mono T4.size)
    have HB5 := Lib.hid ((HB4.out.below hb5).keep hb5.size (fun _ _ => rfl))
    have Kx_5 : Hid (w5.heap[w1.heap.size]? = some (.cells #[(.slice aF F.length cF), (.slice aR R.length cR), .int .i64 rd] 28 (0, 0))) := hk_below Kx_4.out hb5
    have FA_5 : Hid (RdI w5 (.slice aF F.length cF) F) := FA_4.out.below hb5
    have FB_5 : Hid (RdI w5 (.slice aR R.length cR) R) := FB_4.out.below hb5
    clear HB4 Kx_4 FA_4 FB_4
    obtain ⟨aS, cS, eS, hrS⟩ := hoS.rd.shape
    subst eS
    clear hoS
    have FS_5 : Hid (RdI w5 (.slice aS ss.length cS) ss) := hrS
    clear hrS
    have cx0 : w5.cell? ⟨w1.heap.size, 0, none⟩ = some ((.slice aF F.length cF)) := hk_cell (i := 0) Kx_5.out rfl
    have cx1 : w5.cell? ⟨w1.heap.size, 1, none⟩ = some ((.slice aR R.length cR)) := hk_cell (i := 1) Kx_5.out rfl
    have cx2 : w5.cell? ⟨w1.heap.size, 2, none⟩ = some (.int .i64 rd) := hk_cell (i := 2) Kx_5.out rfl
    go_wp2_with fail
    (with_reducible refine (sSlacksOf_r _ _ F R rd st lk _ FA_5.out FB_5.out hFn hRn _ _ HhS.out).mono ?_)
    rintro e w6 ⟨vT, rfl, hoT, hb6⟩
    clear cx0 cx1 cx2
    have T6 : Below w.heap.size w w6 := T5.trans (hb6.mono T5.size)
    have HB6 := Lib.hid ((HB5.out.below hb6).keep hb6.size (fun _ _ => rfl))
    have Kx_6 : Hid (w6.heap[w1.heap.size]? = some (.cells #[(.slice aF F.length cF), (.slice aR R.length cR), .int .i64 rd] 28 (0, 0))) := hk_below Kx_5.out hb6
    have FA_6 : Hid (RdI w6 (.slice aF F.length cF) F) := FA_5.out.below hb6
    have FB_6 : Hid (RdI w6 (.slice aR R.length cR) R) := FB_5.out.below hb6
    have FS_6 : Hid (RdI w6 (.slice aS ss.length cS) ss) := FS_5.out.below hb6
    clear HB5 Kx_5 FA_5 FB_5 FS_5
    obtain ⟨aT, cT, eT, hrT⟩ := hoT.rd.shape
    subst eT
    clear hoT
    have FT_6 : Hid (RdI w6 (.slice aT ss.length cT) ss) := hrT
    clear hrT
    obtain ⟨⟨cp, three⟩, hC⟩ : ∃ rr__, rr__ = capR F R rd := ⟨_, rfl⟩
    have HhC := Lib.hid hC
    have cx0 : w6.cell? ⟨w1.heap.size, 0, none⟩ = some ((.slice aF F.length cF)) := hk_cell (i := 0) Kx_6.out rfl
    have cx1 : w6.cell? ⟨w1.heap.size, 1, none⟩ = some ((.slice aR R.length cR)) := hk_cell (i := 1) Kx_6.out rfl
    have cx2 : w6.cell? ⟨w1.heap.size, 2, none⟩ = some (.int .i64 rd) := hk_cell (i := 2) Kx_6.out rfl
    go_wp2_with fail
    (with_reducible refine (CapacityOf_r _ _ F R rd _ FA_6.out FB_6.out hFn hRn _ _ HhC.out).mono ?_)
    rintro e w7 ⟨rfl, hb7⟩
    clear cx0 cx1 cx2
    have T7 : Below w.heap.size w w7 := T6.trans (hb7.mono T6.size)
    have HB7 := Lib.hid ((HB6.out.below hb7).keep hb7.size (fun _ _ => rfl))
    have Kx_7 : Hid (w7.heap[w1.heap.size]? = some (.cells #[(.slice aF F.length cF), (.slice aR R.length cR), .int .i64 rd] 28 (0, 0))) := hk_below Kx_6.out hb7
    have FA_7 : Hid (RdI w7 (.slice aF F.length cF) F) := FA_6.out.below hb7
    have FB_7 : Hid (RdI w7 (.slice aR R.length cR) R) := FB_6.out.below hb7
    have FS_7 : Hid (RdI w7 (.slice aS ss.length cS) ss) := FS_6.out.below hb7
    have FT_7 : Hid (RdI w7 (.slice aT ss.length cT) ss) := FT_6.out.below hb7
    clear HB6 Kx_6 FA_6 FB_6 FS_6 FT_6
    have cx0 : w7.cell? ⟨w1.heap.size, 0, none⟩ = some ((.slice aF F.length cF)) := hk_cell (i := 0) Kx_7.out rfl
    have cx1 : w7.cell? ⟨w1.heap.size, 1, none⟩ = some ((.slice aR R.length cR)) := hk_cell (i := 1) Kx_7.out rfl
    have cx2 : w7.cell? ⟨w1.heap.size, 2, none⟩ = some (.int .i64 rd) := hk_cell (i := 2) Kx_7.out rfl
    go_wp2_with fail
    (with_reducible refine (sCapacityOf_r _ _ F R rd _ FA_7.out FB_7.out hFn hRn _ _ HhC.out).mono ?_)
    rintro e w8 ⟨rfl, hb8⟩
    clear cx0 cx1 cx2
    have T8 : Below w.heap.size w w8 := T7.trans (hb8.mono T7.size)
    have HB8 := Lib.hid ((HB7.out.below hb8).keep hb8.size (fun _ _ => rfl))
    have Kx_8 : Hid (w8.heap[w1.heap.size]? = some (.cells #[(.slice aF F.length cF), (.slice aR R.length cR), .int .i64 rd] 28 (0, 0))) := hk_below Kx_7.out hb8
    have FA_8 : Hid (RdI w8 (.slice aF F.length cF) F) := FA_7.out.below hb8
    have FB_8 : Hid (RdI w8 (.slice aR R.length cR) R) := FB_7.out.below hb8
    have FS_8 : Hid (RdI w8 (.slice aS ss.length cS) ss) := FS_7.out.below hb8
    have FT_8 : Hid (RdI w8 (.slice aT ss.length cT) ss) := FT_7.out.below hb8
    clear HB7 Kx_7 FA_7 FB_7 FS_7 FT_7
    clear hC HhC
    go_wp2_with fail
    (with_reducible refine (DrawChainForTrain_any a n c _ HB8.out hn).mono ?_)
    rintro e w9 ⟨vY, vZ, Y, Z, rd2, st2, rfl, hoY, hoZ, hY1, hY3, hZ10, hb9⟩
    have T9 : Below w.heap.size w w9 := T8.trans (hb9.mono T8.size)
    have HB9 := Lib.hid ((HB8.out.below hb9).keep hb9.size (fun _ _ => rfl))
    have Kx_9 : Hid (w9.heap[w1.heap.size]? = some (.cells #[(.slice aF F.length cF), (.slice aR R.length cR), .int .i64 rd] 28 (0, 0))) := hk_below Kx_8.out hb9
    have FA_9 : Hid (RdI w9 (.slice aF F.length cF) F) := FA_8.out.below hb9
    have FB_9 : Hid (RdI w9 (.slice aR R.length cR) R) := FB_8.out.below hb9
    have FS_9 : Hid (RdI w9 (.slice aS ss.length cS) ss) := FS_8.out.below hb9
    have FT_9 : Hid (RdI w9 (.slice aT ss.length cT) ss) := FT_8.out.below hb9
    clear HB8 Kx_8 FA_8 FB_8 FS_8 FT_8
    obtain ⟨aY, cY, eY, -⟩ := hoY.rd.shape
    subst eY
    obtain ⟨aZ, cZ, eZ, -⟩ := hoZ.rd.shape
    subst eZ
    have hYn : Y.length ≤ 1048576 := by omega
    have hZn : Z.length ≤ 1048576 := by omega
    have FC_9 : Hid (RdI w9 (.slice aY Y.length cY) Y) := hoY.rd
    have FD_9 : Hid (RdI w9 (.slice aZ Z.length cZ) Z) := hoZ.rd
    clear hoY hoZ HB9
    go_wp2_with fail
    generalize hw : w9.alloc (Obj.cells #[(.slice aY Y.length cY), (.slice aZ Z.length cZ), .int .i64 rd2] 28) = w10
    have hb10 : Below w9.heap.size w9 w10 := by
      rw [← hw]
      exact (Below.refl _ _).alloc (by simp) _
    have Ky_10 : Hid (w10.heap[w9.heap.size]? = some (.cells #[(.slice aY Y.length cY), (.slice aZ Z.length cZ), .int .i64 rd2] 28 (0, 0))) := by
      show _ = _
      rw [← hw]
      exact (heap_alloc_new _ _)
    clear hw
    have T10 : Below w.heap.size w w10 := T9.trans (hb10.mono T9.size)
    have Kx_10 : Hid (w10.heap[w1.heap.size]? = some (.cells #[(.slice aF F.length cF), (.slice aR R.length cR), .int .i64 rd] 28 (0, 0))) := hk_below Kx_9.out hb10
    have FA_10 : Hid (RdI w10 (.slice aF F.length cF) F) := FA_9.out.below hb10
    have FB_10 : Hid (RdI w10 (.slice aR R.length cR) R) := FB_9.out.below hb10
    have FS_10 : Hid (RdI w10 (.slice aS ss.length cS) ss) := FS_9.out.below hb10
    have FT_10 : Hid (RdI w10 (.slice aT ss.length cT) ss) := FT_9.out.below hb10
    have FC_10 : Hid (RdI w10 (.slice aY Y.length cY) Y) := FC_9.out.below hb10
    have FD_10 : Hid (RdI w10 (.slice aZ Z.length cZ) Z) := FD_9.out.below hb10
    clear Kx_9 FA_9 FB_9 FS_9 FT_9 FC_9 FD_9
    obtain ⟨⟨ch, five⟩, hK⟩ : ∃ rr__, rr__ = chnR Y Z rd2 st2 := ⟨_, rfl⟩
    have HhK := Lib.hid hK
    have cy0 : w10.cell? ⟨w9.heap.size, 0, none⟩ = some ((.slice aY Y.length cY)) := hk_cell (i := 0) Ky_10.out rfl
    have cy1 : w10.cell? ⟨w9.heap.size, 1, none⟩ = some ((.slice aZ Z.length cZ)) := hk_cell (i := 1) Ky_10.out rfl
    have cy2 : w10.cell? ⟨w9.heap.size, 2, none⟩ = some (.int .i64 rd2) := hk_cell (i := 2) Ky_10.out rfl
    go_wp2_with fail
    (with_reducible refine (ChainForTrain_r _ _ Y Z rd2 st2 _ FC_10.out FD_10.out hYn hZn _ _ HhK.out).mono ?_)
    rintro e w11 ⟨rfl, hb11⟩
    clear cy0 cy1 cy2
    have T11 : Below w.heap.size w w11 := T10.trans (hb11.mono T10.size)
    have Kx_11 : Hid (w11.heap[w1.heap.size]? = some (.cells #[(.slice aF F.length cF), (.slice aR R.length cR), .int .i64 rd] 28 (0, 0))) := hk_below Kx_10.out hb11
    have Ky_11 : Hid (w11.heap[w9.heap.size]? = some (.cells #[(.slice aY Y.length cY), (.slice aZ Z.length cZ), .int .i64 rd2] 28 (0, 0))) := hk_below Ky_10.out hb11
    have FA_11 : Hid (RdI w11 (.slice aF F.length cF) F) := FA_10.out.below hb11
    have FB_11 : Hid (RdI w11 (.slice aR R.length cR) R) := FB_10.out.below hb11
    have FS_11 : Hid (RdI w11 (.slice aS ss.length cS) ss) := FS_10.out.below hb11
    have FT_11 : Hid (RdI w11 (.slice aT ss.length cT) ss) := FT_10.out.below hb11
    have FC_11 : Hid (RdI w11 (.slice aY Y.length cY) Y) := FC_10.out.below hb11
    have FD_11 : Hid (RdI w11 (.slice aZ Z.length cZ) Z) := FD_10.out.below hb11
    clear Kx_10 Ky_10 FA_10 FB_10 FS_10 FT_10 FC_10 FD_10
    have cy0 : w11.cell? ⟨w9.heap.size, 0, none⟩ = some ((.slice aY Y.length cY)) := hk_cell (i := 0) Ky_11.out rfl
    have cy1 : w11.cell? ⟨w9.heap.size, 1, none⟩ = some ((.slice aZ Z.length cZ)) := hk_cell (i := 1) Ky_11.out rfl
    have cy2 : w11.cell? ⟨w9.heap.size, 2, none⟩ = some (.int .i64 rd2) := hk_cell (i := 2) Ky_11.out rfl
    go_wp2_with fail
    (with_reducible refine (sChainForTrain_r _ _ Y Z rd2 st2 _ FC_11.out FD_11.out hYn hZn _ _ HhK.out).mono ?_)
    rintro e w12 ⟨rfl, hb12⟩
    clear cy0 cy1 cy2
    have T12 : Below w.heap.size w w12 := T11.trans (hb12.mono T11.size)
    have Kx_12 : Hid (w12.heap[w1.heap.size]? = some (.cells #[(.slice aF F.length cF), (.slice aR R.length cR), .int .i64 rd] 28 (0, 0))) := hk_below Kx_11.out hb12
    have Ky_12 : Hid (w12.heap[w9.heap.size]? = some (.cells #[(.slice aY Y.length cY), (.slice aZ Z.length cZ), .int .i64 rd2] 28 (0, 0))) := hk_below Ky_11.out hb12
    have FA_12 : Hid (RdI w12 (.slice aF F.length cF) F) := FA_11.out.below hb12
    have FB_12 : Hid (RdI w12 (.slice aR R.length cR) R) := FB_11.out.below hb12
    have FS_12 : Hid (RdI w12 (.slice aS ss.length cS) ss) := FS_11.out.below hb12
    have FT_12 : Hid (RdI w12 (.slice aT ss.length cT) ss) := FT_11.out.below hb12
    have FC_12 : Hid (RdI w12 (.slice aY Y.length cY) Y) := FC_11.out.below hb12
    have FD_12 : Hid (RdI w12 (.slice aZ Z.length cZ) Z) := FD_11.out.below hb12
    clear Kx_11 Ky_11 FA_11 FB_11 FS_11 FT_11 FC_11 FD_11
    have HKL := Lib.hid (fun h => chain_law hK h)
    have HML := Lib.hid (fun h => more_law hS h)
    have HLL := Lib.hid (fun h => loose_law hB hS h)
    clear hK HhK hS HhS hB HhB
    go_wp2_with fail
    (with_reducible refine (likeInts_same _ _ ss _ FS_12.out FT_12.out hsn).mono ?_)
    rintro e w13 ⟨rfl, hb13⟩
    have T13 : Below w.heap.size w w13 := T12.trans (hb13.mono T12.size)
    have Kx_13 : Hid (w13.heap[w1.heap.size]? = some (.cells #[(.slice aF F.length cF), (.slice aR R.length cR), .int .i64 rd] 28 (0, 0))) := hk_below Kx_12.out hb13
    have Ky_13 : Hid (w13.heap[w9.heap.size]? = some (.cells #[(.slice aY Y.length cY), (.slice aZ Z.length cZ), .int .i64 rd2] 28 (0, 0))) := hk_below Ky_12.out hb13
    have FA_13 : Hid (RdI w13 (.slice aF F.length cF) F) := FA_12.out.below hb13
    have FB_13 : Hid (RdI w13 (.slice aR R.length cR) R) := FB_12.out.below hb13
    have FS_13 : Hid (RdI w13 (.slice aS ss.length cS) ss) := FS_12.out.below hb13
    have FT_13 : Hid (RdI w13 (.slice aT ss.length cT) ss) := FT_12.out.below hb13
    have FC_13 : Hid (RdI w13 (.slice aY Y.length cY) Y) := FC_12.out.below hb13
    have FD_13 : Hid (RdI w13 (.slice aZ Z.length cZ) Z) := FD_12.out.below hb13
    clear Kx_12 Ky_12 FA_12 FB_12 FS_12 FT_12 FC_12 FD_12
    clear FT_13
    by_cases hfive : five = 0
    · obtain ⟨al, hal, hgo, hg36, haln, hak⟩ := HKL.out hfive
      clear HKL
      subst hfive
      obtain ⟨nO, hnO⟩ : ∃ nO, nO = (ordG Y Z).length := ⟨_, rfl⟩
      rw [← hnO] at haln hg36
      have HAL := Lib.hid hal
      have HGY := Lib.hid hgo
      have HNO := Lib.hid hnO
      have HAK := Lib.hid hak
      clear hal hgo hnO hak
      have cy0 : w13.cell? ⟨w9.heap.size, 0, none⟩ = some ((.slice aY Y.length cY)) := hk_cell (i := 0) Ky_13.out rfl
      have cy1 : w13.cell? ⟨w9.heap.size, 1, none⟩ = some ((.slice aZ Z.length cZ)) := hk_cell (i := 1) Ky_13.out rfl
      have cy2 : w13.cell? ⟨w9.heap.size, 2, none⟩ = some (.int .i64 rd2) := hk_cell (i := 2) Ky_13.out rfl
      go_wp2_with fail
      (with_reducible refine (SlacksOf_r _ _ Y Z rd2 st2 ch _ FC_13.out FD_13.out hYn hZn _ _ HAL.out).mono ?_)
      rintro e w14 ⟨vE, rfl, hoE, hb14⟩
      clear cy0 cy1 cy2
      have T14 : Below w.heap.size w w14 := T13.trans (hb14.mono T13.size)
      have Kx_14 : Hid (w14.heap[w1.heap.size]? = some (.cells #[(.slice aF F.length cF), (.slice aR R.length cR), .int .i64 rd] 28 (0, 0))) := hk_below Kx_13.out hb14
      have Ky_14 : Hid (w14.heap[w9.heap.size]? = some (.cells #[(.slice aY Y.length cY), (.slice aZ Z.length cZ), .int .i64 rd2] 28 (0, 0))) := hk_below Ky_13.out hb14
      have FA_14 : Hid (RdI w14 (.slice aF F.length cF) F) := FA_13.out.below hb14
      have FB_14 : Hid (RdI w14 (.slice aR R.length cR) R) := FB_13.out.below hb14
      have FS_14 : Hid (RdI w14 (.slice aS ss.length cS) ss) := FS_13.out.below hb14
      have FC_14 : Hid (RdI w14 (.slice aY Y.length cY) Y) := FC_13.out.below hb14
      have FD_14 : Hid (RdI w14 (.slice aZ Z.length cZ) Z) := FD_13.out.below hb14
      clear Kx_13 Ky_13 FA_13 FB_13 FS_13 FC_13 FD_13
      obtain ⟨aE, cE, eE, hrE⟩ := hoE.rd.shape
      rw [haln] at eE
      subst eE
      clear hoE
      have FE_14 : Hid (RdI w14 (.slice aE nO cE) al) := hrE
      clear hrE HAL
      have HAN := Lib.hid haln
      clear haln
      have cy0 : w14.cell? ⟨w9.heap.size, 0, none⟩ = some ((.slice aY Y.length cY)) := hk_cell (i := 0) Ky_14.out rfl
      have cy1 : w14.cell? ⟨w9.heap.size, 1, none⟩ = some ((.slice aZ Z.length cZ)) := hk_cell (i := 1) Ky_14.out rfl
      have cy2 : w14.cell? ⟨w9.heap.size, 2, none⟩ = some (.int .i64 rd2) := hk_cell (i := 2) Ky_14.out rfl
      go_wp2_with fail
      (with_reducible refine (GearOrder_r _ _ Y Z rd2 _ FC_14.out FD_14.out hYn hZn _ _ HGY.out).mono ?_)
      rintro e w15 ⟨vO, LO, rfl, hoO, hmO, hb15⟩
      clear cy0 cy1 cy2
      have T15 : Below w.heap.size w w15 := T14.trans (hb15.mono T14.size)
      have Kx_15 : Hid (w15.heap[w1.heap.size]? = some (.cells #[(.slice aF F.length cF), (.slice aR R.length cR), .int .i64 rd] 28 (0, 0))) := hk_below Kx_14.out hb15
      have Ky_15 : Hid (w15.heap[w9.heap.size]? = some (.cells #[(.slice aY Y.length cY), (.slice aZ Z.length cZ), .int .i64 rd2] 28 (0, 0))) := hk_below Ky_14.out hb15
      have FA_15 : Hid (RdI w15 (.slice aF F.length cF) F) := FA_14.out.below hb15
      have FB_15 : Hid (RdI w15 (.slice aR R.length cR) R) := FB_14.out.below hb15
      have FS_15 : Hid (RdI w15 (.slice aS ss.length cS) ss) := FS_14.out.below hb15
      have FC_15 : Hid (RdI w15 (.slice aY Y.length cY) Y) := FC_14.out.below hb15
      have FD_15 : Hid (RdI w15 (.slice aZ Z.length cZ) Z) := FD_14.out.below hb15
      have FE_15 : Hid (RdI w15 (.slice aE nO cE) al) := FE_14.out.below hb15
      clear Kx_14 Ky_14 FA_14 FB_14 FS_14 FC_14 FD_14 FE_14
      have hlO : LO.length = nO := by have h1 := congrArg List.length hmO; rw [List.length_map] at h1; rw [h1]; exact HNO.out.symm
      obtain ⟨aO, cO, eO, -⟩ := hoO.1.rd.shape
      rw [List.length_map, hlO] at eO
      subst eO
      have HMO := Lib.hid hmO
      have HLO := Lib.hid hlO
      clear hmO hlO
      have FO_15 : Hid (RdG w15 (.slice aO nO cO) LO) := hoO.rdG
      clear hoO
      have cy0 : w15.cell? ⟨w9.heap.size, 0, none⟩ = some ((.slice aY Y.length cY)) := hk_cell (i := 0) Ky_15.out rfl
      have cy1 : w15.cell? ⟨w9.heap.size, 1, none⟩ = some ((.slice aZ Z.length cZ)) := hk_cell (i := 1) Ky_15.out rfl
      have cy2 : w15.cell? ⟨w9.heap.size, 2, none⟩ = some (.int .i64 rd2) := hk_cell (i := 2) Ky_15.out rfl
      go_wp2_with fail
      (with_reducible refine (sGearOrder_r _ _ Y Z rd2 _ FC_15.out FD_15.out hYn hZn _ _ HGY.out).mono ?_)
      rintro e w16 ⟨vP, LP, rfl, hoP, hmP, hb16⟩
      clear cy0 cy1 cy2
      have T16 : Below w.heap.size w w16 := T15.trans (hb16.mono T15.size)
      have Kx_16 : Hid (w16.heap[w1.heap.size]? = some (.cells #[(.slice aF F.length cF), (.slice aR R.length cR), .int .i64 rd] 28 (0, 0))) := hk_below Kx_15.out hb16
      have Ky_16 : Hid (w16.heap[w9.heap.size]? = some (.cells #[(.slice aY Y.length cY), (.slice aZ Z.length cZ), .int .i64 rd2] 28 (0, 0))) := hk_below Ky_15.out hb16
      have FA_16 : Hid (RdI w16 (.slice aF F.length cF) F) := FA_15.out.below hb16
      have FB_16 : Hid (RdI w16 (.slice aR R.length cR) R) := FB_15.out.below hb16
      have FS_16 : Hid (RdI w16 (.slice aS ss.length cS) ss) := FS_15.out.below hb16
      have FC_16 : Hid (RdI w16 (.slice aY Y.length cY) Y) := FC_15.out.below hb16
      have FD_16 : Hid (RdI w16 (.slice aZ Z.length cZ) Z) := FD_15.out.below hb16
      have FE_16 : Hid (RdI w16 (.slice aE nO cE) al) := FE_15.out.below hb16
      have FO_16 : Hid (RdG w16 (.slice aO nO cO) LO) := FO_15.out.below hb16
      clear Kx_15 Ky_15 FA_15 FB_15 FS_15 FC_15 FD_15 FE_15 FO_15
      have hlP : LP.length = nO := by have h1 := congrArg List.length hmP; rw [List.length_map] at h1; rw [h1]; exact HNO.out.symm
      obtain ⟨aP, cP, eP, -⟩ := hoP.1.rd.shape
      rw [List.length_map, hlP] at eP
      subst eP
      have HMP := Lib.hid hmP
      have HLP := Lib.hid hlP
      clear hmP hlP
      have FP_16 : Hid (RdG w16 (.slice aP nO cP) LP) := hoP.rdG
      clear hoP
      go_wp2_with fail
      (with_reducible refine (likeRows_same _ _ LO LP _ FO_16.out FP_16.out (HMO.out.trans HMP.out.symm) (by have := HLO.out; omega)).mono ?_)
      rintro e w17 ⟨rfl, hb17⟩
      have T17 : Below w.heap.size w w17 := T16.trans (hb17.mono T16.size)
      have Kx_17 : Hid (w17.heap[w1.heap.size]? = some (.cells #[(.slice aF F.length cF), (.slice aR R.length cR), .int .i64 rd] 28 (0, 0))) := hk_below Kx_16.out hb17
      have Ky_17 : Hid (w17.heap[w9.heap.size]? = some (.cells #[(.slice aY Y.length cY), (.slice aZ Z.length cZ), .int .i64 rd2] 28 (0, 0))) := hk_below Ky_16.out hb17
      have FA_17 : Hid (RdI w17 (.slice aF F.length cF) F) := FA_16.out.below hb17
      have FB_17 : Hid (RdI w17 (.slice aR R.length cR) R) := FB_16.out.below hb17
      have FS_17 : Hid (RdI w17 (.slice aS ss.length cS) ss) := FS_16.out.below hb17
      have FC_17 : Hid (RdI w17 (.slice aY Y.length cY) Y) := FC_16.out.below hb17
      have FD_17 : Hid (RdI w17 (.slice aZ Z.length cZ) Z) := FD_16.out.below hb17
      have FE_17 : Hid (RdI w17 (.slice aE nO cE) al) := FE_16.out.below hb17
      have FO_17 : Hid (RdG w17 (.slice aO nO cO) LO) := FO_16.out.below hb17
      have FP_17 : Hid (RdG w17 (.slice aP nO cP) LP) := FP_16.out.below hb17
      clear Kx_16 Ky_16 FA_16 FB_16 FS_16 FC_16 FD_16 FE_16 FO_16 FP_16
      clear FP_17
      clear HMP HLP
      clear HGY
      clear FC_17 FD_17
      go_wp2
      go_loopw [32] (fun iv wr => ∃ k : Nat, k ≤ nO ∧ iv = .int .i64 k ∧ Below w.heap.size w wr ∧ Hid (RdI wr (.slice aF F.length cF) F) ∧ Hid (RdI wr (.slice aR R.length cR) R) ∧ Hid (RdI wr (.slice aS ss.length cS) ss) ∧ Hid (RdI wr (.slice aE nO cE) al) ∧ Hid (RdG wr (.slice aO nO cO) LO) ∧ Hid (wr.heap[w1.heap.size]? = some (.cells #[(.slice aF F.length cF), (.slice aR R.length cR), .int .i64 rd] 28 (0, 0))) ∧ Hid (wr.heap[w9.heap.size]? = some (.cells #[(.slice aY Y.length cY), (.slice aZ Z.length cZ), .int .i64 rd2] 28 (0, 0)))) (fun iv _ => nO - (intOf iv).toNat)
      case atStart => exact ⟨0, Nat.zero_le _, rfl, T17, FA_17, FB_17, FS_17, FE_17, FO_17, Kx_17, Ky_17⟩
      case round =>
        clear T17 FA_17 FB_17 FS_17 FE_17 FO_17 Kx_17 Ky_17
        obtain ⟨k, hk, rfl, T50, FA_50, FB_50, FS_50, FE_50, FO_50, Kx_50, Ky_50⟩ := hrel
        obtain ⟨w50, hw50⟩ : ∃ w50, w50 = wr := ⟨_, rfl⟩
        subst hw50
        by_cases hlt : k < nO
        · obtain ⟨⟨⟨x0, x1⟩, px⟩, hx⟩ : ∃ x, LO[k]? = some x := ⟨_, List.getElem?_eq_getElem (by have := HLO.out; omega)⟩
          obtain ⟨gg, oo, eg, cg⟩ := FO_50.out.1.at k (gv ((x0, x1), px)) (by rw [List.getElem?_map, hx]; rfl)
          subst eg
          have egv : gv ((x0, x1), px) = .slice (some ⟨px, 0, none⟩) 2 2 := rfl
          rw [egv] at cg
          have hrow : w50.heap[px]? = some (.cells #[.int .i64 x0, .int .i64 x1] 2 (0, 0)) := FO_50.out.2 _ (List.mem_of_getElem? hx)
          have cg0 := hk_cell (i := 0) hrow rfl
          have cg1 := hk_cell (i := 1) hrow rfl
          have hog := ordG_at HMO.out hx
          clear egv hrow hx
          have cy0 : w50.cell? ⟨w9.heap.size, 0, none⟩ = some ((.slice aY Y.length cY)) := hk_cell (i := 0) Ky_50.out rfl
          have cy1 : w50.cell? ⟨w9.heap.size, 1, none⟩ = some ((.slice aZ Z.length cZ)) := hk_cell (i := 1) Ky_50.out rfl
          have cy2 : w50.cell? ⟨w9.heap.size, 2, none⟩ = some (.int .i64 rd2) := hk_cell (i := 2) Ky_50.out rfl
          obtain ⟨b, o, eE, ce⟩ := FE_50.out.at k (by have := HAN.out; omega)
          subst eE
          have hk2 := HAK.out k (by have := HNO.out; omega)
          rw [hog] at hk2
          simp only at hk2
          clear hog
          generalize al.getD k 0 = u at *
          have hw1 : IntKind.i64.wrap ((Y.length : Int) - 1) = (Y.length : Int) - 1 := IntWalk.i64_in _ (by omega)
          have hw2 : IntKind.i64.wrap ((Z.length : Int) - 1) = (Z.length : Int) - 1 := IntWalk.i64_in _ (by omega)
          have hkl : (k : Int) < (nO : Int) := by omega
          have hk0 : (0 : Int) ≤ (k : Int) := by omega
          by_cases ea : x0 = (Y.length : Int) - 1
          · by_cases eb : x1 = (Z.length : Int) - 1
            · have hu := hk2 ea eb
              clear hk2
              have na : (x0 == (Y.length : Int) - 1) = true := by rw [beq_iff_eq]; exact ea
              have nb : (x1 == (Z.length : Int) - 1) = true := by rw [beq_iff_eq]; exact eb
              have hdu : decide (u < 2000) = false := by simpa using hu
              clear ea eb
              go_wp2
              go_quiet (fail)
              obtain ⟨w51, hw51⟩ : ∃ w51, w51 = w50.drewN nq := ⟨_, rfl⟩
              rw [← hw51]
              have hb51 : Below w50.heap.size w50 w51 := by rw [hw51]; exact blw_drewN (Below.refl _ _) _
              clear hw51
              have T51 : Below w.heap.size w w51 := T50.trans (hb51.mono T50.size)
              have Kx_51 : Hid (w51.heap[w1.heap.size]? = some (.cells #[(.slice aF F.length cF), (.slice aR R.length cR), .int .i64 rd] 28 (0, 0))) := hk_below Kx_50.out hb51
              have Ky_51 : Hid (w51.heap[w9.heap.size]? = some (.cells #[(.slice aY Y.length cY), (.slice aZ Z.length cZ), .int .i64 rd2] 28 (0, 0))) := hk_below Ky_50.out hb51
              have FA_51 : Hid (RdI w51 (.slice aF F.length cF) F) := FA_50.out.below hb51
              have FB_51 : Hid (RdI w51 (.slice aR R.length cR) R) := FB_50.out.below hb51
              have FS_51 : Hid (RdI w51 (.slice aS ss.length cS) ss) := FS_50.out.below hb51
              have FE_51 : Hid (RdI w51 (.slice (some ⟨b, o, none⟩) nO cE) al) := FE_50.out.below hb51
              have FO_51 : Hid (RdG w51 (.slice (some ⟨gg, oo, none⟩) nO cO) LO) := FO_50.out.below hb51
              clear Kx_50 Ky_50 FA_50 FB_50 FS_50 FE_50 FO_50
              clear cg cg0 cg1 ce
              clear cy0 cy1 cy2
              go_wp2
              go_roundw
              case rel => exact ⟨k + 1, by omega, by go_num, T51, FA_51, FB_51, FS_51, FE_51, FO_51, Kx_51, Ky_51⟩
              case measure => simp [intOf] <;> omega
            · clear hk2
              have na : (x0 == (Y.length : Int) - 1) = true := by rw [beq_iff_eq]; exact ea
              have nb : (x1 == (Z.length : Int) - 1) = false := by rw [beq_eq_false_iff_ne]; exact eb
              clear ea eb
              go_wp2
              go_quiet (fail)
              obtain ⟨w51, hw51⟩ : ∃ w51, w51 = w50.drewN nq := ⟨_, rfl⟩
              rw [← hw51]
              have hb51 : Below w50.heap.size w50 w51 := by rw [hw51]; exact blw_drewN (Below.refl _ _) _
              clear hw51
              have T51 : Below w.heap.size w w51 := T50.trans (hb51.mono T50.size)
              have Kx_51 : Hid (w51.heap[w1.heap.size]? = some (.cells #[(.slice aF F.length cF), (.slice aR R.length cR), .int .i64 rd] 28 (0, 0))) := hk_below Kx_50.out hb51
              have Ky_51 : Hid (w51.heap[w9.heap.size]? = some (.cells #[(.slice aY Y.length cY), (.slice aZ Z.length cZ), .int .i64 rd2] 28 (0, 0))) := hk_below Ky_50.out hb51
              have FA_51 : Hid (RdI w51 (.slice aF F.length cF) F) := FA_50.out.below hb51
              have FB_51 : Hid (RdI w51 (.slice aR R.length cR) R) := FB_50.out.below hb51
              have FS_51 : Hid (RdI w51 (.slice aS ss.length cS) ss) := FS_50.out.below hb51
              have FE_51 : Hid (RdI w51 (.slice (some ⟨b, o, none⟩) nO cE) al) := FE_50.out.below hb51
              have FO_51 : Hid (RdG w51 (.slice (some ⟨gg, oo, none⟩) nO cO) LO) := FO_50.out.below hb51
              clear Kx_50 Ky_50 FA_50 FB_50 FS_50 FE_50 FO_50
              clear cg cg0 cg1 ce
              clear cy0 cy1 cy2
              go_wp2
              go_roundw
              case rel => exact ⟨k + 1, by omega, by go_num, T51, FA_51, FB_51, FS_51, FE_51, FO_51, Kx_51, Ky_51⟩
              case measure => simp [intOf] <;> omega
          · clear hk2
            have na : (x0 == (Y.length : Int) - 1) = false := by rw [beq_eq_false_iff_ne]; exact ea
            clear ea
            go_wp2
            go_quiet (fail)
            obtain ⟨w51, hw51⟩ : ∃ w51, w51 = w50.drewN nq := ⟨_, rfl⟩
            rw [← hw51]
            have hb51 : Below w50.heap.size w50 w51 := by rw [hw51]; exact blw_drewN (Below.refl _ _) _
            clear hw51
            have T51 : Below w.heap.size w w51 := T50.trans (hb51.mono T50.size)
            have Kx_51 : Hid (w51.heap[w1.heap.size]? = some (.cells #[(.slice aF F.length cF), (.slice aR R.length cR), .int .i64 rd] 28 (0, 0))) := hk_below Kx_50.out hb51
            have Ky_51 : Hid (w51.heap[w9.heap.size]? = some (.cells #[(.slice aY Y.length cY), (.slice aZ Z.length cZ), .int .i64 rd2] 28 (0, 0))) := hk_below Ky_50.out hb51
            have FA_51 : Hid (RdI w51 (.slice aF F.length cF) F) := FA_50.out.below hb51
            have FB_51 : Hid (RdI w51 (.slice aR R.length cR) R) := FB_50.out.below hb51
            have FS_51 : Hid (RdI w51 (.slice aS ss.length cS) ss) := FS_50.out.below hb51
            have FE_51 : Hid (RdI w51 (.slice (some ⟨b, o, none⟩) nO cE) al) := FE_50.out.below hb51
            have FO_51 : Hid (RdG w51 (.slice (some ⟨gg, oo, none⟩) nO cO) LO) := FO_50.out.below hb51
            clear Kx_50 Ky_50 FA_50 FB_50 FS_50 FE_50 FO_50
            clear cg cg0 cg1 ce
            clear cy0 cy1 cy2
            go_wp2
            go_roundw
            case rel => exact ⟨k + 1, by omega, by go_num, T51, FA_51, FB_51, FS_51, FE_51, FO_51, Kx_51, Ky_51⟩
            case measure => simp [intOf] <;> omega
        · obtain rfl : k = nO := by omega
          clear HAN HAK HNO HMO HLO
          clear FE_50 FO_50 Ky_50
          go_wp2
          go_loopw [33] (fun iv wr => ∃ k : Nat, k ≤ ss.length ∧ iv = .int .i64 k ∧ Below w.heap.size w wr ∧ Hid (RdI wr (.slice aF F.length cF) F) ∧ Hid (RdI wr (.slice aR R.length cR) R) ∧ Hid (RdI wr (.slice aS ss.length cS) ss) ∧ Hid (wr.heap[w1.heap.size]? = some (.cells #[(.slice aF F.length cF), (.slice aR R.length cR), .int .i64 rd] 28 (0, 0)))) (fun iv _ => ss.length - (intOf iv).toNat)
          case atStart => exact ⟨0, Nat.zero_le _, rfl, T50, FA_50, FB_50, FS_50, Kx_50⟩
          case round =>
            clear T50 FA_50 FB_50 FS_50 Kx_50
            obtain ⟨k, hk, rfl, T60, FA_60, FB_60, FS_60, Kx_60⟩ := hrel
            obtain ⟨w60, hw60⟩ : ∃ w60, w60 = wr := ⟨_, rfl⟩
            subst hw60
            by_cases hone : one = 0
            · by_cases hlk : lk < 200
              · by_cases hlt : k < ss.length
                · obtain ⟨mo, hmo, hml, ⟨lk0, lk2⟩, hmk⟩ := HML.out hone hlk
                  subst hone
                  have HMO := Lib.hid hmo
                  clear hmo
                  obtain ⟨⟨u0, u1⟩, hmv⟩ := hmk k hlt
                  clear hmk
                  have hlw : IntKind.i64.wrap (lk + 2) = lk + 2 := IntWalk.i64_in _ (by omega)
                  have hdl : decide (lk < 200) = true := by simpa using hlk
                  have hkl : (k : Int) < (ss.length : Int) := by omega
                  have hk0 : (0 : Int) ≤ (k : Int) := by omega
                  have cx0 : w60.cell? ⟨w1.heap.size, 0, none⟩ = some ((.slice aF F.length cF)) := hk_cell (i := 0) Kx_60.out rfl
                  have cx1 : w60.cell? ⟨w1.heap.size, 1, none⟩ = some ((.slice aR R.length cR)) := hk_cell (i := 1) Kx_60.out rfl
                  have cx2 : w60.cell? ⟨w1.heap.size, 2, none⟩ = some (.int .i64 rd) := hk_cell (i := 2) Kx_60.out rfl
                  go_wp2_with fail
                  (with_reducible refine (SlacksOf_r _ _ F R rd st (lk + 2) _ FA_60.out FB_60.out hFn hRn _ _ HMO.out).mono ?_)
                  rintro e w61 ⟨vM, rfl, hoM, hb61⟩
                  clear cx0 cx1 cx2
                  have T61 : Below w.heap.size w w61 := T60.trans (hb61.mono T60.size)
                  have Kx_61 : Hid (w61.heap[w1.heap.size]? = some (.cells #[(.slice aF F.length cF), (.slice aR R.length cR), .int .i64 rd] 28 (0, 0))) := hk_below Kx_60.out hb61
                  have FA_61 : Hid (RdI w61 (.slice aF F.length cF) F) := FA_60.out.below hb61
                  have FB_61 : Hid (RdI w61 (.slice aR R.length cR) R) := FB_60.out.below hb61
                  have FS_61 : Hid (RdI w61 (.slice aS ss.length cS) ss) := FS_60.out.below hb61
                  clear Kx_60 FA_60 FB_60 FS_60
                  obtain ⟨aM, cM, eM, hrM⟩ := hoM.rd.shape
                  rw [hml] at eM
                  subst eM
                  clear hoM
                  obtain ⟨b, o, eS, cs⟩ := FS_61.out.at k hlt
                  subst eS
                  obtain ⟨b', o', eM, cm⟩ := hrM.at k (by omega)
                  subst eM
                  clear hrM HMO
                  generalize ss.getD k 0 = u at *
                  generalize mo.getD k 0 = v at *
                  have huw : IntKind.i64.wrap (u + 2000) = u + 2000 := IntWalk.i64_in _ (by omega)
                  by_cases hu : 0 ≤ u
                  · have hvu := hmv hu
                    subst hvu
                    clear hmv
                    have hdu : decide (0 ≤ u) = true := by simpa using hu
                    go_wp2
                    go_quiet (fail)
                    obtain ⟨w62, hw62⟩ : ∃ w62, w62 = w61.drewN nq := ⟨_, rfl⟩
                    rw [← hw62]
                    have hb62 : Below w61.heap.size w61 w62 := by rw [hw62]; exact blw_drewN (Below.refl _ _) _
                    clear hw62
                    have T62 : Below w.heap.size w w62 := T61.trans (hb62.mono T61.size)
                    have Kx_62 : Hid (w62.heap[w1.heap.size]? = some (.cells #[(.slice aF F.length cF), (.slice aR R.length cR), .int .i64 rd] 28 (0, 0))) := hk_below Kx_61.out hb62
                    have FA_62 : Hid (RdI w62 (.slice aF F.length cF) F) := FA_61.out.below hb62
                    have FB_62 : Hid (RdI w62 (.slice aR R.length cR) R) := FB_61.out.below hb62
                    have FS_62 : Hid (RdI w62 (.slice (some ⟨b, o, none⟩) ss.length cS) ss) := FS_61.out.below hb62
                    clear Kx_61 FA_61 FB_61 FS_61
                    clear cs cm
                    go_wp2
                    go_roundw
                    case rel => exact ⟨k + 1, by omega, by go_num, T62, FA_62, FB_62, FS_62, Kx_62⟩
                    case measure => simp [intOf] <;> omega
                  · clear hmv
                    have hdu : decide (0 ≤ u) = false := by simpa using hu
                    go_wp2
                    go_quiet (fail)
                    obtain ⟨w62, hw62⟩ : ∃ w62, w62 = w61.drewN nq := ⟨_, rfl⟩
                    rw [← hw62]
                    have hb62 : Below w61.heap.size w61 w62 := by rw [hw62]; exact blw_drewN (Below.refl _ _) _
                    clear hw62
                    have T62 : Below w.heap.size w w62 := T61.trans (hb62.mono T61.size)
                    have Kx_62 : Hid (w62.heap[w1.heap.size]? = some (.cells #[(.slice aF F.length cF), (.slice aR R.length cR), .int .i64 rd] 28 (0, 0))) := hk_below Kx_61.out hb62
                    have FA_62 : Hid (RdI w62 (.slice aF F.length cF) F) := FA_61.out.below hb62
                    have FB_62 : Hid (RdI w62 (.slice aR R.length cR) R) := FB_61.out.below hb62
                    have FS_62 : Hid (RdI w62 (.slice (some ⟨b, o, none⟩) ss.length cS) ss) := FS_61.out.below hb62
                    clear Kx_61 FA_61 FB_61 FS_61
                    clear cs cm
                    go_wp2
                    go_roundw
                    case rel => exact ⟨k + 1, by omega, by go_num, T62, FA_62, FB_62, FS_62, Kx_62⟩
                    case measure => simp [intOf] <;> omega
                · obtain rfl : k = ss.length := by omega
                  subst hone
                  have hdl : decide (lk < 200) = true := by simpa using hlk
                  clear HML
                  as_aux_lemma =>
                    by_cases hbad : bad = 0
                    · obtain ⟨-, hgo, hg36, hgn, hV0, hVm⟩ := HLL.out hbad
                      clear HLL
                      subst hbad
                      have HGO := Lib.hid hgo
                      have HGN := Lib.hid hgn
                      have HV0 := Lib.hid hV0
                      have HVM := Lib.hid hVm
                      clear hgo hgn hV0 hVm hg36
                      have cx0 : w60.cell? ⟨w1.heap.size, 0, none⟩ = some ((.slice aF F.length cF)) := hk_cell (i := 0) Kx_60.out rfl
                      have cx1 : w60.cell? ⟨w1.heap.size, 1, none⟩ = some ((.slice aR R.length cR)) := hk_cell (i := 1) Kx_60.out rfl
                      have cx2 : w60.cell? ⟨w1.heap.size, 2, none⟩ = some (.int .i64 rd) := hk_cell (i := 2) Kx_60.out rfl
                      go_wp2_with fail
                      (with_reducible refine (GearOrder_r _ _ F R rd _ FA_60.out FB_60.out hFn hRn _ _ HGO.out).mono ?_)
                      rintro e w61 ⟨vO2, LO2, rfl, hoO2, hmO2, hb61⟩
                      clear cx0 cx1 cx2
                      have T61 : Below w.heap.size w w61 := T60.trans (hb61.mono T60.size)
                      have Kx_61 : Hid (w61.heap[w1.heap.size]? = some (.cells #[(.slice aF F.length cF), (.slice aR R.length cR), .int .i64 rd] 28 (0, 0))) := hk_below Kx_60.out hb61
                      have FA_61 : Hid (RdI w61 (.slice aF F.length cF) F) := FA_60.out.below hb61
                      have FB_61 : Hid (RdI w61 (.slice aR R.length cR) R) := FB_60.out.below hb61
                      have FS_61 : Hid (RdI w61 (.slice aS ss.length cS) ss) := FS_60.out.below hb61
                      clear Kx_60 FA_60 FB_60 FS_60
                      have hlO2 : LO2.length = ss.length := by have h1 := congrArg List.length hmO2; rw [List.length_map] at h1; rw [h1]; exact HGN.out
                      obtain ⟨aO2, cO2, eO2, -⟩ := hoO2.1.rd.shape
                      rw [List.length_map, hlO2] at eO2
                      subst eO2
                      have HMO2 := Lib.hid hmO2
                      have HLO2 := Lib.hid hlO2
                      clear hmO2 hlO2
                      have FO2_61 : Hid (RdG w61 (.slice aO2 ss.length cO2) LO2) := hoO2.rdG
                      clear hoO2
                      have cx0 : w61.cell? ⟨w1.heap.size, 0, none⟩ = some ((.slice aF F.length cF)) := hk_cell (i := 0) Kx_61.out rfl
                      have cx1 : w61.cell? ⟨w1.heap.size, 1, none⟩ = some ((.slice aR R.length cR)) := hk_cell (i := 1) Kx_61.out rfl
                      have cx2 : w61.cell? ⟨w1.heap.size, 2, none⟩ = some (.int .i64 rd) := hk_cell (i := 2) Kx_61.out rfl
                      go_wp2_with fail
                      (with_reducible refine (sGearOrder_r _ _ F R rd _ FA_61.out FB_61.out hFn hRn _ _ HGO.out).mono ?_)
                      rintro e w62 ⟨vP2, LP2, rfl, hoP2, hmP2, hb62⟩
                      clear cx0 cx1 cx2
                      have T62 : Below w.heap.size w w62 := T61.trans (hb62.mono T61.size)
                      have Kx_62 : Hid (w62.heap[w1.heap.size]? = some (.cells #[(.slice aF F.length cF), (.slice aR R.length cR), .int .i64 rd] 28 (0, 0))) := hk_below Kx_61.out hb62
                      have FA_62 : Hid (RdI w62 (.slice aF F.length cF) F) := FA_61.out.below hb62
                      have FB_62 : Hid (RdI w62 (.slice aR R.length cR) R) := FB_61.out.below hb62
                      have FS_62 : Hid (RdI w62 (.slice aS ss.length cS) ss) := FS_61.out.below hb62
                      have FO2_62 : Hid (RdG w62 (.slice aO2 ss.length cO2) LO2) := FO2_61.out.below hb62
                      clear Kx_61 FA_61 FB_61 FS_61 FO2_61
                      have hlP2 : LP2.length = ss.length := by have h1 := congrArg List.length hmP2; rw [List.length_map] at h1; rw [h1]; exact HGN.out
                      obtain ⟨aP2, cP2, eP2, -⟩ := hoP2.1.rd.shape
                      rw [List.length_map, hlP2] at eP2
                      subst eP2
                      have HMP2 := Lib.hid hmP2
                      have HLP2 := Lib.hid hlP2
                      clear hmP2 hlP2
                      have FP2_62 : Hid (RdG w62 (.slice aP2 ss.length cP2) LP2) := hoP2.rdG
                      clear hoP2
                      go_wp2_with fail
                      (with_reducible refine (likeRows_same _ _ LO2 LP2 _ FO2_62.out FP2_62.out (HMO2.out.trans HMP2.out.symm) (by have := HLO2.out; omega)).mono ?_)
                      rintro e w63 ⟨rfl, hb63⟩
                      have T63 : Below w.heap.size w w63 := T62.trans (hb63.mono T62.size)
                      have Kx_63 : Hid (w63.heap[w1.heap.size]? = some (.cells #[(.slice aF F.length cF), (.slice aR R.length cR), .int .i64 rd] 28 (0, 0))) := hk_below Kx_62.out hb63
                      have FA_63 : Hid (RdI w63 (.slice aF F.length cF) F) := FA_62.out.below hb63
                      have FB_63 : Hid (RdI w63 (.slice aR R.length cR) R) := FB_62.out.below hb63
                      have FS_63 : Hid (RdI w63 (.slice aS ss.length cS) ss) := FS_62.out.below hb63
                      have FO2_63 : Hid (RdG w63 (.slice aO2 ss.length cO2) LO2) := FO2_62.out.below hb63
                      have FP2_63 : Hid (RdG w63 (.slice aP2 ss.length cP2) LP2) := FP2_62.out.below hb63
                      clear Kx_62 FA_62 FB_62 FS_62 FO2_62 FP2_62
                      clear FP2_63
                      clear HMP2 HLP2
                      clear HGO HGN
                      clear FA_63 FB_63 Kx_63
                      go_wp2
                      go_loopw [40, 41] (fun bv iv wr => ∃ k : Nat, k ≤ ss.length ∧ iv = .int .i64 k ∧ bv = .int .i64 (bstS (ordG F R) ss f r k) ∧ Below w.heap.size w wr ∧ Hid (RdI wr (.slice aS ss.length cS) ss) ∧ Hid (RdG wr (.slice aO2 ss.length cO2) LO2)) (fun _ iv _ => ss.length - (intOf iv).toNat)
                      case atStart => exact ⟨0, Nat.zero_le _, rfl, rfl, T63, FS_63, FO2_63⟩
                      case round =>
                        clear T63 FS_63 FO2_63
                        obtain ⟨k, hk, rfl, rfl, T70, FS_70, FO2_70⟩ := hrel
                        obtain ⟨w70, hw70⟩ : ∃ w70, w70 = wr := ⟨_, rfl⟩
                        subst hw70
                        by_cases hlt : k < ss.length
                        · obtain ⟨⟨⟨x0, x1⟩, px⟩, hx⟩ : ∃ x, LO2[k]? = some x := ⟨_, List.getElem?_eq_getElem (by have := HLO2.out; omega)⟩
                          obtain ⟨gg, oo, eg, cg⟩ := FO2_70.out.1.at k (gv ((x0, x1), px)) (by rw [List.getElem?_map, hx]; rfl)
                          subst eg
                          have egv : gv ((x0, x1), px) = .slice (some ⟨px, 0, none⟩) 2 2 := rfl
                          rw [egv] at cg
                          have hrow : w70.heap[px]? = some (.cells #[.int .i64 x0, .int .i64 x1] 2 (0, 0)) := FO2_70.out.2 _ (List.mem_of_getElem? hx)
                          have cg0 := hk_cell (i := 0) hrow rfl
                          have cg1 := hk_cell (i := 1) hrow rfl
                          have hog := ordG_at HMO2.out hx
                          clear egv hrow hx
                          obtain ⟨b, o, eS, cs⟩ := FS_70.out.at k hlt
                          subst eS
                          have hbk : bstS (ordG F R) ss f r (k + 1) = if x0 = f ∧ x1 = r then ss.getD k 0 else bstS (ordG F R) ss f r k := by
                            show (if ((ordG F R).getD k (0, 0)).1 = f ∧ ((ordG F R).getD k (0, 0)).2 = r then ss.getD k 0 else bstS (ordG F R) ss f r k) = _
                            rw [hog]
                          have HBK := Lib.hid hbk
                          clear hbk hog
                          generalize ss.getD k 0 = u at *
                          generalize hbq : bstS (ordG F R) ss f r k = bk at *
                          clear hbq
                          have hkl : (k : Int) < (ss.length : Int) := by omega
                          have hk0 : (0 : Int) ≤ (k : Int) := by omega
                          by_cases ea : x0 = f
                          · by_cases eb : x1 = r
                            · subst ea eb
                              have HB2 := Lib.hid (HBK.out.trans (if_pos ⟨rfl, rfl⟩))
                              clear HBK
                              go_wp2
                              go_roundw
                              case rel => exact ⟨k + 1, by omega, by go_num, by rw [HB2.out], T70, FS_70, FO2_70⟩
                              case measure => simp [intOf] <;> omega
                            · subst ea
                              have nb : (x1 == r) = false := by rw [beq_eq_false_iff_ne]; exact eb
                              have HB2 := Lib.hid (HBK.out.trans (if_neg (fun h => eb h.2)))
                              clear HBK
                              go_wp2
                              go_roundw
                              case rel => exact ⟨k + 1, by omega, by go_num, by rw [HB2.out], T70, FS_70, FO2_70⟩
                              case measure => simp [intOf] <;> omega
                          · have na : (x0 == f) = false := by rw [beq_eq_false_iff_ne]; exact ea
                            have HB2 := Lib.hid (HBK.out.trans (if_neg (fun h => ea h.1)))
                            clear HBK
                            go_wp2
                            go_roundw
                            case rel => exact ⟨k + 1, by omega, by go_num, by rw [HB2.out], T70, FS_70, FO2_70⟩
                            case measure => simp [intOf] <;> omega
                        · obtain rfl : k = ss.length := by omega
                          generalize bstS (ordG F R) ss f r ss.length = V at *
                          clear FO2_70
                          clear HMO2 HLO2
                          go_wp2
                          go_loopw [42] (fun iv wr => ∃ k : Nat, k ≤ ss.length ∧ iv = .int .i64 k ∧ Below w.heap.size w wr ∧ Hid (RdI wr (.slice aS ss.length cS) ss)) (fun iv _ => ss.length - (intOf iv).toNat)
                          case atStart => exact ⟨0, Nat.zero_le _, rfl, T70, FS_70⟩
                          case round =>
                            clear T70 FS_70
                            obtain ⟨k, hk, rfl, T80, FS_80⟩ := hrel
                            obtain ⟨w80, hw80⟩ : ∃ w80, w80 = wr := ⟨_, rfl⟩
                            subst hw80
                            by_cases hlt : k < ss.length
                            · obtain ⟨b, o, eS, cs⟩ := FS_80.out.at k hlt
                              subst eS
                              have hv := HVM.out k hlt
                              generalize ss.getD k 0 = u at *
                              have hd : decide (V < u) = false := by simpa using hv
                              have hkl : (k : Int) < (ss.length : Int) := by omega
                              have hk0 : (0 : Int) ≤ (k : Int) := by omega
                              go_wp2
                              go_roundw
                              case rel => exact ⟨k + 1, by omega, by go_num, T80, FS_80⟩
                              case measure => simp [intOf] <;> omega
                            · obtain rfl : k = ss.length := by omega
                              have hv0 := HV0.out
                              have hd : decide (0 ≤ V) = true := by simpa using hv0
                              go_wp2
                              go_ret
                              exact ⟨rfl, T80⟩
                    · clear HLL
                      have hbq : (bad == 0) = false := by rw [beq_eq_false_iff_ne]; exact hbad
                      go_wp2
                      go_ret
                      exact ⟨rfl, T60⟩
              · subst hone
                have hdl : decide (lk < 200) = false := by simpa using hlk
                clear HML
                as_aux_lemma =>
                  by_cases hbad : bad = 0
                  · obtain ⟨-, hgo, hg36, hgn, hV0, hVm⟩ := HLL.out hbad
                    clear HLL
                    subst hbad
                    have HGO := Lib.hid hgo
                    have HGN := Lib.hid hgn
                    have HV0 := Lib.hid hV0
                    have HVM := Lib.hid hVm
                    clear hgo hgn hV0 hVm hg36
                    have cx0 : w60.cell? ⟨w1.heap.size, 0, none⟩ = some ((.slice aF F.length cF)) := hk_cell (i := 0) Kx_60.out rfl
                    have cx1 : w60.cell? ⟨w1.heap.size, 1, none⟩ = some ((.slice aR R.length cR)) := hk_cell (i := 1) Kx_60.out rfl
                    have cx2 : w60.cell? ⟨w1.heap.size, 2, none⟩ = some (.int .i64 rd) := hk_cell (i := 2) Kx_60.out rfl
                    go_wp2_with fail
                    (with_reducible refine (GearOrder_r _ _ F R rd _ FA_60.out FB_60.out hFn hRn _ _ HGO.out).mono ?_)
                    rintro e w61 ⟨vO2, LO2, rfl, hoO2, hmO2, hb61⟩
                    clear cx0 cx1 cx2
                    have T61 : Below w.heap.size w w61 := T60.trans (hb61.mono T60.size)
                    have Kx_61 : Hid (w61.heap[w1.heap.size]? = some (.cells #[(.slice aF F.length cF), (.slice aR R.length cR), .int .i64 rd] 28 (0, 0))) := hk_below Kx_60.out hb61
                    have FA_61 : Hid (RdI w61 (.slice aF F.length cF) F) := FA_60.out.below hb61
                    have FB_61 : Hid (RdI w61 (.slice aR R.length cR) R) := FB_60.out.below hb61
                    have FS_61 : Hid (RdI w61 (.slice aS ss.length cS) ss) := FS_60.out.below hb61
                    clear Kx_60 FA_60 FB_60 FS_60
                    have hlO2 : LO2.length = ss.length := by have h1 := congrArg List.length hmO2; rw [List.length_map] at h1; rw [h1]; exact HGN.out
                    obtain ⟨aO2, cO2, eO2, -⟩ := hoO2.1.rd.shape
                    rw [List.length_map, hlO2] at eO2
                    subst eO2
                    have HMO2 := Lib.hid hmO2
                    have HLO2 := Lib.hid hlO2
                    clear hmO2 hlO2
                    have FO2_61 : Hid (RdG w61 (.slice aO2 ss.length cO2) LO2) := hoO2.rdG
                    clear hoO2
                    have cx0 : w61.cell? ⟨w1.heap.size, 0, none⟩ = some ((.slice aF F.length cF)) := hk_cell (i := 0) Kx_61.out rfl
                    have cx1 : w61.cell? ⟨w1.heap.size, 1, none⟩ = some ((.slice aR R.length cR)) := hk_cell (i := 1) Kx_61.out rfl
                    have cx2 : w61.cell? ⟨w1.heap.size, 2, none⟩ = some (.int .i64 rd) := hk_cell (i := 2) Kx_61.out rfl
                    go_wp2_with fail
                    (with_reducible refine (sGearOrder_r _ _ F R rd _ FA_61.out FB_61.out hFn hRn _ _ HGO.out).mono ?_)
                    rintro e w62 ⟨vP2, LP2, rfl, hoP2, hmP2, hb62⟩
                    clear cx0 cx1 cx2
                    have T62 : Below w.heap.size w w62 := T61.trans (hb62.mono T61.size)
                    have Kx_62 : Hid (w62.heap[w1.heap.size]? = some (.cells #[(.slice aF F.length cF), (.slice aR R.length cR), .int .i64 rd] 28 (0, 0))) := hk_below Kx_61.out hb62
                    have FA_62 : Hid (RdI w62 (.slice aF F.length cF) F) := FA_61.out.below hb62
                    have FB_62 : Hid (RdI w62 (.slice aR R.length cR) R) := FB_61.out.below hb62
                    have FS_62 : Hid (RdI w62 (.slice aS ss.length cS) ss) := FS_61.out.below hb62
                    have FO2_62 : Hid (RdG w62 (.slice aO2 ss.length cO2) LO2) := FO2_61.out.below hb62
                    clear Kx_61 FA_61 FB_61 FS_61 FO2_61
                    have hlP2 : LP2.length = ss.length := by have h1 := congrArg List.length hmP2; rw [List.length_map] at h1; rw [h1]; exact HGN.out
                    obtain ⟨aP2, cP2, eP2, -⟩ := hoP2.1.rd.shape
                    rw [List.length_map, hlP2] at eP2
                    subst eP2
                    have HMP2 := Lib.hid hmP2
                    have HLP2 := Lib.hid hlP2
                    clear hmP2 hlP2
                    have FP2_62 : Hid (RdG w62 (.slice aP2 ss.length cP2) LP2) := hoP2.rdG
                    clear hoP2
                    go_wp2_with fail
                    (with_reducible refine (likeRows_same _ _ LO2 LP2 _ FO2_62.out FP2_62.out (HMO2.out.trans HMP2.out.symm) (by have := HLO2.out; omega)).mono ?_)
                    rintro e w63 ⟨rfl, hb63⟩
                    have T63 : Below w.heap.size w w63 := T62.trans (hb63.mono T62.size)
                    have Kx_63 : Hid (w63.heap[w1.heap.size]? = some (.cells #[(.slice aF F.length cF), (.slice aR R.length cR), .int .i64 rd] 28 (0, 0))) := hk_below Kx_62.out hb63
                    have FA_63 : Hid (RdI w63 (.slice aF F.length cF) F) := FA_62.out.below hb63
                    have FB_63 : Hid (RdI w63 (.slice aR R.length cR) R) := FB_62.out.below hb63
                    have FS_63 : Hid (RdI w63 (.slice aS ss.length cS) ss) := FS_62.out.below hb63
                    have FO2_63 : Hid (RdG w63 (.slice aO2 ss.length cO2) LO2) := FO2_62.out.below hb63
                    have FP2_63 : Hid (RdG w63 (.slice aP2 ss.length cP2) LP2) := FP2_62.out.below hb63
                    clear Kx_62 FA_62 FB_62 FS_62 FO2_62 FP2_62
                    clear FP2_63
                    clear HMP2 HLP2
                    clear HGO HGN
                    clear FA_63 FB_63 Kx_63
                    go_wp2
                    go_loopw [40, 41] (fun bv iv wr => ∃ k : Nat, k ≤ ss.length ∧ iv = .int .i64 k ∧ bv = .int .i64 (bstS (ordG F R) ss f r k) ∧ Below w.heap.size w wr ∧ Hid (RdI wr (.slice aS ss.length cS) ss) ∧ Hid (RdG wr (.slice aO2 ss.length cO2) LO2)) (fun _ iv _ => ss.length - (intOf iv).toNat)
                    case atStart => exact ⟨0, Nat.zero_le _, rfl, rfl, T63, FS_63, FO2_63⟩
                    case round =>
                      clear T63 FS_63 FO2_63
                      obtain ⟨k, hk, rfl, rfl, T70, FS_70, FO2_70⟩ := hrel
                      obtain ⟨w70, hw70⟩ : ∃ w70, w70 = wr := ⟨_, rfl⟩
                      subst hw70
                      by_cases hlt : k < ss.length
                      · obtain ⟨⟨⟨x0, x1⟩, px⟩, hx⟩ : ∃ x, LO2[k]? = some x := ⟨_, List.getElem?_eq_getElem (by have := HLO2.out; omega)⟩
                        obtain ⟨gg, oo, eg, cg⟩ := FO2_70.out.1.at k (gv ((x0, x1), px)) (by rw [List.getElem?_map, hx]; rfl)
                        subst eg
                        have egv : gv ((x0, x1), px) = .slice (some ⟨px, 0, none⟩) 2 2 := rfl
                        rw [egv] at cg
                        have hrow : w70.heap[px]? = some (.cells #[.int .i64 x0, .int .i64 x1] 2 (0, 0)) := FO2_70.out.2 _ (List.mem_of_getElem? hx)
                        have cg0 := hk_cell (i := 0) hrow rfl
                        have cg1 := hk_cell (i := 1) hrow rfl
                        have hog := ordG_at HMO2.out hx
                        clear egv hrow hx
                        obtain ⟨b, o, eS, cs⟩ := FS_70.out.at k hlt
                        subst eS
                        have hbk : bstS (ordG F R) ss f r (k + 1) = if x0 = f ∧ x1 = r then ss.getD k 0 else bstS (ordG F R) ss f r k := by
                          show (if ((ordG F R).getD k (0, 0)).1 = f ∧ ((ordG F R).getD k (0, 0)).2 = r then ss.getD k 0 else bstS (ordG F R) ss f r k) = _
                          rw [hog]
                        have HBK := Lib.hid hbk
                        clear hbk hog
                        generalize ss.getD k 0 = u at *
                        generalize hbq : bstS (ordG F R) ss f r k = bk at *
                        clear hbq
                        have hkl : (k : Int) < (ss.length : Int) := by omega
                        have hk0 : (0 : Int) ≤ (k : Int) := by omega
                        by_cases ea : x0 = f
                        · by_cases eb : x1 = r
                          · subst ea eb
                            have HB2 := Lib.hid (HBK.out.trans (if_pos ⟨rfl, rfl⟩))
                            clear HBK
                            go_wp2
                            go_roundw
                            case rel => exact ⟨k + 1, by omega, by go_num, by rw [HB2.out], T70, FS_70, FO2_70⟩
                            case measure => simp [intOf] <;> omega
                          · subst ea
                            have nb : (x1 == r) = false := by rw [beq_eq_false_iff_ne]; exact eb
                            have HB2 := Lib.hid (HBK.out.trans (if_neg (fun h => eb h.2)))
                            clear HBK
                            go_wp2
                            go_roundw
                            case rel => exact ⟨k + 1, by omega, by go_num, by rw [HB2.out], T70, FS_70, FO2_70⟩
                            case measure => simp [intOf] <;> omega
                        · have na : (x0 == f) = false := by rw [beq_eq_false_iff_ne]; exact ea
                          have HB2 := Lib.hid (HBK.out.trans (if_neg (fun h => ea h.1)))
                          clear HBK
                          go_wp2
                          go_roundw
                          case rel => exact ⟨k + 1, by omega, by go_num, by rw [HB2.out], T70, FS_70, FO2_70⟩
                          case measure => simp [intOf] <;> omega
                      · obtain rfl : k = ss.length := by omega
                        generalize bstS (ordG F R) ss f r ss.length = V at *
                        clear FO2_70
                        clear HMO2 HLO2
                        go_wp2
                        go_loopw [42] (fun iv wr => ∃ k : Nat, k ≤ ss.length ∧ iv = .int .i64 k ∧ Below w.heap.size w wr ∧ Hid (RdI wr (.slice aS ss.length cS) ss)) (fun iv _ => ss.length - (intOf iv).toNat)
                        case atStart => exact ⟨0, Nat.zero_le _, rfl, T70, FS_70⟩
                        case round =>
                          clear T70 FS_70
                          obtain ⟨k, hk, rfl, T80, FS_80⟩ := hrel
                          obtain ⟨w80, hw80⟩ : ∃ w80, w80 = wr := ⟨_, rfl⟩
                          subst hw80
                          by_cases hlt : k < ss.length
                          · obtain ⟨b, o, eS, cs⟩ := FS_80.out.at k hlt
                            subst eS
                            have hv := HVM.out k hlt
                            generalize ss.getD k 0 = u at *
                            have hd : decide (V < u) = false := by simpa using hv
                            have hkl : (k : Int) < (ss.length : Int) := by omega
                            have hk0 : (0 : Int) ≤ (k : Int) := by omega
                            go_wp2
                            go_roundw
                            case rel => exact ⟨k + 1, by omega, by go_num, T80, FS_80⟩
                            case measure => simp [intOf] <;> omega
                          · obtain rfl : k = ss.length := by omega
                            have hv0 := HV0.out
                            have hd : decide (0 ≤ V) = true := by simpa using hv0
                            go_wp2
                            go_ret
                            exact ⟨rfl, T80⟩
                  · clear HLL
                    have hbq : (bad == 0) = false := by rw [beq_eq_false_iff_ne]; exact hbad
                    go_wp2
                    go_ret
                    exact ⟨rfl, T60⟩
            · have hoq : (one == 0) = false := by rw [beq_eq_false_iff_ne]; exact hone
              clear HML
              have hbad : ¬ bad = 0 := fun h => hone (HLL.out h).1
              clear HLL
              have hbq : (bad == 0) = false := by rw [beq_eq_false_iff_ne]; exact hbad
              go_wp2
              go_ret
              exact ⟨rfl, T60⟩
    · clear HKL
      have hfq : (five == 0) = false := by rw [beq_eq_false_iff_ne]; exact hfive
      clear FC_13 FD_13 Ky_13
      go_wp2
      go_loopw [33] (fun iv wr => ∃ k : Nat, k ≤ ss.length ∧ iv = .int .i64 k ∧ Below w.heap.size w wr ∧ Hid (RdI wr (.slice aF F.length cF) F) ∧ Hid (RdI wr (.slice aR R.length cR) R) ∧ Hid (RdI wr (.slice aS ss.length cS) ss) ∧ Hid (wr.heap[w1.heap.size]? = some (.cells #[(.slice aF F.length cF), (.slice aR R.length cR), .int .i64 rd] 28 (0, 0)))) (fun iv _ => ss.length - (intOf iv).toNat)
      case atStart => exact ⟨0, Nat.zero_le _, rfl, T13, FA_13, FB_13, FS_13, Kx_13⟩
      case round =>
        clear T13 FA_13 FB_13 FS_13 Kx_13
        obtain ⟨k, hk, rfl, T60, FA_60, FB_60, FS_60, Kx_60⟩ := hrel
        obtain ⟨w60, hw60⟩ : ∃ w60, w60 = wr := ⟨_, rfl⟩
        subst hw60
        by_cases hone : one = 0
        · by_cases hlk : lk < 200
          · by_cases hlt : k < ss.length
            · obtain ⟨mo, hmo, hml, ⟨lk0, lk2⟩, hmk⟩ := HML.out hone hlk
              subst hone
              have HMO := Lib.hid hmo
              clear hmo
              obtain ⟨⟨u0, u1⟩, hmv⟩ := hmk k hlt
              clear hmk
              have hlw : IntKind.i64.wrap (lk + 2) = lk + 2 := IntWalk.i64_in _ (by omega)
              have hdl : decide (lk < 200) = true := by simpa using hlk
              have hkl : (k : Int) < (ss.length : Int) := by omega
              have hk0 : (0 : Int) ≤ (k : Int) := by omega
              have cx0 : w60.cell? ⟨w1.heap.size, 0, none⟩ = some ((.slice aF F.length cF)) := hk_cell (i := 0) Kx_60.out rfl
              have cx1 : w60.cell? ⟨w1.heap.size, 1, none⟩ = some ((.slice aR R.length cR)) := hk_cell (i := 1) Kx_60.out rfl
              have cx2 : w60.cell? ⟨w1.heap.size, 2, none⟩ = some (.int .i64 rd) := hk_cell (i := 2) Kx_60.out rfl
              go_wp2_with fail
              (with_reducible refine (SlacksOf_r _ _ F R rd st (lk + 2) _ FA_60.out FB_60.out hFn hRn _ _ HMO.out).mono ?_)
              rintro e w61 ⟨vM, rfl, hoM, hb61⟩
              clear cx0 cx1 cx2
              have T61 : Below w.heap.size w w61 := T60.trans (hb61.mono T60.size)
              have Kx_61 : Hid (w61.heap[w1.heap.size]? = some (.cells #[(.slice aF F.length cF), (.slice aR R.length cR), .int .i64 rd] 28 (0, 0))) := hk_below Kx_60.out hb61
              have FA_61 : Hid (RdI w61 (.slice aF F.length cF) F) := FA_60.out.below hb61
              have FB_61 : Hid (RdI w61 (.slice aR R.length cR) R) := FB_60.out.below hb61
              have FS_61 : Hid (RdI w61 (.slice aS ss.length cS) ss) := FS_60.out.below hb61
              clear Kx_60 FA_60 FB_60 FS_60
              obtain ⟨aM, cM, eM, hrM⟩ := hoM.rd.shape
              rw [hml] at eM
              subst eM
              clear hoM
              obtain ⟨b, o, eS, cs⟩ := FS_61.out.at k hlt
              subst eS
              obtain ⟨b', o', eM, cm⟩ := hrM.at k (by omega)
              subst eM
              clear hrM HMO
              generalize ss.getD k 0 = u at *
              generalize mo.getD k 0 = v at *
              have huw : IntKind.i64.wrap (u + 2000) = u + 2000 := IntWalk.i64_in _ (by omega)
              by_cases hu : 0 ≤ u
              · have hvu := hmv hu
                subst hvu
                clear hmv
                have hdu : decide (0 ≤ u) = true := by simpa using hu
                go_wp2
                go_quiet (fail)
                obtain ⟨w62, hw62⟩ : ∃ w62, w62 = w61.drewN nq := ⟨_, rfl⟩
                rw [← hw62]
                have hb62 : Below w61.heap.size w61 w62 := by rw [hw62]; exact blw_drewN (Below.refl _ _) _
                clear hw62
                have T62 : Below w.heap.size w w62 := T61.trans (hb62.mono T61.size)
                have Kx_62 : Hid (w62.heap[w1.heap.size]? = some (.cells #[(.slice aF F.length cF), (.slice aR R.length cR), .int .i64 rd] 28 (0, 0))) := hk_below Kx_61.out hb62
                have FA_62 : Hid (RdI w62 (.slice aF F.length cF) F) := FA_61.out.below hb62
                have FB_62 : Hid (RdI w62 (.slice aR R.length cR) R) := FB_61.out.below hb62
                have FS_62 : Hid (RdI w62 (.slice (some ⟨b, o, none⟩) ss.length cS) ss) := FS_61.out.below hb62
                clear Kx_61 FA_61 FB_61 FS_61
                clear cs cm
                go_wp2
                go_roundw
                case rel => exact ⟨k + 1, by omega, by go_num, T62, FA_62, FB_62, FS_62, Kx_62⟩
                case measure => simp [intOf] <;> omega
              · clear hmv
                have hdu : decide (0 ≤ u) = false := by simpa using hu
                go_wp2
                go_quiet (fail)
                obtain ⟨w62, hw62⟩ : ∃ w62, w62 = w61.drewN nq := ⟨_, rfl⟩
                rw [← hw62]
                have hb62 : Below w61.heap.size w61 w62 := by rw [hw62]; exact blw_drewN (Below.refl _ _) _
                clear hw62
                have T62 : Below w.heap.size w w62 := T61.trans (hb62.mono T61.size)
                have Kx_62 : Hid (w62.heap[w1.heap.size]? = some (.cells #[(.slice aF F.length cF), (.slice aR R.length cR), .int .i64 rd] 28 (0, 0))) := hk_below Kx_61.out hb62
                have FA_62 : Hid (RdI w62 (.slice aF F.length cF) F) := FA_61.out.below hb62
                have FB_62 : Hid (RdI w62 (.slice aR R.length cR) R) := FB_61.out.below hb62
                have FS_62 : Hid (RdI w62 (.slice (some ⟨b, o, none⟩) ss.length cS) ss) := FS_61.out.below hb62
                clear Kx_61 FA_61 FB_61 FS_61
                clear cs cm
                go_wp2
                go_roundw
                case rel => exact ⟨k + 1, by omega, by go_num, T62, FA_62, FB_62, FS_62, Kx_62⟩
                case measure => simp [intOf] <;> omega
            · obtain rfl : k = ss.length := by omega
              subst hone
              have hdl : decide (lk < 200) = true := by simpa using hlk
              clear HML
              as_aux_lemma =>
                by_cases hbad : bad = 0
                · obtain ⟨-, hgo, hg36, hgn, hV0, hVm⟩ := HLL.out hbad
                  clear HLL
                  subst hbad
                  have HGO := Lib.hid hgo
                  have HGN := Lib.hid hgn
                  have HV0 := Lib.hid hV0
                  have HVM := Lib.hid hVm
                  clear hgo hgn hV0 hVm hg36
                  have cx0 : w60.cell? ⟨w1.heap.size, 0, none⟩ = some ((.slice aF F.length cF)) := hk_cell (i := 0) Kx_60.out rfl
                  have cx1 : w60.cell? ⟨w1.heap.size, 1, none⟩ = some ((.slice aR R.length cR)) := hk_cell (i := 1) Kx_60.out rfl
                  have cx2 : w60.cell? ⟨w1.heap.size, 2, none⟩ = some (.int .i64 rd) := hk_cell (i := 2) Kx_60.out rfl
                  go_wp2_with fail
                  (with_reducible refine (GearOrder_r _ _ F R rd _ FA_60.out FB_60.out hFn hRn _ _ HGO.out).mono ?_)
                  rintro e w61 ⟨vO2, LO2, rfl, hoO2, hmO2, hb61⟩
                  clear cx0 cx1 cx2
                  have T61 : Below w.heap.size w w61 := T60.trans (hb61.mono T60.size)
                  have Kx_61 : Hid (w61.heap[w1.heap.size]? = some (.cells #[(.slice aF F.length cF), (.slice aR R.length cR), .int .i64 rd] 28 (0, 0))) := hk_below Kx_60.out hb61
                  have FA_61 : Hid (RdI w61 (.slice aF F.length cF) F) := FA_60.out.below hb61
                  have FB_61 : Hid (RdI w61 (.slice aR R.length cR) R) := FB_60.out.below hb61
                  have FS_61 : Hid (RdI w61 (.slice aS ss.length cS) ss) := FS_60.out.below hb61
                  clear Kx_60 FA_60 FB_60 FS_60
                  have hlO2 : LO2.length = ss.length := by have h1 := congrArg List.length hmO2; rw [List.length_map] at h1; rw [h1]; exact HGN.out
                  obtain ⟨aO2, cO2, eO2, -⟩ := hoO2.1.rd.shape
                  rw [List.length_map, hlO2] at eO2
                  subst eO2
                  have HMO2 := Lib.hid hmO2
                  have HLO2 := Lib.hid hlO2
                  clear hmO2 hlO2
                  have FO2_61 : Hid (RdG w61 (.slice aO2 ss.length cO2) LO2) := hoO2.rdG
                  clear hoO2
                  have cx0 : w61.cell? ⟨w1.heap.size, 0, none⟩ = some ((.slice aF F.length cF)) := hk_cell (i := 0) Kx_61.out rfl
                  have cx1 : w61.cell? ⟨w1.heap.size, 1, none⟩ = some ((.slice aR R.length cR)) := hk_cell (i := 1) Kx_61.out rfl
                  have cx2 : w61.cell? ⟨w1.heap.size, 2, none⟩ = some (.int .i64 rd) := hk_cell (i := 2) Kx_61.out rfl
                  go_wp2_with fail
                  (with_reducible refine (sGearOrder_r _ _ F R rd _ FA_61.out FB_61.out hFn hRn _ _ HGO.out).mono ?_)
                  rintro e w62 ⟨vP2, LP2, rfl, hoP2, hmP2, hb62⟩
                  clear cx0 cx1 cx2
                  have T62 : Below w.heap.size w w62 := T61.trans (hb62.mono T61.size)
                  have Kx_62 : Hid (w62.heap[w1.heap.size]? = some (.cells #[(.slice aF F.length cF), (.slice aR R.length cR), .int .i64 rd] 28 (0, 0))) := hk_below Kx_61.out hb62
                  have FA_62 : Hid (RdI w62 (.slice aF F.length cF) F) := FA_61.out.below hb62
                  have FB_62 : Hid (RdI w62 (.slice aR R.length cR) R) := FB_61.out.below hb62
                  have FS_62 : Hid (RdI w62 (.slice aS ss.length cS) ss) := FS_61.out.below hb62
                  have FO2_62 : Hid (RdG w62 (.slice aO2 ss.length cO2) LO2) := FO2_61.out.below hb62
                  clear Kx_61 FA_61 FB_61 FS_61 FO2_61
                  have hlP2 : LP2.length = ss.length := by have h1 := congrArg List.length hmP2; rw [List.length_map] at h1; rw [h1]; exact HGN.out
                  obtain ⟨aP2, cP2, eP2, -⟩ := hoP2.1.rd.shape
                  rw [List.length_map, hlP2] at eP2
                  subst eP2
                  have HMP2 := Lib.hid hmP2
                  have HLP2 := Lib.hid hlP2
                  clear hmP2 hlP2
                  have FP2_62 : Hid (RdG w62 (.slice aP2 ss.length cP2) LP2) := hoP2.rdG
                  clear hoP2
                  go_wp2_with fail
                  (with_reducible refine (likeRows_same _ _ LO2 LP2 _ FO2_62.out FP2_62.out (HMO2.out.trans HMP2.out.symm) (by have := HLO2.out; omega)).mono ?_)
                  rintro e w63 ⟨rfl, hb63⟩
                  have T63 : Below w.heap.size w w63 := T62.trans (hb63.mono T62.size)
                  have Kx_63 : Hid (w63.heap[w1.heap.size]? = some (.cells #[(.slice aF F.length cF), (.slice aR R.length cR), .int .i64 rd] 28 (0, 0))) := hk_below Kx_62.out hb63
                  have FA_63 : Hid (RdI w63 (.slice aF F.length cF) F) := FA_62.out.below hb63
                  have FB_63 : Hid (RdI w63 (.slice aR R.length cR) R) := FB_62.out.below hb63
                  have FS_63 : Hid (RdI w63 (.slice aS ss.length cS) ss) := FS_62.out.below hb63
                  have FO2_63 : Hid (RdG w63 (.slice aO2 ss.length cO2) LO2) := FO2_62.out.below hb63
                  have FP2_63 : Hid (RdG w63 (.slice aP2 ss.length cP2) LP2) := FP2_62.out.below hb63
                  clear Kx_62 FA_62 FB_62 FS_62 FO2_62 FP2_62
                  clear FP2_63
                  clear HMP2 HLP2
                  clear HGO HGN
                  clear FA_63 FB_63 Kx_63
                  go_wp2
                  go_loopw [40, 41] (fun bv iv wr => ∃ k : Nat, k ≤ ss.length ∧ iv = .int .i64 k ∧ bv = .int .i64 (bstS (ordG F R) ss f r k) ∧ Below w.heap.size w wr ∧ Hid (RdI wr (.slice aS ss.length cS) ss) ∧ Hid (RdG wr (.slice aO2 ss.length cO2) LO2)) (fun _ iv _ => ss.length - (intOf iv).toNat)
                  case atStart => exact ⟨0, Nat.zero_le _, rfl, rfl, T63, FS_63, FO2_63⟩
                  case round =>
                    clear T63 FS_63 FO2_63
                    obtain ⟨k, hk, rfl, rfl, T70, FS_70, FO2_70⟩ := hrel
                    obtain ⟨w70, hw70⟩ : ∃ w70, w70 = wr := ⟨_, rfl⟩
                    subst hw70
                    by_cases hlt : k < ss.length
                    · obtain ⟨⟨⟨x0, x1⟩, px⟩, hx⟩ : ∃ x, LO2[k]? = some x := ⟨_, List.getElem?_eq_getElem (by have := HLO2.out; omega)⟩
                      obtain ⟨gg, oo, eg, cg⟩ := FO2_70.out.1.at k (gv ((x0, x1), px)) (by rw [List.getElem?_map, hx]; rfl)
                      subst eg
                      have egv : gv ((x0, x1), px) = .slice (some ⟨px, 0, none⟩) 2 2 := rfl
                      rw [egv] at cg
                      have hrow : w70.heap[px]? = some (.cells #[.int .i64 x0, .int .i64 x1] 2 (0, 0)) := FO2_70.out.2 _ (List.mem_of_getElem? hx)
                      have cg0 := hk_cell (i := 0) hrow rfl
                      have cg1 := hk_cell (i := 1) hrow rfl
                      have hog := ordG_at HMO2.out hx
                      clear egv hrow hx
                      obtain ⟨b, o, eS, cs⟩ := FS_70.out.at k hlt
                      subst eS
                      have hbk : bstS (ordG F R) ss f r (k + 1) = if x0 = f ∧ x1 = r then ss.getD k 0 else bstS (ordG F R) ss f r k := by
                        show (if ((ordG F R).getD k (0, 0)).1 = f ∧ ((ordG F R).getD k (0, 0)).2 = r then ss.getD k 0 else bstS (ordG F R) ss f r k) = _
                        rw [hog]
                      have HBK := Lib.hid hbk
                      clear hbk hog
                      generalize ss.getD k 0 = u at *
                      generalize hbq : bstS (ordG F R) ss f r k = bk at *
                      clear hbq
                      have hkl : (k : Int) < (ss.length : Int) := by omega
                      have hk0 : (0 : Int) ≤ (k : Int) := by omega
                      by_cases ea : x0 = f
                      · by_cases eb : x1 = r
                        · subst ea eb
                          have HB2 := Lib.hid (HBK.out.trans (if_pos ⟨rfl, rfl⟩))
                          clear HBK
                          go_wp2
                          go_roundw
                          case rel => exact ⟨k + 1, by omega, by go_num, by rw [HB2.out], T70, FS_70, FO2_70⟩
                          case measure => simp [intOf] <;> omega
                        · subst ea
                          have nb : (x1 == r) = false := by rw [beq_eq_false_iff_ne]; exact eb
                          have HB2 := Lib.hid (HBK.out.trans (if_neg (fun h => eb h.2)))
                          clear HBK
                          go_wp2
                          go_roundw
                          case rel => exact ⟨k + 1, by omega, by go_num, by rw [HB2.out], T70, FS_70, FO2_70⟩
                          case measure => simp [intOf] <;> omega
                      · have na : (x0 == f) = false := by rw [beq_eq_false_iff_ne]; exact ea
                        have HB2 := Lib.hid (HBK.out.trans (if_neg (fun h => ea h.1)))
                        clear HBK
                        go_wp2
                        go_roundw
                        case rel => exact ⟨k + 1, by omega, by go_num, by rw [HB2.out], T70, FS_70, FO2_70⟩
                        case measure => simp [intOf] <;> omega
                    · obtain rfl : k = ss.length := by omega
                      generalize bstS (ordG F R) ss f r ss.length = V at *
                      clear FO2_70
                      clear HMO2 HLO2
                      go_wp2
                      go_loopw [42] (fun iv wr => ∃ k : Nat, k ≤ ss.length ∧ iv = .int .i64 k ∧ Below w.heap.size w wr ∧ Hid (RdI wr (.slice aS ss.length cS) ss)) (fun iv _ => ss.length - (intOf iv).toNat)
                      case atStart => exact ⟨0, Nat.zero_le _, rfl, T70, FS_70⟩
                      case round =>
                        clear T70 FS_70
                        obtain ⟨k, hk, rfl, T80, FS_80⟩ := hrel
                        obtain ⟨w80, hw80⟩ : ∃ w80, w80 = wr := ⟨_, rfl⟩
                        subst hw80
                        by_cases hlt : k < ss.length
                        · obtain ⟨b, o, eS, cs⟩ := FS_80.out.at k hlt
                          subst eS
                          have hv := HVM.out k hlt
                          generalize ss.getD k 0 = u at *
                          have hd : decide (V < u) = false := by simpa using hv
                          have hkl : (k : Int) < (ss.length : Int) := by omega
                          have hk0 : (0 : Int) ≤ (k : Int) := by omega
                          go_wp2
                          go_roundw
                          case rel => exact ⟨k + 1, by omega, by go_num, T80, FS_80⟩
                          case measure => simp [intOf] <;> omega
                        · obtain rfl : k = ss.length := by omega
                          have hv0 := HV0.out
                          have hd : decide (0 ≤ V) = true := by simpa using hv0
                          go_wp2
                          go_ret
                          exact ⟨rfl, T80⟩
                · clear HLL
                  have hbq : (bad == 0) = false := by rw [beq_eq_false_iff_ne]; exact hbad
                  go_wp2
                  go_ret
                  exact ⟨rfl, T60⟩
          · subst hone
            have hdl : decide (lk < 200) = false := by simpa using hlk
            clear HML
            as_aux_lemma =>
              by_cases hbad : bad = 0
              · obtain ⟨-, hgo, hg36, hgn, hV0, hVm⟩ := HLL.out hbad
                clear HLL
                subst hbad
                have HGO := Lib.hid hgo
                have HGN := Lib.hid hgn
                have HV0 := Lib.hid hV0
                have HVM := Lib.hid hVm
                clear hgo hgn hV0 hVm hg36
                have cx0 : w60.cell? ⟨w1.heap.size, 0, none⟩ = some ((.slice aF F.length cF)) := hk_cell (i := 0) Kx_60.out rfl
                have cx1 : w60.cell? ⟨w1.heap.size, 1, none⟩ = some ((.slice aR R.length cR)) := hk_cell (i := 1) Kx_60.out rfl
                have cx2 : w60.cell? ⟨w1.heap.size, 2, none⟩ = some (.int .i64 rd) := hk_cell (i := 2) Kx_60.out rfl
                go_wp2_with fail
                (with_reducible refine (GearOrder_r _ _ F R rd _ FA_60.out FB_60.out hFn hRn _ _ HGO.out).mono ?_)
                rintro e w61 ⟨vO2, LO2, rfl, hoO2, hmO2, hb61⟩
                clear cx0 cx1 cx2
                have T61 : Below w.heap.size w w61 := T60.trans (hb61.mono T60.size)
                have Kx_61 : Hid (w61.heap[w1.heap.size]? = some (.cells #[(.slice aF F.length cF), (.slice aR R.length cR), .int .i64 rd] 28 (0, 0))) := hk_below Kx_60.out hb61
                have FA_61 : Hid (RdI w61 (.slice aF F.length cF) F) := FA_60.out.below hb61
                have FB_61 : Hid (RdI w61 (.slice aR R.length cR) R) := FB_60.out.below hb61
                have FS_61 : Hid (RdI w61 (.slice aS ss.length cS) ss) := FS_60.out.below hb61
                clear Kx_60 FA_60 FB_60 FS_60
                have hlO2 : LO2.length = ss.length := by have h1 := congrArg List.length hmO2; rw [List.length_map] at h1; rw [h1]; exact HGN.out
                obtain ⟨aO2, cO2, eO2, -⟩ := hoO2.1.rd.shape
                rw [List.length_map, hlO2] at eO2
                subst eO2
                have HMO2 := Lib.hid hmO2
                have HLO2 := Lib.hid hlO2
                clear hmO2 hlO2
                have FO2_61 : Hid (RdG w61 (.slice aO2 ss.length cO2) LO2) := hoO2.rdG
                clear hoO2
                have cx0 : w61.cell? ⟨w1.heap.size, 0, none⟩ = some ((.slice aF F.length cF)) := hk_cell (i := 0) Kx_61.out rfl
                have cx1 : w61.cell? ⟨w1.heap.size, 1, none⟩ = some ((.slice aR R.length cR)) := hk_cell (i := 1) Kx_61.out rfl
                have cx2 : w61.cell? ⟨w1.heap.size, 2, none⟩ = some (.int .i64 rd) := hk_cell (i := 2) Kx_61.out rfl
                go_wp2_with fail
                (with_reducible refine (sGearOrder_r _ _ F R rd _ FA_61.out FB_61.out hFn hRn _ _ HGO.out).mono ?_)
                rintro e w62 ⟨vP2, LP2, rfl, hoP2, hmP2, hb62⟩
                clear cx0 cx1 cx2
                have T62 : Below w.heap.size w w62 := T61.trans (hb62.mono T61.size)
                have Kx_62 : Hid (w62.heap[w1.heap.size]? = some (.cells #[(.slice aF F.length cF), (.slice aR R.length cR), .int .i64 rd] 28 (0, 0))) := hk_below Kx_61.out hb62
                have FA_62 : Hid (RdI w62 (.slice aF F.length cF) F) := FA_61.out.below hb62
                have FB_62 : Hid (RdI w62 (.slice aR R.length cR) R) := FB_61.out.below hb62
                have FS_62 : Hid (RdI w62 (.slice aS ss.length cS) ss) := FS_61.out.below hb62
                have FO2_62 : Hid (RdG w62 (.slice aO2 ss.length cO2) LO2) := FO2_61.out.below hb62
                clear Kx_61 FA_61 FB_61 FS_61 FO2_61
                have hlP2 : LP2.length = ss.length := by have h1 := congrArg List.length hmP2; rw [List.length_map] at h1; rw [h1]; exact HGN.out
                obtain ⟨aP2, cP2, eP2, -⟩ := hoP2.1.rd.shape
                rw [List.length_map, hlP2] at eP2
                subst eP2
                have HMP2 := Lib.hid hmP2
                have HLP2 := Lib.hid hlP2
                clear hmP2 hlP2
                have FP2_62 : Hid (RdG w62 (.slice aP2 ss.length cP2) LP2) := hoP2.rdG
                clear hoP2
                go_wp2_with fail
                (with_reducible refine (likeRows_same _ _ LO2 LP2 _ FO2_62.out FP2_62.out (HMO2.out.trans HMP2.out.symm) (by have := HLO2.out; omega)).mono ?_)
                rintro e w63 ⟨rfl, hb63⟩
                have T63 : Below w.heap.size w w63 := T62.trans (hb63.mono T62.size)
                have Kx_63 : Hid (w63.heap[w1.heap.size]? = some (.cells #[(.slice aF F.length cF), (.slice aR R.length cR), .int .i64 rd] 28 (0, 0))) := hk_below Kx_62.out hb63
                have FA_63 : Hid (RdI w63 (.slice aF F.length cF) F) := FA_62.out.below hb63
                have FB_63 : Hid (RdI w63 (.slice aR R.length cR) R) := FB_62.out.below hb63
                have FS_63 : Hid (RdI w63 (.slice aS ss.length cS) ss) := FS_62.out.below hb63
                have FO2_63 : Hid (RdG w63 (.slice aO2 ss.length cO2) LO2) := FO2_62.out.below hb63
                have FP2_63 : Hid (RdG w63 (.slice aP2 ss.length cP2) LP2) := FP2_62.out.below hb63
                clear Kx_62 FA_62 FB_62 FS_62 FO2_62 FP2_62
                clear FP2_63
                clear HMP2 HLP2
                clear HGO HGN
                clear FA_63 FB_63 Kx_63
                go_wp2
                go_loopw [40, 41] (fun bv iv wr => ∃ k : Nat, k ≤ ss.length ∧ iv = .int .i64 k ∧ bv = .int .i64 (bstS (ordG F R) ss f r k) ∧ Below w.heap.size w wr ∧ Hid (RdI wr (.slice aS ss.length cS) ss) ∧ Hid (RdG wr (.slice aO2 ss.length cO2) LO2)) (fun _ iv _ => ss.length - (intOf iv).toNat)
                case atStart => exact ⟨0, Nat.zero_le _, rfl, rfl, T63, FS_63, FO2_63⟩
                case round =>
                  clear T63 FS_63 FO2_63
                  obtain ⟨k, hk, rfl, rfl, T70, FS_70, FO2_70⟩ := hrel
                  obtain ⟨w70, hw70⟩ : ∃ w70, w70 = wr := ⟨_, rfl⟩
                  subst hw70
                  by_cases hlt : k < ss.length
                  · obtain ⟨⟨⟨x0, x1⟩, px⟩, hx⟩ : ∃ x, LO2[k]? = some x := ⟨_, List.getElem?_eq_getElem (by have := HLO2.out; omega)⟩
                    obtain ⟨gg, oo, eg, cg⟩ := FO2_70.out.1.at k (gv ((x0, x1), px)) (by rw [List.getElem?_map, hx]; rfl)
                    subst eg
                    have egv : gv ((x0, x1), px) = .slice (some ⟨px, 0, none⟩) 2 2 := rfl
                    rw [egv] at cg
                    have hrow : w70.heap[px]? = some (.cells #[.int .i64 x0, .int .i64 x1] 2 (0, 0)) := FO2_70.out.2 _ (List.mem_of_getElem? hx)
                    have cg0 := hk_cell (i := 0) hrow rfl
                    have cg1 := hk_cell (i := 1) hrow rfl
                    have hog := ordG_at HMO2.out hx
                    clear egv hrow hx
                    obtain ⟨b, o, eS, cs⟩ := FS_70.out.at k hlt
                    subst eS
                    have hbk : bstS (ordG F R) ss f r (k + 1) = if x0 = f ∧ x1 = r then ss.getD k 0 else bstS (ordG F R) ss f r k := by
                      show (if ((ordG F R).getD k (0, 0)).1 = f ∧ ((ordG F R).getD k (0, 0)).2 = r then ss.getD k 0 else bstS (ordG F R) ss f r k) = _
                      rw [hog]
                    have HBK := Lib.hid hbk
                    clear hbk hog
                    generalize ss.getD k 0 = u at *
                    generalize hbq : bstS (ordG F R) ss f r k = bk at *
                    clear hbq
                    have hkl : (k : Int) < (ss.length : Int) := by omega
                    have hk0 : (0 : Int) ≤ (k : Int) := by omega
                    by_cases ea : x0 = f
                    · by_cases eb : x1 = r
                      · subst ea eb
                        have HB2 := Lib.hid (HBK.out.trans (if_pos ⟨rfl, rfl⟩))
                        clear HBK
                        go_wp2
                        go_roundw
                        case rel => exact ⟨k + 1, by omega, by go_num, by rw [HB2.out], T70, FS_70, FO2_70⟩
                        case measure => simp [intOf] <;> omega
                      · subst ea
                        have nb : (x1 == r) = false := by rw [beq_eq_false_iff_ne]; exact eb
                        have HB2 := Lib.hid (HBK.out.trans (if_neg (fun h => eb h.2)))
                        clear HBK
                        go_wp2
                        go_roundw
                        case rel => exact ⟨k + 1, by omega, by go_num, by rw [HB2.out], T70, FS_70, FO2_70⟩
                        case measure => simp [intOf] <;> omega
                    · have na : (x0 == f) = false := by rw [beq_eq_false_iff_ne]; exact ea
                      have HB2 := Lib.hid (HBK.out.trans (if_neg (fun h => ea h.1)))
                      clear HBK
                      go_wp2
                      go_roundw
                      case rel => exact ⟨k + 1, by omega, by go_num, by rw [HB2.out], T70, FS_70, FO2_70⟩
                      case measure => simp [intOf] <;> omega
                  · obtain rfl : k = ss.length := by omega
                    generalize bstS (ordG F R) ss f r ss.length = V at *
                    clear FO2_70
                    clear HMO2 HLO2
                    go_wp2
                    go_loopw [42] (fun iv wr => ∃ k : Nat, k ≤ ss.length ∧ iv = .int .i64 k ∧ Below w.heap.size w wr ∧ Hid (RdI wr (.slice aS ss.length cS) ss)) (fun iv _ => ss.length - (intOf iv).toNat)
                    case atStart => exact ⟨0, Nat.zero_le _, rfl, T70, FS_70⟩
                    case round =>
                      clear T70 FS_70
                      obtain ⟨k, hk, rfl, T80, FS_80⟩ := hrel
                      obtain ⟨w80, hw80⟩ : ∃ w80, w80 = wr := ⟨_, rfl⟩
                      subst hw80
                      by_cases hlt : k < ss.length
                      · obtain ⟨b, o, eS, cs⟩ := FS_80.out.at k hlt
                        subst eS
                        have hv := HVM.out k hlt
                        generalize ss.getD k 0 = u at *
                        have hd : decide (V < u) = false := by simpa using hv
                        have hkl : (k : Int) < (ss.length : Int) := by omega
                        have hk0 : (0 : Int) ≤ (k : Int) := by omega
                        go_wp2
                        go_roundw
                        case rel => exact ⟨k + 1, by omega, by go_num, T80, FS_80⟩
                        case measure => simp [intOf] <;> omega
                      · obtain rfl : k = ss.length := by omega
                        have hv0 := HV0.out
                        have hd : decide (0 ≤ V) = true := by simpa using hv0
                        go_wp2
                        go_ret
                        exact ⟨rfl, T80⟩
              · clear HLL
                have hbq : (bad == 0) = false := by rw [beq_eq_false_iff_ne]; exact hbad
                go_wp2
                go_ret
                exact ⟨rfl, T60⟩
        · have hoq : (one == 0) = false := by rw [beq_eq_false_iff_ne]; exact hone
          clear HML
          have hbad : ¬ bad = 0 := fun h => hone (HLL.out h).1
          clear HLL
          have hbq : (bad == 0) = false := by rw [beq_eq_false_iff_ne]; exact hbad
          go_wp2
          go_ret
          exact ⟨rfl, T60⟩
  · have HN : Hid (decide (4096 < n) = true) := by show _ = _; simp; omega
    go_enter Try.func13, Try.ntmps13
    go_wp2_with fail
    (with_reducible refine (big_any _ _ _ _).mono ?_)
    rintro e _ ⟨rfl, rfl⟩
    rw [HN.out]
    go_wp2
    go_ret
    exact ⟨rfl, Below.refl _ _⟩
end Go.Proofs.Ytfdnhamkkcmnfaa
