/- The walk of the law on usable gears. -/
import Derived.Test.YtfdnhamkkcmnfaaUsbA
import Derived.Test.YtfdnhamkkcmnfaaTrnD
import Derived.Test.YtfdnhamkkcmnfaaRchI
import Derived.Test.YtfdnhamkkcmnfaaRchS
import Derived.Test.YtfdnhamkkcmnfaaGeaB
import Derived.Test.YtfdnhamkkcmnfaaOpenB
set_option linter.unusedSimpArgs false
set_option linter.unusedVariables false
namespace Go.Proofs.Ytfdnhamkkcmnfaa
open Go.RowKit

theorem ReachableGears_r (vF vR : Value) (F R : List Int) (rd limit f r : Int) (w : World) (hF : RdI w vF F) (hR : RdI w vR R) (hn : F.length ≤ 1048576) (hm : R.length ≤ 1048576) (x : Int) (c : Int) (h : (x, c) = rgR F R rd limit f r) : Calls Try.prog 38 #[.agg #[vF, vR, .int .i64 rd], .int .i64 limit, .int .i64 f, .int .i64 r] w fun e w' => e = .returned (.tuple #[.int .i64 x, .int .i64 c]) ∧ Below w.heap.size w w' :=
  (ReachableGears_any vF vR F R rd limit f r w hF hR hn hm).mono fun e w' q => by rw [q.1, ← h]; exact ⟨rfl, q.2⟩
theorem sReachableGears_r (vF vR : Value) (F R : List Int) (rd limit f r : Int) (w : World) (hF : RdI w vF F) (hR : RdI w vR R) (hn : F.length ≤ 1048576) (hm : R.length ≤ 1048576) (x : Int) (c : Int) (h : (x, c) = rgR F R rd limit f r) : Calls Try.prog 37 #[.agg #[vF, vR, .int .i64 rd], .int .i64 limit, .int .i64 f, .int .i64 r] w fun e w' => e = .returned (.tuple #[.int .i64 x, .int .i64 c]) ∧ Below w.heap.size w w' :=
  (sReachableGears_any vF vR F R rd limit f r w hF hR hn hm).mono fun e w' q => by rw [q.1, ← h]; exact ⟨rfl, q.2⟩
theorem RingShifts_r (vF vR : Value) (F R : List Int) (rd limit : Int) (w : World) (hF : RdI w vF F) (hR : RdI w vR R) (hn : F.length ≤ 1048576) (hm : R.length ≤ 1048576) (x : Int) (c : Int) (h : (x, c) = shfR F R rd limit) : Calls Try.prog 28 #[.agg #[vF, vR, .int .i64 rd], .int .i64 limit] w fun e w' => e = .returned (.tuple #[.int .i64 x, .int .i64 c]) ∧ Below w.heap.size w w' :=
  (RingShifts_any vF vR F R rd limit w hF hR hn hm).mono fun e w' q => by rw [q.1, ← h]; exact ⟨rfl, q.2⟩
theorem sRingShifts_r (vF vR : Value) (F R : List Int) (rd limit : Int) (w : World) (hF : RdI w vF F) (hR : RdI w vR R) (hn : F.length ≤ 1048576) (hm : R.length ≤ 1048576) (x : Int) (c : Int) (h : (x, c) = shfR F R rd limit) : Calls Try.prog 27 #[.agg #[vF, vR, .int .i64 rd], .int .i64 limit] w fun e w' => e = .returned (.tuple #[.int .i64 x, .int .i64 c]) ∧ Below w.heap.size w w' :=
  (sRingShifts_any vF vR F R rd limit w hF hR hn hm).mono fun e w' q => by rw [q.1, ← h]; exact ⟨rfl, q.2⟩
theorem IsCrossed_r (vF vR : Value) (F R : List Int) (rd limit f r : Int) (w : World) (hF : RdI w vF F) (hR : RdI w vR R) (hn : F.length ≤ 1048576) (hm : R.length ≤ 1048576) (x : Bool) (c : Int) (h : (x, c) = icR F R rd limit f r) : Calls Try.prog 22 #[.agg #[vF, vR, .int .i64 rd], .int .i64 limit, .int .i64 f, .int .i64 r] w fun e w' => e = .returned (.tuple #[.bool x, .int .i64 c]) ∧ Below w.heap.size w w' :=
  (IsCrossed_any vF vR F R rd limit f r w hF hR hn hm).mono fun e w' q => by rw [q.1, ← h]; exact ⟨rfl, q.2⟩
theorem sIsCrossed_r (vF vR : Value) (F R : List Int) (rd limit f r : Int) (w : World) (hF : RdI w vF F) (hR : RdI w vR R) (hn : F.length ≤ 1048576) (hm : R.length ≤ 1048576) (x : Bool) (c : Int) (h : (x, c) = icR F R rd limit f r) : Calls Try.prog 21 #[.agg #[vF, vR, .int .i64 rd], .int .i64 limit, .int .i64 f, .int .i64 r] w fun e w' => e = .returned (.tuple #[.bool x, .int .i64 c]) ∧ Below w.heap.size w w' :=
  (sIsCrossed_any vF vR F R rd limit f r w hF hR hn hm).mono fun e w' q => by rw [q.1, ← h]; exact ⟨rfl, q.2⟩
theorem UsableGears_g (vF vR : Value) (F R : List Int) (rd limit : Int) (w : World) (hF : RdI w vF F) (hR : RdI w vR R) (hn : F.length ≤ 1048576) (hm : R.length ≤ 1048576) (us : List Gear) (c : Int) (h : (us, c) = usR F R rd limit) : Calls Try.prog 40 #[.agg #[vF, vR, .int .i64 rd], .int .i64 limit] w fun e w' => ∃ v L, e = .returned (.tuple #[v, .int .i64 c]) ∧ OwG w' w.heap.size v L ∧ L.map Prod.fst = us ∧ Below w.heap.size w w' := by
  have q := UsableGears_any vF vR F R rd limit w hF hR hn hm
  rw [← h] at q
  exact q
theorem sUsableGears_g (vF vR : Value) (F R : List Int) (rd limit : Int) (w : World) (hF : RdI w vF F) (hR : RdI w vR R) (hn : F.length ≤ 1048576) (hm : R.length ≤ 1048576) (us : List Gear) (c : Int) (h : (us, c) = usR F R rd limit) : Calls Try.prog 39 #[.agg #[vF, vR, .int .i64 rd], .int .i64 limit] w fun e w' => ∃ v L, e = .returned (.tuple #[v, .int .i64 c]) ∧ OwG w' w.heap.size v L ∧ L.map Prod.fst = us ∧ Below w.heap.size w w' := by
  have q := sUsableGears_any vF vR F R rd limit w hF hR hn hm
  rw [← h] at q
  exact q
theorem hasRow_r (v : Value) (L : List Gb) (a b : Int) (w : World) (hr : RdG w v L) (hn : L.length ≤ 1048576) (x : Bool) (h : hasG (L.map Prod.fst) a b = x) : Calls Try.prog 54 #[v, .int .i64 a, .int .i64 b] w fun e w' => e = .returned (.bool x) ∧ Below w.heap.size w w' :=
  (hasRow_any v L a b w hr hn).mono fun e w' q => by rw [q.1, h]; exact ⟨rfl, q.2⟩
set_option maxRecDepth 100000 in
set_option maxHeartbeats 16000000 in
theorem FnUsable_walk (a : Option Addr) (n c : Nat) (w : World) (h : RdB w w.heap.size a n) :
    Calls Try.prog 14 #[.slice a n c] w fun e w' => e = .returned (.bool true) ∧ Below w.heap.size w w' := by
  by_cases hn : n ≤ 4096
  · have HN : Hid (decide (4096 < n) = false) := by show _ = _; simp; omega
    have HB0 := Lib.hid h
    have T0 := Below.refl w.heap.size w
    clear h
    go_enter Try.func14, Try.ntmps14
    go_wp2_with fail
    (with_reducible refine (big_any _ _ _ _).mono ?_)
    rintro e _ ⟨rfl, rfl⟩
    rw [HN.out]
    go_wp2_with fail
    (with_reducible refine (DrawReachableGears_any a n c _ HB0.out hn).mono ?_)
    rintro e w1 ⟨vF, vR, F, R, rd, l, f, r, rfl, hoF, hoR, hF1, hF3, hR10, hb1⟩
    have T1 : Below w.heap.size w w1 := T0.trans (hb1.mono T0.size)
    have HB1 := Lib.hid ((HB0.out.below hb1).keep hb1.size (fun _ _ => rfl))
    clear HB0
    obtain ⟨aF, cF, eF, -⟩ := hoF.rd.shape
    subst eF
    obtain ⟨aR, cR, eR, -⟩ := hoR.rd.shape
    subst eR
    have hFn : F.length ≤ 1048576 := by omega
    have hRn : R.length ≤ 1048576 := by omega
    have FA_1 : Hid (RdI w1 (.slice aF F.length cF) F) := hoF.rd
    have FB_1 : Hid (RdI w1 (.slice aR R.length cR) R) := hoR.rd
    clear hoF hoR HB1
    go_wp2_with fail
    generalize hw : w1.alloc (Obj.cells #[(.slice aF F.length cF), (.slice aR R.length cR), .int .i64 rd] 28) = w2
    have hb2 : Below w1.heap.size w1 w2 := by
      rw [← hw]
      exact (Below.refl _ _).alloc (by simp) _
    have Kx_2 : Hid (w2.heap[w1.heap.size]? = some (.cells #[(.slice aF F.length cF), (.slice aR R.length cR), .int .i64 rd] 28 (0, 0))) := by
      show _ = _
      rw [← hw]
      exact (heap_alloc_new _ _)
    clear hw
    have T2 : Below w.heap.size w w2 := T1.trans (hb2.mono T1.size)
    have FA_2 : Hid (RdI w2 (.slice aF F.length cF) F) := FA_1.out.below hb2
    have FB_2 : Hid (RdI w2 (.slice aR R.length cR) R) := FB_1.out.below hb2
    clear FA_1 FB_1
    obtain ⟨⟨n1, bad⟩, hN⟩ : ∃ rr__, rr__ = rgR F R rd l f r := ⟨_, rfl⟩
    have HhN := Lib.hid hN
    have cx0 : w2.cell? ⟨w1.heap.size, 0, none⟩ = some ((.slice aF F.length cF)) := hk_cell (i := 0) Kx_2.out rfl
    have cx1 : w2.cell? ⟨w1.heap.size, 1, none⟩ = some ((.slice aR R.length cR)) := hk_cell (i := 1) Kx_2.out rfl
    have cx2 : w2.cell? ⟨w1.heap.size, 2, none⟩ = some (.int .i64 rd) := hk_cell (i := 2) Kx_2.out rfl
    go_wp2_with fail
    (with_reducible refine (ReachableGears_r _ _ F R rd l f r _ FA_2.out FB_2.out hFn hRn _ _ HhN.out).mono ?_)
    rintro e w3 ⟨rfl, hb3⟩
    clear cx0 cx1 cx2
    have T3 : Below w.heap.size w w3 := T2.trans (hb3.mono T2.size)
    have Kx_3 : Hid (w3.heap[w1.heap.size]? = some (.cells #[(.slice aF F.length cF), (.slice aR R.length cR), .int .i64 rd] 28 (0, 0))) := hk_below Kx_2.out hb3
    have FA_3 : Hid (RdI w3 (.slice aF F.length cF) F) := FA_2.out.below hb3
    have FB_3 : Hid (RdI w3 (.slice aR R.length cR) R) := FB_2.out.below hb3
    clear Kx_2 FA_2 FB_2
    have cx0 : w3.cell? ⟨w1.heap.size, 0, none⟩ = some ((.slice aF F.length cF)) := hk_cell (i := 0) Kx_3.out rfl
    have cx1 : w3.cell? ⟨w1.heap.size, 1, none⟩ = some ((.slice aR R.length cR)) := hk_cell (i := 1) Kx_3.out rfl
    have cx2 : w3.cell? ⟨w1.heap.size, 2, none⟩ = some (.int .i64 rd) := hk_cell (i := 2) Kx_3.out rfl
    go_wp2_with fail
    (with_reducible refine (sReachableGears_r _ _ F R rd l f r _ FA_3.out FB_3.out hFn hRn _ _ HhN.out).mono ?_)
    rintro e w4 ⟨rfl, hb4⟩
    clear cx0 cx1 cx2
    have T4 : Below w.heap.size w w4 := T3.trans (hb4.mono T3.size)
    have Kx_4 : Hid (w4.heap[w1.heap.size]? = some (.cells #[(.slice aF F.length cF), (.slice aR R.length cR), .int .i64 rd] 28 (0, 0))) := hk_below Kx_3.out hb4
    have FA_4 : Hid (RdI w4 (.slice aF F.length cF) F) := FA_3.out.below hb4
    have FB_4 : Hid (RdI w4 (.slice aR R.length cR) R) := FB_3.out.below hb4
    clear Kx_3 FA_3 FB_3
    obtain ⟨⟨us, one⟩, hU⟩ : ∃ rr__, rr__ = usR F R rd l := ⟨_, rfl⟩
    have HhU := Lib.hid hU
    have hul := usb_len hU
    have cx0 : w4.cell? ⟨w1.heap.size, 0, none⟩ = some ((.slice aF F.length cF)) := hk_cell (i := 0) Kx_4.out rfl
    have cx1 : w4.cell? ⟨w1.heap.size, 1, none⟩ = some ((.slice aR R.length cR)) := hk_cell (i := 1) Kx_4.out rfl
    have cx2 : w4.cell? ⟨w1.heap.size, 2, none⟩ = some (.int .i64 rd) := hk_cell (i := 2) Kx_4.out rfl
    go_wp2_with fail
    (with_reducible refine (UsableGears_g _ _ F R rd l _ FA_4.out FB_4.out hFn hRn _ _ HhU.out).mono ?_)
    rintro e w5 ⟨vU, LU, rfl, hoU, hmU, hb5⟩
    clear cx0 cx1 cx2
    have T5 : Below w.heap.size w w5 := T4.trans (hb5.mono T4.size)
    have Kx_5 : Hid (w5.heap[w1.heap.size]? = some (.cells #[(.slice aF F.length cF), (.slice aR R.length cR), .int .i64 rd] 28 (0, 0))) := hk_below Kx_4.out hb5
    have FA_5 : Hid (RdI w5 (.slice aF F.length cF) F) := FA_4.out.below hb5
    have FB_5 : Hid (RdI w5 (.slice aR R.length cR) R) := FB_4.out.below hb5
    clear Kx_4 FA_4 FB_4
    obtain ⟨aU, cU, eU, -⟩ := hoU.1.rd.shape
    rw [List.length_map] at eU
    subst eU
    have HMU := Lib.hid hmU
    have hlU : LU.length ≤ 1048576 := by
      have : LU.length = us.length := by rw [← hmU, List.length_map]
      omega
    clear hmU
    have FU_5 : Hid (RdG w5 (.slice aU LU.length cU) LU) := hoU.rdG
    clear hoU
    have cx0 : w5.cell? ⟨w1.heap.size, 0, none⟩ = some ((.slice aF F.length cF)) := hk_cell (i := 0) Kx_5.out rfl
    have cx1 : w5.cell? ⟨w1.heap.size, 1, none⟩ = some ((.slice aR R.length cR)) := hk_cell (i := 1) Kx_5.out rfl
    have cx2 : w5.cell? ⟨w1.heap.size, 2, none⟩ = some (.int .i64 rd) := hk_cell (i := 2) Kx_5.out rfl
    go_wp2_with fail
    (with_reducible refine (sUsableGears_g _ _ F R rd l _ FA_5.out FB_5.out hFn hRn _ _ HhU.out).mono ?_)
    rintro e w6 ⟨vV, LV, rfl, hoV, hmV, hb6⟩
    clear cx0 cx1 cx2
    have T6 : Below w.heap.size w w6 := T5.trans (hb6.mono T5.size)
    have Kx_6 : Hid (w6.heap[w1.heap.size]? = some (.cells #[(.slice aF F.length cF), (.slice aR R.length cR), .int .i64 rd] 28 (0, 0))) := hk_below Kx_5.out hb6
    have FA_6 : Hid (RdI w6 (.slice aF F.length cF) F) := FA_5.out.below hb6
    have FB_6 : Hid (RdI w6 (.slice aR R.length cR) R) := FB_5.out.below hb6
    have FU_6 : Hid (RdG w6 (.slice aU LU.length cU) LU) := FU_5.out.below hb6
    clear Kx_5 FA_5 FB_5 FU_5
    obtain ⟨aV, cV, eV, -⟩ := hoV.1.rd.shape
    rw [List.length_map] at eV
    subst eV
    have HMV := Lib.hid hmV
    have hlV : LV.length ≤ 1048576 := by
      have : LV.length = us.length := by rw [← hmV, List.length_map]
      omega
    clear hmV
    have FV_6 : Hid (RdG w6 (.slice aV LV.length cV) LV) := hoV.rdG
    clear hoV
    have HLE : Hid (LU.length = us.length) := by
      show _ = _
      have h1 := HMU.out
      rw [← h1, List.length_map]
    have hl36 : LU.length ≤ 36 := by have := HLE.out; omega
    clear hul
    obtain ⟨⟨s, three⟩, hS⟩ : ∃ rr__, rr__ = shfR F R rd l := ⟨_, rfl⟩
    have HhS := Lib.hid hS
    obtain ⟨e3, hs2⟩ := usb_shift hU hS
    subst e3
    rw [← HLE.out] at hs2
    have HSL := Lib.hid hs2
    clear hs2
    have cx0 : w6.cell? ⟨w1.heap.size, 0, none⟩ = some ((.slice aF F.length cF)) := hk_cell (i := 0) Kx_6.out rfl
    have cx1 : w6.cell? ⟨w1.heap.size, 1, none⟩ = some ((.slice aR R.length cR)) := hk_cell (i := 1) Kx_6.out rfl
    have cx2 : w6.cell? ⟨w1.heap.size, 2, none⟩ = some (.int .i64 rd) := hk_cell (i := 2) Kx_6.out rfl
    go_wp2_with fail
    (with_reducible refine (RingShifts_r _ _ F R rd l _ FA_6.out FB_6.out hFn hRn _ _ HhS.out).mono ?_)
    rintro e w7 ⟨rfl, hb7⟩
    clear cx0 cx1 cx2
    have T7 : Below w.heap.size w w7 := T6.trans (hb7.mono T6.size)
    have Kx_7 : Hid (w7.heap[w1.heap.size]? = some (.cells #[(.slice aF F.length cF), (.slice aR R.length cR), .int .i64 rd] 28 (0, 0))) := hk_below Kx_6.out hb7
    have FA_7 : Hid (RdI w7 (.slice aF F.length cF) F) := FA_6.out.below hb7
    have FB_7 : Hid (RdI w7 (.slice aR R.length cR) R) := FB_6.out.below hb7
    have FU_7 : Hid (RdG w7 (.slice aU LU.length cU) LU) := FU_6.out.below hb7
    have FV_7 : Hid (RdG w7 (.slice aV LV.length cV) LV) := FV_6.out.below hb7
    clear Kx_6 FA_6 FB_6 FU_6 FV_6
    have cx0 : w7.cell? ⟨w1.heap.size, 0, none⟩ = some ((.slice aF F.length cF)) := hk_cell (i := 0) Kx_7.out rfl
    have cx1 : w7.cell? ⟨w1.heap.size, 1, none⟩ = some ((.slice aR R.length cR)) := hk_cell (i := 1) Kx_7.out rfl
    have cx2 : w7.cell? ⟨w1.heap.size, 2, none⟩ = some (.int .i64 rd) := hk_cell (i := 2) Kx_7.out rfl
    go_wp2_with fail
    (with_reducible refine (sRingShifts_r _ _ F R rd l _ FA_7.out FB_7.out hFn hRn _ _ HhS.out).mono ?_)
    rintro e w8 ⟨rfl, hb8⟩
    clear cx0 cx1 cx2
    have T8 : Below w.heap.size w w8 := T7.trans (hb8.mono T7.size)
    have Kx_8 : Hid (w8.heap[w1.heap.size]? = some (.cells #[(.slice aF F.length cF), (.slice aR R.length cR), .int .i64 rd] 28 (0, 0))) := hk_below Kx_7.out hb8
    have FA_8 : Hid (RdI w8 (.slice aF F.length cF) F) := FA_7.out.below hb8
    have FB_8 : Hid (RdI w8 (.slice aR R.length cR) R) := FB_7.out.below hb8
    have FU_8 : Hid (RdG w8 (.slice aU LU.length cU) LU) := FU_7.out.below hb8
    have FV_8 : Hid (RdG w8 (.slice aV LV.length cV) LV) := FV_7.out.below hb8
    clear Kx_7 FA_7 FB_7 FU_7 FV_7
    obtain ⟨⟨cr, five⟩, hC⟩ : ∃ rr__, rr__ = icR F R rd l f r := ⟨_, rfl⟩
    have HhC := Lib.hid hC
    have cx0 : w8.cell? ⟨w1.heap.size, 0, none⟩ = some ((.slice aF F.length cF)) := hk_cell (i := 0) Kx_8.out rfl
    have cx1 : w8.cell? ⟨w1.heap.size, 1, none⟩ = some ((.slice aR R.length cR)) := hk_cell (i := 1) Kx_8.out rfl
    have cx2 : w8.cell? ⟨w1.heap.size, 2, none⟩ = some (.int .i64 rd) := hk_cell (i := 2) Kx_8.out rfl
    go_wp2_with fail
    (with_reducible refine (IsCrossed_r _ _ F R rd l f r _ FA_8.out FB_8.out hFn hRn _ _ HhC.out).mono ?_)
    rintro e w9 ⟨rfl, hb9⟩
    clear cx0 cx1 cx2
    have T9 : Below w.heap.size w w9 := T8.trans (hb9.mono T8.size)
    have Kx_9 : Hid (w9.heap[w1.heap.size]? = some (.cells #[(.slice aF F.length cF), (.slice aR R.length cR), .int .i64 rd] 28 (0, 0))) := hk_below Kx_8.out hb9
    have FA_9 : Hid (RdI w9 (.slice aF F.length cF) F) := FA_8.out.below hb9
    have FB_9 : Hid (RdI w9 (.slice aR R.length cR) R) := FB_8.out.below hb9
    have FU_9 : Hid (RdG w9 (.slice aU LU.length cU) LU) := FU_8.out.below hb9
    have FV_9 : Hid (RdG w9 (.slice aV LV.length cV) LV) := FV_8.out.below hb9
    clear Kx_8 FA_8 FB_8 FU_8 FV_8
    have cx0 : w9.cell? ⟨w1.heap.size, 0, none⟩ = some ((.slice aF F.length cF)) := hk_cell (i := 0) Kx_9.out rfl
    have cx1 : w9.cell? ⟨w1.heap.size, 1, none⟩ = some ((.slice aR R.length cR)) := hk_cell (i := 1) Kx_9.out rfl
    have cx2 : w9.cell? ⟨w1.heap.size, 2, none⟩ = some (.int .i64 rd) := hk_cell (i := 2) Kx_9.out rfl
    go_wp2_with fail
    (with_reducible refine (sIsCrossed_r _ _ F R rd l f r _ FA_9.out FB_9.out hFn hRn _ _ HhC.out).mono ?_)
    rintro e w10 ⟨rfl, hb10⟩
    clear cx0 cx1 cx2
    have T10 : Below w.heap.size w w10 := T9.trans (hb10.mono T9.size)
    have Kx_10 : Hid (w10.heap[w1.heap.size]? = some (.cells #[(.slice aF F.length cF), (.slice aR R.length cR), .int .i64 rd] 28 (0, 0))) := hk_below Kx_9.out hb10
    have FA_10 : Hid (RdI w10 (.slice aF F.length cF) F) := FA_9.out.below hb10
    have FB_10 : Hid (RdI w10 (.slice aR R.length cR) R) := FB_9.out.below hb10
    have FU_10 : Hid (RdG w10 (.slice aU LU.length cU) LU) := FU_9.out.below hb10
    have FV_10 : Hid (RdG w10 (.slice aV LV.length cV) LV) := FV_9.out.below hb10
    clear Kx_9 FA_9 FB_9 FU_9 FV_9
    have HCL := Lib.hid (fun h => usb_cross hU hC h)
    have HNL := Lib.hid (fun h => usb_reach hU hN h)
    clear hU hN hS hC HhU HhN HhS HhC
    go_wp2_with fail
    (with_reducible refine (likeRows_same _ _ LU LV _ FU_10.out FV_10.out (HMU.out.trans HMV.out.symm) hlU).mono ?_)
    rintro e w11 ⟨rfl, hb11⟩
    have T11 : Below w.heap.size w w11 := T10.trans (hb11.mono T10.size)
    have Kx_11 : Hid (w11.heap[w1.heap.size]? = some (.cells #[(.slice aF F.length cF), (.slice aR R.length cR), .int .i64 rd] 28 (0, 0))) := hk_below Kx_10.out hb11
    have FA_11 : Hid (RdI w11 (.slice aF F.length cF) F) := FA_10.out.below hb11
    have FB_11 : Hid (RdI w11 (.slice aR R.length cR) R) := FB_10.out.below hb11
    have FU_11 : Hid (RdG w11 (.slice aU LU.length cU) LU) := FU_10.out.below hb11
    have FV_11 : Hid (RdG w11 (.slice aV LV.length cV) LV) := FV_10.out.below hb11
    clear Kx_10 FA_10 FB_10 FU_10 FV_10
    clear FV_11 FA_11 FB_11 HMV
    by_cases h5 : five = 0
    · obtain ⟨nb, hnb⟩ : ∃ nb, nb = !cr := ⟨_, rfl⟩
      have hcn : (cr == nb) = false := by rw [hnb]; cases cr <;> rfl
      have HX : Hid (hasG (LU.map Prod.fst) f r = nb) := by show _ = _; rw [HMU.out, HCL.out h5, hnb]
      clear hnb HCL
      subst h5
      go_wp2_with fail
      (with_reducible refine (hasRow_r _ LU f r _ FU_11.out hlU _ HX.out).mono ?_)
      rintro e w12 ⟨rfl, hb12⟩
      have T12 : Below w.heap.size w w12 := T11.trans (hb12.mono T11.size)
      have Kx_12 : Hid (w12.heap[w1.heap.size]? = some (.cells #[(.slice aF F.length cF), (.slice aR R.length cR), .int .i64 rd] 28 (0, 0))) := hk_below Kx_11.out hb12
      have FU_12 : Hid (RdG w12 (.slice aU LU.length cU) LU) := FU_11.out.below hb12
      clear Kx_11 FU_11
      by_cases hone : three = 0
      · have hs3 := HSL.out hone
        clear HSL
        subst hone
        have hw2 : IntKind.i64.wrap (2 * (LU.length : Int)) = 2 * (LU.length : Int) := IntWalk.i64_in _ (by omega)
        have hd3 : decide (2 * (LU.length : Int) < s) = false := by simpa using hs3
        by_cases hbad : bad = 0
        · obtain ⟨q1, q2⟩ := HNL.out hbad
          subst hbad
          clear HNL
          rw [← HLE.out] at q2
          have hd1 : decide (1 ≤ n1) = true := by simpa using q1
          have hd2 : decide (n1 ≤ (LU.length : Int)) = true := by simpa using q2
          go_wp2
          go_ret
          exact ⟨rfl, T12⟩
        · clear HNL
          have hbq : (bad == 0) = false := by rw [beq_eq_false_iff_ne]; exact hbad
          go_wp2
          go_ret
          exact ⟨rfl, T12⟩
      · clear HSL
        have hoq : (three == 0) = false := by rw [beq_eq_false_iff_ne]; exact hone
        by_cases hbad : bad = 0
        · obtain ⟨q1, q2⟩ := HNL.out hbad
          subst hbad
          clear HNL
          rw [← HLE.out] at q2
          have hd1 : decide (1 ≤ n1) = true := by simpa using q1
          have hd2 : decide (n1 ≤ (LU.length : Int)) = true := by simpa using q2
          go_wp2
          go_ret
          exact ⟨rfl, T12⟩
        · clear HNL
          have hbq : (bad == 0) = false := by rw [beq_eq_false_iff_ne]; exact hbad
          go_wp2
          go_ret
          exact ⟨rfl, T12⟩
    · clear HCL
      have h5q : (five == 0) = false := by rw [beq_eq_false_iff_ne]; exact h5
      by_cases hone : three = 0
      · have hs3 := HSL.out hone
        clear HSL
        subst hone
        have hw2 : IntKind.i64.wrap (2 * (LU.length : Int)) = 2 * (LU.length : Int) := IntWalk.i64_in _ (by omega)
        have hd3 : decide (2 * (LU.length : Int) < s) = false := by simpa using hs3
        by_cases hbad : bad = 0
        · obtain ⟨q1, q2⟩ := HNL.out hbad
          subst hbad
          clear HNL
          rw [← HLE.out] at q2
          have hd1 : decide (1 ≤ n1) = true := by simpa using q1
          have hd2 : decide (n1 ≤ (LU.length : Int)) = true := by simpa using q2
          go_wp2
          go_ret
          exact ⟨rfl, T11⟩
        · clear HNL
          have hbq : (bad == 0) = false := by rw [beq_eq_false_iff_ne]; exact hbad
          go_wp2
          go_ret
          exact ⟨rfl, T11⟩
      · clear HSL
        have hoq : (three == 0) = false := by rw [beq_eq_false_iff_ne]; exact hone
        by_cases hbad : bad = 0
        · obtain ⟨q1, q2⟩ := HNL.out hbad
          subst hbad
          clear HNL
          rw [← HLE.out] at q2
          have hd1 : decide (1 ≤ n1) = true := by simpa using q1
          have hd2 : decide (n1 ≤ (LU.length : Int)) = true := by simpa using q2
          go_wp2
          go_ret
          exact ⟨rfl, T11⟩
        · clear HNL
          have hbq : (bad == 0) = false := by rw [beq_eq_false_iff_ne]; exact hbad
          go_wp2
          go_ret
          exact ⟨rfl, T11⟩
  · have HN : Hid (decide (4096 < n) = true) := by show _ = _; simp; omega
    go_enter Try.func14, Try.ntmps14
    go_wp2_with fail
    (with_reducible refine (big_any _ _ _ _).mono ?_)
    rintro e _ ⟨rfl, rfl⟩
    rw [HN.out]
    go_wp2
    go_ret
    exact ⟨rfl, Below.refl _ _⟩
end Go.Proofs.Ytfdnhamkkcmnfaa
