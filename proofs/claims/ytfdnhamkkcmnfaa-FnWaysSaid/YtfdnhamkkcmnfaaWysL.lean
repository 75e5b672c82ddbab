/- The walk of the law on ways. -/
import Derived.Test.YtfdnhamkkcmnfaaWysP
import Derived.Test.YtfdnhamkkcmnfaaUsbA
import Derived.Test.YtfdnhamkkcmnfaaTrnE
import Derived.Test.YtfdnhamkkcmnfaaShwI
import Derived.Test.YtfdnhamkkcmnfaaShwS
import Derived.Test.YtfdnhamkkcmnfaaGeaB
import Derived.Test.YtfdnhamkkcmnfaaGeaF
import Derived.Test.YtfdnhamkkcmnfaaOpenB
set_option linter.unusedSimpArgs false
set_option linter.unusedVariables false
namespace Go.Proofs.Ytfdnhamkkcmnfaa
open Go.RowKit

theorem ShiftGear_r (vF vR : Value) (F R : List Int) (rd l f r m : Int) (w : World) (hF : RdI w vF F) (hR : RdI w vR R) (hn : F.length ≤ 1048576) (hm : R.length ≤ 1048576) (x : Int) (y : Int) (c : Int) (h : (x, y, c) = sgR F R rd l f r m) : Calls Try.prog 26 #[.agg #[vF, vR, .int .i64 rd], .int .i64 l, .int .i64 f, .int .i64 r, .int .i64 m] w fun e w' => e = .returned (.tuple #[.int .i64 x, .int .i64 y, .int .i64 c]) ∧ Below w.heap.size w w' :=
  (ShiftGear_any vF vR F R rd l f r m w hF hR hn hm).mono fun e w' q => by rw [q.1, ← h]; exact ⟨rfl, q.2⟩
theorem sShiftGear_r (vF vR : Value) (F R : List Int) (rd l f r m : Int) (w : World) (hF : RdI w vF F) (hR : RdI w vR R) (hn : F.length ≤ 1048576) (hm : R.length ≤ 1048576) (x : Int) (y : Int) (c : Int) (h : (x, y, c) = sgR F R rd l f r m) : Calls Try.prog 25 #[.agg #[vF, vR, .int .i64 rd], .int .i64 l, .int .i64 f, .int .i64 r, .int .i64 m] w fun e w' => e = .returned (.tuple #[.int .i64 x, .int .i64 y, .int .i64 c]) ∧ Below w.heap.size w w' :=
  (sShiftGear_any vF vR F R rd l f r m w hF hR hn hm).mono fun e w' q => by rw [q.1, ← h]; exact ⟨rfl, q.2⟩
theorem IsCrossed_r (vF vR : Value) (F R : List Int) (rd limit f r : Int) (w : World) (hF : RdI w vF F) (hR : RdI w vR R) (hn : F.length ≤ 1048576) (hm : R.length ≤ 1048576) (x : Bool) (c : Int) (h : (x, c) = icR F R rd limit f r) : Calls Try.prog 22 #[.agg #[vF, vR, .int .i64 rd], .int .i64 limit, .int .i64 f, .int .i64 r] w fun e w' => e = .returned (.tuple #[.bool x, .int .i64 c]) ∧ Below w.heap.size w w' :=
  (IsCrossed_any vF vR F R rd limit f r w hF hR hn hm).mono fun e w' q => by rw [q.1, ← h]; exact ⟨rfl, q.2⟩
theorem sIsCrossed_r (vF vR : Value) (F R : List Int) (rd limit f r : Int) (w : World) (hF : RdI w vF F) (hR : RdI w vR R) (hn : F.length ≤ 1048576) (hm : R.length ≤ 1048576) (x : Bool) (c : Int) (h : (x, c) = icR F R rd limit f r) : Calls Try.prog 21 #[.agg #[vF, vR, .int .i64 rd], .int .i64 limit, .int .i64 f, .int .i64 r] w fun e w' => e = .returned (.tuple #[.bool x, .int .i64 c]) ∧ Below w.heap.size w w' :=
  (sIsCrossed_any vF vR F R rd limit f r w hF hR hn hm).mono fun e w' q => by rw [q.1, ← h]; exact ⟨rfl, q.2⟩
theorem ShortestWay_r (vF vR : Value) (F R : List Int) (rd l f r tf tr : Int) (w : World) (hF : RdI w vF F) (hR : RdI w vR R) (hn : F.length ≤ 1048576) (hm : R.length ≤ 1048576) (ws : List Int) (c : Int) (h : (ws, c) = swR F R rd l f r tf tr) : Calls Try.prog 45 #[.agg #[vF, vR, .int .i64 rd], .int .i64 l, .int .i64 f, .int .i64 r, .int .i64 tf, .int .i64 tr] w fun e w' => ∃ v, e = .returned (.tuple #[v, .int .i64 c]) ∧ OwI w' w.heap.size v ws ∧ Below w.heap.size w w' := by
  have q := ShortestWay_any vF vR F R rd l f r tf tr w hF hR hn hm
  rw [← h] at q
  exact q
theorem sShortestWay_r (vF vR : Value) (F R : List Int) (rd l f r tf tr : Int) (w : World) (hF : RdI w vF F) (hR : RdI w vR R) (hn : F.length ≤ 1048576) (hm : R.length ≤ 1048576) (ws : List Int) (c : Int) (h : (ws, c) = swR F R rd l f r tf tr) : Calls Try.prog 44 #[.agg #[vF, vR, .int .i64 rd], .int .i64 l, .int .i64 f, .int .i64 r, .int .i64 tf, .int .i64 tr] w fun e w' => ∃ v, e = .returned (.tuple #[v, .int .i64 c]) ∧ OwI w' w.heap.size v ws ∧ Below w.heap.size w w' := by
  have q := sShortestWay_any vF vR F R rd l f r tf tr w hF hR hn hm
  rw [← h] at q
  exact q
set_option maxRecDepth 100000 in
set_option maxHeartbeats 16000000 in
theorem FnWays_walk (a : Option Addr) (n c : Nat) (w : World) (h : RdB w w.heap.size a n) :
    Calls Try.prog 15 #[.slice a n c] w fun e w' => e = .returned (.bool true) ∧ Below w.heap.size w w' := by
  by_cases hn : n ≤ 4096
  · have HN : Hid (decide (4096 < n) = false) := by show _ = _; simp; omega
    have HB0 := Lib.hid h
    have T0 := Below.refl w.heap.size w
    clear h
    go_enter Try.func15, Try.ntmps15
    go_wp2_with fail
    (with_reducible refine (big_any _ _ _ _).mono ?_)
    rintro e _ ⟨rfl, rfl⟩
    rw [HN.out]
    go_wp2_with fail
    (with_reducible refine (DrawShortestWay_any a n c _ HB0.out hn).mono ?_)
    rintro e w1 ⟨vF, vR, F, R, rd, l, f, r, tf, tr, rfl, hoF, hoR, hF1, hF3, hR10, hb1⟩
    have T1 : Below w.heap.size w w1 := T0.trans (hb1.mono T0.size)
    have HB1 := Lib.hid ((HB0.out.below hb1).keep hb1.size (fun _ _ => rfl))
    clear HB0
    obtain ⟨aF, cF, eF, -⟩ := hoF.rd.shape
    subst eF
    obtain ⟨aR, cR, eR, -⟩ := hoR.rd.shape
    subst eR
    have hFn : F.length ≤ 1048576 := by omega
    have hRn : R.length ≤ 1048576 := by omega
    have FA_1 : Hid (RdI w1 (.slice aF F.length cF) F) := hoF.rd
    have FB_1 : Hid (RdI w1 (.slice aR R.length cR) R) := hoR.rd
    clear hoF hoR hF1 hF3 hR10
    go_wp2_with fail
    generalize hw : w1.alloc (Obj.cells #[(.slice aF F.length cF), (.slice aR R.length cR), .int .i64 rd] 28) = w2
    have hb2 : Below w1.heap.size w1 w2 := by
      rw [← hw]
      exact (Below.refl _ _).alloc (by simp) _
    have Kx_2 : Hid (w2.heap[w1.heap.size]? = some (.cells #[(.slice aF F.length cF), (.slice aR R.length cR), .int .i64 rd] 28 (0, 0))) := by
      show _ = _
      rw [← hw]
      exact (heap_alloc_new _ _)
    clear hw
    have T2 : Below w.heap.size w w2 := T1.trans (hb2.mono T1.size)
    have HB2 := Lib.hid ((HB1.out.below hb2).keep hb2.size (fun _ _ => rfl))
    have FA_2 : Hid (RdI w2 (.slice aF F.length cF) F) := FA_1.out.below hb2
    have FB_2 : Hid (RdI w2 (.slice aR R.length cR) R) := FB_1.out.below hb2
    clear HB1 FA_1 FB_1
    obtain ⟨⟨ws, bad⟩, hW⟩ : ∃ rr__, rr__ = swR F R rd l f r tf tr := ⟨_, rfl⟩
    have HhW := Lib.hid hW
    have hwl : ws.length ≤ 1048576 := by have h1 := swR_size F R rd l f r tf tr; rw [← hW] at h1; exact h1
    have cx0 : w2.cell? ⟨w1.heap.size, 0, none⟩ = some ((.slice aF F.length cF)) := hk_cell (i := 0) Kx_2.out rfl
    have cx1 : w2.cell? ⟨w1.heap.size, 1, none⟩ = some ((.slice aR R.length cR)) := hk_cell (i := 1) Kx_2.out rfl
    have cx2 : w2.cell? ⟨w1.heap.size, 2, none⟩ = some (.int .i64 rd) := hk_cell (i := 2) Kx_2.out rfl
    go_wp2_with fail
    (with_reducible refine (ShortestWay_r _ _ F R rd l f r tf tr _ FA_2.out FB_2.out hFn hRn _ _ HhW.out).mono ?_)
    rintro e w3 ⟨vW, rfl, hoW, hb3⟩
    clear cx0 cx1 cx2
    have T3 : Below w.heap.size w w3 := T2.trans (hb3.mono T2.size)
    have HB3 := Lib.hid ((HB2.out.below hb3).keep hb3.size (fun _ _ => rfl))
    have Kx_3 : Hid (w3.heap[w1.heap.size]? = some (.cells #[(.slice aF F.length cF), (.slice aR R.length cR), .int .i64 rd] 28 (0, 0))) := hk_below Kx_2.out hb3
    have FA_3 : Hid (RdI w3 (.slice aF F.length cF) F) := FA_2.out.below hb3
    have FB_3 : Hid (RdI w3 (.slice aR R.length cR) R) := FB_2.out.below hb3
    clear HB2 Kx_2 FA_2 FB_2
    obtain ⟨aW, cW, eW, hrW⟩ := hoW.rd.shape
    subst eW
    clear hoW
    have FW_3 : Hid (RdI w3 (.slice aW ws.length cW) ws) := hrW
    clear hrW
    have cx0 : w3.cell? ⟨w1.heap.size, 0, none⟩ = some ((.slice aF F.length cF)) := hk_cell (i := 0) Kx_3.out rfl
    have cx1 : w3.cell? ⟨w1.heap.size, 1, none⟩ = some ((.slice aR R.length cR)) := hk_cell (i := 1) Kx_3.out rfl
    have cx2 : w3.cell? ⟨w1.heap.size, 2, none⟩ = some (.int .i64 rd) := hk_cell (i := 2) Kx_3.out rfl
    go_wp2_with fail
    (with_reducible refine (sShortestWay_r _ _ F R rd l f r tf tr _ FA_3.out FB_3.out hFn hRn _ _ HhW.out).mono ?_)
    rintro e w4 ⟨vV, rfl, hoV, hb4⟩
    clear cx0 cx1 cx2
    have T4 : Below w.heap.size w w4 := T3.trans (hb4.mono T3.size)
    have HB4 := Lib.hid ((HB3.out.below hb4).keep hb4.size (fun _ _ => rfl))
    have Kx_4 : Hid (w4.heap[w1.heap.size]? = some (.cells #[(.slice aF F.length cF), (.slice aR R.length cR), .int .i64 rd] 28 (0, 0))) := hk_below Kx_3.out hb4
    have FA_4 : Hid (RdI w4 (.slice aF F.length cF) F) := FA_3.out.below hb4
    have FB_4 : Hid (RdI w4 (.slice aR R.length cR) R) := FB_3.out.below hb4
    have FW_4 : Hid (RdI w4 (.slice aW ws.length cW) ws) := FW_3.out.below hb4
    clear HB3 Kx_3 FA_3 FB_3 FW_3
    obtain ⟨aV, cV, eV, hrV⟩ := hoV.rd.shape
    subst eV
    clear hoV
    have FV_4 : Hid (RdI w4 (.slice aV ws.length cV) ws) := hrV
    clear hrV
    go_wp2_with fail
    (with_reducible refine (DrawShiftGear_any a n c _ HB4.out hn).mono ?_)
    rintro e w5 ⟨vG, vS, G, S, rd2, l2, a2, b2, mv, rfl, hoG, hoS, hG1, hG3, hS10, hb5⟩
    have T5 : Below w.heap.size w w5 := T4.trans (hb5.mono T4.size)
    have HB5 := Lib.hid ((HB4.out.below hb5).keep hb5.size (fun _ _ => rfl))
    have Kx_5 : Hid (w5.heap[w1.heap.size]? = some (.cells #[(.slice aF F.length cF), (.slice aR R.length cR), .int .i64 rd] 28 (0, 0))) := hk_below Kx_4.out hb5
    have FA_5 : Hid (RdI w5 (.slice aF F.length cF) F) := FA_4.out.below hb5
    have FB_5 : Hid (RdI w5 (.slice aR R.length cR) R) := FB_4.out.below hb5
    have FW_5 : Hid (RdI w5 (.slice aW ws.length cW) ws) := FW_4.out.below hb5
    have FV_5 : Hid (RdI w5 (.slice aV ws.length cV) ws) := FV_4.out.below hb5
    clear HB4 Kx_4 FA_4 FB_4 FW_4 FV_4
    obtain ⟨aG, cG, eG, -⟩ := hoG.rd.shape
    subst eG
    obtain ⟨aS, cS, eS, -⟩ := hoS.rd.shape
    subst eS
    have hGn : G.length ≤ 1048576 := by omega
    have hSn : S.length ≤ 1048576 := by omega
    have FG_5 : Hid (RdI w5 (.slice aG G.length cG) G) := hoG.rd
    have FS_5 : Hid (RdI w5 (.slice aS S.length cS) S) := hoS.rd
    clear hoG hoS hG1 hG3 hS10 HB5
    go_wp2_with fail
    generalize hw : w5.alloc (Obj.cells #[(.slice aG G.length cG), (.slice aS S.length cS), .int .i64 rd2] 28) = w6
    have hb6 : Below w5.heap.size w5 w6 := by
      rw [← hw]
      exact (Below.refl _ _).alloc (by simp) _
    have Ky_6 : Hid (w6.heap[w5.heap.size]? = some (.cells #[(.slice aG G.length cG), (.slice aS S.length cS), .int .i64 rd2] 28 (0, 0))) := by
      show _ = _
      rw [← hw]
      exact (heap_alloc_new _ _)
    clear hw
    have T6 : Below w.heap.size w w6 := T5.trans (hb6.mono T5.size)
    have Kx_6 : Hid (w6.heap[w1.heap.size]? = some (.cells #[(.slice aF F.length cF), (.slice aR R.length cR), .int .i64 rd] 28 (0, 0))) := hk_below Kx_5.out hb6
    have FA_6 : Hid (RdI w6 (.slice aF F.length cF) F) := FA_5.out.below hb6
    have FB_6 : Hid (RdI w6 (.slice aR R.length cR) R) := FB_5.out.below hb6
    have FW_6 : Hid (RdI w6 (.slice aW ws.length cW) ws) := FW_5.out.below hb6
    have FV_6 : Hid (RdI w6 (.slice aV ws.length cV) ws) := FV_5.out.below hb6
    have FG_6 : Hid (RdI w6 (.slice aG G.length cG) G) := FG_5.out.below hb6
    have FS_6 : Hid (RdI w6 (.slice aS S.length cS) S) := FS_5.out.below hb6
    clear Kx_5 FA_5 FB_5 FW_5 FV_5 FG_5 FS_5
    obtain ⟨⟨p, q, one⟩, hG⟩ : ∃ rr__, rr__ = sgR G S rd2 l2 a2 b2 mv := ⟨_, rfl⟩
    have HhG := Lib.hid hG
    have cy0 : w6.cell? ⟨w5.heap.size, 0, none⟩ = some ((.slice aG G.length cG)) := hk_cell (i := 0) Ky_6.out rfl
    have cy1 : w6.cell? ⟨w5.heap.size, 1, none⟩ = some ((.slice aS S.length cS)) := hk_cell (i := 1) Ky_6.out rfl
    have cy2 : w6.cell? ⟨w5.heap.size, 2, none⟩ = some (.int .i64 rd2) := hk_cell (i := 2) Ky_6.out rfl
    go_wp2_with fail
    (with_reducible refine (ShiftGear_r _ _ G S rd2 l2 a2 b2 mv _ FG_6.out FS_6.out hGn hSn _ _ _ HhG.out).mono ?_)
    rintro e w7 ⟨rfl, hb7⟩
    clear cy0 cy1 cy2
    have T7 : Below w.heap.size w w7 := T6.trans (hb7.mono T6.size)
    have Kx_7 : Hid (w7.heap[w1.heap.size]? = some (.cells #[(.slice aF F.length cF), (.slice aR R.length cR), .int .i64 rd] 28 (0, 0))) := hk_below Kx_6.out hb7
    have Ky_7 : Hid (w7.heap[w5.heap.size]? = some (.cells #[(.slice aG G.length cG), (.slice aS S.length cS), .int .i64 rd2] 28 (0, 0))) := hk_below Ky_6.out hb7
    have FA_7 : Hid (RdI w7 (.slice aF F.length cF) F) := FA_6.out.below hb7
    have FB_7 : Hid (RdI w7 (.slice aR R.length cR) R) := FB_6.out.below hb7
    have FW_7 : Hid (RdI w7 (.slice aW ws.length cW) ws) := FW_6.out.below hb7
    have FV_7 : Hid (RdI w7 (.slice aV ws.length cV) ws) := FV_6.out.below hb7
    have FG_7 : Hid (RdI w7 (.slice aG G.length cG) G) := FG_6.out.below hb7
    have FS_7 : Hid (RdI w7 (.slice aS S.length cS) S) := FS_6.out.below hb7
    clear Kx_6 Ky_6 FA_6 FB_6 FW_6 FV_6 FG_6 FS_6
    have cy0 : w7.cell? ⟨w5.heap.size, 0, none⟩ = some ((.slice aG G.length cG)) := hk_cell (i := 0) Ky_7.out rfl
    have cy1 : w7.cell? ⟨w5.heap.size, 1, none⟩ = some ((.slice aS S.length cS)) := hk_cell (i := 1) Ky_7.out rfl
    have cy2 : w7.cell? ⟨w5.heap.size, 2, none⟩ = some (.int .i64 rd2) := hk_cell (i := 2) Ky_7.out rfl
    go_wp2_with fail
    (with_reducible refine (sShiftGear_r _ _ G S rd2 l2 a2 b2 mv _ FG_7.out FS_7.out hGn hSn _ _ _ HhG.out).mono ?_)
    rintro e w8 ⟨rfl, hb8⟩
    clear cy0 cy1 cy2
    have T8 : Below w.heap.size w w8 := T7.trans (hb8.mono T7.size)
    have Kx_8 : Hid (w8.heap[w1.heap.size]? = some (.cells #[(.slice aF F.length cF), (.slice aR R.length cR), .int .i64 rd] 28 (0, 0))) := hk_below Kx_7.out hb8
    have Ky_8 : Hid (w8.heap[w5.heap.size]? = some (.cells #[(.slice aG G.length cG), (.slice aS S.length cS), .int .i64 rd2] 28 (0, 0))) := hk_below Ky_7.out hb8
    have FA_8 : Hid (RdI w8 (.slice aF F.length cF) F) := FA_7.out.below hb8
    have FB_8 : Hid (RdI w8 (.slice aR R.length cR) R) := FB_7.out.below hb8
    have FW_8 : Hid (RdI w8 (.slice aW ws.length cW) ws) := FW_7.out.below hb8
    have FV_8 : Hid (RdI w8 (.slice aV ws.length cV) ws) := FV_7.out.below hb8
    have FG_8 : Hid (RdI w8 (.slice aG G.length cG) G) := FG_7.out.below hb8
    have FS_8 : Hid (RdI w8 (.slice aS S.length cS) S) := FS_7.out.below hb8
    clear Kx_7 Ky_7 FA_7 FB_7 FW_7 FV_7 FG_7 FS_7
    have HSL := Lib.hid (fun h => shift_law hG h)
    have HWL := Lib.hid (fun h => way_law hW h)
    clear hG HhG hW HhW
    go_wp2_with fail
    (with_reducible refine (likeInts_same _ _ ws _ FW_8.out FV_8.out hwl).mono ?_)
    rintro e w9 ⟨rfl, hb9⟩
    have T9 : Below w.heap.size w w9 := T8.trans (hb9.mono T8.size)
    have Kx_9 : Hid (w9.heap[w1.heap.size]? = some (.cells #[(.slice aF F.length cF), (.slice aR R.length cR), .int .i64 rd] 28 (0, 0))) := hk_below Kx_8.out hb9
    have Ky_9 : Hid (w9.heap[w5.heap.size]? = some (.cells #[(.slice aG G.length cG), (.slice aS S.length cS), .int .i64 rd2] 28 (0, 0))) := hk_below Ky_8.out hb9
    have FA_9 : Hid (RdI w9 (.slice aF F.length cF) F) := FA_8.out.below hb9
    have FB_9 : Hid (RdI w9 (.slice aR R.length cR) R) := FB_8.out.below hb9
    have FW_9 : Hid (RdI w9 (.slice aW ws.length cW) ws) := FW_8.out.below hb9
    have FV_9 : Hid (RdI w9 (.slice aV ws.length cV) ws) := FV_8.out.below hb9
    have FG_9 : Hid (RdI w9 (.slice aG G.length cG) G) := FG_8.out.below hb9
    have FS_9 : Hid (RdI w9 (.slice aS S.length cS) S) := FS_8.out.below hb9
    clear Kx_8 Ky_8 FA_8 FB_8 FW_8 FV_8 FG_8 FS_8
    clear FV_9
    by_cases hone : one = 0
    · obtain ⟨hic, ⟨a0, a9, b0, b9⟩, hpq⟩ := HSL.out hone
      clear HSL
      subst hone
      have HIC := Lib.hid hic
      clear hic
      have hw1 : IntKind.i64.wrap (p - a2) = p - a2 := IntWalk.i64_in _ (by omega)
      have hw2 : IntKind.i64.wrap (a2 - p) = a2 - p := IntWalk.i64_in _ (by omega)
      have hw3 : IntKind.i64.wrap (q - b2) = q - b2 := IntWalk.i64_in _ (by omega)
      have hw4 : IntKind.i64.wrap (b2 - q) = b2 - q := IntWalk.i64_in _ (by omega)
      by_cases hk1 : p < a2
      · have hd1 : (p - a2 < a2 - p) := by omega
        have hd2 : ¬ (q - b2 < b2 - q) := by omega
        have hd3 : a2 - p + (q - b2) = 1 := by omega
        have hd4 : IntKind.i64.wrap (a2 - p + (q - b2)) = 1 := by rw [hd3]; rfl
        clear hpq a0 a9 b0 b9
        have cy0 : w9.cell? ⟨w5.heap.size, 0, none⟩ = some ((.slice aG G.length cG)) := hk_cell (i := 0) Ky_9.out rfl
        have cy1 : w9.cell? ⟨w5.heap.size, 1, none⟩ = some ((.slice aS S.length cS)) := hk_cell (i := 1) Ky_9.out rfl
        have cy2 : w9.cell? ⟨w5.heap.size, 2, none⟩ = some (.int .i64 rd2) := hk_cell (i := 2) Ky_9.out rfl
        go_wp2_with fail
        (with_reducible refine (IsCrossed_r _ _ G S rd2 l2 p q _ FG_9.out FS_9.out hGn hSn _ _ HIC.out).mono ?_)
        rintro e w10 ⟨rfl, hb10⟩
        clear cy0 cy1 cy2
        have T10 : Below w.heap.size w w10 := T9.trans (hb10.mono T9.size)
        have Kx_10 : Hid (w10.heap[w1.heap.size]? = some (.cells #[(.slice aF F.length cF), (.slice aR R.length cR), .int .i64 rd] 28 (0, 0))) := hk_below Kx_9.out hb10
        have Ky_10 : Hid (w10.heap[w5.heap.size]? = some (.cells #[(.slice aG G.length cG), (.slice aS S.length cS), .int .i64 rd2] 28 (0, 0))) := hk_below Ky_9.out hb10
        have FA_10 : Hid (RdI w10 (.slice aF F.length cF) F) := FA_9.out.below hb10
        have FB_10 : Hid (RdI w10 (.slice aR R.length cR) R) := FB_9.out.below hb10
        have FW_10 : Hid (RdI w10 (.slice aW ws.length cW) ws) := FW_9.out.below hb10
        have FG_10 : Hid (RdI w10 (.slice aG G.length cG) G) := FG_9.out.below hb10
        have FS_10 : Hid (RdI w10 (.slice aS S.length cS) S) := FS_9.out.below hb10
        clear Kx_9 Ky_9 FA_9 FB_9 FW_9 FG_9 FS_9
        by_cases hbad : bad = 0
        · clear FG_10 FS_10
          clear Ky_10
          obtain ⟨hend, hstep, back, hback, hbl⟩ := HWL.out hbad
          clear HWL
          subst hbad
          have HEND := Lib.hid hend
          have HSTEP := Lib.hid hstep
          have HBACK := Lib.hid hback
          have HBL := Lib.hid hbl
          have hbn : back.length ≤ 1048576 := by omega
          clear hend hstep hback hbl
          go_wp2
          go_loopw [26, 27, 28] (fun fv rv iv wr => ∃ k : Nat, k ≤ ws.length ∧ iv = .int .i64 k ∧ fv = .int .i64 (posW (f, r) (ws.take k)).1 ∧ rv = .int .i64 (posW (f, r) (ws.take k)).2 ∧ Below w.heap.size w wr ∧ Hid (RdI wr (.slice aF F.length cF) F) ∧ Hid (RdI wr (.slice aR R.length cR) R) ∧ Hid (RdI wr (.slice aW ws.length cW) ws) ∧ Hid (wr.heap[w1.heap.size]? = some (.cells #[(.slice aF F.length cF), (.slice aR R.length cR), .int .i64 rd] 28 (0, 0)))) (fun _ _ iv _ => ws.length - (intOf iv).toNat)
          case atStart => exact ⟨0, Nat.zero_le _, rfl, rfl, rfl, T10, FA_10, FB_10, FW_10, Kx_10⟩
          case round =>
            clear T10 FA_10 FB_10 FW_10 Kx_10
            obtain ⟨k, hk, rfl, rfl, rfl, T50, FA_50, FB_50, FW_50, Kx_50⟩ := hrel
            obtain ⟨w50, hw50⟩ : ∃ w50, w50 = wr := ⟨_, rfl⟩
            subst hw50
            by_cases hlt : k < ws.length
            · obtain ⟨b, o, eW, c0⟩ := FW_50.out.at k hlt
              subst eW
              have HG := Lib.hid (HSTEP.out k hlt)
              generalize hp1 : posW (f, r) (ws.take k) = g at *
              generalize hp2 : posW (f, r) (ws.take (k + 1)) = g' at *
              generalize ws.getD k 0 = m at *
              obtain ⟨g1, g2⟩ := g
              obtain ⟨g3, g4⟩ := g'
              have HP2 := Lib.hid hp2
              clear hp1 hp2
              simp only at HG
              have hkl : (k : Int) < (ws.length : Int) := by omega
              have hk0 : (0 : Int) ≤ (k : Int) := by omega
              have HA50 := FA_50
              have HB50 := FB_50
              have cx0 : w50.cell? ⟨w1.heap.size, 0, none⟩ = some ((.slice aF F.length cF)) := hk_cell (i := 0) Kx_50.out rfl
              have cx1 : w50.cell? ⟨w1.heap.size, 1, none⟩ = some ((.slice aR R.length cR)) := hk_cell (i := 1) Kx_50.out rfl
              have cx2 : w50.cell? ⟨w1.heap.size, 2, none⟩ = some (.int .i64 rd) := hk_cell (i := 2) Kx_50.out rfl
              have hlx := heap_lt Kx_50.out
              have KP : Hid (∀ W' : World, Below w50.heap.size w50 W' → (W'.cell? ⟨w1.heap.size, 0, none⟩ = some ((.slice aF F.length cF)) ∧ W'.cell? ⟨w1.heap.size, 1, none⟩ = some ((.slice aR R.length cR)) ∧ W'.cell? ⟨w1.heap.size, 2, none⟩ = some (.int .i64 rd) ∧ W'.cell? ⟨b, o + k, none⟩ = some (.int .i64 m))) := by
                show ∀ W' : World, _
                intro W' hb
                exact ⟨(hb.cell (p := ⟨w1.heap.size, 0, none⟩) hlx).trans cx0, (hb.cell (p := ⟨w1.heap.size, 1, none⟩) hlx).trans cx1, (hb.cell (p := ⟨w1.heap.size, 2, none⟩) hlx).trans cx2, (hb.cell (p := ⟨b, o + k, none⟩) (World.block_lt_of_cell? _ _ c0)).trans c0⟩
              go_wp2_with fail
              go_region_held3 (fun W' => W'.cell? ⟨w1.heap.size, 0, none⟩ = some ((.slice aF F.length cF)) ∧ W'.cell? ⟨w1.heap.size, 1, none⟩ = some ((.slice aR R.length cR)) ∧ W'.cell? ⟨w1.heap.size, 2, none⟩ = some (.int .i64 rd) ∧ W'.cell? ⟨b, o + k, none⟩ = some (.int .i64 m))
                (first | exact ⟨cx0, cx1, cx2, c0⟩ | exact KP.out _ hbq51)
                ((first
                  | (go_at_call 26
                     (with_reducible refine (ShiftGear_r _ _ F R rd l g1 g2 m _ (by first | exact HA50.out | exact HA50.out.drew) (by first | exact HB50.out | exact HB50.out.drew) hFn hRn _ _ _ HG.out).mono ?_)
                     rintro e w51 ⟨rfl, hbx51⟩
                     have hq51 : Below w50.heap.size w50 w51 := by first | exact hbx51 | exact blw_ofDrewX hbx51
                     have hbq51 := hq51
                     clear hbx51)
                  | fail))
              clear KP
              clear cx0 cx1 cx2
              have T51 : Below w.heap.size w w51 := T50.trans (hbq51.mono T50.size)
              have Kx_51 : Hid (w51.heap[w1.heap.size]? = some (.cells #[(.slice aF F.length cF), (.slice aR R.length cR), .int .i64 rd] 28 (0, 0))) := hk_below Kx_50.out hbq51
              have FA_51 : Hid (RdI w51 (.slice aF F.length cF) F) := FA_50.out.below hbq51
              have FB_51 : Hid (RdI w51 (.slice aR R.length cR) R) := FB_50.out.below hbq51
              have FW_51 : Hid (RdI w51 (.slice (some ⟨b, o, none⟩) ws.length cW) ws) := FW_50.out.below hbq51
              clear Kx_50 FA_50 FB_50 FW_50
              clear c0 HA50 HB50
              go_wp2
              go_roundw
              case rel => exact ⟨k + 1, by omega, by go_num, by rw [HP2.out], by rw [HP2.out], T51, FA_51, FB_51, FW_51, Kx_51⟩
              case measure => simp [intOf] <;> omega
            · obtain rfl : k = ws.length := by omega
              have HE : Hid (posW (f, r) (ws.take ws.length) = (tf, tr)) := by show _ = _; rw [List.take_length]; exact HEND.out
              rw [HE.out]
              clear HE HEND HSTEP
              have cx0 : w50.cell? ⟨w1.heap.size, 0, none⟩ = some ((.slice aF F.length cF)) := hk_cell (i := 0) Kx_50.out rfl
              have cx1 : w50.cell? ⟨w1.heap.size, 1, none⟩ = some ((.slice aR R.length cR)) := hk_cell (i := 1) Kx_50.out rfl
              have cx2 : w50.cell? ⟨w1.heap.size, 2, none⟩ = some (.int .i64 rd) := hk_cell (i := 2) Kx_50.out rfl
              go_wp2_with fail
              (with_reducible refine (ShortestWay_r _ _ F R rd l tf tr f r _ FA_50.out FB_50.out hFn hRn _ _ HBACK.out).mono ?_)
              rintro e w51 ⟨vX, rfl, hoX, hb51⟩
              clear cx0 cx1 cx2
              have T51 : Below w.heap.size w w51 := T50.trans (hb51.mono T50.size)
              have Kx_51 : Hid (w51.heap[w1.heap.size]? = some (.cells #[(.slice aF F.length cF), (.slice aR R.length cR), .int .i64 rd] 28 (0, 0))) := hk_below Kx_50.out hb51
              have FA_51 : Hid (RdI w51 (.slice aF F.length cF) F) := FA_50.out.below hb51
              have FB_51 : Hid (RdI w51 (.slice aR R.length cR) R) := FB_50.out.below hb51
              have FW_51 : Hid (RdI w51 (.slice aW ws.length cW) ws) := FW_50.out.below hb51
              clear Kx_50 FA_50 FB_50 FW_50
              obtain ⟨aX, cX, eX, hrX⟩ := hoX.rd.shape
              subst eX
              clear hoX hrX
              have hbe : back.length = ws.length := HBL.out
              rw [hbe]
              clear hbe
              go_wp2
              go_ret
              exact ⟨rfl, T51⟩
        · clear FG_10 FS_10
          clear Ky_10
          clear HWL
          have hbq : (bad == 0) = false := by rw [beq_eq_false_iff_ne]; exact hbad
          go_wp2
          go_ret
          exact ⟨rfl, T10⟩
      by_cases hk2 : q < b2
      · have hd1 : ¬ (p - a2 < a2 - p) := by omega
        have hd2 : (q - b2 < b2 - q) := by omega
        have hd3 : p - a2 + (b2 - q) = 1 := by omega
        have hd4 : IntKind.i64.wrap (p - a2 + (b2 - q)) = 1 := by rw [hd3]; rfl
        clear hpq a0 a9 b0 b9
        have cy0 : w9.cell? ⟨w5.heap.size, 0, none⟩ = some ((.slice aG G.length cG)) := hk_cell (i := 0) Ky_9.out rfl
        have cy1 : w9.cell? ⟨w5.heap.size, 1, none⟩ = some ((.slice aS S.length cS)) := hk_cell (i := 1) Ky_9.out rfl
        have cy2 : w9.cell? ⟨w5.heap.size, 2, none⟩ = some (.int .i64 rd2) := hk_cell (i := 2) Ky_9.out rfl
        go_wp2_with fail
        (with_reducible refine (IsCrossed_r _ _ G S rd2 l2 p q _ FG_9.out FS_9.out hGn hSn _ _ HIC.out).mono ?_)
        rintro e w10 ⟨rfl, hb10⟩
        clear cy0 cy1 cy2
        have T10 : Below w.heap.size w w10 := T9.trans (hb10.mono T9.size)
        have Kx_10 : Hid (w10.heap[w1.heap.size]? = some (.cells #[(.slice aF F.length cF), (.slice aR R.length cR), .int .i64 rd] 28 (0, 0))) := hk_below Kx_9.out hb10
        have Ky_10 : Hid (w10.heap[w5.heap.size]? = some (.cells #[(.slice aG G.length cG), (.slice aS S.length cS), .int .i64 rd2] 28 (0, 0))) := hk_below Ky_9.out hb10
        have FA_10 : Hid (RdI w10 (.slice aF F.length cF) F) := FA_9.out.below hb10
        have FB_10 : Hid (RdI w10 (.slice aR R.length cR) R) := FB_9.out.below hb10
        have FW_10 : Hid (RdI w10 (.slice aW ws.length cW) ws) := FW_9.out.below hb10
        have FG_10 : Hid (RdI w10 (.slice aG G.length cG) G) := FG_9.out.below hb10
        have FS_10 : Hid (RdI w10 (.slice aS S.length cS) S) := FS_9.out.below hb10
        clear Kx_9 Ky_9 FA_9 FB_9 FW_9 FG_9 FS_9
        by_cases hbad : bad = 0
        · clear FG_10 FS_10
          clear Ky_10
          obtain ⟨hend, hstep, back, hback, hbl⟩ := HWL.out hbad
          clear HWL
          subst hbad
          have HEND := Lib.hid hend
          have HSTEP := Lib.hid hstep
          have HBACK := Lib.hid hback
          have HBL := Lib.hid hbl
          have hbn : back.length ≤ 1048576 := by omega
          clear hend hstep hback hbl
          go_wp2
          go_loopw [26, 27, 28] (fun fv rv iv wr => ∃ k : Nat, k ≤ ws.length ∧ iv = .int .i64 k ∧ fv = .int .i64 (posW (f, r) (ws.take k)).1 ∧ rv = .int .i64 (posW (f, r) (ws.take k)).2 ∧ Below w.heap.size w wr ∧ Hid (RdI wr (.slice aF F.length cF) F) ∧ Hid (RdI wr (.slice aR R.length cR) R) ∧ Hid (RdI wr (.slice aW ws.length cW) ws) ∧ Hid (wr.heap[w1.heap.size]? = some (.cells #[(.slice aF F.length cF), (.slice aR R.length cR), .int .i64 rd] 28 (0, 0)))) (fun _ _ iv _ => ws.length - (intOf iv).toNat)
          case atStart => exact ⟨0, Nat.zero_le _, rfl, rfl, rfl, T10, FA_10, FB_10, FW_10, Kx_10⟩
          case round =>
            clear T10 FA_10 FB_10 FW_10 Kx_10
            obtain ⟨k, hk, rfl, rfl, rfl, T50, FA_50, FB_50, FW_50, Kx_50⟩ := hrel
            obtain ⟨w50, hw50⟩ : ∃ w50, w50 = wr := ⟨_, rfl⟩
            subst hw50
            by_cases hlt : k < ws.length
            · obtain ⟨b, o, eW, c0⟩ := FW_50.out.at k hlt
              subst eW
              have HG := Lib.hid (HSTEP.out k hlt)
              generalize hp1 : posW (f, r) (ws.take k) = g at *
              generalize hp2 : posW (f, r) (ws.take (k + 1)) = g' at *
              generalize ws.getD k 0 = m at *
              obtain ⟨g1, g2⟩ := g
              obtain ⟨g3, g4⟩ := g'
              have HP2 := Lib.hid hp2
              clear hp1 hp2
              simp only at HG
              have hkl : (k : Int) < (ws.length : Int) := by omega
              have hk0 : (0 : Int) ≤ (k : Int) := by omega
              have HA50 := FA_50
              have HB50 := FB_50
              have cx0 : w50.cell? ⟨w1.heap.size, 0, none⟩ = some ((.slice aF F.length cF)) := hk_cell (i := 0) Kx_50.out rfl
              have cx1 : w50.cell? ⟨w1.heap.size, 1, none⟩ = some ((.slice aR R.length cR)) := hk_cell (i := 1) Kx_50.out rfl
              have cx2 : w50.cell? ⟨w1.heap.size, 2, none⟩ = some (.int .i64 rd) := hk_cell (i := 2) Kx_50.out rfl
              have hlx := heap_lt Kx_50.out
              have KP : Hid (∀ W' : World, Below w50.heap.size w50 W' → (W'.cell? ⟨w1.heap.size, 0, none⟩ = some ((.slice aF F.length cF)) ∧ W'.cell? ⟨w1.heap.size, 1, none⟩ = some ((.slice aR R.length cR)) ∧ W'.cell? ⟨w1.heap.size, 2, none⟩ = some (.int .i64 rd) ∧ W'.cell? ⟨b, o + k, none⟩ = some (.int .i64 m))) := by
                show ∀ W' : World, _
                intro W' hb
                exact ⟨(hb.cell (p := ⟨w1.heap.size, 0, none⟩) hlx).trans cx0, (hb.cell (p := ⟨w1.heap.size, 1, none⟩) hlx).trans cx1, (hb.cell (p := ⟨w1.heap.size, 2, none⟩) hlx).trans cx2, (hb.cell (p := ⟨b, o + k, none⟩) (World.block_lt_of_cell? _ _ c0)).trans c0⟩
              go_wp2_with fail
              go_region_held3 (fun W' => W'.cell? ⟨w1.heap.size, 0, none⟩ = some ((.slice aF F.length cF)) ∧ W'.cell? ⟨w1.heap.size, 1, none⟩ = some ((.slice aR R.length cR)) ∧ W'.cell? ⟨w1.heap.size, 2, none⟩ = some (.int .i64 rd) ∧ W'.cell? ⟨b, o + k, none⟩ = some (.int .i64 m))
                (first | exact ⟨cx0, cx1, cx2, c0⟩ | exact KP.out _ hbq51)
                ((first
                  | (go_at_call 26
                     (with_reducible refine (ShiftGear_r _ _ F R rd l g1 g2 m _ (by first | exact HA50.out | exact HA50.out.drew) (by first | exact HB50.out | exact HB50.out.drew) hFn hRn _ _ _ HG.out).mono ?_)
                     rintro e w51 ⟨rfl, hbx51⟩
                     have hq51 : Below w50.heap.size w50 w51 := by first | exact hbx51 | exact blw_ofDrewX hbx51
                     have hbq51 := hq51
                     clear hbx51)
                  | fail))
              clear KP
              clear cx0 cx1 cx2
              have T51 : Below w.heap.size w w51 := T50.trans (hbq51.mono T50.size)
              have Kx_51 : Hid (w51.heap[w1.heap.size]? = some (.cells #[(.slice aF F.length cF), (.slice aR R.length cR), .int .i64 rd] 28 (0, 0))) := hk_below Kx_50.out hbq51
              have FA_51 : Hid (RdI w51 (.slice aF F.length cF) F) := FA_50.out.below hbq51
              have FB_51 : Hid (RdI w51 (.slice aR R.length cR) R) := FB_50.out.below hbq51
              have FW_51 : Hid (RdI w51 (.slice (some ⟨b, o, none⟩) ws.length cW) ws) := FW_50.out.below hbq51
              clear Kx_50 FA_50 FB_50 FW_50
              clear c0 HA50 HB50
              go_wp2
              go_roundw
              case rel => exact ⟨k + 1, by omega, by go_num, by rw [HP2.out], by rw [HP2.out], T51, FA_51, FB_51, FW_51, Kx_51⟩
              case measure => simp [intOf] <;> omega
            · obtain rfl : k = ws.length := by omega
              have HE : Hid (posW (f, r) (ws.take ws.length) = (tf, tr)) := by show _ = _; rw [List.take_length]; exact HEND.out
              rw [HE.out]
              clear HE HEND HSTEP
              have cx0 : w50.cell? ⟨w1.heap.size, 0, none⟩ = some ((.slice aF F.length cF)) := hk_cell (i := 0) Kx_50.out rfl
              have cx1 : w50.cell? ⟨w1.heap.size, 1, none⟩ = some ((.slice aR R.length cR)) := hk_cell (i := 1) Kx_50.out rfl
              have cx2 : w50.cell? ⟨w1.heap.size, 2, none⟩ = some (.int .i64 rd) := hk_cell (i := 2) Kx_50.out rfl
              go_wp2_with fail
              (with_reducible refine (ShortestWay_r _ _ F R rd l tf tr f r _ FA_50.out FB_50.out hFn hRn _ _ HBACK.out).mono ?_)
              rintro e w51 ⟨vX, rfl, hoX, hb51⟩
              clear cx0 cx1 cx2
              have T51 : Below w.heap.size w w51 := T50.trans (hb51.mono T50.size)
              have Kx_51 : Hid (w51.heap[w1.heap.size]? = some (.cells #[(.slice aF F.length cF), (.slice aR R.length cR), .int .i64 rd] 28 (0, 0))) := hk_below Kx_50.out hb51
              have FA_51 : Hid (RdI w51 (.slice aF F.length cF) F) := FA_50.out.below hb51
              have FB_51 : Hid (RdI w51 (.slice aR R.length cR) R) := FB_50.out.below hb51
              have FW_51 : Hid (RdI w51 (.slice aW ws.length cW) ws) := FW_50.out.below hb51
              clear Kx_50 FA_50 FB_50 FW_50
              obtain ⟨aX, cX, eX, hrX⟩ := hoX.rd.shape
              subst eX
              clear hoX hrX
              have hbe : back.length = ws.length := HBL.out
              rw [hbe]
              clear hbe
              go_wp2
              go_ret
              exact ⟨rfl, T51⟩
        · clear FG_10 FS_10
          clear Ky_10
          clear HWL
          have hbq : (bad == 0) = false := by rw [beq_eq_false_iff_ne]; exact hbad
          go_wp2
          go_ret
          exact ⟨rfl, T10⟩
      · have hd1 : ¬ (p - a2 < a2 - p) := by omega
        have hd2 : ¬ (q - b2 < b2 - q) := by omega
        have hd3 : p - a2 + (q - b2) = 1 := by omega
        have hd4 : IntKind.i64.wrap (p - a2 + (q - b2)) = 1 := by rw [hd3]; rfl
        clear hpq a0 a9 b0 b9
        have cy0 : w9.cell? ⟨w5.heap.size, 0, none⟩ = some ((.slice aG G.length cG)) := hk_cell (i := 0) Ky_9.out rfl
        have cy1 : w9.cell? ⟨w5.heap.size, 1, none⟩ = some ((.slice aS S.length cS)) := hk_cell (i := 1) Ky_9.out rfl
        have cy2 : w9.cell? ⟨w5.heap.size, 2, none⟩ = some (.int .i64 rd2) := hk_cell (i := 2) Ky_9.out rfl
        go_wp2_with fail
        (with_reducible refine (IsCrossed_r _ _ G S rd2 l2 p q _ FG_9.out FS_9.out hGn hSn _ _ HIC.out).mono ?_)
        rintro e w10 ⟨rfl, hb10⟩
        clear cy0 cy1 cy2
        have T10 : Below w.heap.size w w10 := T9.trans (hb10.mono T9.size)
        have Kx_10 : Hid (w10.heap[w1.heap.size]? = some (.cells #[(.slice aF F.length cF), (.slice aR R.length cR), .int .i64 rd] 28 (0, 0))) := hk_below Kx_9.out hb10
        have Ky_10 : Hid (w10.heap[w5.heap.size]? = some (.cells #[(.slice aG G.length cG), (.slice aS S.length cS), .int .i64 rd2] 28 (0, 0))) := hk_below Ky_9.out hb10
        have FA_10 : Hid (RdI w10 (.slice aF F.length cF) F) := FA_9.out.below hb10
        have FB_10 : Hid (RdI w10 (.slice aR R.length cR) R) := FB_9.out.below hb10
        have FW_10 : Hid (RdI w10 (.slice aW ws.length cW) ws) := FW_9.out.below hb10
        have FG_10 : Hid (RdI w10 (.slice aG G.length cG) G) := FG_9.out.below hb10
        have FS_10 : Hid (RdI w10 (.slice aS S.length cS) S) := FS_9.out.below hb10
        clear Kx_9 Ky_9 FA_9 FB_9 FW_9 FG_9 FS_9
        by_cases hbad : bad = 0
        · clear FG_10 FS_10
          clear Ky_10
          obtain ⟨hend, hstep, back, hback, hbl⟩ := HWL.out hbad
          clear HWL
          subst hbad
          have HEND := Lib.hid hend
          have HSTEP := Lib.hid hstep
          have HBACK := Lib.hid hback
          have HBL := Lib.hid hbl
          have hbn : back.length ≤ 1048576 := by omega
          clear hend hstep hback hbl
          go_wp2
          go_loopw [26, 27, 28] (fun fv rv iv wr => ∃ k : Nat, k ≤ ws.length ∧ iv = .int .i64 k ∧ fv = .int .i64 (posW (f, r) (ws.take k)).1 ∧ rv = .int .i64 (posW (f, r) (ws.take k)).2 ∧ Below w.heap.size w wr ∧ Hid (RdI wr (.slice aF F.length cF) F) ∧ Hid (RdI wr (.slice aR R.length cR) R) ∧ Hid (RdI wr (.slice aW ws.length cW) ws) ∧ Hid (wr.heap[w1.heap.size]? = some (.cells #[(.slice aF F.length cF), (.slice aR R.length cR), .int .i64 rd] 28 (0, 0)))) (fun _ _ iv _ => ws.length - (intOf iv).toNat)
          case atStart => exact ⟨0, Nat.zero_le _, rfl, rfl, rfl, T10, FA_10, FB_10, FW_10, Kx_10⟩
          case round =>
            clear T10 FA_10 FB_10 FW_10 Kx_10
            obtain ⟨k, hk, rfl, rfl, rfl, T50, FA_50, FB_50, FW_50, Kx_50⟩ := hrel
            obtain ⟨w50, hw50⟩ : ∃ w50, w50 = wr := ⟨_, rfl⟩
            subst hw50
            by_cases hlt : k < ws.length
            · obtain ⟨b, o, eW, c0⟩ := FW_50.out.at k hlt
              subst eW
              have HG := Lib.hid (HSTEP.out k hlt)
              generalize hp1 : posW (f, r) (ws.take k) = g at *
              generalize hp2 : posW (f, r) (ws.take (k + 1)) = g' at *
              generalize ws.getD k 0 = m at *
              obtain ⟨g1, g2⟩ := g
              obtain ⟨g3, g4⟩ := g'
              have HP2 := Lib.hid hp2
              clear hp1 hp2
              simp only at HG
              have hkl : (k : Int) < (ws.length : Int) := by omega
              have hk0 : (0 : Int) ≤ (k : Int) := by omega
              have HA50 := FA_50
              have HB50 := FB_50
              have cx0 : w50.cell? ⟨w1.heap.size, 0, none⟩ = some ((.slice aF F.length cF)) := hk_cell (i := 0) Kx_50.out rfl
              have cx1 : w50.cell? ⟨w1.heap.size, 1, none⟩ = some ((.slice aR R.length cR)) := hk_cell (i := 1) Kx_50.out rfl
              have cx2 : w50.cell? ⟨w1.heap.size, 2, none⟩ = some (.int .i64 rd) := hk_cell (i := 2) Kx_50.out rfl
              have hlx := heap_lt Kx_50.out
              have KP : Hid (∀ W' : World, Below w50.heap.size w50 W' → (W'.cell? ⟨w1.heap.size, 0, none⟩ = some ((.slice aF F.length cF)) ∧ W'.cell? ⟨w1.heap.size, 1, none⟩ = some ((.slice aR R.length cR)) ∧ W'.cell? ⟨w1.heap.size, 2, none⟩ = some (.int .i64 rd) ∧ W'.cell? ⟨b, o + k, none⟩ = some (.int .i64 m))) := by
                show ∀ W' : World, _
                intro W' hb
                exact ⟨(hb.cell (p := ⟨w1.heap.size, 0, none⟩) hlx).trans cx0, (hb.cell (p := ⟨w1.heap.size, 1, none⟩) hlx).trans cx1, (hb.cell (p := ⟨w1.heap.size, 2, none⟩) hlx).trans cx2, (hb.cell (p := ⟨b, o + k, none⟩) (World.block_lt_of_cell? _ _ c0)).trans c0⟩
              go_wp2_with fail
              go_region_held3 (fun W' => W'.cell? ⟨w1.heap.size, 0, none⟩ = some ((.slice aF F.length cF)) ∧ W'.cell? ⟨w1.heap.size, 1, none⟩ = some ((.slice aR R.length cR)) ∧ W'.cell? ⟨w1.heap.size, 2, none⟩ = some (.int .i64 rd) ∧ W'.cell? ⟨b, o + k, none⟩ = some (.int .i64 m))
                (first | exact ⟨cx0, cx1, cx2, c0⟩ | exact KP.out _ hbq51)
                ((first
                  | (go_at_call 26
                     (with_reducible refine (ShiftGear_r _ _ F R rd l g1 g2 m _ (by first | exact HA50.out | exact HA50.out.drew) (by first | exact HB50.out | exact HB50.out.drew) hFn hRn _ _ _ HG.out).mono ?_)
                     rintro e w51 ⟨rfl, hbx51⟩
                     have hq51 : Below w50.heap.size w50 w51 := by first | exact hbx51 | exact blw_ofDrewX hbx51
                     have hbq51 := hq51
                     clear hbx51)
                  | fail))
              clear KP
              clear cx0 cx1 cx2
              have T51 : Below w.heap.size w w51 := T50.trans (hbq51.mono T50.size)
              have Kx_51 : Hid (w51.heap[w1.heap.size]? = some (.cells #[(.slice aF F.length cF), (.slice aR R.length cR), .int .i64 rd] 28 (0, 0))) := hk_below Kx_50.out hbq51
              have FA_51 : Hid (RdI w51 (.slice aF F.length cF) F) := FA_50.out.below hbq51
              have FB_51 : Hid (RdI w51 (.slice aR R.length cR) R) := FB_50.out.below hbq51
              have FW_51 : Hid (RdI w51 (.slice (some ⟨b, o, none⟩) ws.length cW) ws) := FW_50.out.below hbq51
              clear Kx_50 FA_50 FB_50 FW_50
              clear c0 HA50 HB50
              go_wp2
              go_roundw
              case rel => exact ⟨k + 1, by omega, by go_num, by rw [HP2.out], by rw [HP2.out], T51, FA_51, FB_51, FW_51, Kx_51⟩
              case measure => simp [intOf] <;> omega
            · obtain rfl : k = ws.length := by omega
              have HE : Hid (posW (f, r) (ws.take ws.length) = (tf, tr)) := by show _ = _; rw [List.take_length]; exact HEND.out
              rw [HE.out]
              clear HE HEND HSTEP
              have cx0 : w50.cell? ⟨w1.heap.size, 0, none⟩ = some ((.slice aF F.length cF)) := hk_cell (i := 0) Kx_50.out rfl
              have cx1 : w50.cell? ⟨w1.heap.size, 1, none⟩ = some ((.slice aR R.length cR)) := hk_cell (i := 1) Kx_50.out rfl
              have cx2 : w50.cell? ⟨w1.heap.size, 2, none⟩ = some (.int .i64 rd) := hk_cell (i := 2) Kx_50.out rfl
              go_wp2_with fail
              (with_reducible refine (ShortestWay_r _ _ F R rd l tf tr f r _ FA_50.out FB_50.out hFn hRn _ _ HBACK.out).mono ?_)
              rintro e w51 ⟨vX, rfl, hoX, hb51⟩
              clear cx0 cx1 cx2
              have T51 : Below w.heap.size w w51 := T50.trans (hb51.mono T50.size)
              have Kx_51 : Hid (w51.heap[w1.heap.size]? = some (.cells #[(.slice aF F.length cF), (.slice aR R.length cR), .int .i64 rd] 28 (0, 0))) := hk_below Kx_50.out hb51
              have FA_51 : Hid (RdI w51 (.slice aF F.length cF) F) := FA_50.out.below hb51
              have FB_51 : Hid (RdI w51 (.slice aR R.length cR) R) := FB_50.out.below hb51
              have FW_51 : Hid (RdI w51 (.slice aW ws.length cW) ws) := FW_50.out.below hb51
              clear Kx_50 FA_50 FB_50 FW_50
              obtain ⟨aX, cX, eX, hrX⟩ := hoX.rd.shape
              subst eX
              clear hoX hrX
              have hbe : back.length = ws.length := HBL.out
              rw [hbe]
              clear hbe
              go_wp2
              go_ret
              exact ⟨rfl, T51⟩
        · clear FG_10 FS_10
          clear Ky_10
          clear HWL
          have hbq : (bad == 0) = false := by rw [beq_eq_false_iff_ne]; exact hbad
          go_wp2
          go_ret
          exact ⟨rfl, T10⟩
    · clear HSL
      have hoq : (one == 0) = false := by rw [beq_eq_false_iff_ne]; exact hone
      by_cases hbad : bad = 0
      · clear FG_9 FS_9
        clear Ky_9
        obtain ⟨hend, hstep, back, hback, hbl⟩ := HWL.out hbad
        clear HWL
        subst hbad
        have HEND := Lib.hid hend
        have HSTEP := Lib.hid hstep
        have HBACK := Lib.hid hback
        have HBL := Lib.hid hbl
        have hbn : back.length ≤ 1048576 := by omega
        clear hend hstep hback hbl
        go_wp2
        go_loopw [26, 27, 28] (fun fv rv iv wr => ∃ k : Nat, k ≤ ws.length ∧ iv = .int .i64 k ∧ fv = .int .i64 (posW (f, r) (ws.take k)).1 ∧ rv = .int .i64 (posW (f, r) (ws.take k)).2 ∧ Below w.heap.size w wr ∧ Hid (RdI wr (.slice aF F.length cF) F) ∧ Hid (RdI wr (.slice aR R.length cR) R) ∧ Hid (RdI wr (.slice aW ws.length cW) ws) ∧ Hid (wr.heap[w1.heap.size]? = some (.cells #[(.slice aF F.length cF), (.slice aR R.length cR), .int .i64 rd] 28 (0, 0)))) (fun _ _ iv _ => ws.length - (intOf iv).toNat)
        case atStart => exact ⟨0, Nat.zero_le _, rfl, rfl, rfl, T9, FA_9, FB_9, FW_9, Kx_9⟩
        case round =>
          clear T9 FA_9 FB_9 FW_9 Kx_9
          obtain ⟨k, hk, rfl, rfl, rfl, T50, FA_50, FB_50, FW_50, Kx_50⟩ := hrel
          obtain ⟨w50, hw50⟩ : ∃ w50, w50 = wr := ⟨_, rfl⟩
          subst hw50
          by_cases hlt : k < ws.length
          · obtain ⟨b, o, eW, c0⟩ := FW_50.out.at k hlt
            subst eW
            have HG := Lib.hid (HSTEP.out k hlt)
            generalize hp1 : posW (f, r) (ws.take k) = g at *
            generalize hp2 : posW (f, r) (ws.take (k + 1)) = g' at *
            generalize ws.getD k 0 = m at *
            obtain ⟨g1, g2⟩ := g
            obtain ⟨g3, g4⟩ := g'
            have HP2 := Lib.hid hp2
            clear hp1 hp2
            simp only at HG
            have hkl : (k : Int) < (ws.length : Int) := by omega
            have hk0 : (0 : Int) ≤ (k : Int) := by omega
            have HA50 := FA_50
            have HB50 := FB_50
            have cx0 : w50.cell? ⟨w1.heap.size, 0, none⟩ = some ((.slice aF F.length cF)) := hk_cell (i := 0) Kx_50.out rfl
            have cx1 : w50.cell? ⟨w1.heap.size, 1, none⟩ = some ((.slice aR R.length cR)) := hk_cell (i := 1) Kx_50.out rfl
            have cx2 : w50.cell? ⟨w1.heap.size, 2, none⟩ = some (.int .i64 rd) := hk_cell (i := 2) Kx_50.out rfl
            have hlx := heap_lt Kx_50.out
            have KP : Hid (∀ W' : World, Below w50.heap.size w50 W' → (W'.cell? ⟨w1.heap.size, 0, none⟩ = some ((.slice aF F.length cF)) ∧ W'.cell? ⟨w1.heap.size, 1, none⟩ = some ((.slice aR R.length cR)) ∧ W'.cell? ⟨w1.heap.size, 2, none⟩ = some (.int .i64 rd) ∧ W'.cell? ⟨b, o + k, none⟩ = some (.int .i64 m))) := by
              show ∀ W' : World, _
              intro W' hb
              exact ⟨(hb.cell (p := ⟨w1.heap.size, 0, none⟩) hlx).trans cx0, (hb.cell (p := ⟨w1.heap.size, 1, none⟩) hlx).trans cx1, (hb.cell (p := ⟨w1.heap.size, 2, none⟩) hlx).trans cx2, (hb.cell (p := ⟨b, o + k, none⟩) (World.block_lt_of_cell? _ _ c0)).trans c0⟩
            go_wp2_with fail
            go_region_held3 (fun W' => W'.cell? ⟨w1.heap.size, 0, none⟩ = some ((.slice aF F.length cF)) ∧ W'.cell? ⟨w1.heap.size, 1, none⟩ = some ((.slice aR R.length cR)) ∧ W'.cell? ⟨w1.heap.size, 2, none⟩ = some (.int .i64 rd) ∧ W'.cell? ⟨b, o + k, none⟩ = some (.int .i64 m))
              (first | exact ⟨cx0, cx1, cx2, c0⟩ | exact KP.out _ hbq51)
              ((first
                | (go_at_call 26
                   (with_reducible refine (ShiftGear_r _ _ F R rd l g1 g2 m _ (by first | exact HA50.out | exact HA50.out.drew) (by first | exact HB50.out | exact HB50.out.drew) hFn hRn _ _ _ HG.out).mono ?_)
                   rintro e w51 ⟨rfl, hbx51⟩
                   have hq51 : Below w50.heap.size w50 w51 := by first | exact hbx51 | exact blw_ofDrewX hbx51
                   have hbq51 := hq51
                   clear hbx51)
                | fail))
            clear KP
            clear cx0 cx1 cx2
            have T51 : Below w.heap.size w w51 := T50.trans (hbq51.mono T50.size)
            have Kx_51 : Hid (w51.heap[w1.heap.size]? = some (.cells #[(.slice aF F.length cF), (.slice aR R.length cR), .int .i64 rd] 28 (0, 0))) := hk_below Kx_50.out hbq51
            have FA_51 : Hid (RdI w51 (.slice aF F.length cF) F) := FA_50.out.below hbq51
            have FB_51 : Hid (RdI w51 (.slice aR R.length cR) R) := FB_50.out.below hbq51
            have FW_51 : Hid (RdI w51 (.slice (some ⟨b, o, none⟩) ws.length cW) ws) := FW_50.out.below hbq51
            clear Kx_50 FA_50 FB_50 FW_50
            clear c0 HA50 HB50
            go_wp2
            go_roundw
            case rel => exact ⟨k + 1, by omega, by go_num, by rw [HP2.out], by rw [HP2.out], T51, FA_51, FB_51, FW_51, Kx_51⟩
            case measure => simp [intOf] <;> omega
          · obtain rfl : k = ws.length := by omega
            have HE : Hid (posW (f, r) (ws.take ws.length) = (tf, tr)) := by show _ = _; rw [List.take_length]; exact HEND.out
            rw [HE.out]
            clear HE HEND HSTEP
            have cx0 : w50.cell? ⟨w1.heap.size, 0, none⟩ = some ((.slice aF F.length cF)) := hk_cell (i := 0) Kx_50.out rfl
            have cx1 : w50.cell? ⟨w1.heap.size, 1, none⟩ = some ((.slice aR R.length cR)) := hk_cell (i := 1) Kx_50.out rfl
            have cx2 : w50.cell? ⟨w1.heap.size, 2, none⟩ = some (.int .i64 rd) := hk_cell (i := 2) Kx_50.out rfl
            go_wp2_with fail
            (with_reducible refine (ShortestWay_r _ _ F R rd l tf tr f r _ FA_50.out FB_50.out hFn hRn _ _ HBACK.out).mono ?_)
            rintro e w51 ⟨vX, rfl, hoX, hb51⟩
            clear cx0 cx1 cx2
            have T51 : Below w.heap.size w w51 := T50.trans (hb51.mono T50.size)
            have Kx_51 : Hid (w51.heap[w1.heap.size]? = some (.cells #[(.slice aF F.length cF), (.slice aR R.length cR), .int .i64 rd] 28 (0, 0))) := hk_below Kx_50.out hb51
            have FA_51 : Hid (RdI w51 (.slice aF F.length cF) F) := FA_50.out.below hb51
            have FB_51 : Hid (RdI w51 (.slice aR R.length cR) R) := FB_50.out.below hb51
            have FW_51 : Hid (RdI w51 (.slice aW ws.length cW) ws) := FW_50.out.below hb51
            clear Kx_50 FA_50 FB_50 FW_50
            obtain ⟨aX, cX, eX, hrX⟩ := hoX.rd.shape
            subst eX
            clear hoX hrX
            have hbe : back.length = ws.length := HBL.out
            rw [hbe]
            clear hbe
            go_wp2
            go_ret
            exact ⟨rfl, T51⟩
      · clear FG_9 FS_9
        clear Ky_9
        clear HWL
        have hbq : (bad == 0) = false := by rw [beq_eq_false_iff_ne]; exact hbad
        go_wp2
        go_ret
        exact ⟨rfl, T9⟩
  · have HN : Hid (decide (4096 < n) = true) := by show _ = _; simp; omega
    go_enter Try.func15, Try.ntmps15
    go_wp2_with fail
    (with_reducible refine (big_any _ _ _ _).mono ?_)
    rintro e _ ⟨rfl, rfl⟩
    rw [HN.out]
    go_wp2
    go_ret
    exact ⟨rfl, Below.refl _ _⟩
end Go.Proofs.Ytfdnhamkkcmnfaa
