/- The walk of the law on threads. -/
import Derived.Test.YtoaacipgphoiaaaThrC
import Derived.Test.YtoaacipgphoiaaaThrO
import Derived.Test.YtoaacipgphoiaaaThdC
import Derived.Test.YtoaacipgphoiaaaOpenB
set_option linter.unusedSimpArgs false
set_option linter.unusedVariables false
namespace Go.Proofs.Ytoaacipgphoiaaa
open Go.RowKit

def partR (d p : Int) (lf inn : Bool) : (Int × Int) × (Bool × Bool) × Int := if isThr d p = true then ((d, p), (lf, !inn), 0) else ((0, 0), (false, false), 1)
theorem PartnerOf_r (d p : Int) (lf inn : Bool) (d' p' : Int) (lf' inn' : Bool) (c : Int) (w : World) (h : ((d', p'), (lf', inn'), c) = partR d p lf inn) :
    Calls Try.prog 21 #[.agg #[.int .i64 d, .int .i64 p, .bool lf, .bool inn]] w fun e w' => e = .returned (.tuple #[.agg #[.int .i64 d', .int .i64 p', .bool lf', .bool inn'], .int .i64 c]) ∧ Below w.heap.size w w' := by
  unfold partR at h
  cases hT : isThr d p
  · rw [hT, if_neg (by simp)] at h
    injection h with h1 h2
    injection h1 with h1 h3
    injection h2 with h2 h4
    injection h2 with h2 h5
    rw [h1, h3, h2, h5, h4]
    exact PartnerOf_no d p lf inn w hT
  · rw [hT, if_pos rfl] at h
    injection h with h1 h2
    injection h1 with h1 h3
    injection h2 with h2 h4
    injection h2 with h2 h5
    rw [h1, h3, h2, h5, h4]
    exact PartnerOf_yes d p lf inn w hT
theorem sPartnerOf_r (d p : Int) (lf inn : Bool) (d' p' : Int) (lf' inn' : Bool) (c : Int) (w : World) (h : ((d', p'), (lf', inn'), c) = partR d p lf inn) :
    Calls Try.prog 20 #[.agg #[.int .i64 d, .int .i64 p, .bool lf, .bool inn]] w fun e w' => e = .returned (.tuple #[.agg #[.int .i64 d', .int .i64 p', .bool lf', .bool inn'], .int .i64 c]) ∧ Below w.heap.size w w' := by
  unfold partR at h
  cases hT : isThr d p
  · rw [hT, if_neg (by simp)] at h
    injection h with h1 h2
    injection h1 with h1 h3
    injection h2 with h2 h4
    injection h2 with h2 h5
    rw [h1, h3, h2, h5, h4]
    exact sPartnerOf_no d p lf inn w hT
  · rw [hT, if_pos rfl] at h
    injection h with h1 h2
    injection h1 with h1 h3
    injection h2 with h2 h4
    injection h2 with h2 h5
    rw [h1, h3, h2, h5, h4]
    exact sPartnerOf_yes d p lf inn w hT
theorem FirstReason_r (d p : Int) (lf inn : Bool) (d' p' : Int) (lf' inn' : Bool) (x : ByteArray) (c : Int) (w : World) (h : (x, c) = reasonR d p lf inn d' p' lf' inn') : Calls Try.prog 24 #[.agg #[.int .i64 d, .int .i64 p, .bool lf, .bool inn], .agg #[.int .i64 d', .int .i64 p', .bool lf', .bool inn']] w fun e w' => e = .returned (.tuple #[.string x, .int .i64 c]) ∧ Below w.heap.size w w' :=
  (FirstReason_any d p lf inn d' p' lf' inn' w).mono fun e w' q => by rw [q.1, ← h]; exact ⟨rfl, q.2⟩
theorem DoFit_r (d p : Int) (lf inn : Bool) (d' p' : Int) (lf' inn' : Bool) (x : Bool) (c : Int) (w : World) (h : (x, c) = fitR d p lf inn d' p' lf' inn') : Calls Try.prog 17 #[.agg #[.int .i64 d, .int .i64 p, .bool lf, .bool inn], .agg #[.int .i64 d', .int .i64 p', .bool lf', .bool inn']] w fun e w' => e = .returned (.tuple #[.bool x, .int .i64 c]) ∧ Below w.heap.size w w' :=
  (DoFit_any d p lf inn d' p' lf' inn' w).mono fun e w' q => by rw [q.1, ← h]; exact ⟨rfl, q.2⟩
theorem QuarterTurns_r (d p : Int) (lf inn : Bool) (n x c : Int) (w : World) (h : (x, c) = qtR d p n) : Calls Try.prog 19 #[.agg #[.int .i64 d, .int .i64 p, .bool lf, .bool inn], .int .i64 n] w fun e w' => e = .returned (.tuple #[.int .i64 x, .int .i64 c]) ∧ Below w.heap.size w w' :=
  (QuarterTurns_any d p lf inn n w).mono fun e w' q => by rw [q.1, ← h]; exact ⟨rfl, q.2⟩
theorem NearestThread_r (v : Value) (rs : List Thx) (d p x c : Int) (w : World) (hr : RdThx w v rs) (hn : rs.length ≤ 1048576) (h : (x, c) = nearR rs d p) : Calls Try.prog 30 #[v, .int .i64 d, .int .i64 p] w fun e w' => e = .returned (.tuple #[.int .i64 x, .int .i64 c]) ∧ Below w.heap.size w w' :=
  (NearestThread_any v rs d p w hr hn).mono fun e w' q => by rw [q.1, ← h]; exact ⟨rfl, q.2⟩
theorem sFirstReason_r (d p : Int) (lf inn : Bool) (d' p' : Int) (lf' inn' : Bool) (x : ByteArray) (c : Int) (w : World) (h : (x, c) = reasonR d p lf inn d' p' lf' inn') : Calls Try.prog 23 #[.agg #[.int .i64 d, .int .i64 p, .bool lf, .bool inn], .agg #[.int .i64 d', .int .i64 p', .bool lf', .bool inn']] w fun e w' => e = .returned (.tuple #[.string x, .int .i64 c]) ∧ Below w.heap.size w w' :=
  (sFirstReason_any d p lf inn d' p' lf' inn' w).mono fun e w' q => by rw [q.1, ← h]; exact ⟨rfl, q.2⟩
theorem sDoFit_r (d p : Int) (lf inn : Bool) (d' p' : Int) (lf' inn' : Bool) (x : Bool) (c : Int) (w : World) (h : (x, c) = fitR d p lf inn d' p' lf' inn') : Calls Try.prog 16 #[.agg #[.int .i64 d, .int .i64 p, .bool lf, .bool inn], .agg #[.int .i64 d', .int .i64 p', .bool lf', .bool inn']] w fun e w' => e = .returned (.tuple #[.bool x, .int .i64 c]) ∧ Below w.heap.size w w' :=
  (sDoFit_any d p lf inn d' p' lf' inn' w).mono fun e w' q => by rw [q.1, ← h]; exact ⟨rfl, q.2⟩
theorem sQuarterTurns_r (d p : Int) (lf inn : Bool) (n x c : Int) (w : World) (h : (x, c) = qtR d p n) : Calls Try.prog 18 #[.agg #[.int .i64 d, .int .i64 p, .bool lf, .bool inn], .int .i64 n] w fun e w' => e = .returned (.tuple #[.int .i64 x, .int .i64 c]) ∧ Below w.heap.size w w' :=
  (sQuarterTurns_any d p lf inn n w).mono fun e w' q => by rw [q.1, ← h]; exact ⟨rfl, q.2⟩
theorem sNearestThread_r (v : Value) (rs : List Thx) (d p x c : Int) (w : World) (hr : RdThx w v rs) (hn : rs.length ≤ 1048576) (h : (x, c) = nearR rs d p) : Calls Try.prog 28 #[v, .int .i64 d, .int .i64 p] w fun e w' => e = .returned (.tuple #[.int .i64 x, .int .i64 c]) ∧ Below w.heap.size w w' :=
  (sNearestThread_any v rs d p w hr hn).mono fun e w' q => by rw [q.1, ← h]; exact ⟨rfl, q.2⟩
theorem thr_neq_same (d p : Int) (lf inn : Bool) (w : World) : (binOp .neq 25 (.agg #[.int .i64 d, .int .i64 p, .bool lf, .bool inn]) (.agg #[.int .i64 d, .int .i64 p, .bool lf, .bool inn])).run Try.prog w = .ok (.bool false) w := by
  simp [go_sem]
theorem qtR_law {d p n k c : Int} (h : (k, c) = qtR d p n) (hc : c = 0) : 20 ≤ p ∧ p ≤ 500 ∧ 0 ≤ n ∧ n ≤ 1000 ∧ 0 ≤ k ∧ k ≤ 3000 ∧ 40 * n ≤ k * p ∧ (0 < k → (k - 1) * p < 40 * n) ∧ k * p ≤ 1000000 := by
  unfold qtR at h
  split at h
  · rename_i hT
    obtain ⟨-, -, p1, p2⟩ := isThr_bd hT
    split at h
    · rename_i hr
      obtain ⟨n1, n2⟩ := inR_iff.1 hr
      injection h with h1 h2
      have hp : 0 < p := by omega
      unfold cdiv at h1
      have e1 := Int.emod_nonneg (40 * n + p - 1) (Int.ne_of_gt hp)
      have e2 := Int.emod_lt_of_pos (40 * n + p - 1) hp
      have e3 := Int.mul_ediv_add_emod (40 * n + p - 1) p
      rw [← h1] at e3
      have e4 : p * k = k * p := Int.mul_comm p k
      have e5 : (k - 1) * p = k * p - p := by rw [Int.sub_mul]; omega
      have k0 : 0 ≤ k := by rw [h1]; exact Int.ediv_nonneg (by omega) (by omega)
      have k1 : k * 20 ≤ k * p := Int.mul_le_mul_of_nonneg_left p1 k0
      refine ⟨p1, p2, n1, n2, k0, by omega, by omega, fun _ => by omega, by omega⟩
    · injection h with h1 h2; omega
  · injection h with h1 h2; omega
theorem fit_law {d p : Int} {lf inn : Bool} {d' p' : Int} {lf' inn' : Bool} {f : Bool} {one : Int} {r : ByteArray} {bad : Int} (h1 : (f, one) = fitR d p lf inn d' p' lf' inn') (h2 : (r, bad) = reasonR d p lf inn d' p' lf' inn') (h0 : one = 0) : f = decide (bad = 5) := by
  unfold fitR at h1
  unfold reasonR at h2
  split at h1
  · rename_i hT
    rw [if_pos hT] at h2
    split at h1
    · rename_i hT'
      rw [if_pos hT'] at h2
      injection h1 with h1 _
      split at h2
      · rename_i hm
        injection h2 with _ h2
        rw [h1, h2]
        simp [hm]
      · rename_i hm
        injection h2 with _ h2
        rw [h1, h2]
        simp [hm]
    · injection h1 with _ h1; omega
  · injection h1 with _ h1; omega
theorem part_law {d p : Int} {lf inn : Bool} {d' p' : Int} {lf' inn' : Bool} {c : Int} (h : ((d', p'), (lf', inn'), c) = partR d p lf inn) (hc : c = 0) : (true, (0 : Int)) = fitR d p lf inn d' p' lf' inn' ∧ (false, (0 : Int)) = fitR d p lf inn d p lf inn := by
  unfold partR at h
  split at h
  · rename_i hT
    injection h with h1 h2
    injection h1 with h1 h3
    injection h2 with h2 h4
    injection h2 with h2 h5
    rw [h1, h3, h2, h5]
    have hM : misfitT d p lf inn d p lf inn ≠ ⟨#[]⟩ := by
      unfold misfitT
      cases inn <;> simp <;> decide
    have hM' : misfitT d p lf inn d p lf (!inn) = ⟨#[]⟩ := by
      unfold misfitT
      cases inn <;> simp
    unfold fitR
    have hT' : isThr d p = true := hT
    constructor
    · rw [if_pos hT', if_pos hT', hM']
      rfl
    · rw [if_pos hT', if_pos hT', decide_eq_false hM]
  · injection h with h1 h2
    injection h2 with h2 h4
    omega
theorem blw_ofDrewX {B : Nat} {w w' : World} (h : Below B w.drew w') : Below B w w' := ⟨h.os, h.tape, h.output, h.size, h.block⟩
set_option maxRecDepth 100000 in
set_option maxHeartbeats 16000000 in
theorem FnThreads_walk (a : Option Addr) (n c : Nat) (w : World) (h : RdB w w.heap.size a n) :
    Calls Try.prog 11 #[.slice a n c] w fun e w' => e = .returned (.bool true) ∧ Below w.heap.size w w' := by
  by_cases hn : n ≤ 4096
  · have HN : Hid (decide (4096 < n) = false) := by show _ = _; simp; omega
    have HB0 := Lib.hid h
    have T0 := Below.refl w.heap.size w
    clear h
    go_enter Try.func11, Try.ntmps11
    go_wp2_with fail
    (with_reducible refine (big_any _ _ _ _).mono ?_)
    rintro e _ ⟨rfl, rfl⟩
    rw [HN.out]
    go_wp2_with fail
    (with_reducible refine (DrawFirstReason_any a n c _ HB0.out hn).mono ?_)
    rintro e w1 ⟨a0, a1, a2, a3, b0, b1, b2, b3, rfl, hb1⟩
    have T1 : Below w.heap.size w w1 := T0.trans (hb1.mono T0.size)
    have HB1 := Lib.hid ((HB0.out.below hb1).keep hb1.size (fun _ _ => rfl))
    clear HB0
    go_wp2_with fail
    generalize hw : (w1.alloc (Obj.cells #[.int .i64 a0, .int .i64 a1, .bool a2, .bool a3] 25)).alloc (Obj.cells #[.int .i64 b0, .int .i64 b1, .bool b2, .bool b3] 25) = w2
    have hb2 : Below w1.heap.size w1 w2 := by
      rw [← hw]
      exact ((Below.refl _ _).alloc (by simp) _).alloc (by simp) _
    have Ka_2 : Hid (w2.heap[w1.heap.size]? = some (.cells #[.int .i64 a0, .int .i64 a1, .bool a2, .bool a3] 25 (0, 0))) := by
      show _ = _
      rw [← hw]
      exact (hk_alloc (heap_alloc_new _ _) _)
    have Kb_2 : Hid (w2.heap[w1.heap.size + 1]? = some (.cells #[.int .i64 b0, .int .i64 b1, .bool b2, .bool b3] 25 (0, 0))) := by
      show _ = _
      rw [← hw]
      exact (by have h := heap_alloc_new (w1.alloc (Obj.cells #[.int .i64 a0, .int .i64 a1, .bool a2, .bool a3] 25)) (Obj.cells #[.int .i64 b0, .int .i64 b1, .bool b2, .bool b3] 25); rw [World.size_alloc] at h; exact h)
    clear hw
    have T2 : Below w.heap.size w w2 := T1.trans (hb2.mono T1.size)
    have HB2 := Lib.hid ((HB1.out.below hb2).keep hb2.size (fun _ _ => rfl))
    clear HB1
    obtain ⟨⟨r, bad⟩, hR⟩ : ∃ rr__, rr__ = reasonR a0 a1 a2 a3 b0 b1 b2 b3 := ⟨_, rfl⟩
    have HhR := Lib.hid hR
    have ca0 : w2.cell? ⟨w1.heap.size, 0, none⟩ = some (.int .i64 a0) := hk_cell (i := 0) Ka_2.out rfl
    have ca1 : w2.cell? ⟨w1.heap.size, 1, none⟩ = some (.int .i64 a1) := hk_cell (i := 1) Ka_2.out rfl
    have ca2 : w2.cell? ⟨w1.heap.size, 2, none⟩ = some (.bool a2) := hk_cell (i := 2) Ka_2.out rfl
    have ca3 : w2.cell? ⟨w1.heap.size, 3, none⟩ = some (.bool a3) := hk_cell (i := 3) Ka_2.out rfl
    have cb0 : w2.cell? ⟨w1.heap.size + 1, 0, none⟩ = some (.int .i64 b0) := hk_cell (i := 0) Kb_2.out rfl
    have cb1 : w2.cell? ⟨w1.heap.size + 1, 1, none⟩ = some (.int .i64 b1) := hk_cell (i := 1) Kb_2.out rfl
    have cb2 : w2.cell? ⟨w1.heap.size + 1, 2, none⟩ = some (.bool b2) := hk_cell (i := 2) Kb_2.out rfl
    have cb3 : w2.cell? ⟨w1.heap.size + 1, 3, none⟩ = some (.bool b3) := hk_cell (i := 3) Kb_2.out rfl
    go_wp2_with fail
    (with_reducible refine (FirstReason_r _ _ _ _ _ _ _ _ _ _ _ HhR.out).mono ?_)
    rintro e w3 ⟨rfl, hb3⟩
    clear ca0 ca1 ca2 ca3 cb0 cb1 cb2 cb3
    have T3 : Below w.heap.size w w3 := T2.trans (hb3.mono T2.size)
    have HB3 := Lib.hid ((HB2.out.below hb3).keep hb3.size (fun _ _ => rfl))
    have Ka_3 : Hid (w3.heap[w1.heap.size]? = some (.cells #[.int .i64 a0, .int .i64 a1, .bool a2, .bool a3] 25 (0, 0))) := hk_below Ka_2.out hb3
    have Kb_3 : Hid (w3.heap[w1.heap.size + 1]? = some (.cells #[.int .i64 b0, .int .i64 b1, .bool b2, .bool b3] 25 (0, 0))) := hk_below Kb_2.out hb3
    clear HB2 Ka_2 Kb_2
    have ca0 : w3.cell? ⟨w1.heap.size, 0, none⟩ = some (.int .i64 a0) := hk_cell (i := 0) Ka_3.out rfl
    have ca1 : w3.cell? ⟨w1.heap.size, 1, none⟩ = some (.int .i64 a1) := hk_cell (i := 1) Ka_3.out rfl
    have ca2 : w3.cell? ⟨w1.heap.size, 2, none⟩ = some (.bool a2) := hk_cell (i := 2) Ka_3.out rfl
    have ca3 : w3.cell? ⟨w1.heap.size, 3, none⟩ = some (.bool a3) := hk_cell (i := 3) Ka_3.out rfl
    have cb0 : w3.cell? ⟨w1.heap.size + 1, 0, none⟩ = some (.int .i64 b0) := hk_cell (i := 0) Kb_3.out rfl
    have cb1 : w3.cell? ⟨w1.heap.size + 1, 1, none⟩ = some (.int .i64 b1) := hk_cell (i := 1) Kb_3.out rfl
    have cb2 : w3.cell? ⟨w1.heap.size + 1, 2, none⟩ = some (.bool b2) := hk_cell (i := 2) Kb_3.out rfl
    have cb3 : w3.cell? ⟨w1.heap.size + 1, 3, none⟩ = some (.bool b3) := hk_cell (i := 3) Kb_3.out rfl
    go_wp2_with fail
    (with_reducible refine (sFirstReason_r _ _ _ _ _ _ _ _ _ _ _ HhR.out).mono ?_)
    rintro e w4 ⟨rfl, hb4⟩
    clear ca0 ca1 ca2 ca3 cb0 cb1 cb2 cb3
    have T4 : Below w.heap.size w w4 := T3.trans (hb4.mono T3.size)
    have HB4 := Lib.hid ((HB3.out.below hb4).keep hb4.size (fun _ _ => rfl))
    have Ka_4 : Hid (w4.heap[w1.heap.size]? = some (.cells #[.int .i64 a0, .int .i64 a1, .bool a2, .bool a3] 25 (0, 0))) := hk_below Ka_3.out hb4
    have Kb_4 : Hid (w4.heap[w1.heap.size + 1]? = some (.cells #[.int .i64 b0, .int .i64 b1, .bool b2, .bool b3] 25 (0, 0))) := hk_below Kb_3.out hb4
    clear HB3 Ka_3 Kb_3
    obtain ⟨⟨f, one⟩, hF⟩ : ∃ rr__, rr__ = fitR a0 a1 a2 a3 b0 b1 b2 b3 := ⟨_, rfl⟩
    have HhF := Lib.hid hF
    have ca0 : w4.cell? ⟨w1.heap.size, 0, none⟩ = some (.int .i64 a0) := hk_cell (i := 0) Ka_4.out rfl
    have ca1 : w4.cell? ⟨w1.heap.size, 1, none⟩ = some (.int .i64 a1) := hk_cell (i := 1) Ka_4.out rfl
    have ca2 : w4.cell? ⟨w1.heap.size, 2, none⟩ = some (.bool a2) := hk_cell (i := 2) Ka_4.out rfl
    have ca3 : w4.cell? ⟨w1.heap.size, 3, none⟩ = some (.bool a3) := hk_cell (i := 3) Ka_4.out rfl
    have cb0 : w4.cell? ⟨w1.heap.size + 1, 0, none⟩ = some (.int .i64 b0) := hk_cell (i := 0) Kb_4.out rfl
    have cb1 : w4.cell? ⟨w1.heap.size + 1, 1, none⟩ = some (.int .i64 b1) := hk_cell (i := 1) Kb_4.out rfl
    have cb2 : w4.cell? ⟨w1.heap.size + 1, 2, none⟩ = some (.bool b2) := hk_cell (i := 2) Kb_4.out rfl
    have cb3 : w4.cell? ⟨w1.heap.size + 1, 3, none⟩ = some (.bool b3) := hk_cell (i := 3) Kb_4.out rfl
    go_wp2_with fail
    (with_reducible refine (DoFit_r _ _ _ _ _ _ _ _ _ _ _ HhF.out).mono ?_)
    rintro e w5 ⟨rfl, hb5⟩
    clear ca0 ca1 ca2 ca3 cb0 cb1 cb2 cb3
    have T5 : Below w.heap.size w w5 := T4.trans (hb5.mono T4.size)
    have HB5 := Lib.hid ((HB4.out.below hb5).keep hb5.size (fun _ _ => rfl))
    have Ka_5 : Hid (w5.heap[w1.heap.size]? = some (.cells #[.int .i64 a0, .int .i64 a1, .bool a2, .bool a3] 25 (0, 0))) := hk_below Ka_4.out hb5
    have Kb_5 : Hid (w5.heap[w1.heap.size + 1]? = some (.cells #[.int .i64 b0, .int .i64 b1, .bool b2, .bool b3] 25 (0, 0))) := hk_below Kb_4.out hb5
    clear HB4 Ka_4 Kb_4
    have ca0 : w5.cell? ⟨w1.heap.size, 0, none⟩ = some (.int .i64 a0) := hk_cell (i := 0) Ka_5.out rfl
    have ca1 : w5.cell? ⟨w1.heap.size, 1, none⟩ = some (.int .i64 a1) := hk_cell (i := 1) Ka_5.out rfl
    have ca2 : w5.cell? ⟨w1.heap.size, 2, none⟩ = some (.bool a2) := hk_cell (i := 2) Ka_5.out rfl
    have ca3 : w5.cell? ⟨w1.heap.size, 3, none⟩ = some (.bool a3) := hk_cell (i := 3) Ka_5.out rfl
    have cb0 : w5.cell? ⟨w1.heap.size + 1, 0, none⟩ = some (.int .i64 b0) := hk_cell (i := 0) Kb_5.out rfl
    have cb1 : w5.cell? ⟨w1.heap.size + 1, 1, none⟩ = some (.int .i64 b1) := hk_cell (i := 1) Kb_5.out rfl
    have cb2 : w5.cell? ⟨w1.heap.size + 1, 2, none⟩ = some (.bool b2) := hk_cell (i := 2) Kb_5.out rfl
    have cb3 : w5.cell? ⟨w1.heap.size + 1, 3, none⟩ = some (.bool b3) := hk_cell (i := 3) Kb_5.out rfl
    go_wp2_with fail
    (with_reducible refine (sDoFit_r _ _ _ _ _ _ _ _ _ _ _ HhF.out).mono ?_)
    rintro e w6 ⟨rfl, hb6⟩
    clear ca0 ca1 ca2 ca3 cb0 cb1 cb2 cb3
    have T6 : Below w.heap.size w w6 := T5.trans (hb6.mono T5.size)
    have HB6 := Lib.hid ((HB5.out.below hb6).keep hb6.size (fun _ _ => rfl))
    have Ka_6 : Hid (w6.heap[w1.heap.size]? = some (.cells #[.int .i64 a0, .int .i64 a1, .bool a2, .bool a3] 25 (0, 0))) := hk_below Ka_5.out hb6
    have Kb_6 : Hid (w6.heap[w1.heap.size + 1]? = some (.cells #[.int .i64 b0, .int .i64 b1, .bool b2, .bool b3] 25 (0, 0))) := hk_below Kb_5.out hb6
    clear HB5 Ka_5 Kb_5
    have hFL := Lib.hid (fit_law hF hR)
    clear hF hR HhF HhR
    obtain ⟨⟨⟨p0, p1⟩, ⟨p2, p3⟩, three⟩, hP⟩ : ∃ rr__, rr__ = partR a0 a1 a2 a3 := ⟨_, rfl⟩
    have HhP := Lib.hid hP
    have hPL := Lib.hid (part_law hP)
    clear hP
    have ca0 : w6.cell? ⟨w1.heap.size, 0, none⟩ = some (.int .i64 a0) := hk_cell (i := 0) Ka_6.out rfl
    have ca1 : w6.cell? ⟨w1.heap.size, 1, none⟩ = some (.int .i64 a1) := hk_cell (i := 1) Ka_6.out rfl
    have ca2 : w6.cell? ⟨w1.heap.size, 2, none⟩ = some (.bool a2) := hk_cell (i := 2) Ka_6.out rfl
    have ca3 : w6.cell? ⟨w1.heap.size, 3, none⟩ = some (.bool a3) := hk_cell (i := 3) Ka_6.out rfl
    go_wp2_with fail
    (with_reducible refine (PartnerOf_r _ _ _ _ _ _ _ _ _ _ HhP.out).mono ?_)
    rintro e w7 ⟨rfl, hb7⟩
    clear ca0 ca1 ca2 ca3
    have T7 : Below w.heap.size w w7 := T6.trans (hb7.mono T6.size)
    have HB7 := Lib.hid ((HB6.out.below hb7).keep hb7.size (fun _ _ => rfl))
    have Ka_7 : Hid (w7.heap[w1.heap.size]? = some (.cells #[.int .i64 a0, .int .i64 a1, .bool a2, .bool a3] 25 (0, 0))) := hk_below Ka_6.out hb7
    clear HB6 Ka_6
    have ca0 : (w7.alloc (Obj.cells #[.int .i64 p0, .int .i64 p1, .bool p2, .bool p3] 25)).cell? ⟨w1.heap.size, 0, none⟩ = some (.int .i64 a0) := hk_cell (i := 0) (hk_alloc Ka_7.out _) rfl
    have ca1 : (w7.alloc (Obj.cells #[.int .i64 p0, .int .i64 p1, .bool p2, .bool p3] 25)).cell? ⟨w1.heap.size, 1, none⟩ = some (.int .i64 a1) := hk_cell (i := 1) (hk_alloc Ka_7.out _) rfl
    have ca2 : (w7.alloc (Obj.cells #[.int .i64 p0, .int .i64 p1, .bool p2, .bool p3] 25)).cell? ⟨w1.heap.size, 2, none⟩ = some (.bool a2) := hk_cell (i := 2) (hk_alloc Ka_7.out _) rfl
    have ca3 : (w7.alloc (Obj.cells #[.int .i64 p0, .int .i64 p1, .bool p2, .bool p3] 25)).cell? ⟨w1.heap.size, 3, none⟩ = some (.bool a3) := hk_cell (i := 3) (hk_alloc Ka_7.out _) rfl
    go_wp2_with fail
    generalize hw : w7.alloc (Obj.cells #[.int .i64 p0, .int .i64 p1, .bool p2, .bool p3] 25) = w8
    have hb8 : Below w7.heap.size w7 w8 := by
      rw [← hw]
      exact (Below.refl _ _).alloc (by simp) _
    have Kp_8 : Hid (w8.heap[w7.heap.size]? = some (.cells #[.int .i64 p0, .int .i64 p1, .bool p2, .bool p3] 25 (0, 0))) := by
      show _ = _
      rw [← hw]
      exact (heap_alloc_new _ _)
    clear hw
    clear ca0 ca1 ca2 ca3
    have T8 : Below w.heap.size w w8 := T7.trans (hb8.mono T7.size)
    have HB8 := Lib.hid ((HB7.out.below hb8).keep hb8.size (fun _ _ => rfl))
    have Ka_8 : Hid (w8.heap[w1.heap.size]? = some (.cells #[.int .i64 a0, .int .i64 a1, .bool a2, .bool a3] 25 (0, 0))) := hk_below Ka_7.out hb8
    clear HB7 Ka_7
    have ca0 : w8.cell? ⟨w1.heap.size, 0, none⟩ = some (.int .i64 a0) := hk_cell (i := 0) Ka_8.out rfl
    have ca1 : w8.cell? ⟨w1.heap.size, 1, none⟩ = some (.int .i64 a1) := hk_cell (i := 1) Ka_8.out rfl
    have ca2 : w8.cell? ⟨w1.heap.size, 2, none⟩ = some (.bool a2) := hk_cell (i := 2) Ka_8.out rfl
    have ca3 : w8.cell? ⟨w1.heap.size, 3, none⟩ = some (.bool a3) := hk_cell (i := 3) Ka_8.out rfl
    go_wp2_with fail
    (with_reducible refine (sPartnerOf_r _ _ _ _ _ _ _ _ _ _ HhP.out).mono ?_)
    rintro e w9 ⟨rfl, hb9⟩
    clear ca0 ca1 ca2 ca3
    have T9 : Below w.heap.size w w9 := T8.trans (hb9.mono T8.size)
    have HB9 := Lib.hid ((HB8.out.below hb9).keep hb9.size (fun _ _ => rfl))
    have Ka_9 : Hid (w9.heap[w1.heap.size]? = some (.cells #[.int .i64 a0, .int .i64 a1, .bool a2, .bool a3] 25 (0, 0))) := hk_below Ka_8.out hb9
    have Kp_9 : Hid (w9.heap[w7.heap.size]? = some (.cells #[.int .i64 p0, .int .i64 p1, .bool p2, .bool p3] 25 (0, 0))) := hk_below Kp_8.out hb9
    clear HB8 Ka_8 Kp_8
    go_wp2_with fail
    generalize hw : w9.alloc (Obj.cells #[.int .i64 p0, .int .i64 p1, .bool p2, .bool p3] 25) = w10
    have hb10 : Below w9.heap.size w9 w10 := by
      rw [← hw]
      exact (Below.refl _ _).alloc (by simp) _
    have Kq_10 : Hid (w10.heap[w9.heap.size]? = some (.cells #[.int .i64 p0, .int .i64 p1, .bool p2, .bool p3] 25 (0, 0))) := by
      show _ = _
      rw [← hw]
      exact (heap_alloc_new _ _)
    clear hw
    have T10 : Below w.heap.size w w10 := T9.trans (hb10.mono T9.size)
    have HB10 := Lib.hid ((HB9.out.below hb10).keep hb10.size (fun _ _ => rfl))
    have Ka_10 : Hid (w10.heap[w1.heap.size]? = some (.cells #[.int .i64 a0, .int .i64 a1, .bool a2, .bool a3] 25 (0, 0))) := hk_below Ka_9.out hb10
    have Kp_10 : Hid (w10.heap[w7.heap.size]? = some (.cells #[.int .i64 p0, .int .i64 p1, .bool p2, .bool p3] 25 (0, 0))) := hk_below Kp_9.out hb10
    clear HB9 Ka_9 Kp_9
    go_wp2_with fail
    (with_reducible refine (DrawQuarterTurns_any a n c _ HB10.out hn).mono ?_)
    rintro e w11 ⟨x0, x1, x2, x3, dep, rfl, hb11⟩
    have T11 : Below w.heap.size w w11 := T10.trans (hb11.mono T10.size)
    have HB11 := Lib.hid ((HB10.out.below hb11).keep hb11.size (fun _ _ => rfl))
    have Ka_11 : Hid (w11.heap[w1.heap.size]? = some (.cells #[.int .i64 a0, .int .i64 a1, .bool a2, .bool a3] 25 (0, 0))) := hk_below Ka_10.out hb11
    have Kp_11 : Hid (w11.heap[w7.heap.size]? = some (.cells #[.int .i64 p0, .int .i64 p1, .bool p2, .bool p3] 25 (0, 0))) := hk_below Kp_10.out hb11
    have Kq_11 : Hid (w11.heap[w9.heap.size]? = some (.cells #[.int .i64 p0, .int .i64 p1, .bool p2, .bool p3] 25 (0, 0))) := hk_below Kq_10.out hb11
    clear HB10 Ka_10 Kp_10 Kq_10
    go_wp2_with fail
    generalize hw : w11.alloc (Obj.cells #[.int .i64 x0, .int .i64 x1, .bool x2, .bool x3] 25) = w12
    have hb12 : Below w11.heap.size w11 w12 := by
      rw [← hw]
      exact (Below.refl _ _).alloc (by simp) _
    have Kx_12 : Hid (w12.heap[w11.heap.size]? = some (.cells #[.int .i64 x0, .int .i64 x1, .bool x2, .bool x3] 25 (0, 0))) := by
      show _ = _
      rw [← hw]
      exact (heap_alloc_new _ _)
    clear hw
    have T12 : Below w.heap.size w w12 := T11.trans (hb12.mono T11.size)
    have HB12 := Lib.hid ((HB11.out.below hb12).keep hb12.size (fun _ _ => rfl))
    have Ka_12 : Hid (w12.heap[w1.heap.size]? = some (.cells #[.int .i64 a0, .int .i64 a1, .bool a2, .bool a3] 25 (0, 0))) := hk_below Ka_11.out hb12
    have Kp_12 : Hid (w12.heap[w7.heap.size]? = some (.cells #[.int .i64 p0, .int .i64 p1, .bool p2, .bool p3] 25 (0, 0))) := hk_below Kp_11.out hb12
    have Kq_12 : Hid (w12.heap[w9.heap.size]? = some (.cells #[.int .i64 p0, .int .i64 p1, .bool p2, .bool p3] 25 (0, 0))) := hk_below Kq_11.out hb12
    clear HB11 Ka_11 Kp_11 Kq_11
    obtain ⟨⟨k, five⟩, hQ⟩ : ∃ rr__, rr__ = qtR x0 x1 dep := ⟨_, rfl⟩
    have HhQ := Lib.hid hQ
    have cx0 : w12.cell? ⟨w11.heap.size, 0, none⟩ = some (.int .i64 x0) := hk_cell (i := 0) Kx_12.out rfl
    have cx1 : w12.cell? ⟨w11.heap.size, 1, none⟩ = some (.int .i64 x1) := hk_cell (i := 1) Kx_12.out rfl
    have cx2 : w12.cell? ⟨w11.heap.size, 2, none⟩ = some (.bool x2) := hk_cell (i := 2) Kx_12.out rfl
    have cx3 : w12.cell? ⟨w11.heap.size, 3, none⟩ = some (.bool x3) := hk_cell (i := 3) Kx_12.out rfl
    go_wp2_with fail
    (with_reducible refine (QuarterTurns_r _ _ _ _ _ _ _ _ HhQ.out).mono ?_)
    rintro e w13 ⟨rfl, hb13⟩
    clear cx0 cx1 cx2 cx3
    have T13 : Below w.heap.size w w13 := T12.trans (hb13.mono T12.size)
    have HB13 := Lib.hid ((HB12.out.below hb13).keep hb13.size (fun _ _ => rfl))
    have Ka_13 : Hid (w13.heap[w1.heap.size]? = some (.cells #[.int .i64 a0, .int .i64 a1, .bool a2, .bool a3] 25 (0, 0))) := hk_below Ka_12.out hb13
    have Kp_13 : Hid (w13.heap[w7.heap.size]? = some (.cells #[.int .i64 p0, .int .i64 p1, .bool p2, .bool p3] 25 (0, 0))) := hk_below Kp_12.out hb13
    have Kq_13 : Hid (w13.heap[w9.heap.size]? = some (.cells #[.int .i64 p0, .int .i64 p1, .bool p2, .bool p3] 25 (0, 0))) := hk_below Kq_12.out hb13
    have Kx_13 : Hid (w13.heap[w11.heap.size]? = some (.cells #[.int .i64 x0, .int .i64 x1, .bool x2, .bool x3] 25 (0, 0))) := hk_below Kx_12.out hb13
    clear HB12 Ka_12 Kp_12 Kq_12 Kx_12
    have cx0 : w13.cell? ⟨w11.heap.size, 0, none⟩ = some (.int .i64 x0) := hk_cell (i := 0) Kx_13.out rfl
    have cx1 : w13.cell? ⟨w11.heap.size, 1, none⟩ = some (.int .i64 x1) := hk_cell (i := 1) Kx_13.out rfl
    have cx2 : w13.cell? ⟨w11.heap.size, 2, none⟩ = some (.bool x2) := hk_cell (i := 2) Kx_13.out rfl
    have cx3 : w13.cell? ⟨w11.heap.size, 3, none⟩ = some (.bool x3) := hk_cell (i := 3) Kx_13.out rfl
    go_wp2_with fail
    (with_reducible refine (sQuarterTurns_r _ _ _ _ _ _ _ _ HhQ.out).mono ?_)
    rintro e w14 ⟨rfl, hb14⟩
    clear cx0 cx1 cx2 cx3
    have T14 : Below w.heap.size w w14 := T13.trans (hb14.mono T13.size)
    have HB14 := Lib.hid ((HB13.out.below hb14).keep hb14.size (fun _ _ => rfl))
    have Ka_14 : Hid (w14.heap[w1.heap.size]? = some (.cells #[.int .i64 a0, .int .i64 a1, .bool a2, .bool a3] 25 (0, 0))) := hk_below Ka_13.out hb14
    have Kp_14 : Hid (w14.heap[w7.heap.size]? = some (.cells #[.int .i64 p0, .int .i64 p1, .bool p2, .bool p3] 25 (0, 0))) := hk_below Kp_13.out hb14
    have Kq_14 : Hid (w14.heap[w9.heap.size]? = some (.cells #[.int .i64 p0, .int .i64 p1, .bool p2, .bool p3] 25 (0, 0))) := hk_below Kq_13.out hb14
    have Kx_14 : Hid (w14.heap[w11.heap.size]? = some (.cells #[.int .i64 x0, .int .i64 x1, .bool x2, .bool x3] 25 (0, 0))) := hk_below Kx_13.out hb14
    clear HB13 Ka_13 Kp_13 Kq_13 Kx_13
    have hQL := Lib.hid (qtR_law hQ)
    clear hQ HhQ
    go_wp2_with fail
    (with_reducible refine (DrawNearest_any a n c _ HB14.out hn).mono ?_)
    rintro e w15 ⟨v, rs, dd, pp, rfl, hrd, hrl, hb15⟩
    have T15 : Below w.heap.size w w15 := T14.trans (hb15.mono T14.size)
    have HB15 := Lib.hid ((HB14.out.below hb15).keep hb15.size (fun _ _ => rfl))
    have Ka_15 : Hid (w15.heap[w1.heap.size]? = some (.cells #[.int .i64 a0, .int .i64 a1, .bool a2, .bool a3] 25 (0, 0))) := hk_below Ka_14.out hb15
    have Kp_15 : Hid (w15.heap[w7.heap.size]? = some (.cells #[.int .i64 p0, .int .i64 p1, .bool p2, .bool p3] 25 (0, 0))) := hk_below Kp_14.out hb15
    have Kq_15 : Hid (w15.heap[w9.heap.size]? = some (.cells #[.int .i64 p0, .int .i64 p1, .bool p2, .bool p3] 25 (0, 0))) := hk_below Kq_14.out hb15
    have Kx_15 : Hid (w15.heap[w11.heap.size]? = some (.cells #[.int .i64 x0, .int .i64 x1, .bool x2, .bool x3] 25 (0, 0))) := hk_below Kx_14.out hb15
    clear HB14 Ka_14 Kp_14 Kq_14 Kx_14
    have FN_15 : Hid (RdThx w15 v rs) := hrd
    clear hrd
    have hrn : rs.length ≤ 1048576 := by omega
    obtain ⟨⟨nn, seven⟩, hN⟩ : ∃ rr__, rr__ = nearR rs dd pp := ⟨_, rfl⟩
    have HhN := Lib.hid hN
    go_wp2_with fail
    (with_reducible refine (NearestThread_r _ rs _ _ _ _ _ FN_15.out hrn HhN.out).mono ?_)
    rintro e w16 ⟨rfl, hb16⟩
    have T16 : Below w.heap.size w w16 := T15.trans (hb16.mono T15.size)
    have HB16 := Lib.hid ((HB15.out.below hb16).keep hb16.size (fun _ _ => rfl))
    have Ka_16 : Hid (w16.heap[w1.heap.size]? = some (.cells #[.int .i64 a0, .int .i64 a1, .bool a2, .bool a3] 25 (0, 0))) := hk_below Ka_15.out hb16
    have Kp_16 : Hid (w16.heap[w7.heap.size]? = some (.cells #[.int .i64 p0, .int .i64 p1, .bool p2, .bool p3] 25 (0, 0))) := hk_below Kp_15.out hb16
    have Kq_16 : Hid (w16.heap[w9.heap.size]? = some (.cells #[.int .i64 p0, .int .i64 p1, .bool p2, .bool p3] 25 (0, 0))) := hk_below Kq_15.out hb16
    have Kx_16 : Hid (w16.heap[w11.heap.size]? = some (.cells #[.int .i64 x0, .int .i64 x1, .bool x2, .bool x3] 25 (0, 0))) := hk_below Kx_15.out hb16
    have FN_16 : Hid (RdThx w16 v rs) := FN_15.out.below hb16
    clear HB15 Ka_15 Kp_15 Kq_15 Kx_15 FN_15
    go_wp2_with fail
    (with_reducible refine (sNearestThread_r _ rs _ _ _ _ _ FN_16.out hrn HhN.out).mono ?_)
    rintro e w17 ⟨rfl, hb17⟩
    have T17 : Below w.heap.size w w17 := T16.trans (hb17.mono T16.size)
    have HB17 := Lib.hid ((HB16.out.below hb17).keep hb17.size (fun _ _ => rfl))
    have Ka_17 : Hid (w17.heap[w1.heap.size]? = some (.cells #[.int .i64 a0, .int .i64 a1, .bool a2, .bool a3] 25 (0, 0))) := hk_below Ka_16.out hb17
    have Kp_17 : Hid (w17.heap[w7.heap.size]? = some (.cells #[.int .i64 p0, .int .i64 p1, .bool p2, .bool p3] 25 (0, 0))) := hk_below Kp_16.out hb17
    have Kq_17 : Hid (w17.heap[w9.heap.size]? = some (.cells #[.int .i64 p0, .int .i64 p1, .bool p2, .bool p3] 25 (0, 0))) := hk_below Kq_16.out hb17
    have Kx_17 : Hid (w17.heap[w11.heap.size]? = some (.cells #[.int .i64 x0, .int .i64 x1, .bool x2, .bool x3] 25 (0, 0))) := hk_below Kx_16.out hb17
    have FN_17 : Hid (RdThx w17 v rs) := FN_16.out.below hb17
    clear HB16 Ka_16 Kp_16 Kq_16 Kx_16 FN_16
    clear hN HhN
    have hneq := thr_neq_same p0 p1 p2 p3
    have cp0 : w17.cell? ⟨w7.heap.size, 0, none⟩ = some (.int .i64 p0) := hk_cell (i := 0) Kp_17.out rfl
    have cp1 : w17.cell? ⟨w7.heap.size, 1, none⟩ = some (.int .i64 p1) := hk_cell (i := 1) Kp_17.out rfl
    have cp2 : w17.cell? ⟨w7.heap.size, 2, none⟩ = some (.bool p2) := hk_cell (i := 2) Kp_17.out rfl
    have cp3 : w17.cell? ⟨w7.heap.size, 3, none⟩ = some (.bool p3) := hk_cell (i := 3) Kp_17.out rfl
    have cq0 : w17.cell? ⟨w9.heap.size, 0, none⟩ = some (.int .i64 p0) := hk_cell (i := 0) Kq_17.out rfl
    have cq1 : w17.cell? ⟨w9.heap.size, 1, none⟩ = some (.int .i64 p1) := hk_cell (i := 1) Kq_17.out rfl
    have cq2 : w17.cell? ⟨w9.heap.size, 2, none⟩ = some (.bool p2) := hk_cell (i := 2) Kq_17.out rfl
    have cq3 : w17.cell? ⟨w9.heap.size, 3, none⟩ = some (.bool p3) := hk_cell (i := 3) Kq_17.out rfl
    by_cases hfive : five = 0
    · obtain ⟨p1', p2', n1', n2', k0, k2, kw, kp, kb⟩ := hQL.out hfive
      clear hQL
      subst hfive
      have e1 : (k - 1) * x1 = k * x1 - x1 := by rw [Int.sub_mul]; omega
      rw [e1] at kp
      have kk0 : 0 ≤ k * x1 := Int.mul_nonneg k0 (by omega)
      generalize hkx : k * x1 = kx at *
      have wa1 : IntKind.i64.wrap kx = kx := IntWalk.i64_in _ (by omega)
      have wa2 : IntKind.i64.wrap (40 * dep) = 40 * dep := IntWalk.i64_in _ (by omega)
      have wa3 : IntKind.i64.wrap (k - 1) = k - 1 := IntWalk.i64_in _ (by omega)
      have wa4 : IntKind.i64.wrap ((k - 1) * x1) = kx - x1 := by rw [e1]; exact IntWalk.i64_in _ (by omega)
      have hd1 : decide (kx < 40 * dep) = false := by simp; omega
      clear e1 kw
      by_cases hk0 : 0 < k
      · have kp2 := kp hk0
        clear kp
        have hd2 : decide (0 < k) = true := by simpa using hk0
        have hd3 : decide (40 * dep ≤ kx - x1) = false := by simp; omega
        have cx0 : w17.cell? ⟨w11.heap.size, 0, none⟩ = some (.int .i64 x0) := hk_cell (i := 0) Kx_17.out rfl
        have cx1 : w17.cell? ⟨w11.heap.size, 1, none⟩ = some (.int .i64 x1) := hk_cell (i := 1) Kx_17.out rfl
        have cx2 : w17.cell? ⟨w11.heap.size, 2, none⟩ = some (.bool x2) := hk_cell (i := 2) Kx_17.out rfl
        have cx3 : w17.cell? ⟨w11.heap.size, 3, none⟩ = some (.bool x3) := hk_cell (i := 3) Kx_17.out rfl
        by_cases hone : one = 0
        · have hfv := hFL.out hone
          clear hFL
          subst hone
          by_cases hbad : bad = 5
          · have hfe : f = true := by rw [hfv]; simp [hbad]
            clear hfv
            subst hfe hbad
            by_cases hthree : three = 0
            · obtain ⟨h1, h2⟩ := hPL.out hthree
              clear hPL
              subst hthree
              have H1 := Lib.hid h1
              have H2 := Lib.hid h2
              clear h1 h2
              have ca0 : w17.cell? ⟨w1.heap.size, 0, none⟩ = some (.int .i64 a0) := hk_cell (i := 0) Ka_17.out rfl
              have ca1 : w17.cell? ⟨w1.heap.size, 1, none⟩ = some (.int .i64 a1) := hk_cell (i := 1) Ka_17.out rfl
              have ca2 : w17.cell? ⟨w1.heap.size, 2, none⟩ = some (.bool a2) := hk_cell (i := 2) Ka_17.out rfl
              have ca3 : w17.cell? ⟨w1.heap.size, 3, none⟩ = some (.bool a3) := hk_cell (i := 3) Ka_17.out rfl
              go_wp2_with fail
              (with_reducible refine (DoFit_r _ _ _ _ _ _ _ _ _ _ _ H1.out).mono ?_)
              rintro e w18 ⟨rfl, hb18⟩
              clear ca0 ca1 ca2 ca3
              have T18 : Below w.heap.size w w18 := T17.trans (hb18.mono T17.size)
              have HB18 := Lib.hid ((HB17.out.below hb18).keep hb18.size (fun _ _ => rfl))
              have Ka_18 : Hid (w18.heap[w1.heap.size]? = some (.cells #[.int .i64 a0, .int .i64 a1, .bool a2, .bool a3] 25 (0, 0))) := hk_below Ka_17.out hb18
              have Kp_18 : Hid (w18.heap[w7.heap.size]? = some (.cells #[.int .i64 p0, .int .i64 p1, .bool p2, .bool p3] 25 (0, 0))) := hk_below Kp_17.out hb18
              have Kq_18 : Hid (w18.heap[w9.heap.size]? = some (.cells #[.int .i64 p0, .int .i64 p1, .bool p2, .bool p3] 25 (0, 0))) := hk_below Kq_17.out hb18
              have Kx_18 : Hid (w18.heap[w11.heap.size]? = some (.cells #[.int .i64 x0, .int .i64 x1, .bool x2, .bool x3] 25 (0, 0))) := hk_below Kx_17.out hb18
              clear HB17 Ka_17 Kp_17 Kq_17 Kx_17
              have ca0 : w18.cell? ⟨w1.heap.size, 0, none⟩ = some (.int .i64 a0) := hk_cell (i := 0) Ka_18.out rfl
              have ca1 : w18.cell? ⟨w1.heap.size, 1, none⟩ = some (.int .i64 a1) := hk_cell (i := 1) Ka_18.out rfl
              have ca2 : w18.cell? ⟨w1.heap.size, 2, none⟩ = some (.bool a2) := hk_cell (i := 2) Ka_18.out rfl
              have ca3 : w18.cell? ⟨w1.heap.size, 3, none⟩ = some (.bool a3) := hk_cell (i := 3) Ka_18.out rfl
              go_wp2_with fail
              (with_reducible refine (DoFit_r _ _ _ _ _ _ _ _ _ _ _ H2.out).mono ?_)
              rintro e w19 ⟨rfl, hb19⟩
              clear ca0 ca1 ca2 ca3
              have T19 : Below w.heap.size w w19 := T18.trans (hb19.mono T18.size)
              have HB19 := Lib.hid ((HB18.out.below hb19).keep hb19.size (fun _ _ => rfl))
              have Ka_19 : Hid (w19.heap[w1.heap.size]? = some (.cells #[.int .i64 a0, .int .i64 a1, .bool a2, .bool a3] 25 (0, 0))) := hk_below Ka_18.out hb19
              have Kp_19 : Hid (w19.heap[w7.heap.size]? = some (.cells #[.int .i64 p0, .int .i64 p1, .bool p2, .bool p3] 25 (0, 0))) := hk_below Kp_18.out hb19
              have Kq_19 : Hid (w19.heap[w9.heap.size]? = some (.cells #[.int .i64 p0, .int .i64 p1, .bool p2, .bool p3] 25 (0, 0))) := hk_below Kq_18.out hb19
              have Kx_19 : Hid (w19.heap[w11.heap.size]? = some (.cells #[.int .i64 x0, .int .i64 x1, .bool x2, .bool x3] 25 (0, 0))) := hk_below Kx_18.out hb19
              clear HB18 Ka_18 Kp_18 Kq_18 Kx_18
              go_wp2
              go_ret
              exact ⟨rfl, T19⟩
            · clear hPL
              have htq : (three == 0) = false := by rw [beq_eq_false_iff_ne]; exact hthree
              go_wp2
              go_ret
              exact ⟨rfl, T17⟩
          · have hfe : f = false := by rw [hfv]; simp [hbad]
            clear hfv
            subst hfe
            have hbq : (bad == 5) = false := by rw [beq_eq_false_iff_ne]; exact hbad
            by_cases hthree : three = 0
            · obtain ⟨h1, h2⟩ := hPL.out hthree
              clear hPL
              subst hthree
              have H1 := Lib.hid h1
              have H2 := Lib.hid h2
              clear h1 h2
              have ca0 : w17.cell? ⟨w1.heap.size, 0, none⟩ = some (.int .i64 a0) := hk_cell (i := 0) Ka_17.out rfl
              have ca1 : w17.cell? ⟨w1.heap.size, 1, none⟩ = some (.int .i64 a1) := hk_cell (i := 1) Ka_17.out rfl
              have ca2 : w17.cell? ⟨w1.heap.size, 2, none⟩ = some (.bool a2) := hk_cell (i := 2) Ka_17.out rfl
              have ca3 : w17.cell? ⟨w1.heap.size, 3, none⟩ = some (.bool a3) := hk_cell (i := 3) Ka_17.out rfl
              go_wp2_with fail
              (with_reducible refine (DoFit_r _ _ _ _ _ _ _ _ _ _ _ H1.out).mono ?_)
              rintro e w18 ⟨rfl, hb18⟩
              clear ca0 ca1 ca2 ca3
              have T18 : Below w.heap.size w w18 := T17.trans (hb18.mono T17.size)
              have HB18 := Lib.hid ((HB17.out.below hb18).keep hb18.size (fun _ _ => rfl))
              have Ka_18 : Hid (w18.heap[w1.heap.size]? = some (.cells #[.int .i64 a0, .int .i64 a1, .bool a2, .bool a3] 25 (0, 0))) := hk_below Ka_17.out hb18
              have Kp_18 : Hid (w18.heap[w7.heap.size]? = some (.cells #[.int .i64 p0, .int .i64 p1, .bool p2, .bool p3] 25 (0, 0))) := hk_below Kp_17.out hb18
              have Kq_18 : Hid (w18.heap[w9.heap.size]? = some (.cells #[.int .i64 p0, .int .i64 p1, .bool p2, .bool p3] 25 (0, 0))) := hk_below Kq_17.out hb18
              have Kx_18 : Hid (w18.heap[w11.heap.size]? = some (.cells #[.int .i64 x0, .int .i64 x1, .bool x2, .bool x3] 25 (0, 0))) := hk_below Kx_17.out hb18
              clear HB17 Ka_17 Kp_17 Kq_17 Kx_17
              have ca0 : w18.cell? ⟨w1.heap.size, 0, none⟩ = some (.int .i64 a0) := hk_cell (i := 0) Ka_18.out rfl
              have ca1 : w18.cell? ⟨w1.heap.size, 1, none⟩ = some (.int .i64 a1) := hk_cell (i := 1) Ka_18.out rfl
              have ca2 : w18.cell? ⟨w1.heap.size, 2, none⟩ = some (.bool a2) := hk_cell (i := 2) Ka_18.out rfl
              have ca3 : w18.cell? ⟨w1.heap.size, 3, none⟩ = some (.bool a3) := hk_cell (i := 3) Ka_18.out rfl
              go_wp2_with fail
              (with_reducible refine (DoFit_r _ _ _ _ _ _ _ _ _ _ _ H2.out).mono ?_)
              rintro e w19 ⟨rfl, hb19⟩
              clear ca0 ca1 ca2 ca3
              have T19 : Below w.heap.size w w19 := T18.trans (hb19.mono T18.size)
              have HB19 := Lib.hid ((HB18.out.below hb19).keep hb19.size (fun _ _ => rfl))
              have Ka_19 : Hid (w19.heap[w1.heap.size]? = some (.cells #[.int .i64 a0, .int .i64 a1, .bool a2, .bool a3] 25 (0, 0))) := hk_below Ka_18.out hb19
              have Kp_19 : Hid (w19.heap[w7.heap.size]? = some (.cells #[.int .i64 p0, .int .i64 p1, .bool p2, .bool p3] 25 (0, 0))) := hk_below Kp_18.out hb19
              have Kq_19 : Hid (w19.heap[w9.heap.size]? = some (.cells #[.int .i64 p0, .int .i64 p1, .bool p2, .bool p3] 25 (0, 0))) := hk_below Kq_18.out hb19
              have Kx_19 : Hid (w19.heap[w11.heap.size]? = some (.cells #[.int .i64 x0, .int .i64 x1, .bool x2, .bool x3] 25 (0, 0))) := hk_below Kx_18.out hb19
              clear HB18 Ka_18 Kp_18 Kq_18 Kx_18
              go_wp2
              go_ret
              exact ⟨rfl, T19⟩
            · clear hPL
              have htq : (three == 0) = false := by rw [beq_eq_false_iff_ne]; exact hthree
              go_wp2
              go_ret
              exact ⟨rfl, T17⟩
        · clear hFL
          have hoq : (one == 0) = false := by rw [beq_eq_false_iff_ne]; exact hone
          by_cases hthree : three = 0
          · obtain ⟨h1, h2⟩ := hPL.out hthree
            clear hPL
            subst hthree
            have H1 := Lib.hid h1
            have H2 := Lib.hid h2
            clear h1 h2
            have ca0 : w17.cell? ⟨w1.heap.size, 0, none⟩ = some (.int .i64 a0) := hk_cell (i := 0) Ka_17.out rfl
            have ca1 : w17.cell? ⟨w1.heap.size, 1, none⟩ = some (.int .i64 a1) := hk_cell (i := 1) Ka_17.out rfl
            have ca2 : w17.cell? ⟨w1.heap.size, 2, none⟩ = some (.bool a2) := hk_cell (i := 2) Ka_17.out rfl
            have ca3 : w17.cell? ⟨w1.heap.size, 3, none⟩ = some (.bool a3) := hk_cell (i := 3) Ka_17.out rfl
            go_wp2_with fail
            (with_reducible refine (DoFit_r _ _ _ _ _ _ _ _ _ _ _ H1.out).mono ?_)
            rintro e w18 ⟨rfl, hb18⟩
            clear ca0 ca1 ca2 ca3
            have T18 : Below w.heap.size w w18 := T17.trans (hb18.mono T17.size)
            have HB18 := Lib.hid ((HB17.out.below hb18).keep hb18.size (fun _ _ => rfl))
            have Ka_18 : Hid (w18.heap[w1.heap.size]? = some (.cells #[.int .i64 a0, .int .i64 a1, .bool a2, .bool a3] 25 (0, 0))) := hk_below Ka_17.out hb18
            have Kp_18 : Hid (w18.heap[w7.heap.size]? = some (.cells #[.int .i64 p0, .int .i64 p1, .bool p2, .bool p3] 25 (0, 0))) := hk_below Kp_17.out hb18
            have Kq_18 : Hid (w18.heap[w9.heap.size]? = some (.cells #[.int .i64 p0, .int .i64 p1, .bool p2, .bool p3] 25 (0, 0))) := hk_below Kq_17.out hb18
            have Kx_18 : Hid (w18.heap[w11.heap.size]? = some (.cells #[.int .i64 x0, .int .i64 x1, .bool x2, .bool x3] 25 (0, 0))) := hk_below Kx_17.out hb18
            clear HB17 Ka_17 Kp_17 Kq_17 Kx_17
            have ca0 : w18.cell? ⟨w1.heap.size, 0, none⟩ = some (.int .i64 a0) := hk_cell (i := 0) Ka_18.out rfl
            have ca1 : w18.cell? ⟨w1.heap.size, 1, none⟩ = some (.int .i64 a1) := hk_cell (i := 1) Ka_18.out rfl
            have ca2 : w18.cell? ⟨w1.heap.size, 2, none⟩ = some (.bool a2) := hk_cell (i := 2) Ka_18.out rfl
            have ca3 : w18.cell? ⟨w1.heap.size, 3, none⟩ = some (.bool a3) := hk_cell (i := 3) Ka_18.out rfl
            go_wp2_with fail
            (with_reducible refine (DoFit_r _ _ _ _ _ _ _ _ _ _ _ H2.out).mono ?_)
            rintro e w19 ⟨rfl, hb19⟩
            clear ca0 ca1 ca2 ca3
            have T19 : Below w.heap.size w w19 := T18.trans (hb19.mono T18.size)
            have HB19 := Lib.hid ((HB18.out.below hb19).keep hb19.size (fun _ _ => rfl))
            have Ka_19 : Hid (w19.heap[w1.heap.size]? = some (.cells #[.int .i64 a0, .int .i64 a1, .bool a2, .bool a3] 25 (0, 0))) := hk_below Ka_18.out hb19
            have Kp_19 : Hid (w19.heap[w7.heap.size]? = some (.cells #[.int .i64 p0, .int .i64 p1, .bool p2, .bool p3] 25 (0, 0))) := hk_below Kp_18.out hb19
            have Kq_19 : Hid (w19.heap[w9.heap.size]? = some (.cells #[.int .i64 p0, .int .i64 p1, .bool p2, .bool p3] 25 (0, 0))) := hk_below Kq_18.out hb19
            have Kx_19 : Hid (w19.heap[w11.heap.size]? = some (.cells #[.int .i64 x0, .int .i64 x1, .bool x2, .bool x3] 25 (0, 0))) := hk_below Kx_18.out hb19
            clear HB18 Ka_18 Kp_18 Kq_18 Kx_18
            go_wp2
            go_ret
            exact ⟨rfl, T19⟩
          · clear hPL
            have htq : (three == 0) = false := by rw [beq_eq_false_iff_ne]; exact hthree
            go_wp2
            go_ret
            exact ⟨rfl, T17⟩
      · clear kp
        have hd2 : decide (0 < k) = false := by simpa using hk0
        have cx0 : w17.cell? ⟨w11.heap.size, 0, none⟩ = some (.int .i64 x0) := hk_cell (i := 0) Kx_17.out rfl
        have cx1 : w17.cell? ⟨w11.heap.size, 1, none⟩ = some (.int .i64 x1) := hk_cell (i := 1) Kx_17.out rfl
        have cx2 : w17.cell? ⟨w11.heap.size, 2, none⟩ = some (.bool x2) := hk_cell (i := 2) Kx_17.out rfl
        have cx3 : w17.cell? ⟨w11.heap.size, 3, none⟩ = some (.bool x3) := hk_cell (i := 3) Kx_17.out rfl
        by_cases hone : one = 0
        · have hfv := hFL.out hone
          clear hFL
          subst hone
          by_cases hbad : bad = 5
          · have hfe : f = true := by rw [hfv]; simp [hbad]
            clear hfv
            subst hfe hbad
            by_cases hthree : three = 0
            · obtain ⟨h1, h2⟩ := hPL.out hthree
              clear hPL
              subst hthree
              have H1 := Lib.hid h1
              have H2 := Lib.hid h2
              clear h1 h2
              have ca0 : w17.cell? ⟨w1.heap.size, 0, none⟩ = some (.int .i64 a0) := hk_cell (i := 0) Ka_17.out rfl
              have ca1 : w17.cell? ⟨w1.heap.size, 1, none⟩ = some (.int .i64 a1) := hk_cell (i := 1) Ka_17.out rfl
              have ca2 : w17.cell? ⟨w1.heap.size, 2, none⟩ = some (.bool a2) := hk_cell (i := 2) Ka_17.out rfl
              have ca3 : w17.cell? ⟨w1.heap.size, 3, none⟩ = some (.bool a3) := hk_cell (i := 3) Ka_17.out rfl
              go_wp2_with fail
              (with_reducible refine (DoFit_r _ _ _ _ _ _ _ _ _ _ _ H1.out).mono ?_)
              rintro e w18 ⟨rfl, hb18⟩
              clear ca0 ca1 ca2 ca3
              have T18 : Below w.heap.size w w18 := T17.trans (hb18.mono T17.size)
              have HB18 := Lib.hid ((HB17.out.below hb18).keep hb18.size (fun _ _ => rfl))
              have Ka_18 : Hid (w18.heap[w1.heap.size]? = some (.cells #[.int .i64 a0, .int .i64 a1, .bool a2, .bool a3] 25 (0, 0))) := hk_below Ka_17.out hb18
              have Kp_18 : Hid (w18.heap[w7.heap.size]? = some (.cells #[.int .i64 p0, .int .i64 p1, .bool p2, .bool p3] 25 (0, 0))) := hk_below Kp_17.out hb18
              have Kq_18 : Hid (w18.heap[w9.heap.size]? = some (.cells #[.int .i64 p0, .int .i64 p1, .bool p2, .bool p3] 25 (0, 0))) := hk_below Kq_17.out hb18
              have Kx_18 : Hid (w18.heap[w11.heap.size]? = some (.cells #[.int .i64 x0, .int .i64 x1, .bool x2, .bool x3] 25 (0, 0))) := hk_below Kx_17.out hb18
              clear HB17 Ka_17 Kp_17 Kq_17 Kx_17
              have ca0 : w18.cell? ⟨w1.heap.size, 0, none⟩ = some (.int .i64 a0) := hk_cell (i := 0) Ka_18.out rfl
              have ca1 : w18.cell? ⟨w1.heap.size, 1, none⟩ = some (.int .i64 a1) := hk_cell (i := 1) Ka_18.out rfl
              have ca2 : w18.cell? ⟨w1.heap.size, 2, none⟩ = some (.bool a2) := hk_cell (i := 2) Ka_18.out rfl
              have ca3 : w18.cell? ⟨w1.heap.size, 3, none⟩ = some (.bool a3) := hk_cell (i := 3) Ka_18.out rfl
              go_wp2_with fail
              (with_reducible refine (DoFit_r _ _ _ _ _ _ _ _ _ _ _ H2.out).mono ?_)
              rintro e w19 ⟨rfl, hb19⟩
              clear ca0 ca1 ca2 ca3
              have T19 : Below w.heap.size w w19 := T18.trans (hb19.mono T18.size)
              have HB19 := Lib.hid ((HB18.out.below hb19).keep hb19.size (fun _ _ => rfl))
              have Ka_19 : Hid (w19.heap[w1.heap.size]? = some (.cells #[.int .i64 a0, .int .i64 a1, .bool a2, .bool a3] 25 (0, 0))) := hk_below Ka_18.out hb19
              have Kp_19 : Hid (w19.heap[w7.heap.size]? = some (.cells #[.int .i64 p0, .int .i64 p1, .bool p2, .bool p3] 25 (0, 0))) := hk_below Kp_18.out hb19
              have Kq_19 : Hid (w19.heap[w9.heap.size]? = some (.cells #[.int .i64 p0, .int .i64 p1, .bool p2, .bool p3] 25 (0, 0))) := hk_below Kq_18.out hb19
              have Kx_19 : Hid (w19.heap[w11.heap.size]? = some (.cells #[.int .i64 x0, .int .i64 x1, .bool x2, .bool x3] 25 (0, 0))) := hk_below Kx_18.out hb19
              clear HB18 Ka_18 Kp_18 Kq_18 Kx_18
              go_wp2
              go_ret
              exact ⟨rfl, T19⟩
            · clear hPL
              have htq : (three == 0) = false := by rw [beq_eq_false_iff_ne]; exact hthree
              go_wp2
              go_ret
              exact ⟨rfl, T17⟩
          · have hfe : f = false := by rw [hfv]; simp [hbad]
            clear hfv
            subst hfe
            have hbq : (bad == 5) = false := by rw [beq_eq_false_iff_ne]; exact hbad
            by_cases hthree : three = 0
            · obtain ⟨h1, h2⟩ := hPL.out hthree
              clear hPL
              subst hthree
              have H1 := Lib.hid h1
              have H2 := Lib.hid h2
              clear h1 h2
              have ca0 : w17.cell? ⟨w1.heap.size, 0, none⟩ = some (.int .i64 a0) := hk_cell (i := 0) Ka_17.out rfl
              have ca1 : w17.cell? ⟨w1.heap.size, 1, none⟩ = some (.int .i64 a1) := hk_cell (i := 1) Ka_17.out rfl
              have ca2 : w17.cell? ⟨w1.heap.size, 2, none⟩ = some (.bool a2) := hk_cell (i := 2) Ka_17.out rfl
              have ca3 : w17.cell? ⟨w1.heap.size, 3, none⟩ = some (.bool a3) := hk_cell (i := 3) Ka_17.out rfl
              go_wp2_with fail
              (with_reducible refine (DoFit_r _ _ _ _ _ _ _ _ _ _ _ H1.out).mono ?_)
              rintro e w18 ⟨rfl, hb18⟩
              clear ca0 ca1 ca2 ca3
              have T18 : Below w.heap.size w w18 := T17.trans (hb18.mono T17.size)
              have HB18 := Lib.hid ((HB17.out.below hb18).keep hb18.size (fun _ _ => rfl))
              have Ka_18 : Hid (w18.heap[w1.heap.size]? = some (.cells #[.int .i64 a0, .int .i64 a1, .bool a2, .bool a3] 25 (0, 0))) := hk_below Ka_17.out hb18
              have Kp_18 : Hid (w18.heap[w7.heap.size]? = some (.cells #[.int .i64 p0, .int .i64 p1, .bool p2, .bool p3] 25 (0, 0))) := hk_below Kp_17.out hb18
              have Kq_18 : Hid (w18.heap[w9.heap.size]? = some (.cells #[.int .i64 p0, .int .i64 p1, .bool p2, .bool p3] 25 (0, 0))) := hk_below Kq_17.out hb18
              have Kx_18 : Hid (w18.heap[w11.heap.size]? = some (.cells #[.int .i64 x0, .int .i64 x1, .bool x2, .bool x3] 25 (0, 0))) := hk_below Kx_17.out hb18
              clear HB17 Ka_17 Kp_17 Kq_17 Kx_17
              have ca0 : w18.cell? ⟨w1.heap.size, 0, none⟩ = some (.int .i64 a0) := hk_cell (i := 0) Ka_18.out rfl
              have ca1 : w18.cell? ⟨w1.heap.size, 1, none⟩ = some (.int .i64 a1) := hk_cell (i := 1) Ka_18.out rfl
              have ca2 : w18.cell? ⟨w1.heap.size, 2, none⟩ = some (.bool a2) := hk_cell (i := 2) Ka_18.out rfl
              have ca3 : w18.cell? ⟨w1.heap.size, 3, none⟩ = some (.bool a3) := hk_cell (i := 3) Ka_18.out rfl
              go_wp2_with fail
              (with_reducible refine (DoFit_r _ _ _ _ _ _ _ _ _ _ _ H2.out).mono ?_)
              rintro e w19 ⟨rfl, hb19⟩
              clear ca0 ca1 ca2 ca3
              have T19 : Below w.heap.size w w19 := T18.trans (hb19.mono T18.size)
              have HB19 := Lib.hid ((HB18.out.below hb19).keep hb19.size (fun _ _ => rfl))
              have Ka_19 : Hid (w19.heap[w1.heap.size]? = some (.cells #[.int .i64 a0, .int .i64 a1, .bool a2, .bool a3] 25 (0, 0))) := hk_below Ka_18.out hb19
              have Kp_19 : Hid (w19.heap[w7.heap.size]? = some (.cells #[.int .i64 p0, .int .i64 p1, .bool p2, .bool p3] 25 (0, 0))) := hk_below Kp_18.out hb19
              have Kq_19 : Hid (w19.heap[w9.heap.size]? = some (.cells #[.int .i64 p0, .int .i64 p1, .bool p2, .bool p3] 25 (0, 0))) := hk_below Kq_18.out hb19
              have Kx_19 : Hid (w19.heap[w11.heap.size]? = some (.cells #[.int .i64 x0, .int .i64 x1, .bool x2, .bool x3] 25 (0, 0))) := hk_below Kx_18.out hb19
              clear HB18 Ka_18 Kp_18 Kq_18 Kx_18
              go_wp2
              go_ret
              exact ⟨rfl, T19⟩
            · clear hPL
              have htq : (three == 0) = false := by rw [beq_eq_false_iff_ne]; exact hthree
              go_wp2
              go_ret
              exact ⟨rfl, T17⟩
        · clear hFL
          have hoq : (one == 0) = false := by rw [beq_eq_false_iff_ne]; exact hone
          by_cases hthree : three = 0
          · obtain ⟨h1, h2⟩ := hPL.out hthree
            clear hPL
            subst hthree
            have H1 := Lib.hid h1
            have H2 := Lib.hid h2
            clear h1 h2
            have ca0 : w17.cell? ⟨w1.heap.size, 0, none⟩ = some (.int .i64 a0) := hk_cell (i := 0) Ka_17.out rfl
            have ca1 : w17.cell? ⟨w1.heap.size, 1, none⟩ = some (.int .i64 a1) := hk_cell (i := 1) Ka_17.out rfl
            have ca2 : w17.cell? ⟨w1.heap.size, 2, none⟩ = some (.bool a2) := hk_cell (i := 2) Ka_17.out rfl
            have ca3 : w17.cell? ⟨w1.heap.size, 3, none⟩ = some (.bool a3) := hk_cell (i := 3) Ka_17.out rfl
            go_wp2_with fail
            (with_reducible refine (DoFit_r _ _ _ _ _ _ _ _ _ _ _ H1.out).mono ?_)
            rintro e w18 ⟨rfl, hb18⟩
            clear ca0 ca1 ca2 ca3
            have T18 : Below w.heap.size w w18 := T17.trans (hb18.mono T17.size)
            have HB18 := Lib.hid ((HB17.out.below hb18).keep hb18.size (fun _ _ => rfl))
            have Ka_18 : Hid (w18.heap[w1.heap.size]? = some (.cells #[.int .i64 a0, .int .i64 a1, .bool a2, .bool a3] 25 (0, 0))) := hk_below Ka_17.out hb18
            have Kp_18 : Hid (w18.heap[w7.heap.size]? = some (.cells #[.int .i64 p0, .int .i64 p1, .bool p2, .bool p3] 25 (0, 0))) := hk_below Kp_17.out hb18
            have Kq_18 : Hid (w18.heap[w9.heap.size]? = some (.cells #[.int .i64 p0, .int .i64 p1, .bool p2, .bool p3] 25 (0, 0))) := hk_below Kq_17.out hb18
            have Kx_18 : Hid (w18.heap[w11.heap.size]? = some (.cells #[.int .i64 x0, .int .i64 x1, .bool x2, .bool x3] 25 (0, 0))) := hk_below Kx_17.out hb18
            clear HB17 Ka_17 Kp_17 Kq_17 Kx_17
            have ca0 : w18.cell? ⟨w1.heap.size, 0, none⟩ = some (.int .i64 a0) := hk_cell (i := 0) Ka_18.out rfl
            have ca1 : w18.cell? ⟨w1.heap.size, 1, none⟩ = some (.int .i64 a1) := hk_cell (i := 1) Ka_18.out rfl
            have ca2 : w18.cell? ⟨w1.heap.size, 2, none⟩ = some (.bool a2) := hk_cell (i := 2) Ka_18.out rfl
            have ca3 : w18.cell? ⟨w1.heap.size, 3, none⟩ = some (.bool a3) := hk_cell (i := 3) Ka_18.out rfl
            go_wp2_with fail
            (with_reducible refine (DoFit_r _ _ _ _ _ _ _ _ _ _ _ H2.out).mono ?_)
            rintro e w19 ⟨rfl, hb19⟩
            clear ca0 ca1 ca2 ca3
            have T19 : Below w.heap.size w w19 := T18.trans (hb19.mono T18.size)
            have HB19 := Lib.hid ((HB18.out.below hb19).keep hb19.size (fun _ _ => rfl))
            have Ka_19 : Hid (w19.heap[w1.heap.size]? = some (.cells #[.int .i64 a0, .int .i64 a1, .bool a2, .bool a3] 25 (0, 0))) := hk_below Ka_18.out hb19
            have Kp_19 : Hid (w19.heap[w7.heap.size]? = some (.cells #[.int .i64 p0, .int .i64 p1, .bool p2, .bool p3] 25 (0, 0))) := hk_below Kp_18.out hb19
            have Kq_19 : Hid (w19.heap[w9.heap.size]? = some (.cells #[.int .i64 p0, .int .i64 p1, .bool p2, .bool p3] 25 (0, 0))) := hk_below Kq_18.out hb19
            have Kx_19 : Hid (w19.heap[w11.heap.size]? = some (.cells #[.int .i64 x0, .int .i64 x1, .bool x2, .bool x3] 25 (0, 0))) := hk_below Kx_18.out hb19
            clear HB18 Ka_18 Kp_18 Kq_18 Kx_18
            go_wp2
            go_ret
            exact ⟨rfl, T19⟩
          · clear hPL
            have htq : (three == 0) = false := by rw [beq_eq_false_iff_ne]; exact hthree
            go_wp2
            go_ret
            exact ⟨rfl, T17⟩
    · clear hQL
      have hfq5 : (five == 0) = false := by rw [beq_eq_false_iff_ne]; exact hfive
      by_cases hone : one = 0
      · have hfv := hFL.out hone
        clear hFL
        subst hone
        by_cases hbad : bad = 5
        · have hfe : f = true := by rw [hfv]; simp [hbad]
          clear hfv
          subst hfe hbad
          by_cases hthree : three = 0
          · obtain ⟨h1, h2⟩ := hPL.out hthree
            clear hPL
            subst hthree
            have H1 := Lib.hid h1
            have H2 := Lib.hid h2
            clear h1 h2
            have ca0 : w17.cell? ⟨w1.heap.size, 0, none⟩ = some (.int .i64 a0) := hk_cell (i := 0) Ka_17.out rfl
            have ca1 : w17.cell? ⟨w1.heap.size, 1, none⟩ = some (.int .i64 a1) := hk_cell (i := 1) Ka_17.out rfl
            have ca2 : w17.cell? ⟨w1.heap.size, 2, none⟩ = some (.bool a2) := hk_cell (i := 2) Ka_17.out rfl
            have ca3 : w17.cell? ⟨w1.heap.size, 3, none⟩ = some (.bool a3) := hk_cell (i := 3) Ka_17.out rfl
            go_wp2_with fail
            (with_reducible refine (DoFit_r _ _ _ _ _ _ _ _ _ _ _ H1.out).mono ?_)
            rintro e w18 ⟨rfl, hb18⟩
            clear ca0 ca1 ca2 ca3
            have T18 : Below w.heap.size w w18 := T17.trans (hb18.mono T17.size)
            have HB18 := Lib.hid ((HB17.out.below hb18).keep hb18.size (fun _ _ => rfl))
            have Ka_18 : Hid (w18.heap[w1.heap.size]? = some (.cells #[.int .i64 a0, .int .i64 a1, .bool a2, .bool a3] 25 (0, 0))) := hk_below Ka_17.out hb18
            have Kp_18 : Hid (w18.heap[w7.heap.size]? = some (.cells #[.int .i64 p0, .int .i64 p1, .bool p2, .bool p3] 25 (0, 0))) := hk_below Kp_17.out hb18
            have Kq_18 : Hid (w18.heap[w9.heap.size]? = some (.cells #[.int .i64 p0, .int .i64 p1, .bool p2, .bool p3] 25 (0, 0))) := hk_below Kq_17.out hb18
            have Kx_18 : Hid (w18.heap[w11.heap.size]? = some (.cells #[.int .i64 x0, .int .i64 x1, .bool x2, .bool x3] 25 (0, 0))) := hk_below Kx_17.out hb18
            clear HB17 Ka_17 Kp_17 Kq_17 Kx_17
            have ca0 : w18.cell? ⟨w1.heap.size, 0, none⟩ = some (.int .i64 a0) := hk_cell (i := 0) Ka_18.out rfl
            have ca1 : w18.cell? ⟨w1.heap.size, 1, none⟩ = some (.int .i64 a1) := hk_cell (i := 1) Ka_18.out rfl
            have ca2 : w18.cell? ⟨w1.heap.size, 2, none⟩ = some (.bool a2) := hk_cell (i := 2) Ka_18.out rfl
            have ca3 : w18.cell? ⟨w1.heap.size, 3, none⟩ = some (.bool a3) := hk_cell (i := 3) Ka_18.out rfl
            go_wp2_with fail
            (with_reducible refine (DoFit_r _ _ _ _ _ _ _ _ _ _ _ H2.out).mono ?_)
            rintro e w19 ⟨rfl, hb19⟩
            clear ca0 ca1 ca2 ca3
            have T19 : Below w.heap.size w w19 := T18.trans (hb19.mono T18.size)
            have HB19 := Lib.hid ((HB18.out.below hb19).keep hb19.size (fun _ _ => rfl))
            have Ka_19 : Hid (w19.heap[w1.heap.size]? = some (.cells #[.int .i64 a0, .int .i64 a1, .bool a2, .bool a3] 25 (0, 0))) := hk_below Ka_18.out hb19
            have Kp_19 : Hid (w19.heap[w7.heap.size]? = some (.cells #[.int .i64 p0, .int .i64 p1, .bool p2, .bool p3] 25 (0, 0))) := hk_below Kp_18.out hb19
            have Kq_19 : Hid (w19.heap[w9.heap.size]? = some (.cells #[.int .i64 p0, .int .i64 p1, .bool p2, .bool p3] 25 (0, 0))) := hk_below Kq_18.out hb19
            have Kx_19 : Hid (w19.heap[w11.heap.size]? = some (.cells #[.int .i64 x0, .int .i64 x1, .bool x2, .bool x3] 25 (0, 0))) := hk_below Kx_18.out hb19
            clear HB18 Ka_18 Kp_18 Kq_18 Kx_18
            go_wp2
            go_ret
            exact ⟨rfl, T19⟩
          · clear hPL
            have htq : (three == 0) = false := by rw [beq_eq_false_iff_ne]; exact hthree
            go_wp2
            go_ret
            exact ⟨rfl, T17⟩
        · have hfe : f = false := by rw [hfv]; simp [hbad]
          clear hfv
          subst hfe
          have hbq : (bad == 5) = false := by rw [beq_eq_false_iff_ne]; exact hbad
          by_cases hthree : three = 0
          · obtain ⟨h1, h2⟩ := hPL.out hthree
            clear hPL
            subst hthree
            have H1 := Lib.hid h1
            have H2 := Lib.hid h2
            clear h1 h2
            have ca0 : w17.cell? ⟨w1.heap.size, 0, none⟩ = some (.int .i64 a0) := hk_cell (i := 0) Ka_17.out rfl
            have ca1 : w17.cell? ⟨w1.heap.size, 1, none⟩ = some (.int .i64 a1) := hk_cell (i := 1) Ka_17.out rfl
            have ca2 : w17.cell? ⟨w1.heap.size, 2, none⟩ = some (.bool a2) := hk_cell (i := 2) Ka_17.out rfl
            have ca3 : w17.cell? ⟨w1.heap.size, 3, none⟩ = some (.bool a3) := hk_cell (i := 3) Ka_17.out rfl
            go_wp2_with fail
            (with_reducible refine (DoFit_r _ _ _ _ _ _ _ _ _ _ _ H1.out).mono ?_)
            rintro e w18 ⟨rfl, hb18⟩
            clear ca0 ca1 ca2 ca3
            have T18 : Below w.heap.size w w18 := T17.trans (hb18.mono T17.size)
            have HB18 := Lib.hid ((HB17.out.below hb18).keep hb18.size (fun _ _ => rfl))
            have Ka_18 : Hid (w18.heap[w1.heap.size]? = some (.cells #[.int .i64 a0, .int .i64 a1, .bool a2, .bool a3] 25 (0, 0))) := hk_below Ka_17.out hb18
            have Kp_18 : Hid (w18.heap[w7.heap.size]? = some (.cells #[.int .i64 p0, .int .i64 p1, .bool p2, .bool p3] 25 (0, 0))) := hk_below Kp_17.out hb18
            have Kq_18 : Hid (w18.heap[w9.heap.size]? = some (.cells #[.int .i64 p0, .int .i64 p1, .bool p2, .bool p3] 25 (0, 0))) := hk_below Kq_17.out hb18
            have Kx_18 : Hid (w18.heap[w11.heap.size]? = some (.cells #[.int .i64 x0, .int .i64 x1, .bool x2, .bool x3] 25 (0, 0))) := hk_below Kx_17.out hb18
            clear HB17 Ka_17 Kp_17 Kq_17 Kx_17
            have ca0 : w18.cell? ⟨w1.heap.size, 0, none⟩ = some (.int .i64 a0) := hk_cell (i := 0) Ka_18.out rfl
            have ca1 : w18.cell? ⟨w1.heap.size, 1, none⟩ = some (.int .i64 a1) := hk_cell (i := 1) Ka_18.out rfl
            have ca2 : w18.cell? ⟨w1.heap.size, 2, none⟩ = some (.bool a2) := hk_cell (i := 2) Ka_18.out rfl
            have ca3 : w18.cell? ⟨w1.heap.size, 3, none⟩ = some (.bool a3) := hk_cell (i := 3) Ka_18.out rfl
            go_wp2_with fail
            (with_reducible refine (DoFit_r _ _ _ _ _ _ _ _ _ _ _ H2.out).mono ?_)
            rintro e w19 ⟨rfl, hb19⟩
            clear ca0 ca1 ca2 ca3
            have T19 : Below w.heap.size w w19 := T18.trans (hb19.mono T18.size)
            have HB19 := Lib.hid ((HB18.out.below hb19).keep hb19.size (fun _ _ => rfl))
            have Ka_19 : Hid (w19.heap[w1.heap.size]? = some (.cells #[.int .i64 a0, .int .i64 a1, .bool a2, .bool a3] 25 (0, 0))) := hk_below Ka_18.out hb19
            have Kp_19 : Hid (w19.heap[w7.heap.size]? = some (.cells #[.int .i64 p0, .int .i64 p1, .bool p2, .bool p3] 25 (0, 0))) := hk_below Kp_18.out hb19
            have Kq_19 : Hid (w19.heap[w9.heap.size]? = some (.cells #[.int .i64 p0, .int .i64 p1, .bool p2, .bool p3] 25 (0, 0))) := hk_below Kq_18.out hb19
            have Kx_19 : Hid (w19.heap[w11.heap.size]? = some (.cells #[.int .i64 x0, .int .i64 x1, .bool x2, .bool x3] 25 (0, 0))) := hk_below Kx_18.out hb19
            clear HB18 Ka_18 Kp_18 Kq_18 Kx_18
            go_wp2
            go_ret
            exact ⟨rfl, T19⟩
          · clear hPL
            have htq : (three == 0) = false := by rw [beq_eq_false_iff_ne]; exact hthree
            go_wp2
            go_ret
            exact ⟨rfl, T17⟩
      · clear hFL
        have hoq : (one == 0) = false := by rw [beq_eq_false_iff_ne]; exact hone
        by_cases hthree : three = 0
        · obtain ⟨h1, h2⟩ := hPL.out hthree
          clear hPL
          subst hthree
          have H1 := Lib.hid h1
          have H2 := Lib.hid h2
          clear h1 h2
          have ca0 : w17.cell? ⟨w1.heap.size, 0, none⟩ = some (.int .i64 a0) := hk_cell (i := 0) Ka_17.out rfl
          have ca1 : w17.cell? ⟨w1.heap.size, 1, none⟩ = some (.int .i64 a1) := hk_cell (i := 1) Ka_17.out rfl
          have ca2 : w17.cell? ⟨w1.heap.size, 2, none⟩ = some (.bool a2) := hk_cell (i := 2) Ka_17.out rfl
          have ca3 : w17.cell? ⟨w1.heap.size, 3, none⟩ = some (.bool a3) := hk_cell (i := 3) Ka_17.out rfl
          go_wp2_with fail
          (with_reducible refine (DoFit_r _ _ _ _ _ _ _ _ _ _ _ H1.out).mono ?_)
          rintro e w18 ⟨rfl, hb18⟩
          clear ca0 ca1 ca2 ca3
          have T18 : Below w.heap.size w w18 := T17.trans (hb18.mono T17.size)
          have HB18 := Lib.hid ((HB17.out.below hb18).keep hb18.size (fun _ _ => rfl))
          have Ka_18 : Hid (w18.heap[w1.heap.size]? = some (.cells #[.int .i64 a0, .int .i64 a1, .bool a2, .bool a3] 25 (0, 0))) := hk_below Ka_17.out hb18
          have Kp_18 : Hid (w18.heap[w7.heap.size]? = some (.cells #[.int .i64 p0, .int .i64 p1, .bool p2, .bool p3] 25 (0, 0))) := hk_below Kp_17.out hb18
          have Kq_18 : Hid (w18.heap[w9.heap.size]? = some (.cells #[.int .i64 p0, .int .i64 p1, .bool p2, .bool p3] 25 (0, 0))) := hk_below Kq_17.out hb18
          have Kx_18 : Hid (w18.heap[w11.heap.size]? = some (.cells #[.int .i64 x0, .int .i64 x1, .bool x2, .bool x3] 25 (0, 0))) := hk_below Kx_17.out hb18
          clear HB17 Ka_17 Kp_17 Kq_17 Kx_17
          have ca0 : w18.cell? ⟨w1.heap.size, 0, none⟩ = some (.int .i64 a0) := hk_cell (i := 0) Ka_18.out rfl
          have ca1 : w18.cell? ⟨w1.heap.size, 1, none⟩ = some (.int .i64 a1) := hk_cell (i := 1) Ka_18.out rfl
          have ca2 : w18.cell? ⟨w1.heap.size, 2, none⟩ = some (.bool a2) := hk_cell (i := 2) Ka_18.out rfl
          have ca3 : w18.cell? ⟨w1.heap.size, 3, none⟩ = some (.bool a3) := hk_cell (i := 3) Ka_18.out rfl
          go_wp2_with fail
          (with_reducible refine (DoFit_r _ _ _ _ _ _ _ _ _ _ _ H2.out).mono ?_)
          rintro e w19 ⟨rfl, hb19⟩
          clear ca0 ca1 ca2 ca3
          have T19 : Below w.heap.size w w19 := T18.trans (hb19.mono T18.size)
          have HB19 := Lib.hid ((HB18.out.below hb19).keep hb19.size (fun _ _ => rfl))
          have Ka_19 : Hid (w19.heap[w1.heap.size]? = some (.cells #[.int .i64 a0, .int .i64 a1, .bool a2, .bool a3] 25 (0, 0))) := hk_below Ka_18.out hb19
          have Kp_19 : Hid (w19.heap[w7.heap.size]? = some (.cells #[.int .i64 p0, .int .i64 p1, .bool p2, .bool p3] 25 (0, 0))) := hk_below Kp_18.out hb19
          have Kq_19 : Hid (w19.heap[w9.heap.size]? = some (.cells #[.int .i64 p0, .int .i64 p1, .bool p2, .bool p3] 25 (0, 0))) := hk_below Kq_18.out hb19
          have Kx_19 : Hid (w19.heap[w11.heap.size]? = some (.cells #[.int .i64 x0, .int .i64 x1, .bool x2, .bool x3] 25 (0, 0))) := hk_below Kx_18.out hb19
          clear HB18 Ka_18 Kp_18 Kq_18 Kx_18
          go_wp2
          go_ret
          exact ⟨rfl, T19⟩
        · clear hPL
          have htq : (three == 0) = false := by rw [beq_eq_false_iff_ne]; exact hthree
          go_wp2
          go_ret
          exact ⟨rfl, T17⟩
  · have HN : Hid (decide (4096 < n) = true) := by show _ = _; simp; omega
    go_enter Try.func11, Try.ntmps11
    go_wp2_with fail
    (with_reducible refine (big_any _ _ _ _).mono ?_)
    rintro e _ ⟨rfl, rfl⟩
    rw [HN.out]
    go_wp2
    go_ret
    exact ⟨rfl, Below.refl _ _⟩
end Go.Proofs.Ytoaacipgphoiaaa
