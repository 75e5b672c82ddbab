/- The walk of the law on rides. -/
import Derived.Test.YthfpikpknojffaaRidQ
set_option linter.unusedSimpArgs false
set_option linter.unusedVariables false
namespace Go.Proofs.Ythfpikpknojffaa
open Go.RowKit

theorem RdI.at2 {w : World} {a : Option Addr} {n c : Nat} {xs : List Int} (h : RdI w (.slice a n c) xs) : ∀ i, i < xs.length → ∃ b o, a = some ⟨b, o, none⟩ ∧ w.cell? ⟨b, o + i, none⟩ = some (.int .i64 (xs.getD i 0)) := by
  obtain ⟨a', c', e, h2⟩ := h
  injection e with e1 e2 e3
  subst e1
  exact h2
theorem RdRid.sub2 {w : World} {a : Option Addr} {c : Nat} {rs : List (Int × Int × Bool)} (hr : RdRid w (.slice a rs.length c) rs) (hc : rs.length ≤ c) {l h : Nat} (h1 : l < h) (h2 : h ≤ rs.length) : RdRid w (.slice (Option.map (fun x => x.add (l * 3)) a) (h - l) (c - l)) ((rs.drop l).take (h - l)) := by
  have := hr.sub hc (Nat.le_of_lt h1) h2
  unfold subV at this
  rw [if_neg (by omega)] at this
  exact this
theorem RdRid.sub3 {w : World} {a : Option Addr} {c : Nat} {rs : List (Int × Int × Bool)} (hr : RdRid w (.slice a rs.length c) rs) (hc : rs.length ≤ c) {l h : Nat} (h1 : l ≤ h) (h2 : h ≤ rs.length) : RdRid w (.slice (if c = l then a else Option.map (fun x => x.add (l * 3)) a) (h - l) (c - l)) ((rs.drop l).take (h - l)) := hr.sub hc h1 h2
theorem run_subR1 (W : World) (a : Option Addr) (n c : Nat) (l q : Nat) (h1 : l ≤ q + 1) (h2 : q + 1 ≤ c) : (Instr.slice 25 (.slice a n c) (some (.int .i64 (l : Int))) (some (.int .i64 ((q : Int) + 1))) none).run Try.prog W = .ok (subV a l (q + 1) c) W := run_subR W a n c l (q + 1) h1 h2
theorem run_subT (W : World) (a : Option Addr) (n c : Nat) (l : Nat) (h1 : l ≤ n) (h2 : n ≤ c) : (Instr.slice 25 (.slice a n c) (some (.int .i64 (l : Int))) none none).run Try.prog W = .ok (subV a l n c) W := by
  simp [go_sem, subV, h1, h2]
theorem blw_ofDrewX {B : Nat} {w w' : World} (h : Below B w.drew w') : Below B w w' := ⟨h.os, h.tape, h.output, h.size, h.block⟩
set_option maxRecDepth 100000 in
set_option maxHeartbeats 16000000 in
theorem FnRides_walk (a : Option Addr) (n c : Nat) (w : World) (h : RdB w w.heap.size a n) :
    Calls Try.prog 13 #[.slice a n c] w fun e w' => e = .returned (.bool true) ∧ Below w.heap.size w w' := by
  by_cases hn : n ≤ 4096
  · have HN : Hid (decide (4096 < n) = false) := by show _ = _; simp; omega
    have HB0 := Lib.hid h
    have T0 := Below.refl w.heap.size w
    clear h
    go_enter Try.func13, Try.ntmps13
    go_wp2_with fail
    (with_reducible refine (big_any _ _ _ _).mono ?_)
    rintro e _ ⟨rfl, rfl⟩
    rw [HN.out]
    go_wp2_with fail
    (with_reducible refine (DrawDay_any a n c _ HB0.out hn).mono ?_)
    rintro e w1 ⟨v, rs, life, rfl, ho, hl61, hb1⟩
    have T1 : Below w.heap.size w w1 := T0.trans (hb1.mono T0.size)
    have HB1 := Lib.hid ((HB0.out.below hb1).keep hb1.size (fun _ _ => rfl))
    clear HB0
    obtain ⟨ao, co, rfl, hco, hrd⟩ := ho.shapeC
    clear ho
    have hrl : rs.length ≤ 1048576 := by omega
    clear hl61
    have HCO := Lib.hid hco
    clear hco
    have FR_1 : Hid (RdRid w1 (.slice ao rs.length co) rs) := hrd
    clear hrd
    obtain ⟨⟨dd, bad⟩, hD⟩ : ∃ rr__, rr__ = dayR rs life := ⟨_, rfl⟩
    have HhD := Lib.hid hD
    go_wp2_with fail
    (with_reducible refine (DayForChange_r _ _ _ _ _ _ FR_1.out hrl HhD.out).mono ?_)
    rintro e w2 ⟨rfl, hb2⟩
    have T2 : Below w.heap.size w w2 := T1.trans (hb2.mono T1.size)
    have HB2 := Lib.hid ((HB1.out.below hb2).keep hb2.size (fun _ _ => rfl))
    have FR_2 : Hid (RdRid w2 (.slice ao rs.length co) rs) := FR_1.out.below hb2
    clear HB1 FR_1
    go_wp2_with fail
    (with_reducible refine (sDayForChange_r _ _ _ _ _ _ FR_2.out hrl HhD.out).mono ?_)
    rintro e w3 ⟨rfl, hb3⟩
    have T3 : Below w.heap.size w w3 := T2.trans (hb3.mono T2.size)
    have HB3 := Lib.hid ((HB2.out.below hb3).keep hb3.size (fun _ _ => rfl))
    have FR_3 : Hid (RdRid w3 (.slice ao rs.length co) rs) := FR_2.out.below hb3
    clear HB2 FR_2
    obtain ⟨⟨cl, one⟩, hC⟩ : ∃ rr__, rr__ = chAR rs life := ⟨_, rfl⟩
    have HhC := Lib.hid hC
    have hcl0 := chAR_len rs life
    rw [← hC] at hcl0
    have hcl : cl.length ≤ 1048576 := hcl0
    clear hcl0
    go_wp2_with fail
    (with_reducible refine (ChangedAfter_r _ _ _ _ FR_3.out hrl _ HhC.out).mono ?_)
    rintro e w4 ⟨vc, rfl, hoc, hb4⟩
    have T4 : Below w.heap.size w w4 := T3.trans (hb4.mono T3.size)
    have HB4 := Lib.hid ((HB3.out.below hb4).keep hb4.size (fun _ _ => rfl))
    have FR_4 : Hid (RdRid w4 (.slice ao rs.length co) rs) := FR_3.out.below hb4
    clear HB3 FR_3
    obtain ⟨ac, cc, ec, hrc⟩ := hoc.rd.shape
    subst ec
    clear hoc
    have FC_4 : Hid (RdI w4 (.slice ac cl.length cc) cl) := hrc
    clear hrc
    go_wp2_with fail
    (with_reducible refine (sChangedAfter_r _ _ _ _ FR_4.out hrl _ HhC.out).mono ?_)
    rintro e w5 ⟨vd, rfl, hod, hb5⟩
    have T5 : Below w.heap.size w w5 := T4.trans (hb5.mono T4.size)
    have HB5 := Lib.hid ((HB4.out.below hb5).keep hb5.size (fun _ _ => rfl))
    have FR_5 : Hid (RdRid w5 (.slice ao rs.length co) rs) := FR_4.out.below hb5
    have FC_5 : Hid (RdI w5 (.slice ac cl.length cc) cl) := FC_4.out.below hb5
    clear HB4 FR_4 FC_4
    obtain ⟨ad, cd, ed, hrd⟩ := hod.rd.shape
    subst ed
    clear hod
    have FD_5 : Hid (RdI w5 (.slice ad cl.length cd) cl) := hrd
    clear hrd
    obtain ⟨⟨p, three⟩, hW⟩ : ∃ rr__, rr__ = wornR rs life := ⟨_, rfl⟩
    have HhW := Lib.hid hW
    go_wp2_with fail
    (with_reducible refine (WornPercent_r _ _ _ _ _ _ FR_5.out hrl HhW.out).mono ?_)
    rintro e w6 ⟨rfl, hb6⟩
    have T6 : Below w.heap.size w w6 := T5.trans (hb6.mono T5.size)
    have HB6 := Lib.hid ((HB5.out.below hb6).keep hb6.size (fun _ _ => rfl))
    have FR_6 : Hid (RdRid w6 (.slice ao rs.length co) rs) := FR_5.out.below hb6
    have FC_6 : Hid (RdI w6 (.slice ac cl.length cc) cl) := FC_5.out.below hb6
    have FD_6 : Hid (RdI w6 (.slice ad cl.length cd) cl) := FD_5.out.below hb6
    clear HB5 FR_5 FC_5 FD_5
    go_wp2_with fail
    (with_reducible refine (sWornPercent_r _ _ _ _ _ _ FR_6.out hrl HhW.out).mono ?_)
    rintro e w7 ⟨rfl, hb7⟩
    have T7 : Below w.heap.size w w7 := T6.trans (hb7.mono T6.size)
    have HB7 := Lib.hid ((HB6.out.below hb7).keep hb7.size (fun _ _ => rfl))
    have FR_7 : Hid (RdRid w7 (.slice ao rs.length co) rs) := FR_6.out.below hb7
    have FC_7 : Hid (RdI w7 (.slice ac cl.length cc) cl) := FC_6.out.below hb7
    have FD_7 : Hid (RdI w7 (.slice ad cl.length cd) cl) := FD_6.out.below hb7
    clear HB6 FR_6 FC_6 FD_6
    obtain ⟨⟨we, five⟩, hE⟩ : ∃ rr__, rr__ = wearRR rs := ⟨_, rfl⟩
    have HhE := Lib.hid hE
    go_wp2_with fail
    (with_reducible refine (WearOf_r _ _ _ _ _ FR_7.out hrl HhE.out).mono ?_)
    rintro e w8 ⟨rfl, hb8⟩
    have T8 : Below w.heap.size w w8 := T7.trans (hb8.mono T7.size)
    have HB8 := Lib.hid ((HB7.out.below hb8).keep hb8.size (fun _ _ => rfl))
    have FR_8 : Hid (RdRid w8 (.slice ao rs.length co) rs) := FR_7.out.below hb8
    have FC_8 : Hid (RdI w8 (.slice ac cl.length cc) cl) := FC_7.out.below hb8
    have FD_8 : Hid (RdI w8 (.slice ad cl.length cd) cl) := FD_7.out.below hb8
    clear HB7 FR_7 FC_7 FD_7
    go_wp2_with fail
    (with_reducible refine (sWearOf_r _ _ _ _ _ FR_8.out hrl HhE.out).mono ?_)
    rintro e w9 ⟨rfl, hb9⟩
    have T9 : Below w.heap.size w w9 := T8.trans (hb9.mono T8.size)
    have HB9 := Lib.hid ((HB8.out.below hb9).keep hb9.size (fun _ _ => rfl))
    have FR_9 : Hid (RdRid w9 (.slice ao rs.length co) rs) := FR_8.out.below hb9
    have FC_9 : Hid (RdI w9 (.slice ac cl.length cc) cl) := FC_8.out.below hb9
    have FD_9 : Hid (RdI w9 (.slice ad cl.length cd) cl) := FD_8.out.below hb9
    clear HB8 FR_8 FC_8 FD_8
    have HAR := Lib.hid (wear_code hE)
    clear hE HhE
    go_wp2_with fail
    (with_reducible refine (DrawAddRide_any a n c _ HB9.out hn).mono ?_)
    rintro e w10 ⟨v2, rs2, x, y, z, rfl, ho2, hl2, hb10⟩
    have T10 : Below w.heap.size w w10 := T9.trans (hb10.mono T9.size)
    have HB10 := Lib.hid ((HB9.out.below hb10).keep hb10.size (fun _ _ => rfl))
    have FR_10 : Hid (RdRid w10 (.slice ao rs.length co) rs) := FR_9.out.below hb10
    have FC_10 : Hid (RdI w10 (.slice ac cl.length cc) cl) := FC_9.out.below hb10
    have FD_10 : Hid (RdI w10 (.slice ad cl.length cd) cl) := FD_9.out.below hb10
    clear HB9 FR_9 FC_9 FD_9
    obtain ⟨a2, c2, e2, hr2⟩ := ho2.rd.shape
    subst e2
    clear ho2
    have hrl2 : rs2.length ≤ 1048576 := by omega
    clear hl2
    have FX_10 : Hid (RdRid w10 (.slice a2 rs2.length c2) rs2) := hr2
    clear hr2 HB10
    go_wp2_with fail
    generalize hw : w10.alloc (Obj.cells #[.int .i64 x, .int .i64 y, .bool z] 35) = w11
    have hb11 : Below w10.heap.size w10 w11 := by
      rw [← hw]
      exact (Below.refl _ _).alloc (by simp) _
    have Kr_11 : Hid (w11.heap[w10.heap.size]? = some (.cells #[.int .i64 x, .int .i64 y, .bool z] 35 (0, 0))) := by
      show _ = _
      rw [← hw]
      exact (heap_alloc_new _ _)
    clear hw
    have T11 : Below w.heap.size w w11 := T10.trans (hb11.mono T10.size)
    have FR_11 : Hid (RdRid w11 (.slice ao rs.length co) rs) := FR_10.out.below hb11
    have FC_11 : Hid (RdI w11 (.slice ac cl.length cc) cl) := FC_10.out.below hb11
    have FD_11 : Hid (RdI w11 (.slice ad cl.length cd) cl) := FD_10.out.below hb11
    have FX_11 : Hid (RdRid w11 (.slice a2 rs2.length c2) rs2) := FX_10.out.below hb11
    clear FR_10 FC_10 FD_10 FX_10
    obtain ⟨⟨L2, seven⟩, hA⟩ : ∃ rr__, rr__ = addR rs2 (x, y, z) := ⟨_, rfl⟩
    have HhA := Lib.hid hA
    have hL0 := addR_len rs2 (x, y, z)
    rw [← hA] at hL0
    have hL2 : L2.length ≤ 1048576 := hL0
    clear hL0
    have cr0 : w11.cell? ⟨w10.heap.size, 0, none⟩ = some (.int .i64 x) := hk_cell (i := 0) Kr_11.out rfl
    have cr1 : w11.cell? ⟨w10.heap.size, 1, none⟩ = some (.int .i64 y) := hk_cell (i := 1) Kr_11.out rfl
    have cr2 : w11.cell? ⟨w10.heap.size, 2, none⟩ = some (.bool z) := hk_cell (i := 2) Kr_11.out rfl
    go_wp2_with fail
    (with_reducible refine (AddRide_r _ _ _ _ _ _ FX_11.out hrl2 _ HhA.out).mono ?_)
    rintro e w12 ⟨va, rfl, hoa, hb12⟩
    clear cr0 cr1 cr2
    have T12 : Below w.heap.size w w12 := T11.trans (hb12.mono T11.size)
    have Kr_12 : Hid (w12.heap[w10.heap.size]? = some (.cells #[.int .i64 x, .int .i64 y, .bool z] 35 (0, 0))) := hk_below Kr_11.out hb12
    have FR_12 : Hid (RdRid w12 (.slice ao rs.length co) rs) := FR_11.out.below hb12
    have FC_12 : Hid (RdI w12 (.slice ac cl.length cc) cl) := FC_11.out.below hb12
    have FD_12 : Hid (RdI w12 (.slice ad cl.length cd) cl) := FD_11.out.below hb12
    have FX_12 : Hid (RdRid w12 (.slice a2 rs2.length c2) rs2) := FX_11.out.below hb12
    clear Kr_11 FR_11 FC_11 FD_11 FX_11
    obtain ⟨aa, ca, ea, hra⟩ := hoa.rd.shape
    subst ea
    clear hoa
    have FA_12 : Hid (RdRid w12 (.slice aa L2.length ca) L2) := hra
    clear hra
    have cr0 : w12.cell? ⟨w10.heap.size, 0, none⟩ = some (.int .i64 x) := hk_cell (i := 0) Kr_12.out rfl
    have cr1 : w12.cell? ⟨w10.heap.size, 1, none⟩ = some (.int .i64 y) := hk_cell (i := 1) Kr_12.out rfl
    have cr2 : w12.cell? ⟨w10.heap.size, 2, none⟩ = some (.bool z) := hk_cell (i := 2) Kr_12.out rfl
    go_wp2_with fail
    (with_reducible refine (sAddRide_r _ _ _ _ _ _ FX_12.out hrl2 _ HhA.out).mono ?_)
    rintro e w13 ⟨vb, rfl, hob, hb13⟩
    clear cr0 cr1 cr2
    have T13 : Below w.heap.size w w13 := T12.trans (hb13.mono T12.size)
    have Kr_13 : Hid (w13.heap[w10.heap.size]? = some (.cells #[.int .i64 x, .int .i64 y, .bool z] 35 (0, 0))) := hk_below Kr_12.out hb13
    have FR_13 : Hid (RdRid w13 (.slice ao rs.length co) rs) := FR_12.out.below hb13
    have FC_13 : Hid (RdI w13 (.slice ac cl.length cc) cl) := FC_12.out.below hb13
    have FD_13 : Hid (RdI w13 (.slice ad cl.length cd) cl) := FD_12.out.below hb13
    have FX_13 : Hid (RdRid w13 (.slice a2 rs2.length c2) rs2) := FX_12.out.below hb13
    have FA_13 : Hid (RdRid w13 (.slice aa L2.length ca) L2) := FA_12.out.below hb13
    clear Kr_12 FR_12 FC_12 FD_12 FX_12 FA_12
    obtain ⟨ab, cb, eb, hrb⟩ := hob.rd.shape
    subst eb
    clear hob
    have FB_13 : Hid (RdRid w13 (.slice ab L2.length cb) L2) := hrb
    clear hrb
    go_wp2_with fail
    (with_reducible refine (likeInts_same _ _ cl _ FC_13.out FD_13.out hcl).mono ?_)
    rintro e w14 ⟨rfl, hb14⟩
    have T14 : Below w.heap.size w w14 := T13.trans (hb14.mono T13.size)
    have Kr_14 : Hid (w14.heap[w10.heap.size]? = some (.cells #[.int .i64 x, .int .i64 y, .bool z] 35 (0, 0))) := hk_below Kr_13.out hb14
    have FR_14 : Hid (RdRid w14 (.slice ao rs.length co) rs) := FR_13.out.below hb14
    have FC_14 : Hid (RdI w14 (.slice ac cl.length cc) cl) := FC_13.out.below hb14
    have FD_14 : Hid (RdI w14 (.slice ad cl.length cd) cl) := FD_13.out.below hb14
    have FX_14 : Hid (RdRid w14 (.slice a2 rs2.length c2) rs2) := FX_13.out.below hb14
    have FA_14 : Hid (RdRid w14 (.slice aa L2.length ca) L2) := FA_13.out.below hb14
    have FB_14 : Hid (RdRid w14 (.slice ab L2.length cb) L2) := FB_13.out.below hb14
    clear Kr_13 FR_13 FC_13 FD_13 FX_13 FA_13 FB_13
    go_wp2_with fail
    (with_reducible refine (likeRides_same _ _ L2 _ FA_14.out FB_14.out hL2).mono ?_)
    rintro e w15 ⟨rfl, hb15⟩
    have T15 : Below w.heap.size w w15 := T14.trans (hb15.mono T14.size)
    have Kr_15 : Hid (w15.heap[w10.heap.size]? = some (.cells #[.int .i64 x, .int .i64 y, .bool z] 35 (0, 0))) := hk_below Kr_14.out hb15
    have FR_15 : Hid (RdRid w15 (.slice ao rs.length co) rs) := FR_14.out.below hb15
    have FC_15 : Hid (RdI w15 (.slice ac cl.length cc) cl) := FC_14.out.below hb15
    have FD_15 : Hid (RdI w15 (.slice ad cl.length cd) cl) := FD_14.out.below hb15
    have FX_15 : Hid (RdRid w15 (.slice a2 rs2.length c2) rs2) := FX_14.out.below hb15
    have FA_15 : Hid (RdRid w15 (.slice aa L2.length ca) L2) := FA_14.out.below hb15
    have FB_15 : Hid (RdRid w15 (.slice ab L2.length cb) L2) := FB_14.out.below hb15
    clear Kr_14 FR_14 FC_14 FD_14 FX_14 FA_14 FB_14
    go_wp2_with fail
    (with_reducible refine (AreRides_r _ rs _ _ FR_15.out hrl HAR.out).mono ?_)
    rintro e w16 ⟨rfl, hb16⟩
    have T16 : Below w.heap.size w w16 := T15.trans (hb16.mono T15.size)
    have Kr_16 : Hid (w16.heap[w10.heap.size]? = some (.cells #[.int .i64 x, .int .i64 y, .bool z] 35 (0, 0))) := hk_below Kr_15.out hb16
    have FR_16 : Hid (RdRid w16 (.slice ao rs.length co) rs) := FR_15.out.below hb16
    have FC_16 : Hid (RdI w16 (.slice ac cl.length cc) cl) := FC_15.out.below hb16
    have FD_16 : Hid (RdI w16 (.slice ad cl.length cd) cl) := FD_15.out.below hb16
    have FX_16 : Hid (RdRid w16 (.slice a2 rs2.length c2) rs2) := FX_15.out.below hb16
    have FA_16 : Hid (RdRid w16 (.slice aa L2.length ca) L2) := FA_15.out.below hb16
    have FB_16 : Hid (RdRid w16 (.slice ab L2.length cb) L2) := FB_15.out.below hb16
    clear Kr_15 FR_15 FC_15 FD_15 FX_15 FA_15 FB_15
    have HDL := Lib.hid (fun h => day_law hD h)
    have HPL := Lib.hid (fun h => parts_law hC h)
    have HAL := Lib.hid (fun h => add_law hA h)
    clear hD hC hA HhD HhC HhA HAR
    by_cases hsv : seven = 0
    · obtain ⟨hL, hLa, h40⟩ := HAL.out hsv
      clear HAL
      subst hsv
      obtain ⟨b, o, ea, c0, c1, c2⟩ := FA_16.out.at rs2.length (by rw [hL]; simp)
      have hLd : L2.getD rs2.length (0, 0, false) = (x, y, z) := by rw [hL]; simp
      rw [hLd] at c0 c1 c2
      simp only at c0 c1 c2
      have HLA := Lib.hid hLa
      have HL2 := Lib.hid hL2
      have hLn : L2.length = rs2.length + 1 := by rw [hL]; simp
      clear hL hLa hLd hL2 hrl2 FX_16 FB_16
      have FA_16' := FA_16
      generalize hm2 : rs2.length = m2 at *
      clear hm2
      have hFA : Hid (RdRid w16 (.slice aa (m2 + 1) ca) L2) := by rw [← hLn]; exact FA_16.out
      rw [hLn]
      clear hLn FA_16 FA_16'
      subst ea
      have hmw : IntKind.i64.wrap ((m2 : Int) + 1 - 1) = (m2 : Int) := by rw [show (m2 : Int) + 1 - 1 = (m2 : Int) by omega]; exact IntWalk.i64_in _ (by omega)
      have hmw2 : IntKind.i64.wrap (m2 : Int) = (m2 : Int) := IntWalk.i64_in _ (by omega)
      have hmv : IntKind.i64.wrap ((m2 : Int) + 1) = (m2 : Int) + 1 := IntWalk.i64_in _ (by omega)
      have hm0 : (0 : Int) ≤ (m2 : Int) := by omega
      have hml : (m2 : Int) < (m2 : Int) + 1 := by omega
      have hle := World.block_lt_of_cell? _ _ c0
      have hneq := ride_neq_same x y z
      have cr0 : w16.cell? ⟨w10.heap.size, 0, none⟩ = some (.int .i64 x) := hk_cell (i := 0) Kr_16.out rfl
      have cr1 : w16.cell? ⟨w10.heap.size, 1, none⟩ = some (.int .i64 y) := hk_cell (i := 1) Kr_16.out rfl
      have cr2 : w16.cell? ⟨w10.heap.size, 2, none⟩ = some (.bool z) := hk_cell (i := 2) Kr_16.out rfl
      have hlr := heap_lt Kr_16.out
      have KP : Hid (∀ W' : World, Below w16.heap.size w16 W' → (W'.cell? ⟨b, o + m2 * 3, none⟩ = some (.int .i64 x) ∧ W'.cell? ⟨b, o + m2 * 3 + 1, none⟩ = some (.int .i64 y) ∧ W'.cell? ⟨b, o + m2 * 3 + 2, none⟩ = some (.bool z) ∧ W'.cell? ⟨w10.heap.size, 0, none⟩ = some (.int .i64 x) ∧ W'.cell? ⟨w10.heap.size, 1, none⟩ = some (.int .i64 y) ∧ W'.cell? ⟨w10.heap.size, 2, none⟩ = some (.bool z))) := by
        show ∀ W' : World, _
        intro W' hb
        exact ⟨(hb.cell (p := ⟨b, o + m2 * 3, none⟩) hle).trans c0, (hb.cell (p := ⟨b, o + m2 * 3 + 1, none⟩) hle).trans c1, (hb.cell (p := ⟨b, o + m2 * 3 + 2, none⟩) hle).trans c2, (hb.cell (p := ⟨w10.heap.size, 0, none⟩) hlr).trans cr0, (hb.cell (p := ⟨w10.heap.size, 1, none⟩) hlr).trans cr1, (hb.cell (p := ⟨w10.heap.size, 2, none⟩) hlr).trans cr2⟩
      go_wp2_with fail
      go_region_held3 (fun W' => W'.cell? ⟨b, o + m2 * 3, none⟩ = some (.int .i64 x) ∧ W'.cell? ⟨b, o + m2 * 3 + 1, none⟩ = some (.int .i64 y) ∧ W'.cell? ⟨b, o + m2 * 3 + 2, none⟩ = some (.bool z) ∧ W'.cell? ⟨w10.heap.size, 0, none⟩ = some (.int .i64 x) ∧ W'.cell? ⟨w10.heap.size, 1, none⟩ = some (.int .i64 y) ∧ W'.cell? ⟨w10.heap.size, 2, none⟩ = some (.bool z))
        (first | exact ⟨c0, c1, c2, cr0, cr1, cr2⟩ | exact KP.out _ hbq17)
        ((first
          | (go_at_call 17
             (with_reducible refine (AreRides_r _ L2 true _ hFA.out.drew HL2.out HLA.out).mono ?_)
             rintro e w17 ⟨rfl, hbx17⟩
             have hbq17 : Below w16.heap.size w16 w17 := by first | exact hbx17 | exact blw_ofDrewX hbx17
             clear hbx17)
          | fail))
      clear KP hFA c0 c1 c2 hle hmw hmw2 hmv hm0 hml hneq
      clear cr0 cr1 cr2
      have T17 : Below w.heap.size w w17 := T16.trans (hbq17.mono T16.size)
      have Kr_17 : Hid (w17.heap[w10.heap.size]? = some (.cells #[.int .i64 x, .int .i64 y, .bool z] 35 (0, 0))) := hk_below Kr_16.out hbq17
      have FR_17 : Hid (RdRid w17 (.slice ao rs.length co) rs) := FR_16.out.below hbq17
      have FC_17 : Hid (RdI w17 (.slice ac cl.length cc) cl) := FC_16.out.below hbq17
      have FD_17 : Hid (RdI w17 (.slice ad cl.length cd) cl) := FD_16.out.below hbq17
      clear Kr_16 FR_16 FC_16 FD_16
      clear Kr_17
      by_cases hone : one = 0
      · obtain ⟨hAR, l1, l2, hn40, hc40, hpt, hfl, r, hr, r0, r1, r2, hwo⟩ := HPL.out hone
        clear HPL
        subst hone
        rw [hwo] at hW
        injection hW with hp h3
        subst h3
        clear hwo HhW hrl hcl
        have HP := Lib.hid hpt
        have HRW := Lib.hid hr
        have HFL := Lib.hid hfl
        have HPW := Lib.hid hp
        clear hpt hr hfl hAR hp
        go_wp2
        go_loopw [27, 28] (fun fv iv wr => ∃ j : Nat, j ≤ cl.length ∧ iv = .int .i64 j ∧ fv = .int .i64 (frN cl j : Nat) ∧ Below w.heap.size w wr ∧ Hid (RdRid wr (.slice ao rs.length co) rs) ∧ Hid (RdI wr (.slice ac cl.length cc) cl) ∧ Hid (RdI wr (.slice ad cl.length cd) cl)) (fun _ iv _ => cl.length - (intOf iv).toNat)
        case atStart => exact ⟨0, Nat.zero_le _, rfl, rfl, T17, FR_17, FC_17, FD_17⟩
        case round =>
          clear T17 FR_17 FC_17 FD_17
          obtain ⟨j, hj, rfl, rfl, T50, FR_50, FC_50, FD_50⟩ := hrel
          obtain ⟨w50, hw50⟩ : ∃ w50, w50 = wr := ⟨_, rfl⟩
          subst hw50
          by_cases hlt : j < cl.length
          · clear HPW
            obtain ⟨q, eq, q1, q2, pp, hpp, hlp⟩ := HP.out j hlt
            have HPP := Lib.hid hpp
            clear hpp
            have hfn : frN cl (j + 1) = q + 1 := by
              unfold frN
              rw [if_neg (by omega), Nat.add_sub_cancel, eq]
              rfl
            obtain ⟨b, o, eac, c0⟩ := FC_50.out.at2 j hlt
            obtain ⟨b', o', ead, d0⟩ := FD_50.out.at2 j hlt
            subst eac ead
            rw [eq] at c0 d0
            have HD0 := Lib.hid d0
            clear d0
            have hlt' : (j : Int) < (cl.length : Int) := by omega
            have hj0 : (0 : Int) ≤ (j : Int) := by omega
            have hqw : IntKind.i64.wrap ((q : Int) + 1) = (q : Int) + 1 := IntWalk.i64_in _ (by omega)
            have hsl := run_subR1 w50 ao rs.length co (frN cl j) q (by omega) (Nat.le_trans (show q + 1 ≤ rs.length by omega) HCO.out)
            have HSV := Lib.hid (FR_50.out.sub HCO.out (show frN cl j ≤ q + 1 by omega) (show q + 1 ≤ rs.length by omega))
            have hsn : ((rs.drop (frN cl j)).take (q + 1 - frN cl j)).length ≤ 1048576 := by simp; omega
            generalize frN cl j = fj at *
            go_wp2_with fail
            (with_reducible refine (WearOf_r _ _ _ _ _ HSV.out hsn HPP.out).mono ?_)
            rintro e w51 ⟨rfl, hb51⟩
            have T51 : Below w.heap.size w w51 := T50.trans (hb51.mono T50.size)
            have FR_51 : Hid (RdRid w51 (.slice ao rs.length co) rs) := FR_50.out.below hb51
            have FC_51 : Hid (RdI w51 (.slice (some ⟨b, o, none⟩) cl.length cc) cl) := FC_50.out.below hb51
            have FD_51 : Hid (RdI w51 (.slice (some ⟨b', o', none⟩) cl.length cd) cl) := FD_50.out.below hb51
            clear FR_50 FC_50 FD_50
            have d0 := (hb51.cell (p := ⟨b', o' + j, none⟩) (World.block_lt_of_cell? _ _ HD0.out)).trans HD0.out
            have hpd : decide (pp < life) = false := by simp; omega
            clear hsl c0
            go_wp2
            go_roundw
            case rel => exact ⟨j + 1, by omega, by go_num, by rw [hfn]; first | rfl | simp | go_num, T51, FR_51, FC_51, FD_51⟩
            case measure => simp [intOf]; omega
          · obtain rfl : j = cl.length := by omega
            have hfl := HFL.out
            have HSV := Lib.hid (FR_50.out.sub HCO.out hfl (Nat.le_refl _))
            have hsn : ((rs.drop (frN cl cl.length)).take (rs.length - frN cl cl.length)).length ≤ 1048576 := by simp; omega
            generalize frN cl cl.length = fj at *
            have hsl2 := run_subT w50 ao rs.length co fj hfl HCO.out
            go_wp2_with fail
            (with_reducible refine (WearOf_r _ _ _ _ _ HSV.out hsn HRW.out).mono ?_)
            rintro e w51 ⟨rfl, hb51⟩
            have T51 : Below w.heap.size w w51 := T50.trans (hb51.mono T50.size)
            have FR_51 : Hid (RdRid w51 (.slice ao rs.length co) rs) := FR_50.out.below hb51
            have FC_51 : Hid (RdI w51 (.slice ac cl.length cc) cl) := FC_50.out.below hb51
            have FD_51 : Hid (RdI w51 (.slice ad cl.length cd) cl) := FD_50.out.below hb51
            clear FR_50 FC_50 FD_50
            clear hsl2
            have hr1 : decide (life ≤ r) = false := by simp; omega
            have hp := HPW.out
            clear HPW
            subst hp
            by_cases hbad : bad = 0
            · obtain ⟨m, hm, hdm⟩ := HDL.out hbad
              clear HDL
              subst hbad
              obtain ⟨b, o, rfl, c0, c1, c2⟩ := FR_51.out.at m (by omega)
              have hdd : decide ((rs.getD m (0, 0, false)).1 < dd) = true := by simpa using hdm
              generalize (rs.getD m (0, 0, false)) = e at *
              obtain ⟨e0, e1, e2⟩ := e
              simp only at c0 hdd
              have hml : (m : Int) < (rs.length : Int) := by omega
              have hm0 : (0 : Int) ≤ (m : Int) := by omega
              have hmw : IntKind.i64.wrap ((rs.length : Int) - 1) = (m : Int) := by rw [show (rs.length : Int) - 1 = (m : Int) by omega]; exact IntWalk.i64_in _ (by omega)
              clear hm c1 c2 hdm
              go_wp2
              go_ret
              exact ⟨rfl, T51⟩
            · clear HDL
              have hbq : (bad == 0) = false := by rw [beq_eq_false_iff_ne]; exact hbad
              go_wp2
              go_ret
              exact ⟨rfl, T51⟩
      · have hoq : (one == 0) = false := by rw [beq_eq_false_iff_ne]; exact hone
        clear HPL hW HhW
        clear FC_17 FD_17
        by_cases hbad : bad = 0
        · obtain ⟨m, hm, hdm⟩ := HDL.out hbad
          clear HDL
          subst hbad
          obtain ⟨b, o, rfl, c0, c1, c2⟩ := FR_17.out.at m (by omega)
          have hdd : decide ((rs.getD m (0, 0, false)).1 < dd) = true := by simpa using hdm
          generalize (rs.getD m (0, 0, false)) = e at *
          obtain ⟨e0, e1, e2⟩ := e
          simp only at c0 hdd
          have hml : (m : Int) < (rs.length : Int) := by omega
          have hm0 : (0 : Int) ≤ (m : Int) := by omega
          have hmw : IntKind.i64.wrap ((rs.length : Int) - 1) = (m : Int) := by rw [show (rs.length : Int) - 1 = (m : Int) by omega]; exact IntWalk.i64_in _ (by omega)
          clear hm c1 c2 hdm
          go_wp2
          go_ret
          exact ⟨rfl, T17⟩
        · clear HDL
          have hbq : (bad == 0) = false := by rw [beq_eq_false_iff_ne]; exact hbad
          go_wp2
          go_ret
          exact ⟨rfl, T17⟩
    · clear HAL
      have hsq : (seven == 0) = false := by rw [beq_eq_false_iff_ne]; exact hsv
      clear FA_16 FB_16 FX_16
      go_wp2
      go_quiet (fail)
      obtain ⟨w17, hw17⟩ : ∃ w17, w17 = w16.drewN nq := ⟨_, rfl⟩
      rw [← hw17]
      have hb17 : Below w16.heap.size w16 w17 := by rw [hw17]; exact blw_drewN (Below.refl _ _) _
      clear hw17
      have T17 : Below w.heap.size w w17 := T16.trans (hb17.mono T16.size)
      have Kr_17 : Hid (w17.heap[w10.heap.size]? = some (.cells #[.int .i64 x, .int .i64 y, .bool z] 35 (0, 0))) := hk_below Kr_16.out hb17
      have FR_17 : Hid (RdRid w17 (.slice ao rs.length co) rs) := FR_16.out.below hb17
      have FC_17 : Hid (RdI w17 (.slice ac cl.length cc) cl) := FC_16.out.below hb17
      have FD_17 : Hid (RdI w17 (.slice ad cl.length cd) cl) := FD_16.out.below hb17
      clear Kr_16 FR_16 FC_16 FD_16
      clear Kr_17
      by_cases hone : one = 0
      · obtain ⟨hAR, l1, l2, hn40, hc40, hpt, hfl, r, hr, r0, r1, r2, hwo⟩ := HPL.out hone
        clear HPL
        subst hone
        rw [hwo] at hW
        injection hW with hp h3
        subst h3
        clear hwo HhW hrl hcl
        have HP := Lib.hid hpt
        have HRW := Lib.hid hr
        have HFL := Lib.hid hfl
        have HPW := Lib.hid hp
        clear hpt hr hfl hAR hp
        go_wp2
        go_loopw [27, 28] (fun fv iv wr => ∃ j : Nat, j ≤ cl.length ∧ iv = .int .i64 j ∧ fv = .int .i64 (frN cl j : Nat) ∧ Below w.heap.size w wr ∧ Hid (RdRid wr (.slice ao rs.length co) rs) ∧ Hid (RdI wr (.slice ac cl.length cc) cl) ∧ Hid (RdI wr (.slice ad cl.length cd) cl)) (fun _ iv _ => cl.length - (intOf iv).toNat)
        case atStart => exact ⟨0, Nat.zero_le _, rfl, rfl, T17, FR_17, FC_17, FD_17⟩
        case round =>
          clear T17 FR_17 FC_17 FD_17
          obtain ⟨j, hj, rfl, rfl, T50, FR_50, FC_50, FD_50⟩ := hrel
          obtain ⟨w50, hw50⟩ : ∃ w50, w50 = wr := ⟨_, rfl⟩
          subst hw50
          by_cases hlt : j < cl.length
          · clear HPW
            obtain ⟨q, eq, q1, q2, pp, hpp, hlp⟩ := HP.out j hlt
            have HPP := Lib.hid hpp
            clear hpp
            have hfn : frN cl (j + 1) = q + 1 := by
              unfold frN
              rw [if_neg (by omega), Nat.add_sub_cancel, eq]
              rfl
            obtain ⟨b, o, eac, c0⟩ := FC_50.out.at2 j hlt
            obtain ⟨b', o', ead, d0⟩ := FD_50.out.at2 j hlt
            subst eac ead
            rw [eq] at c0 d0
            have HD0 := Lib.hid d0
            clear d0
            have hlt' : (j : Int) < (cl.length : Int) := by omega
            have hj0 : (0 : Int) ≤ (j : Int) := by omega
            have hqw : IntKind.i64.wrap ((q : Int) + 1) = (q : Int) + 1 := IntWalk.i64_in _ (by omega)
            have hsl := run_subR1 w50 ao rs.length co (frN cl j) q (by omega) (Nat.le_trans (show q + 1 ≤ rs.length by omega) HCO.out)
            have HSV := Lib.hid (FR_50.out.sub HCO.out (show frN cl j ≤ q + 1 by omega) (show q + 1 ≤ rs.length by omega))
            have hsn : ((rs.drop (frN cl j)).take (q + 1 - frN cl j)).length ≤ 1048576 := by simp; omega
            generalize frN cl j = fj at *
            go_wp2_with fail
            (with_reducible refine (WearOf_r _ _ _ _ _ HSV.out hsn HPP.out).mono ?_)
            rintro e w51 ⟨rfl, hb51⟩
            have T51 : Below w.heap.size w w51 := T50.trans (hb51.mono T50.size)
            have FR_51 : Hid (RdRid w51 (.slice ao rs.length co) rs) := FR_50.out.below hb51
            have FC_51 : Hid (RdI w51 (.slice (some ⟨b, o, none⟩) cl.length cc) cl) := FC_50.out.below hb51
            have FD_51 : Hid (RdI w51 (.slice (some ⟨b', o', none⟩) cl.length cd) cl) := FD_50.out.below hb51
            clear FR_50 FC_50 FD_50
            have d0 := (hb51.cell (p := ⟨b', o' + j, none⟩) (World.block_lt_of_cell? _ _ HD0.out)).trans HD0.out
            have hpd : decide (pp < life) = false := by simp; omega
            clear hsl c0
            go_wp2
            go_roundw
            case rel => exact ⟨j + 1, by omega, by go_num, by rw [hfn]; first | rfl | simp | go_num, T51, FR_51, FC_51, FD_51⟩
            case measure => simp [intOf]; omega
          · obtain rfl : j = cl.length := by omega
            have hfl := HFL.out
            have HSV := Lib.hid (FR_50.out.sub HCO.out hfl (Nat.le_refl _))
            have hsn : ((rs.drop (frN cl cl.length)).take (rs.length - frN cl cl.length)).length ≤ 1048576 := by simp; omega
            generalize frN cl cl.length = fj at *
            have hsl2 := run_subT w50 ao rs.length co fj hfl HCO.out
            go_wp2_with fail
            (with_reducible refine (WearOf_r _ _ _ _ _ HSV.out hsn HRW.out).mono ?_)
            rintro e w51 ⟨rfl, hb51⟩
            have T51 : Below w.heap.size w w51 := T50.trans (hb51.mono T50.size)
            have FR_51 : Hid (RdRid w51 (.slice ao rs.length co) rs) := FR_50.out.below hb51
            have FC_51 : Hid (RdI w51 (.slice ac cl.length cc) cl) := FC_50.out.below hb51
            have FD_51 : Hid (RdI w51 (.slice ad cl.length cd) cl) := FD_50.out.below hb51
            clear FR_50 FC_50 FD_50
            clear hsl2
            have hr1 : decide (life ≤ r) = false := by simp; omega
            have hp := HPW.out
            clear HPW
            subst hp
            by_cases hbad : bad = 0
            · obtain ⟨m, hm, hdm⟩ := HDL.out hbad
              clear HDL
              subst hbad
              obtain ⟨b, o, rfl, c0, c1, c2⟩ := FR_51.out.at m (by omega)
              have hdd : decide ((rs.getD m (0, 0, false)).1 < dd) = true := by simpa using hdm
              generalize (rs.getD m (0, 0, false)) = e at *
              obtain ⟨e0, e1, e2⟩ := e
              simp only at c0 hdd
              have hml : (m : Int) < (rs.length : Int) := by omega
              have hm0 : (0 : Int) ≤ (m : Int) := by omega
              have hmw : IntKind.i64.wrap ((rs.length : Int) - 1) = (m : Int) := by rw [show (rs.length : Int) - 1 = (m : Int) by omega]; exact IntWalk.i64_in _ (by omega)
              clear hm c1 c2 hdm
              go_wp2
              go_ret
              exact ⟨rfl, T51⟩
            · clear HDL
              have hbq : (bad == 0) = false := by rw [beq_eq_false_iff_ne]; exact hbad
              go_wp2
              go_ret
              exact ⟨rfl, T51⟩
      · have hoq : (one == 0) = false := by rw [beq_eq_false_iff_ne]; exact hone
        clear HPL hW HhW
        clear FC_17 FD_17
        by_cases hbad : bad = 0
        · obtain ⟨m, hm, hdm⟩ := HDL.out hbad
          clear HDL
          subst hbad
          obtain ⟨b, o, rfl, c0, c1, c2⟩ := FR_17.out.at m (by omega)
          have hdd : decide ((rs.getD m (0, 0, false)).1 < dd) = true := by simpa using hdm
          generalize (rs.getD m (0, 0, false)) = e at *
          obtain ⟨e0, e1, e2⟩ := e
          simp only at c0 hdd
          have hml : (m : Int) < (rs.length : Int) := by omega
          have hm0 : (0 : Int) ≤ (m : Int) := by omega
          have hmw : IntKind.i64.wrap ((rs.length : Int) - 1) = (m : Int) := by rw [show (rs.length : Int) - 1 = (m : Int) by omega]; exact IntWalk.i64_in _ (by omega)
          clear hm c1 c2 hdm
          go_wp2
          go_ret
          exact ⟨rfl, T17⟩
        · clear HDL
          have hbq : (bad == 0) = false := by rw [beq_eq_false_iff_ne]; exact hbad
          go_wp2
          go_ret
          exact ⟨rfl, T17⟩
  · have HN : Hid (decide (4096 < n) = true) := by show _ = _; simp; omega
    go_enter Try.func13, Try.ntmps13
    go_wp2_with fail
    (with_reducible refine (big_any _ _ _ _).mono ?_)
    rintro e _ ⟨rfl, rfl⟩
    rw [HN.out]
    go_wp2
    go_ret
    exact ⟨rfl, Below.refl _ _⟩
end Go.Proofs.Ythfpikpknojffaa
