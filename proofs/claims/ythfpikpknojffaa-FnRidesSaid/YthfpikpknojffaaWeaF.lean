/- Contracts of DayForChange, of the program and of the reference. -/
import Derived.Test.YthfpikpknojffaaWeaE
import Derived.Test.YthfpikpknojffaaCeil
set_option linter.unusedSimpArgs false
set_option linter.unusedVariables false
namespace Go.Proofs.Ythfpikpknojffaa
open Go.RowKit

theorem day_mono {rs : List Rid} (h : areR rs = true) : ∀ k, k < rs.length → (rs.getD 0 (0, 0, false)).1 ≤ (rs.getD k (0, 0, false)).1 := by
  intro k
  induction k with
  | zero => intro _; exact Int.le_refl _
  | succ k ih =>
    intro hk
    have h1 := ih (by omega)
    have h2 := ((areR_at h).2 (k + 1) hk).2.2.2.2 (by omega)
    exact Int.le_trans h1 h2
/-- The day of the next change. -/
def dayOf (rs : List Rid) (life : Int) : Int := (rs.getD (rs.length - 1) (0, 0, false)).1 + cdiv ((life - (chK rs life rs.length).2) * ((rs.getD (rs.length - 1) (0, 0, false)).1 - (rs.getD 0 (0, 0, false)).1 + 1)) (wearK rs rs.length)
def dayR (rs : List Rid) (life : Int) : Int × Int := if areR rs = true then (if inR life 1 10000000 = true then (if rs.length = 0 then (0, 4) else (if 100000 < dayOf rs life then (0, 4) else (dayOf rs life, 0))) else (0, 2)) else (0, 1)
theorem cdiv_le {a b : Int} (ha : 0 ≤ a) (hb : 1 ≤ b) : 0 ≤ cdiv a b ∧ cdiv a b ≤ a := by
  unfold cdiv
  constructor
  · exact Int.ediv_nonneg (by omega) (by omega)
  · have hm : a + 1 ≤ (a + 1) * b := by
      have := Int.mul_le_mul_of_nonneg_left hb (show (0 : Int) ≤ a + 1 by omega)
      omega
    have h2 : a * b = (a + 1) * b - b := by rw [Int.add_mul, Int.one_mul]; omega
    have h3 : a ≤ a * b := by
      have := Int.mul_le_mul_of_nonneg_left hb ha
      omega
    have := (Int.ediv_lt_iff_lt_mul (a := a + b - 1) (b := a + 1) (show 0 < b by omega)).2 (by omega)
    omega
theorem prod_bd {x y : Int} (h0 : 0 ≤ x) (h1 : x ≤ 10000000) (h2 : 0 ≤ y) (h3 : y ≤ 100001) : 0 ≤ x * y ∧ x * y ≤ 1000010000000 :=
  ⟨Int.mul_nonneg h0 h2, Int.le_trans (Int.mul_le_mul h1 h3 h2 (by omega)) (by decide)⟩

set_option maxHeartbeats 800000 in
theorem DayForChange_any (v : Value) (rs : List Rid) (life : Int) (w : World) (hr : RdRid w v rs) (hn : rs.length ≤ 1048576) :
    Calls Try.prog 40 #[v, .int .i64 life] w fun e w' => e = .returned (.tuple #[.int .i64 (dayR rs life).1, .int .i64 (dayR rs life).2]) ∧ Below w.heap.size w w' := by
  obtain ⟨a, c, rfl, hr2⟩ := hr.shape
  have HR := Lib.hid hr2
  clear hr2 hr
  cases hA : areR rs
  · have HA := Lib.hid hA
    clear hA
    go_enter Try.func40, Try.ntmps40
    go_wp2_with fail
    (with_reducible refine (AreRides_any _ rs _ HR.out hn).mono ?_)
    rintro e w1 ⟨rfl, hb1⟩
    rw [HA.out]
    go_wp2
    go_ret2
    exact ⟨ret2_end (by unfold dayR; rw [if_neg (by rw [HA.out]; simp)]), hb1⟩
  have HA := Lib.hid hA
  have hn40 := (areR_at hA).1
  clear hA
  cases hL : inR life 1 10000000
  · have HL := Lib.hid hL
    clear hL
    go_enter Try.func40, Try.ntmps40
    go_wp2_with fail
    (with_reducible refine (AreRides_any _ rs _ HR.out hn).mono ?_)
    rintro e w1 ⟨rfl, hb1⟩
    rw [HA.out]
    go_wp2_with fail
    (with_reducible refine (isLife_any _ _).mono ?_)
    rintro e _ ⟨rfl, rfl⟩
    rw [HL.out]
    go_wp2
    go_ret2
    exact ⟨ret2_end (by unfold dayR; rw [if_pos HA.out, if_neg (by rw [HL.out]; simp)]), hb1⟩
  · have HL := Lib.hid hL
    obtain ⟨l1, l2⟩ := inR_iff.1 hL
    clear hL
    by_cases hz : rs.length = 0
    · have hx : rs = [] := List.length_eq_zero_iff.1 hz
      subst hx
      have HR0 : Hid (RdRid w (.slice a 0 c) []) := HR.out
      go_enter Try.func40, Try.ntmps40
      go_wp2_with fail
      (with_reducible refine (AreRides_any _ [] _ HR0.out (by simp)).mono ?_)
      rintro e w1 ⟨rfl, hb1⟩
      rw [HA.out]
      go_wp2_with fail
      (with_reducible refine (isLife_any _ _).mono ?_)
      rintro e _ ⟨rfl, rfl⟩
      rw [HL.out]
      go_wp2
      go_ret2
      exact ⟨ret2_end (by unfold dayR; rw [if_pos HA.out, if_pos HL.out]; rfl), hb1⟩
    have hpos : 0 < rs.length := by omega
    have hne : ((rs.length : Int) == 0) = false := by rw [beq_eq_false_iff_ne]; omega
    clear hz
    go_enter Try.func40, Try.ntmps40
    go_wp2_with fail
    (with_reducible refine (AreRides_any _ rs _ HR.out hn).mono ?_)
    rintro e w1 ⟨rfl, hb1⟩
    rw [HA.out]
    go_wp2_with fail
    (with_reducible refine (isLife_any _ _).mono ?_)
    rintro e _ ⟨rfl, rfl⟩
    rw [HL.out]
    have HR1 := Lib.hid (HR.out.below hb1)
    obtain ⟨b0, o0, e0, f0, -, -⟩ := (HR1.out.at) 0 hpos
    obtain ⟨b1, o1, e1, f1, -, -⟩ := (HR1.out.at) (rs.length - 1) (by omega)
    subst e0
    simp only [Option.some.injEq, Addr.mk.injEq] at e1
    obtain ⟨rfl, rfl, -⟩ := e1
    simp only [Nat.zero_mul, Nat.add_zero] at f0
    obtain ⟨d1, d2, -, -, -⟩ := (areR_at HA.out).2 0 hpos
    obtain ⟨d3, d4, -, -, -⟩ := (areR_at HA.out).2 (rs.length - 1) (by omega)
    have d5 := day_mono HA.out (rs.length - 1) (by omega)
    obtain ⟨x1, x2, -⟩ := chK_bd HA.out life rs.length (Nat.le_refl _)
    have x4 := chK_lt rs l1 rs.length
    obtain ⟨x6, x5⟩ := wearK_bd HA.out rs.length (Nat.le_refl _)
    obtain ⟨p1, p2⟩ := prod_bd (x := life - (chK rs life rs.length).2) (y := (rs.getD (rs.length - 1) (0, 0, false)).1 - (rs.getD 0 (0, 0, false)).1 + 1) (by omega) (by omega) (by omega) (by omega)
    obtain ⟨p3, p4⟩ := cdiv_le p1 (show 1 ≤ wearK rs rs.length by omega)
    have HF : Hid (dayR rs life = if 100000 < dayOf rs life then (0, 4) else (dayOf rs life, 0)) := by
      show _ = _
      unfold dayR; rw [if_pos HA.out, if_pos HL.out, if_neg (by omega)]
    have HD : Hid (dayOf rs life = (rs.getD (rs.length - 1) (0, 0, false)).1 + cdiv ((life - (chK rs life rs.length).2) * ((rs.getD (rs.length - 1) (0, 0, false)).1 - (rs.getD 0 (0, 0, false)).1 + 1)) (wearK rs rs.length)) := rfl
    go_wp2_with fail
    (with_reducible refine (changes_any _ rs _ _ HR1.out HA.out).mono ?_)
    rintro e w2 ⟨v2, rfl, ho2, hb2⟩
    have hz1 : b0 < w1.heap.size := World.block_lt_of_cell? w1 _ f0
    have g0 : w2.cell? ⟨b0, o0, none⟩ = _ := (hb2.cell (p := ⟨b0, o0, none⟩) hz1).trans f0
    have g1 : w2.cell? ⟨b0, o0 + (rs.length - 1) * 3, none⟩ = _ := (hb2.cell (p := ⟨b0, o0 + (rs.length - 1) * 3, none⟩) hz1).trans f1
    have HR2 := Lib.hid (HR1.out.below hb2)
    have HWR := Lib.hid (fun (ww : World) (hh : Below w2.heap.size w2 ww) => wearOf_any _ rs ww (HR2.out.below hh) HA.out)
    generalize (chK rs life rs.length).2 = q at *
    generalize (chK rs life rs.length).1 = ps at *
    generalize (rs.getD 0 (0, 0, false)) = r0 at *
    generalize (rs.getD (rs.length - 1) (0, 0, false)) = r1 at *
    obtain ⟨dy0, ty0, wy0⟩ := r0
    obtain ⟨dy1, ty1, wy1⟩ := r1
    simp only at *
    generalize wearK rs rs.length = wk at *
    have hk2 : (rs.length : Int) - 1 < (rs.length : Int) := by omega
    have hk1 : (0 : Int) ≤ (rs.length : Int) - 1 := by omega
    have hkn : ((rs.length : Int) - 1).toNat = rs.length - 1 := by omega
    have hpl : (0 : Int) < (rs.length : Int) := by omega
    have hwk : wk ≤ 1200000 := by omega
    clear ho2 f0 f1 x2 x5
    have k1 : IntKind.i64.wrap (life - q) = life - q := IntWalk.i64_in _ (by omega)
    have k2 : IntKind.i64.wrap (dy1 - dy0) = dy1 - dy0 := IntWalk.i64_in _ (by omega)
    have k3 : IntKind.i64.wrap (dy1 - dy0 + 1) = dy1 - dy0 + 1 := IntWalk.i64_in _ (by omega)
    have k4 : IntKind.i64.wrap ((life - q) * (dy1 - dy0 + 1)) = (life - q) * (dy1 - dy0 + 1) := IntWalk.i64_in _ (by omega)
    have k5 : IntKind.i64.wrap (dy1 + cdiv ((life - q) * (dy1 - dy0 + 1)) wk) = dy1 + cdiv ((life - q) * (dy1 - dy0 + 1)) wk := IntWalk.i64_in _ (by omega)
    by_cases hday : 100000 < dy1 + cdiv ((life - q) * (dy1 - dy0 + 1)) wk
    · have HE : Hid (dayR rs life = (0, 4)) := by show _ = _; rw [HF.out, if_pos (by rw [HD.out]; exact hday)]
      go_wp2_with fail
      go_region_held3 (fun w' => w'.cell? ⟨b0, o0, none⟩ = some (.int .i64 dy0) ∧ Below w2.heap.size w2 w')
        (first | exact ⟨g0, (Below.refl _ _).drew⟩ | exact ⟨(hb.cell (p := ⟨b0, o0, none⟩) (Nat.lt_of_lt_of_le hz1 (Nat.le_trans hb2.size (Nat.le_refl _)))).trans g0, (Below.refl _ _).drew.trans (hb.mono (Nat.le_refl _))⟩ | assumption)
        (first | (go_at_call 51; (with_reducible refine (HWR.out _ ((Below.refl _ _).drew)).mono ?_); rintro e w' ⟨rfl, hb⟩) | (go_at_call 58; (with_reducible refine (ceilDiv_any _ _ _ (by omega) (by omega) (by omega) (by omega)).mono ?_); rintro e w' ⟨rfl, rfl⟩))
      all_goals
        rename_i hH
        obtain ⟨-, hB⟩ := hH
        clear HWR HR1 HR2
        go_wp2
        go_ret2
        exact ⟨ret2_end HE.out, (by repeat (first | (with_reducible assumption) | (with_reducible exact Below.refl _ _) | (with_reducible refine Below.drew ?_) | (with_reducible refine blw_al ?_ _) | (with_reducible refine blw_stp (by with_reducible assumption) ?_) | (with_reducible refine blw_set ?_ (by dsimp only; omega) _)))⟩
    · have HE : Hid (dayR rs life = (dy1 + cdiv ((life - q) * (dy1 - dy0 + 1)) wk, 0)) := by show _ = _; rw [HF.out, if_neg (by rw [HD.out]; exact hday), HD.out]
      go_wp2_with fail
      go_region_held3 (fun w' => w'.cell? ⟨b0, o0, none⟩ = some (.int .i64 dy0) ∧ Below w2.heap.size w2 w')
        (first | exact ⟨g0, (Below.refl _ _).drew⟩ | exact ⟨(hb.cell (p := ⟨b0, o0, none⟩) (Nat.lt_of_lt_of_le hz1 (Nat.le_trans hb2.size (Nat.le_refl _)))).trans g0, (Below.refl _ _).drew.trans (hb.mono (Nat.le_refl _))⟩ | assumption)
        (first | (go_at_call 51; (with_reducible refine (HWR.out _ ((Below.refl _ _).drew)).mono ?_); rintro e w' ⟨rfl, hb⟩) | (go_at_call 58; (with_reducible refine (ceilDiv_any _ _ _ (by omega) (by omega) (by omega) (by omega)).mono ?_); rintro e w' ⟨rfl, rfl⟩))
      all_goals
        rename_i hH
        obtain ⟨-, hB⟩ := hH
        clear HWR HR1 HR2
        go_wp2
        go_ret2
        exact ⟨ret2_end HE.out, (by repeat (first | (with_reducible assumption) | (with_reducible exact Below.refl _ _) | (with_reducible refine Below.drew ?_) | (with_reducible refine blw_al ?_ _) | (with_reducible refine blw_stp (by with_reducible assumption) ?_) | (with_reducible refine blw_set ?_ (by dsimp only; omega) _)))⟩

set_option maxHeartbeats 800000 in
theorem sDayForChange_any (v : Value) (rs : List Rid) (life : Int) (w : World) (hr : RdRid w v rs) (hn : rs.length ≤ 1048576) :
    Calls Try.prog 39 #[v, .int .i64 life] w fun e w' => e = .returned (.tuple #[.int .i64 (dayR rs life).1, .int .i64 (dayR rs life).2]) ∧ Below w.heap.size w w' := by
  obtain ⟨a, c, rfl, hr2⟩ := hr.shape
  have HR := Lib.hid hr2
  clear hr2 hr
  cases hA : areR rs
  · have HA := Lib.hid hA
    clear hA
    have hk : code12 rs life = 1 := by unfold code12; rw [if_neg (by rw [HA.out]; simp)]
    go_enter Try.func39, Try.ntmps39
    go_wp2_with fail
    (with_reducible refine (l12Code_any _ rs _ _ HR.out hn).mono ?_)
    rintro e w1 ⟨rfl, hb1⟩
    rw [hk]
    clear hk
    go_wp2
    go_ret2
    exact ⟨ret2_end (by unfold dayR; rw [if_neg (by rw [HA.out]; simp)]), hb1⟩
  have HA := Lib.hid hA
  have hn40 := (areR_at hA).1
  clear hA
  cases hL : inR life 1 10000000
  · have HL := Lib.hid hL
    clear hL
    have hk : code12 rs life = 2 := by unfold code12; rw [if_pos HA.out, if_neg (by rw [HL.out]; simp)]
    go_enter Try.func39, Try.ntmps39
    go_wp2_with fail
    (with_reducible refine (l12Code_any _ rs _ _ HR.out hn).mono ?_)
    rintro e w1 ⟨rfl, hb1⟩
    rw [hk]
    clear hk
    go_wp2
    go_ret2
    exact ⟨ret2_end (by unfold dayR; rw [if_pos HA.out, if_neg (by rw [HL.out]; simp)]), hb1⟩
  · have HL := Lib.hid hL
    obtain ⟨l1, l2⟩ := inR_iff.1 hL
    clear hL
    by_cases hz : rs.length = 0
    · have hx : rs = [] := List.length_eq_zero_iff.1 hz
      subst hx
      have HR0 : Hid (RdRid w (.slice a 0 c) []) := HR.out
      have hk : code12 [] life = 0 := by unfold code12; rw [if_pos HA.out, if_pos HL.out]
      go_enter Try.func39, Try.ntmps39
      go_wp2_with fail
      (with_reducible refine (l12Code_any _ [] _ _ HR0.out (by simp)).mono ?_)
      rintro e w1 ⟨rfl, hb1⟩
      rw [hk]
      clear hk
      go_wp2
      go_ret2
      exact ⟨ret2_end (by unfold dayR; rw [if_pos HA.out, if_pos HL.out]; rfl), hb1⟩
    have hpos : 0 < rs.length := by omega
    have hne : ((rs.length : Int) == 0) = false := by rw [beq_eq_false_iff_ne]; omega
    clear hz
    have hk : code12 rs life = 0 := by unfold code12; rw [if_pos HA.out, if_pos HL.out]
    go_enter Try.func39, Try.ntmps39
    go_wp2_with fail
    (with_reducible refine (l12Code_any _ rs _ _ HR.out hn).mono ?_)
    rintro e w1 ⟨rfl, hb1⟩
    rw [hk]
    clear hk
    have HR1 := Lib.hid (HR.out.below hb1)
    obtain ⟨b0, o0, e0, f0, -, -⟩ := (HR1.out.at) 0 hpos
    obtain ⟨b1, o1, e1, f1, -, -⟩ := (HR1.out.at) (rs.length - 1) (by omega)
    subst e0
    simp only [Option.some.injEq, Addr.mk.injEq] at e1
    obtain ⟨rfl, rfl, -⟩ := e1
    simp only [Nat.zero_mul, Nat.add_zero] at f0
    obtain ⟨d1, d2, -, -, -⟩ := (areR_at HA.out).2 0 hpos
    obtain ⟨d3, d4, -, -, -⟩ := (areR_at HA.out).2 (rs.length - 1) (by omega)
    have d5 := day_mono HA.out (rs.length - 1) (by omega)
    obtain ⟨x1, x2, -⟩ := chK_bd HA.out life rs.length (Nat.le_refl _)
    have x4 := chK_lt rs l1 rs.length
    obtain ⟨x6, x5⟩ := wearK_bd HA.out rs.length (Nat.le_refl _)
    obtain ⟨p1, p2⟩ := prod_bd (x := life - (chK rs life rs.length).2) (y := (rs.getD (rs.length - 1) (0, 0, false)).1 - (rs.getD 0 (0, 0, false)).1 + 1) (by omega) (by omega) (by omega) (by omega)
    obtain ⟨p3, p4⟩ := cdiv_le p1 (show 1 ≤ wearK rs rs.length by omega)
    have HF : Hid (dayR rs life = if 100000 < dayOf rs life then (0, 4) else (dayOf rs life, 0)) := by
      show _ = _
      unfold dayR; rw [if_pos HA.out, if_pos HL.out, if_neg (by omega)]
    have HD : Hid (dayOf rs life = (rs.getD (rs.length - 1) (0, 0, false)).1 + cdiv ((life - (chK rs life rs.length).2) * ((rs.getD (rs.length - 1) (0, 0, false)).1 - (rs.getD 0 (0, 0, false)).1 + 1)) (wearK rs rs.length)) := rfl
    go_wp2_with fail
    (with_reducible refine (l12Changes_any _ rs _ _ HR1.out HA.out).mono ?_)
    rintro e w2 ⟨v2, rfl, ho2, hb2⟩
    have hz1 : b0 < w1.heap.size := World.block_lt_of_cell? w1 _ f0
    have g0 : w2.cell? ⟨b0, o0, none⟩ = _ := (hb2.cell (p := ⟨b0, o0, none⟩) hz1).trans f0
    have g1 : w2.cell? ⟨b0, o0 + (rs.length - 1) * 3, none⟩ = _ := (hb2.cell (p := ⟨b0, o0 + (rs.length - 1) * 3, none⟩) hz1).trans f1
    have HR2 := Lib.hid (HR1.out.below hb2)
    have HWR := Lib.hid (fun (ww : World) (hh : Below w2.heap.size w2 ww) => l12Wear_any _ rs ww (HR2.out.below hh) HA.out)
    generalize (chK rs life rs.length).2 = q at *
    generalize (chK rs life rs.length).1 = ps at *
    generalize (rs.getD 0 (0, 0, false)) = r0 at *
    generalize (rs.getD (rs.length - 1) (0, 0, false)) = r1 at *
    obtain ⟨dy0, ty0, wy0⟩ := r0
    obtain ⟨dy1, ty1, wy1⟩ := r1
    simp only at *
    generalize wearK rs rs.length = wk at *
    have hk2 : (rs.length : Int) - 1 < (rs.length : Int) := by omega
    have hk1 : (0 : Int) ≤ (rs.length : Int) - 1 := by omega
    have hkn : ((rs.length : Int) - 1).toNat = rs.length - 1 := by omega
    have hpl : (0 : Int) < (rs.length : Int) := by omega
    have hwk : wk ≤ 1200000 := by omega
    clear ho2 f0 f1 x2 x5
    have k1 : IntKind.i64.wrap (life - q) = life - q := IntWalk.i64_in _ (by omega)
    have k2 : IntKind.i64.wrap (dy1 - dy0) = dy1 - dy0 := IntWalk.i64_in _ (by omega)
    have k3 : IntKind.i64.wrap (dy1 - dy0 + 1) = dy1 - dy0 + 1 := IntWalk.i64_in _ (by omega)
    have k4 : IntKind.i64.wrap ((life - q) * (dy1 - dy0 + 1)) = (life - q) * (dy1 - dy0 + 1) := IntWalk.i64_in _ (by omega)
    have k5 : IntKind.i64.wrap (dy1 + cdiv ((life - q) * (dy1 - dy0 + 1)) wk) = dy1 + cdiv ((life - q) * (dy1 - dy0 + 1)) wk := IntWalk.i64_in _ (by omega)
    by_cases hday : 100000 < dy1 + cdiv ((life - q) * (dy1 - dy0 + 1)) wk
    · have HE : Hid (dayR rs life = (0, 4)) := by show _ = _; rw [HF.out, if_pos (by rw [HD.out]; exact hday)]
      go_wp2_with fail
      (with_reducible refine (HWR.out _ (Below.refl _ _)).mono ?_)
      rintro e w3 ⟨rfl, hb3⟩
      go_wp2_with (go_at_call 57; (with_reducible refine (l01Ceil_any _ _ _ (by omega) (by omega) (by omega) (by omega)).mono ?_); rintro e w' ⟨rfl, rfl⟩)
      go_ret2
      exact ⟨ret2_end HE.out, (by repeat (first | (with_reducible assumption) | (with_reducible exact Below.refl _ _) | (with_reducible refine Below.drew ?_) | (with_reducible refine blw_al ?_ _) | (with_reducible refine blw_stp (by with_reducible assumption) ?_) | (with_reducible refine blw_set ?_ (by dsimp only; omega) _)))⟩
    · have HE : Hid (dayR rs life = (dy1 + cdiv ((life - q) * (dy1 - dy0 + 1)) wk, 0)) := by show _ = _; rw [HF.out, if_neg (by rw [HD.out]; exact hday), HD.out]
      go_wp2_with fail
      (with_reducible refine (HWR.out _ (Below.refl _ _)).mono ?_)
      rintro e w3 ⟨rfl, hb3⟩
      go_wp2_with (go_at_call 57; (with_reducible refine (l01Ceil_any _ _ _ (by omega) (by omega) (by omega) (by omega)).mono ?_); rintro e w' ⟨rfl, rfl⟩)
      go_ret2
      exact ⟨ret2_end HE.out, (by repeat (first | (with_reducible assumption) | (with_reducible exact Below.refl _ _) | (with_reducible refine Below.drew ?_) | (with_reducible refine blw_al ?_ _) | (with_reducible refine blw_stp (by with_reducible assumption) ?_) | (with_reducible refine blw_set ?_ (by dsimp only; omega) _)))⟩

end Go.Proofs.Ythfpikpknojffaa
