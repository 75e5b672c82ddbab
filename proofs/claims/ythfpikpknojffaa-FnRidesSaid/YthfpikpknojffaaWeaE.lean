/- Contracts of WornPercent and ChangedAfter, of the program and of the reference. -/
import Derived.Test.YthfpikpknojffaaWeaD
set_option linter.unusedSimpArgs false
set_option linter.unusedVariables false
namespace Go.Proofs.Ythfpikpknojffaa
open Go.RowKit

def code12 (rs : List Rid) (life : Int) : Int := if areR rs = true then (if inR life 1 10000000 = true then 0 else 2) else 1
def wornR (rs : List Rid) (life : Int) : Int × Int := if areR rs = true then (if inR life 1 10000000 = true then (100 * (chK rs life rs.length).2 / life, 0) else (0, 2)) else (0, 1)
def chAR (rs : List Rid) (life : Int) : List Int × Int := if areR rs = true then (if inR life 1 10000000 = true then ((chK rs life rs.length).1, 0) else ([], 2)) else ([], 1)

set_option maxHeartbeats 800000 in
theorem isLife_any (n : Int) (w : World) :
    Calls Try.prog 54 #[.int .i64 n] w fun e w' => e = .returned (.bool (inR n 1 10000000)) ∧ w = w' := by
  go_enter Try.func54, Try.ntmps54
  go_wp2_with (go_at_call 48; (with_reducible refine (within_any _ _ _ _).mono ?_); rintro e w' ⟨rfl, rfl⟩)
  go_ret
  exact ⟨rfl, rfl⟩
set_option maxHeartbeats 800000 in
theorem l12Code_any (v : Value) (rs : List Rid) (life : Int) (w : World) (hr : RdRid w v rs) (hn : rs.length ≤ 1048576) :
    Calls Try.prog 52 #[v, .int .i64 life] w fun e w' => e = .returned (.int .i64 (code12 rs life)) ∧ Below w.heap.size w w' := by
  have HR := Lib.hid hr
  clear hr
  cases hA : areR rs
  · go_enter Try.func52, Try.ntmps52
    go_wp2_with fail
    (with_reducible refine (sAreRides_any _ rs _ HR.out hn).mono ?_)
    rintro e w1 ⟨rfl, hb1⟩
    go_wp2
    go_ret
    exact ⟨ret_int (by simp [code12, hA]), hb1⟩
  · cases hL : inR life 1 10000000
    · go_enter Try.func52, Try.ntmps52
      go_wp2_with fail
      (with_reducible refine (sAreRides_any _ rs _ HR.out hn).mono ?_)
      rintro e w1 ⟨rfl, hb1⟩
      go_wp2_with (go_at_call 47; (with_reducible refine (l01In_any _ _ _ _).mono ?_); rintro e w' ⟨rfl, rfl⟩)
      go_ret
      exact ⟨ret_int (by simp [code12, hA, hL]), hb1⟩
    · go_enter Try.func52, Try.ntmps52
      go_wp2_with fail
      (with_reducible refine (sAreRides_any _ rs _ HR.out hn).mono ?_)
      rintro e w1 ⟨rfl, hb1⟩
      go_wp2_with (go_at_call 47; (with_reducible refine (l01In_any _ _ _ _).mono ?_); rintro e w' ⟨rfl, rfl⟩)
      go_ret
      exact ⟨ret_int (by simp [code12, hA, hL]), hb1⟩

set_option maxHeartbeats 800000 in
theorem WornPercent_any (v : Value) (rs : List Rid) (life : Int) (w : World) (hr : RdRid w v rs) (hn : rs.length ≤ 1048576) :
    Calls Try.prog 31 #[v, .int .i64 life] w fun e w' => e = .returned (.tuple #[.int .i64 (wornR rs life).1, .int .i64 (wornR rs life).2]) ∧ Below w.heap.size w w' := by
  obtain ⟨a, c, rfl, hr2⟩ := hr.shape
  have HR := Lib.hid hr2
  clear hr2 hr
  cases hA : areR rs
  · have HA := Lib.hid hA
    clear hA
    go_enter Try.func31, Try.ntmps31
    go_wp2_with fail
    (with_reducible refine (AreRides_any _ rs _ HR.out hn).mono ?_)
    rintro e w1 ⟨rfl, hb1⟩
    rw [HA.out]
    go_wp2
    go_ret2
    exact ⟨ret2_end (by unfold wornR; rw [if_neg (by rw [HA.out]; simp)]), hb1⟩
  have HA := Lib.hid hA
  have hn40 := (areR_at hA).1
  clear hA
  cases hL : inR life 1 10000000
  · have HL := Lib.hid hL
    clear hL
    go_enter Try.func31, Try.ntmps31
    go_wp2_with fail
    (with_reducible refine (AreRides_any _ rs _ HR.out hn).mono ?_)
    rintro e w1 ⟨rfl, hb1⟩
    rw [HA.out]
    go_wp2_with fail
    (with_reducible refine (isLife_any _ _).mono ?_)
    rintro e _ ⟨rfl, rfl⟩
    rw [HL.out]
    go_wp2
    go_ret2
    exact ⟨ret2_end (by unfold wornR; rw [if_pos HA.out, if_neg (by rw [HL.out]; simp)]), hb1⟩
  · have HL := Lib.hid hL
    obtain ⟨l1, l2⟩ := inR_iff.1 hL
    clear hL
    go_enter Try.func31, Try.ntmps31
    go_wp2_with fail
    (with_reducible refine (AreRides_any _ rs _ HR.out hn).mono ?_)
    rintro e w1 ⟨rfl, hb1⟩
    rw [HA.out]
    go_wp2_with fail
    (with_reducible refine (isLife_any _ _).mono ?_)
    rintro e _ ⟨rfl, rfl⟩
    rw [HL.out]
    have HR1 := Lib.hid (HR.out.below hb1)
    go_wp2_with fail
    (with_reducible refine (changes_any _ rs _ _ HR1.out HA.out).mono ?_)
    rintro e w2 ⟨v2, rfl, ho2, hb2⟩
    obtain ⟨x1, x2, x3⟩ := chK_bd HA.out life rs.length (Nat.le_refl _)
    have x4 := chK_lt rs l1 rs.length
    have x5 := (wearK_bd HA.out rs.length (Nat.le_refl _)).2
    have HF : Hid (wornR rs life = (100 * (chK rs life rs.length).2 / life, 0)) := by show _ = _; unfold wornR; rw [if_pos HA.out, if_pos HL.out]
    generalize (chK rs life rs.length).2 = q at *
    generalize (chK rs life rs.length).1 = ps at *
    clear ho2 x2 x5
    go_wp2
    go_ret2
    exact ⟨ret2_end HF.out, (by repeat (first | (with_reducible assumption) | (with_reducible exact Below.refl _ _) | (with_reducible refine Below.drew ?_) | (with_reducible refine blw_al ?_ _) | (with_reducible refine blw_stp (by with_reducible assumption) ?_) | (with_reducible refine blw_set ?_ (by dsimp only; omega) _)))⟩

set_option maxHeartbeats 800000 in
theorem sWornPercent_any (v : Value) (rs : List Rid) (life : Int) (w : World) (hr : RdRid w v rs) (hn : rs.length ≤ 1048576) :
    Calls Try.prog 30 #[v, .int .i64 life] w fun e w' => e = .returned (.tuple #[.int .i64 (wornR rs life).1, .int .i64 (wornR rs life).2]) ∧ Below w.heap.size w w' := by
  obtain ⟨a, c, rfl, hr2⟩ := hr.shape
  have HR := Lib.hid hr2
  clear hr2 hr
  cases hA : areR rs
  · have HA := Lib.hid hA
    clear hA
    have hk : code12 rs life = 1 := by unfold code12; rw [if_neg (by rw [HA.out]; simp)]
    go_enter Try.func30, Try.ntmps30
    go_wp2_with fail
    (with_reducible refine (l12Code_any _ rs _ _ HR.out hn).mono ?_)
    rintro e w1 ⟨rfl, hb1⟩
    rw [hk]
    clear hk
    go_wp2
    go_ret2
    exact ⟨ret2_end (by unfold wornR; rw [if_neg (by rw [HA.out]; simp)]), hb1⟩
  have HA := Lib.hid hA
  have hn40 := (areR_at hA).1
  clear hA
  cases hL : inR life 1 10000000
  · have HL := Lib.hid hL
    clear hL
    have hk : code12 rs life = 2 := by unfold code12; rw [if_pos HA.out, if_neg (by rw [HL.out]; simp)]
    go_enter Try.func30, Try.ntmps30
    go_wp2_with fail
    (with_reducible refine (l12Code_any _ rs _ _ HR.out hn).mono ?_)
    rintro e w1 ⟨rfl, hb1⟩
    rw [hk]
    clear hk
    go_wp2
    go_ret2
    exact ⟨ret2_end (by unfold wornR; rw [if_pos HA.out, if_neg (by rw [HL.out]; simp)]), hb1⟩
  · have HL := Lib.hid hL
    obtain ⟨l1, l2⟩ := inR_iff.1 hL
    clear hL
    have hk : code12 rs life = 0 := by unfold code12; rw [if_pos HA.out, if_pos HL.out]
    go_enter Try.func30, Try.ntmps30
    go_wp2_with fail
    (with_reducible refine (l12Code_any _ rs _ _ HR.out hn).mono ?_)
    rintro e w1 ⟨rfl, hb1⟩
    rw [hk]
    clear hk
    have HR1 := Lib.hid (HR.out.below hb1)
    go_wp2_with fail
    (with_reducible refine (l12Changes_any _ rs _ _ HR1.out HA.out).mono ?_)
    rintro e w2 ⟨v2, rfl, ho2, hb2⟩
    obtain ⟨x1, x2, x3⟩ := chK_bd HA.out life rs.length (Nat.le_refl _)
    have x4 := chK_lt rs l1 rs.length
    have x5 := (wearK_bd HA.out rs.length (Nat.le_refl _)).2
    have HF : Hid (wornR rs life = (100 * (chK rs life rs.length).2 / life, 0)) := by show _ = _; unfold wornR; rw [if_pos HA.out, if_pos HL.out]
    generalize (chK rs life rs.length).2 = q at *
    generalize (chK rs life rs.length).1 = ps at *
    clear ho2 x2 x5
    go_wp2
    go_ret2
    exact ⟨ret2_end HF.out, (by repeat (first | (with_reducible assumption) | (with_reducible exact Below.refl _ _) | (with_reducible refine Below.drew ?_) | (with_reducible refine blw_al ?_ _) | (with_reducible refine blw_stp (by with_reducible assumption) ?_) | (with_reducible refine blw_set ?_ (by dsimp only; omega) _)))⟩

set_option maxHeartbeats 800000 in
theorem ChangedAfter_any (v : Value) (rs : List Rid) (life : Int) (w : World) (hr : RdRid w v rs) (hn : rs.length ≤ 1048576) :
    Calls Try.prog 35 #[v, .int .i64 life] w (RetI w (chAR rs life)) := by
  obtain ⟨a, c, rfl, hr2⟩ := hr.shape
  have HR := Lib.hid hr2
  clear hr2 hr
  cases hA : areR rs
  · have HA := Lib.hid hA
    clear hA
    go_enter Try.func35, Try.ntmps35
    go_wp2_with fail
    (with_reducible refine (AreRides_any _ rs _ HR.out hn).mono ?_)
    rintro e w1 ⟨rfl, hb1⟩
    rw [HA.out]
    go_wp2
    go_ret2
    exact RetI.mk (by unfold chAR; rw [if_neg (by rw [HA.out]; simp)]) (OwI.nil _ _) hb1
  have HA := Lib.hid hA
  have hn40 := (areR_at hA).1
  clear hA
  cases hL : inR life 1 10000000
  · have HL := Lib.hid hL
    clear hL
    go_enter Try.func35, Try.ntmps35
    go_wp2_with fail
    (with_reducible refine (AreRides_any _ rs _ HR.out hn).mono ?_)
    rintro e w1 ⟨rfl, hb1⟩
    rw [HA.out]
    go_wp2_with fail
    (with_reducible refine (isLife_any _ _).mono ?_)
    rintro e _ ⟨rfl, rfl⟩
    rw [HL.out]
    go_wp2
    go_ret2
    exact RetI.mk (by unfold chAR; rw [if_pos HA.out, if_neg (by rw [HL.out]; simp)]) (OwI.nil _ _) hb1
  · have HL := Lib.hid hL
    obtain ⟨l1, l2⟩ := inR_iff.1 hL
    clear hL
    go_enter Try.func35, Try.ntmps35
    go_wp2_with fail
    (with_reducible refine (AreRides_any _ rs _ HR.out hn).mono ?_)
    rintro e w1 ⟨rfl, hb1⟩
    rw [HA.out]
    go_wp2_with fail
    (with_reducible refine (isLife_any _ _).mono ?_)
    rintro e _ ⟨rfl, rfl⟩
    rw [HL.out]
    have HR1 := Lib.hid (HR.out.below hb1)
    go_wp2_with fail
    (with_reducible refine (changes_any _ rs _ _ HR1.out HA.out).mono ?_)
    rintro e w2 ⟨v2, rfl, ho2, hb2⟩
    have HF : Hid (chAR rs life = ((chK rs life rs.length).1, 0)) := by show _ = _; unfold chAR; rw [if_pos HA.out, if_pos HL.out]
    have HO := Lib.hid (ho2.mono hb1.size)
    generalize (chK rs life rs.length).2 = q at *
    generalize (chK rs life rs.length).1 = ps at *
    clear ho2
    go_wp2
    go_ret2
    exact RetI.mk HF.out HO.out (by repeat (first | (with_reducible assumption) | (with_reducible exact Below.refl _ _) | (with_reducible refine Below.drew ?_) | (with_reducible refine blw_al ?_ _) | (with_reducible refine blw_stp (by with_reducible assumption) ?_) | (with_reducible refine blw_set ?_ (by dsimp only; omega) _)))

set_option maxHeartbeats 800000 in
theorem sChangedAfter_any (v : Value) (rs : List Rid) (life : Int) (w : World) (hr : RdRid w v rs) (hn : rs.length ≤ 1048576) :
    Calls Try.prog 34 #[v, .int .i64 life] w (RetI w (chAR rs life)) := by
  obtain ⟨a, c, rfl, hr2⟩ := hr.shape
  have HR := Lib.hid hr2
  clear hr2 hr
  cases hA : areR rs
  · have HA := Lib.hid hA
    clear hA
    have hk : code12 rs life = 1 := by unfold code12; rw [if_neg (by rw [HA.out]; simp)]
    go_enter Try.func34, Try.ntmps34
    go_wp2_with fail
    (with_reducible refine (l12Code_any _ rs _ _ HR.out hn).mono ?_)
    rintro e w1 ⟨rfl, hb1⟩
    rw [hk]
    clear hk
    go_wp2
    go_ret2
    exact RetI.mk (by unfold chAR; rw [if_neg (by rw [HA.out]; simp)]) (OwI.nil _ _) hb1
  have HA := Lib.hid hA
  have hn40 := (areR_at hA).1
  clear hA
  cases hL : inR life 1 10000000
  · have HL := Lib.hid hL
    clear hL
    have hk : code12 rs life = 2 := by unfold code12; rw [if_pos HA.out, if_neg (by rw [HL.out]; simp)]
    go_enter Try.func34, Try.ntmps34
    go_wp2_with fail
    (with_reducible refine (l12Code_any _ rs _ _ HR.out hn).mono ?_)
    rintro e w1 ⟨rfl, hb1⟩
    rw [hk]
    clear hk
    go_wp2
    go_ret2
    exact RetI.mk (by unfold chAR; rw [if_pos HA.out, if_neg (by rw [HL.out]; simp)]) (OwI.nil _ _) hb1
  · have HL := Lib.hid hL
    obtain ⟨l1, l2⟩ := inR_iff.1 hL
    clear hL
    have hk : code12 rs life = 0 := by unfold code12; rw [if_pos HA.out, if_pos HL.out]
    go_enter Try.func34, Try.ntmps34
    go_wp2_with fail
    (with_reducible refine (l12Code_any _ rs _ _ HR.out hn).mono ?_)
    rintro e w1 ⟨rfl, hb1⟩
    rw [hk]
    clear hk
    have HR1 := Lib.hid (HR.out.below hb1)
    go_wp2_with fail
    (with_reducible refine (l12Changes_any _ rs _ _ HR1.out HA.out).mono ?_)
    rintro e w2 ⟨v2, rfl, ho2, hb2⟩
    have HF : Hid (chAR rs life = ((chK rs life rs.length).1, 0)) := by show _ = _; unfold chAR; rw [if_pos HA.out, if_pos HL.out]
    have HO := Lib.hid (ho2.mono hb1.size)
    generalize (chK rs life rs.length).2 = q at *
    generalize (chK rs life rs.length).1 = ps at *
    clear ho2
    go_wp2
    go_ret2
    exact RetI.mk HF.out HO.out (by repeat (first | (with_reducible assumption) | (with_reducible exact Below.refl _ _) | (with_reducible refine Below.drew ?_) | (with_reducible refine blw_al ?_ _) | (with_reducible refine blw_stp (by with_reducible assumption) ?_) | (with_reducible refine blw_set ?_ (by dsimp only; omega) _)))

end Go.Proofs.Ythfpikpknojffaa
