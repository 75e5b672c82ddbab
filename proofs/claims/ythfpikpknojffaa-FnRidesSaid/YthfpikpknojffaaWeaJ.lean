/- Contracts of AddRide, of the program and of the reference. -/
import Derived.Test.YthfpikpknojffaaWeaB
import Derived.Test.YthfpikpknojffaaRidC
import Derived.Deep.RegionLaw
set_option linter.unusedSimpArgs false
set_option linter.unusedVariables false
namespace Go.Proofs.Ythfpikpknojffaa
open Go.RowKit

def addR (rs : List Rid) (r : Rid) : List Rid × Int := if areR rs = true then (if rs.length = 40 then ([], 3) else (if areR (rs ++ [r]) = true then (rs ++ [r], 0) else ([], 5))) else ([], 1)
/-- A result that is a slice of rides of the call's own, with a code. -/
def RetRid (w : World) (r : List Rid × Int) (e : Ending) (w' : World) : Prop := ∃ v, e = .returned (.tuple #[v, .int .i64 r.2]) ∧ OwRid w' w.heap.size v r.1 ∧ Below w.heap.size w w'
theorem RetRid.mk {w w' : World} {r : List Rid × Int} {v : Value} {xs : List Rid} {c : Int} (h : r = (xs, c)) (ho : OwRid w' w.heap.size v xs) (hb : Below w.heap.size w w') : RetRid w r (.returned (.tuple #[v, .int .i64 c])) w' :=
  ⟨v, by rw [h], by rw [h]; exact ho, hb⟩
theorem blw_ofDrewR {B : Nat} {w w' : World} (h : Below B w.drew w') : Below B w w' := ⟨h.os, h.tape, h.output, h.size, h.block⟩

set_option maxHeartbeats 800000 in
theorem AddRide_any (v : Value) (rs : List Rid) (d t : Int) (wt : Bool) (w : World) (hr : RdRid w v rs) (hn : rs.length ≤ 1048576) :
    Calls Try.prog 27 #[v, .agg #[.int .i64 d, .int .i64 t, .bool wt]] w (RetRid w (addR rs (d, t, wt))) := by
  obtain ⟨a, c, rfl, hr2⟩ := hr.shape
  have HR := Lib.hid hr2
  clear hr2 hr
  cases hA : areR rs
  · have HA := Lib.hid hA
    clear hA
    go_enter Try.func27, Try.ntmps27
    go_wp2_with fail
    (with_reducible refine (AreRides_any _ rs _ (HR.out.below ((by repeat (first | (with_reducible assumption) | (with_reducible exact Below.refl _ _) | (with_reducible refine Below.drew ?_) | (with_reducible refine blw_al ?_ _) | (with_reducible refine blw_stp (by with_reducible assumption) ?_) | (with_reducible refine blw_set ?_ (by dsimp only; omega) _))))) hn).mono ?_)
    rintro e w1 ⟨rfl, hb1⟩
    obtain ⟨hc1, hf1⟩ := bcell hb1
    have hz1 := hb1.size
    simp only [World.size_alloc] at hz1
    have hz0 : w.heap.size < w1.heap.size := by omega
    rw [HA.out]
    go_wp2
    go_ret2
    exact RetRid.mk (by unfold addR; rw [if_neg (by rw [HA.out]; simp)]) (OwRid.nil _ _) (by repeat (first | (with_reducible assumption) | (with_reducible exact Below.refl _ _) | (with_reducible refine Below.drew ?_) | (with_reducible refine blw_al ?_ _) | (with_reducible refine blw_stp (by with_reducible assumption) ?_) | (with_reducible refine blw_set ?_ (by dsimp only; omega) _)))
  have hn40 := (areR_at hA).1
  have HA := Lib.hid hA
  clear hA
  by_cases h40 : rs.length = 40
  · have hq : ((rs.length : Int) == 40) = true := by rw [beq_iff_eq]; omega
    have HF : Hid (addR rs (d, t, wt) = ([], 3)) := by
      show _ = _
      unfold addR; rw [if_pos HA.out, if_pos h40]
    clear h40
    go_enter Try.func27, Try.ntmps27
    go_wp2_with fail
    (with_reducible refine (AreRides_any _ rs _ (HR.out.below ((by repeat (first | (with_reducible assumption) | (with_reducible exact Below.refl _ _) | (with_reducible refine Below.drew ?_) | (with_reducible refine blw_al ?_ _) | (with_reducible refine blw_stp (by with_reducible assumption) ?_) | (with_reducible refine blw_set ?_ (by dsimp only; omega) _))))) hn).mono ?_)
    rintro e w1 ⟨rfl, hb1⟩
    obtain ⟨hc1, hf1⟩ := bcell hb1
    have hz1 := hb1.size
    simp only [World.size_alloc] at hz1
    have hz0 : w.heap.size < w1.heap.size := by omega
    rw [HA.out]
    go_wp2
    go_ret2
    exact RetRid.mk HF.out (OwRid.nil _ _) (by repeat (first | (with_reducible assumption) | (with_reducible exact Below.refl _ _) | (with_reducible refine Below.drew ?_) | (with_reducible refine blw_al ?_ _) | (with_reducible refine blw_stp (by with_reducible assumption) ?_) | (with_reducible refine blw_set ?_ (by dsimp only; omega) _)))
  have hq : ((rs.length : Int) == 40) = false := by rw [beq_eq_false_iff_ne]; omega
  have HN40 := Lib.hid h40
  have hle : rs.length ≤ 39 := by omega
  clear h40
  go_enter Try.func27, Try.ntmps27
  go_wp2_with fail
  (with_reducible refine (AreRides_any _ rs _ (HR.out.below ((by repeat (first | (with_reducible assumption) | (with_reducible exact Below.refl _ _) | (with_reducible refine Below.drew ?_) | (with_reducible refine blw_al ?_ _) | (with_reducible refine blw_stp (by with_reducible assumption) ?_) | (with_reducible refine blw_set ?_ (by dsimp only; omega) _))))) hn).mono ?_)
  rintro e w1 ⟨rfl, hb1⟩
  obtain ⟨hc1, hf1⟩ := bcell hb1
  have hz1 := hb1.size
  simp only [World.size_alloc] at hz1
  have hz0 : w.heap.size < w1.heap.size := by omega
  rw [HA.out]
  have hb0 : Below w.heap.size w w1 := (by repeat (first | (with_reducible assumption) | (with_reducible exact Below.refl _ _) | (with_reducible refine Below.drew ?_) | (with_reducible refine blw_al ?_ _) | (with_reducible refine blw_stp (by with_reducible assumption) ?_) | (with_reducible refine blw_set ?_ (by dsimp only; omega) _)))
  have c0 : w1.cell? ⟨w.heap.size, 0, none⟩ = some (.int .i64 d) := by rw [hc1 _ _ (by simp)]; simp [go_sem]
  have c1 : w1.cell? ⟨w.heap.size, 1, none⟩ = some (.int .i64 t) := by rw [hc1 _ _ (by simp)]; simp [go_sem]
  have c2 : w1.cell? ⟨w.heap.size, 2, none⟩ = some (.bool wt) := by rw [hc1 _ _ (by simp)]; simp [go_sem]
  clear hc1 hf1 hb1
  have HR1 := Lib.hid (HR.out.below (hb0.mono (Nat.le_refl _)))
  have HB0 := Lib.hid hb0
  have KP : Hid (∀ W, Below w1.heap.size w1 W → W.cell? ⟨w.heap.size, 0, none⟩ = some (.int .i64 d) ∧ W.cell? ⟨w.heap.size, 1, none⟩ = some (.int .i64 t) ∧ W.cell? ⟨w.heap.size, 2, none⟩ = some (.bool wt)) := by
    show ∀ W, _
    intro W hb
    exact ⟨(hb.cell (p := ⟨w.heap.size, 0, none⟩) hz0).trans c0, (hb.cell (p := ⟨w.heap.size, 1, none⟩) hz0).trans c1, (hb.cell (p := ⟨w.heap.size, 2, none⟩) hz0).trans c2⟩
  clear c0 c1 c2 hb0 hz1
  go_wp2
  go_region_held3 (fun W => W.cell? ⟨w.heap.size, 0, none⟩ = some (.int .i64 d) ∧ W.cell? ⟨w.heap.size, 1, none⟩ = some (.int .i64 t) ∧ W.cell? ⟨w.heap.size, 2, none⟩ = some (.bool wt))
    (exact KP.out _ (by repeat (first | (with_reducible exact HB1.out) | (with_reducible exact HB2.out) | (with_reducible assumption) | (with_reducible exact Below.refl _ _) | (with_reducible refine Below.drew ?_) | (with_reducible refine blw_al ?_ _) | (with_reducible refine blw_stp (by with_reducible assumption) ?_) | (with_reducible refine blw_set ?_ (by dsimp only; omega) _))))
    ((first
      | (refine step_appRid _ (by rfl) _ _ (by rfl) w1.heap.size _ _ [] rs (by rfl) (by rfl) ?_ ?_ ?_ ?_ ?_
         · repeat (first | (with_reducible refine OwRid.drew ?_) | (exact OwRid.lit0 _ (by simp) (by simp)) | (with_reducible refine OwRid.alloc ?_ _))
         · exact HR1.out.below (by repeat (first | (with_reducible refine blw_drewN ?_ _) | (with_reducible assumption) | (with_reducible exact Below.refl _ _) | (with_reducible refine Below.drew ?_) | (with_reducible refine blw_al ?_ _) | (with_reducible refine blw_stp (by with_reducible assumption) ?_) | (with_reducible refine blw_set ?_ (by dsimp only; omega) _)))
         · simp; omega
         · (try simp); (try omega)
         intro v2 w2 ho2 hg2
         have HB1 : Hid (Below w1.heap.size w1 w2) := by
           refine Below.grown (by repeat (first | (with_reducible refine blw_drewN ?_ _) | (with_reducible assumption) | (with_reducible exact Below.refl _ _) | (with_reducible refine Below.drew ?_) | (with_reducible refine blw_al ?_ _) | (with_reducible refine blw_stp (by with_reducible assumption) ?_) | (with_reducible refine blw_set ?_ (by dsimp only; omega) _))) hg2 ?_ ?_
           · (try simp); (try omega)
           · intro k hk
             first
               | (have hk' : (Value.slice (some ⟨w1.heap.size, 0, none⟩) 0 0).ownBlock = some k := hk
                  simp [Value.ownBlock] at hk'
                  omega)
               | (have hk' : (Value.slice (some ⟨w1.heap.size + 1, 0, none⟩) 0 0).ownBlock = some k := hk
                  simp [Value.ownBlock] at hk'
                  omega)
         have HO1 := Lib.hid ho2
         have HG1 := Lib.hid hg2
         clear ho2 hg2)
      | (refine step_appRid _ (by rfl) _ _ (by rfl) w1.heap.size v2 _ ([] ++ rs) [(d, t, wt)] (by rfl) (by rfl) ?_ ?_ ?_ ?_ ?_
         · repeat (first | (with_reducible exact HO1.out) | (with_reducible refine OwRid.drew ?_) | (with_reducible refine OwRid.alloc ?_ _))
         · repeat (first | (exact RdRid.one _ (d, t, wt) (by simp)) | (with_reducible refine RdRid.drew ?_) | (with_reducible refine RdRid.alloc ?_ _) | (refine RdRid.far ?_ HG1.out ?_; rotate_left; (first | exact (fun e => by have e' : (Value.slice (some ⟨w1.heap.size, 0, none⟩) 0 0).ownBlock = some (w1.heap.size + 1) := e; simp [Value.ownBlock] at e') | exact (fun e => by have e' : (Value.slice (some ⟨w1.heap.size + 1, 0, none⟩) 0 0).ownBlock = some w1.heap.size := e; simp [Value.ownBlock] at e'))))
         · simp; omega
         · (have := HB1.out.size; (try simp); omega)
         intro v3 w3 ho3 hg3
         have HB2 : Hid (Below w1.heap.size w1 w3) := by
           refine Below.grown (by repeat (first | (with_reducible exact HB1.out) | (with_reducible exact HB2.out) | (with_reducible assumption) | (with_reducible exact Below.refl _ _) | (with_reducible refine Below.drew ?_) | (with_reducible refine blw_al ?_ _) | (with_reducible refine blw_stp (by with_reducible assumption) ?_) | (with_reducible refine blw_set ?_ (by dsimp only; omega) _))) hg3 ?_ (fun k hk => (World.ownsRow.lt HO1.out k hk).1)
           have := HB1.out.size
           (try simp); omega
         have HO2 := Lib.hid ho3
         clear ho3 hg3)
      | fail))
  all_goals
    have HO3 : Hid (OwRid w3 w.heap.size v3 (rs ++ [(d, t, wt)])) := by
      show OwRid _ _ _ _
      have := HO2.out.mono (base' := w.heap.size) (by omega)
      simpa using this
    have HW : Hid (Below w.heap.size w w3) := HB0.out.trans (HB2.out.mono (by omega))
    have HR3 := Lib.hid HO3.out.rd
    have hl3 : (rs ++ [(d, t, wt)]).length ≤ 1048576 := by simp; omega
    obtain ⟨a3, cp3, e3, -⟩ := HO3.out.rd.shape
    rw [show (rs ++ [(d, t, wt)]).length = rs.length + 1 by simp] at e3
    subst e3
    clear HO1 HO2 HB1 HB2 HG1 HR1 KP
    go_wp2_with fail
    (with_reducible refine (AreRides_any _ (rs ++ [(d, t, wt)]) _ HR3.out hl3).mono ?_)
    rintro e w4 ⟨rfl, hb4⟩
    have HB4 := Lib.hid hb4
    have HO4 := Lib.hid (HO3.out.below hb4)
    have HW4 : Hid (Below w.heap.size w w4) := HW.out.trans (hb4.mono HW.out.size)
    clear hb4 HO3 HW HR3
    cases hA2 : areR (rs ++ [(d, t, wt)])
    · have HF : Hid (addR rs (d, t, wt) = ([], 5)) := by
        show _ = _
        unfold addR; rw [if_pos HA.out, if_neg HN40.out, if_neg (by rw [hA2]; simp)]
      go_wp2
      go_ret2
      exact RetRid.mk HF.out (OwRid.nil _ _) HW4.out
    · have HF : Hid (addR rs (d, t, wt) = (rs ++ [(d, t, wt)], 0)) := by
        show _ = _
        unfold addR; rw [if_pos HA.out, if_neg HN40.out, if_pos hA2]
      go_wp2
      go_ret2
      exact RetRid.mk HF.out HO4.out HW4.out

set_option maxHeartbeats 800000 in
theorem sAddRide_any (v : Value) (rs : List Rid) (d t : Int) (wt : Bool) (w : World) (hr : RdRid w v rs) (hn : rs.length ≤ 1048576) :
    Calls Try.prog 25 #[v, .agg #[.int .i64 d, .int .i64 t, .bool wt]] w (RetRid w (addR rs (d, t, wt))) := by
  obtain ⟨a, c, rfl, hr2⟩ := hr.shape
  have HR := Lib.hid hr2
  clear hr2 hr
  cases hA : areR rs
  · have HA := Lib.hid hA
    clear hA
    go_enter Try.func25, Try.ntmps25
    go_wp2_with fail
    (with_reducible refine (sAreRides_any _ rs _ (HR.out.below ((by repeat (first | (with_reducible assumption) | (with_reducible exact Below.refl _ _) | (with_reducible refine Below.drew ?_) | (with_reducible refine blw_al ?_ _) | (with_reducible refine blw_stp (by with_reducible assumption) ?_) | (with_reducible refine blw_set ?_ (by dsimp only; omega) _))))) hn).mono ?_)
    rintro e w1 ⟨rfl, hb1⟩
    obtain ⟨hc1, hf1⟩ := bcell hb1
    have hz1 := hb1.size
    simp only [World.size_alloc] at hz1
    have hz0 : w.heap.size < w1.heap.size := by omega
    rw [HA.out]
    go_wp2
    go_ret2
    exact RetRid.mk (by unfold addR; rw [if_neg (by rw [HA.out]; simp)]) (OwRid.nil _ _) (by repeat (first | (with_reducible assumption) | (with_reducible exact Below.refl _ _) | (with_reducible refine Below.drew ?_) | (with_reducible refine blw_al ?_ _) | (with_reducible refine blw_stp (by with_reducible assumption) ?_) | (with_reducible refine blw_set ?_ (by dsimp only; omega) _)))
  have hn40 := (areR_at hA).1
  have HA := Lib.hid hA
  clear hA
  by_cases h40 : rs.length = 40
  · have hq : ((rs.length : Int) == 40) = true := by rw [beq_iff_eq]; omega
    have HF : Hid (addR rs (d, t, wt) = ([], 3)) := by
      show _ = _
      unfold addR; rw [if_pos HA.out, if_pos h40]
    clear h40
    go_enter Try.func25, Try.ntmps25
    go_wp2_with fail
    (with_reducible refine (sAreRides_any _ rs _ (HR.out.below ((by repeat (first | (with_reducible assumption) | (with_reducible exact Below.refl _ _) | (with_reducible refine Below.drew ?_) | (with_reducible refine blw_al ?_ _) | (with_reducible refine blw_stp (by with_reducible assumption) ?_) | (with_reducible refine blw_set ?_ (by dsimp only; omega) _))))) hn).mono ?_)
    rintro e w1 ⟨rfl, hb1⟩
    obtain ⟨hc1, hf1⟩ := bcell hb1
    have hz1 := hb1.size
    simp only [World.size_alloc] at hz1
    have hz0 : w.heap.size < w1.heap.size := by omega
    rw [HA.out]
    go_wp2
    go_ret2
    exact RetRid.mk HF.out (OwRid.nil _ _) (by repeat (first | (with_reducible assumption) | (with_reducible exact Below.refl _ _) | (with_reducible refine Below.drew ?_) | (with_reducible refine blw_al ?_ _) | (with_reducible refine blw_stp (by with_reducible assumption) ?_) | (with_reducible refine blw_set ?_ (by dsimp only; omega) _)))
  have hq : ((rs.length : Int) == 40) = false := by rw [beq_eq_false_iff_ne]; omega
  have HN40 := Lib.hid h40
  have hle : rs.length ≤ 39 := by omega
  clear h40
  go_enter Try.func25, Try.ntmps25
  go_wp2_with fail
  (with_reducible refine (sAreRides_any _ rs _ (HR.out.below ((by repeat (first | (with_reducible assumption) | (with_reducible exact Below.refl _ _) | (with_reducible refine Below.drew ?_) | (with_reducible refine blw_al ?_ _) | (with_reducible refine blw_stp (by with_reducible assumption) ?_) | (with_reducible refine blw_set ?_ (by dsimp only; omega) _))))) hn).mono ?_)
  rintro e w1 ⟨rfl, hb1⟩
  obtain ⟨hc1, hf1⟩ := bcell hb1
  have hz1 := hb1.size
  simp only [World.size_alloc] at hz1
  have hz0 : w.heap.size < w1.heap.size := by omega
  rw [HA.out]
  have hb0 : Below w.heap.size w w1 := (by repeat (first | (with_reducible assumption) | (with_reducible exact Below.refl _ _) | (with_reducible refine Below.drew ?_) | (with_reducible refine blw_al ?_ _) | (with_reducible refine blw_stp (by with_reducible assumption) ?_) | (with_reducible refine blw_set ?_ (by dsimp only; omega) _)))
  have c0 : w1.cell? ⟨w.heap.size, 0, none⟩ = some (.int .i64 d) := by rw [hc1 _ _ (by simp)]; simp [go_sem]
  have c1 : w1.cell? ⟨w.heap.size, 1, none⟩ = some (.int .i64 t) := by rw [hc1 _ _ (by simp)]; simp [go_sem]
  have c2 : w1.cell? ⟨w.heap.size, 2, none⟩ = some (.bool wt) := by rw [hc1 _ _ (by simp)]; simp [go_sem]
  clear hc1 hf1 hb1
  have HR1 := Lib.hid (HR.out.below (hb0.mono (Nat.le_refl _)))
  have HB0 := Lib.hid hb0
  have KP : Hid (∀ W, Below w1.heap.size w1 W → W.cell? ⟨w.heap.size, 0, none⟩ = some (.int .i64 d) ∧ W.cell? ⟨w.heap.size, 1, none⟩ = some (.int .i64 t) ∧ W.cell? ⟨w.heap.size, 2, none⟩ = some (.bool wt)) := by
    show ∀ W, _
    intro W hb
    exact ⟨(hb.cell (p := ⟨w.heap.size, 0, none⟩) hz0).trans c0, (hb.cell (p := ⟨w.heap.size, 1, none⟩) hz0).trans c1, (hb.cell (p := ⟨w.heap.size, 2, none⟩) hz0).trans c2⟩
  clear c0 c1 c2 hb0 hz1
  go_wp2
  go_region_held3 (fun W => W.cell? ⟨w.heap.size, 0, none⟩ = some (.int .i64 d) ∧ W.cell? ⟨w.heap.size, 1, none⟩ = some (.int .i64 t) ∧ W.cell? ⟨w.heap.size, 2, none⟩ = some (.bool wt))
    (exact KP.out _ (by repeat (first | (with_reducible exact HB1.out) | (with_reducible exact HB2.out) | (with_reducible assumption) | (with_reducible exact Below.refl _ _) | (with_reducible refine Below.drew ?_) | (with_reducible refine blw_al ?_ _) | (with_reducible refine blw_stp (by with_reducible assumption) ?_) | (with_reducible refine blw_set ?_ (by dsimp only; omega) _))))
    ((first
      | (refine step_appRid _ (by rfl) _ _ (by rfl) w1.heap.size _ _ [] rs (by rfl) (by rfl) ?_ ?_ ?_ ?_ ?_
         · repeat (first | (with_reducible refine OwRid.drew ?_) | (exact OwRid.lit0 _ (by simp) (by simp)) | (with_reducible refine OwRid.alloc ?_ _))
         · exact HR1.out.below (by repeat (first | (with_reducible refine blw_drewN ?_ _) | (with_reducible assumption) | (with_reducible exact Below.refl _ _) | (with_reducible refine Below.drew ?_) | (with_reducible refine blw_al ?_ _) | (with_reducible refine blw_stp (by with_reducible assumption) ?_) | (with_reducible refine blw_set ?_ (by dsimp only; omega) _)))
         · simp; omega
         · (try simp); (try omega)
         intro v2 w2 ho2 hg2
         have HB1 : Hid (Below w1.heap.size w1 w2) := by
           refine Below.grown (by repeat (first | (with_reducible refine blw_drewN ?_ _) | (with_reducible assumption) | (with_reducible exact Below.refl _ _) | (with_reducible refine Below.drew ?_) | (with_reducible refine blw_al ?_ _) | (with_reducible refine blw_stp (by with_reducible assumption) ?_) | (with_reducible refine blw_set ?_ (by dsimp only; omega) _))) hg2 ?_ ?_
           · (try simp); (try omega)
           · intro k hk
             first
               | (have hk' : (Value.slice (some ⟨w1.heap.size, 0, none⟩) 0 0).ownBlock = some k := hk
                  simp [Value.ownBlock] at hk'
                  omega)
               | (have hk' : (Value.slice (some ⟨w1.heap.size + 1, 0, none⟩) 0 0).ownBlock = some k := hk
                  simp [Value.ownBlock] at hk'
                  omega)
         have HO1 := Lib.hid ho2
         have HG1 := Lib.hid hg2
         clear ho2 hg2)
      | (refine step_appRid _ (by rfl) _ _ (by rfl) w1.heap.size v2 _ ([] ++ rs) [(d, t, wt)] (by rfl) (by rfl) ?_ ?_ ?_ ?_ ?_
         · repeat (first | (with_reducible exact HO1.out) | (with_reducible refine OwRid.drew ?_) | (with_reducible refine OwRid.alloc ?_ _))
         · repeat (first | (exact RdRid.one _ (d, t, wt) (by simp)) | (with_reducible refine RdRid.drew ?_) | (with_reducible refine RdRid.alloc ?_ _) | (refine RdRid.far ?_ HG1.out ?_; rotate_left; (first | exact (fun e => by have e' : (Value.slice (some ⟨w1.heap.size, 0, none⟩) 0 0).ownBlock = some (w1.heap.size + 1) := e; simp [Value.ownBlock] at e') | exact (fun e => by have e' : (Value.slice (some ⟨w1.heap.size + 1, 0, none⟩) 0 0).ownBlock = some w1.heap.size := e; simp [Value.ownBlock] at e'))))
         · simp; omega
         · (have := HB1.out.size; (try simp); omega)
         intro v3 w3 ho3 hg3
         have HB2 : Hid (Below w1.heap.size w1 w3) := by
           refine Below.grown (by repeat (first | (with_reducible exact HB1.out) | (with_reducible exact HB2.out) | (with_reducible assumption) | (with_reducible exact Below.refl _ _) | (with_reducible refine Below.drew ?_) | (with_reducible refine blw_al ?_ _) | (with_reducible refine blw_stp (by with_reducible assumption) ?_) | (with_reducible refine blw_set ?_ (by dsimp only; omega) _))) hg3 ?_ (fun k hk => (World.ownsRow.lt HO1.out k hk).1)
           have := HB1.out.size
           (try simp); omega
         have HO2 := Lib.hid ho3
         clear ho3 hg3)
      | fail))
  all_goals
    have HO3 : Hid (OwRid w3 w.heap.size v3 (rs ++ [(d, t, wt)])) := by
      show OwRid _ _ _ _
      have := HO2.out.mono (base' := w.heap.size) (by omega)
      simpa using this
    have HW : Hid (Below w.heap.size w w3) := HB0.out.trans (HB2.out.mono (by omega))
    have HR3 := Lib.hid HO3.out.rd
    have hl3 : (rs ++ [(d, t, wt)]).length ≤ 1048576 := by simp; omega
    obtain ⟨a3, cp3, e3, -⟩ := HO3.out.rd.shape
    rw [show (rs ++ [(d, t, wt)]).length = rs.length + 1 by simp] at e3
    subst e3
    clear HO1 HO2 HB1 HB2 HG1 HR1 KP
    go_wp2_with fail
    (with_reducible refine (sAreRides_any _ (rs ++ [(d, t, wt)]) _ HR3.out hl3).mono ?_)
    rintro e w4 ⟨rfl, hb4⟩
    have HB4 := Lib.hid hb4
    have HO4 := Lib.hid (HO3.out.below hb4)
    have HW4 : Hid (Below w.heap.size w w4) := HW.out.trans (hb4.mono HW.out.size)
    clear hb4 HO3 HW HR3
    cases hA2 : areR (rs ++ [(d, t, wt)])
    · have HF : Hid (addR rs (d, t, wt) = ([], 5)) := by
        show _ = _
        unfold addR; rw [if_pos HA.out, if_neg HN40.out, if_neg (by rw [hA2]; simp)]
      go_wp2
      go_ret2
      exact RetRid.mk HF.out (OwRid.nil _ _) HW4.out
    · have HF : Hid (addR rs (d, t, wt) = (rs ++ [(d, t, wt)], 0)) := by
        show _ = _
        unfold addR; rw [if_pos HA.out, if_neg HN40.out, if_pos hA2]
      go_wp2
      go_ret2
      exact RetRid.mk HF.out HO4.out HW4.out

end Go.Proofs.Ythfpikpknojffaa
