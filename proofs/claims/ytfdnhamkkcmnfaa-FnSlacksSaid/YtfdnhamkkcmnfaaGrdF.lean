/- Contracts of SlacksOf and UsableGears, of the program and of the reference. -/
import Derived.Test.YtfdnhamkkcmnfaaGrdE
set_option linter.unusedSimpArgs false
set_option linter.unusedVariables false
namespace Go.Proofs.Ytfdnhamkkcmnfaa
open Go.RowKit

def slkR (F R : List Int) (rd stay links : Int) : List Int × Int := if trainR F R rd = true then (if (inR stay 3000 6000 && linksOk links) = true then (slkG F R stay links, 0) else ([], 2)) else ([], 1)
def usR (F R : List Int) (rd limit : Int) : List Gear × Int := if trainR F R rd = true then (if inR limit 0 4 = true then (usG F R limit, 0) else ([], 2)) else ([], 1)
/-- A result that is a slice of gears of the call's own, with a code. -/
def RetG (w : World) (r : List Gear × Int) (e : Ending) (w' : World) : Prop := ∃ v L, e = .returned (.tuple #[v, .int .i64 r.2]) ∧ OwG w' w.heap.size v L ∧ L.map Prod.fst = r.1 ∧ Below w.heap.size w w'
theorem RetG.mk {w w' : World} {r : List Gear × Int} {v : Value} {gs : List Gear} {c : Int} {L : List Gb} (h : r = (gs, c)) (ho : OwG w' w.heap.size v L) (hm : L.map Prod.fst = gs) (hb : Below w.heap.size w w') : RetG w r (.returned (.tuple #[v, .int .i64 c])) w' :=
  ⟨v, L, by rw [h], ho, by rw [h]; exact hm, hb⟩
theorem linksOk_bd {n : Int} (h : linksOk n = true) : 40 ≤ n ∧ n ≤ 200 := by
  unfold linksOk at h
  simp only [Bool.and_eq_true, inR_iff] at h
  exact h.1
theorem gear00 {F R : List Int} {rd : Int} (h : trainR F R rd = true) : gearR F R 0 0 = true := by
  obtain ⟨tF, tR, -, -⟩ := trainR_at h
  have h1 := (teethR_at tF).1
  have h2 := (teethR_at tR).1
  simp only [gearR, Bool.and_eq_true, inR_iff]
  omega

set_option maxHeartbeats 800000 in
theorem SlacksOf_any (vF vR : Value) (F R : List Int) (rd : Int) (stay links : Int) (w : World) (hF : RdI w vF F) (hR : RdI w vR R) (hn : F.length ≤ 1048576) (hm : R.length ≤ 1048576)  :
    Calls Try.prog 32 #[.agg #[vF, vR, .int .i64 rd], .int .i64 stay, .int .i64 links] w (RetI w (slkR F R rd stay links)) := by
  have HF := Lib.hid hF
  have HRr := Lib.hid hR
  obtain ⟨aF, cF, rfl, -⟩ := hF
  obtain ⟨aR, cR, rfl, -⟩ := hR
  cases hA : trainR F R rd
  · have HE : Hid (slkR F R rd stay links = ([], 1)) := by show _ = _; unfold slkR; rw [hA]; rfl
    have HA := Lib.hid hA
    clear hA
    go_enter Try.func32, Try.ntmps32
    go_wp2_with fail
    generalize hw : w.alloc (.cells #[.slice aF F.length cF, .slice aR R.length cR, .int .i64 rd] 28) = W0
    have bx0 : W0.cell? ⟨w.heap.size, 0, none⟩ = some (.slice aF F.length cF) := by rw [← hw]; simp [go_sem]
    have bx1 : W0.cell? ⟨w.heap.size, 1, none⟩ = some (.slice aR R.length cR) := by rw [← hw]; simp [go_sem]
    have bx2 : W0.cell? ⟨w.heap.size, 2, none⟩ = some (.int .i64 rd) := by rw [← hw]; simp [go_sem]
    have hbx : w.heap.size < W0.heap.size := by rw [← hw]; simp
    have HTW : Hid (Below w.heap.size w W0) := by
      show Below _ _ _
      rw [← hw]; exact (Below.refl _ _).alloc (Nat.le_refl _) _
    have HF0 := Lib.hid (show RdI W0 (.slice aF F.length cF) F by rw [← hw]; exact HF.out.alloc _)
    have HR0 := Lib.hid (show RdI W0 (.slice aR R.length cR) R by rw [← hw]; exact HRr.out.alloc _)
    have HBX := Lib.hid (And.intro bx0 (And.intro bx1 bx2))
    have T0 := Below.refl W0.heap.size W0
    clear hw
    go_wp2_with fail
    (with_reducible refine (IsTrain_any _ _ F R rd _ (HF0.out.below T0) (HR0.out.below T0) hn hm).mono ?_)
    rintro e w1 ⟨rfl, hb1⟩
    have T1 : Below W0.heap.size W0 w1 := T0.trans (hb1.mono T0.size)
    clear bx0 bx1 bx2
    have bx0 := (T1.cell (p := ⟨w.heap.size, 0, none⟩) hbx).trans HBX.out.1
    have bx1 := (T1.cell (p := ⟨w.heap.size, 1, none⟩) hbx).trans HBX.out.2.1
    have bx2 := (T1.cell (p := ⟨w.heap.size, 2, none⟩) hbx).trans HBX.out.2.2
    rw [HA.out]
    go_wp2
    go_ret2
    exact RetI.mk HE.out (OwI.nil _ _) (HTW.out.trans (T1.mono (Nat.le_of_lt hbx)))
  cases hB : inR stay 3000 6000
  · have HE : Hid (slkR F R rd stay links = ([], 2)) := by show _ = _; unfold slkR; rw [hA, hB, Bool.false_and]; rfl
    have HA := Lib.hid hA
    have HB := Lib.hid hB
    clear hA hB
    go_enter Try.func32, Try.ntmps32
    go_wp2_with fail
    generalize hw : w.alloc (.cells #[.slice aF F.length cF, .slice aR R.length cR, .int .i64 rd] 28) = W0
    have bx0 : W0.cell? ⟨w.heap.size, 0, none⟩ = some (.slice aF F.length cF) := by rw [← hw]; simp [go_sem]
    have bx1 : W0.cell? ⟨w.heap.size, 1, none⟩ = some (.slice aR R.length cR) := by rw [← hw]; simp [go_sem]
    have bx2 : W0.cell? ⟨w.heap.size, 2, none⟩ = some (.int .i64 rd) := by rw [← hw]; simp [go_sem]
    have hbx : w.heap.size < W0.heap.size := by rw [← hw]; simp
    have HTW : Hid (Below w.heap.size w W0) := by
      show Below _ _ _
      rw [← hw]; exact (Below.refl _ _).alloc (Nat.le_refl _) _
    have HF0 := Lib.hid (show RdI W0 (.slice aF F.length cF) F by rw [← hw]; exact HF.out.alloc _)
    have HR0 := Lib.hid (show RdI W0 (.slice aR R.length cR) R by rw [← hw]; exact HRr.out.alloc _)
    have HBX := Lib.hid (And.intro bx0 (And.intro bx1 bx2))
    have T0 := Below.refl W0.heap.size W0
    clear hw
    go_wp2_with fail
    (with_reducible refine (IsTrain_any _ _ F R rd _ (HF0.out.below T0) (HR0.out.below T0) hn hm).mono ?_)
    rintro e w1 ⟨rfl, hb1⟩
    have T1 : Below W0.heap.size W0 w1 := T0.trans (hb1.mono T0.size)
    clear bx0 bx1 bx2
    have bx0 := (T1.cell (p := ⟨w.heap.size, 0, none⟩) hbx).trans HBX.out.1
    have bx1 := (T1.cell (p := ⟨w.heap.size, 1, none⟩) hbx).trans HBX.out.2.1
    have bx2 := (T1.cell (p := ⟨w.heap.size, 2, none⟩) hbx).trans HBX.out.2.2
    rw [HA.out]
    go_wp2_with fail
    (with_reducible refine (isStay_any _ _).mono ?_)
    rintro e _ ⟨rfl, rfl⟩
    rw [HB.out]
    go_wp2
    go_ret2
    exact RetI.mk HE.out (OwI.nil _ _) (HTW.out.trans (T1.mono (Nat.le_of_lt hbx)))
  cases hL : linksOk links
  · have HE : Hid (slkR F R rd stay links = ([], 2)) := by show _ = _; unfold slkR; rw [hA, hB, hL]; rfl
    have HA := Lib.hid hA
    have HB := Lib.hid hB
    have HL := Lib.hid hL
    clear hA hB hL
    go_enter Try.func32, Try.ntmps32
    go_wp2_with fail
    generalize hw : w.alloc (.cells #[.slice aF F.length cF, .slice aR R.length cR, .int .i64 rd] 28) = W0
    have bx0 : W0.cell? ⟨w.heap.size, 0, none⟩ = some (.slice aF F.length cF) := by rw [← hw]; simp [go_sem]
    have bx1 : W0.cell? ⟨w.heap.size, 1, none⟩ = some (.slice aR R.length cR) := by rw [← hw]; simp [go_sem]
    have bx2 : W0.cell? ⟨w.heap.size, 2, none⟩ = some (.int .i64 rd) := by rw [← hw]; simp [go_sem]
    have hbx : w.heap.size < W0.heap.size := by rw [← hw]; simp
    have HTW : Hid (Below w.heap.size w W0) := by
      show Below _ _ _
      rw [← hw]; exact (Below.refl _ _).alloc (Nat.le_refl _) _
    have HF0 := Lib.hid (show RdI W0 (.slice aF F.length cF) F by rw [← hw]; exact HF.out.alloc _)
    have HR0 := Lib.hid (show RdI W0 (.slice aR R.length cR) R by rw [← hw]; exact HRr.out.alloc _)
    have HBX := Lib.hid (And.intro bx0 (And.intro bx1 bx2))
    have T0 := Below.refl W0.heap.size W0
    clear hw
    go_wp2_with fail
    (with_reducible refine (IsTrain_any _ _ F R rd _ (HF0.out.below T0) (HR0.out.below T0) hn hm).mono ?_)
    rintro e w1 ⟨rfl, hb1⟩
    have T1 : Below W0.heap.size W0 w1 := T0.trans (hb1.mono T0.size)
    clear bx0 bx1 bx2
    have bx0 := (T1.cell (p := ⟨w.heap.size, 0, none⟩) hbx).trans HBX.out.1
    have bx1 := (T1.cell (p := ⟨w.heap.size, 1, none⟩) hbx).trans HBX.out.2.1
    have bx2 := (T1.cell (p := ⟨w.heap.size, 2, none⟩) hbx).trans HBX.out.2.2
    rw [HA.out]
    go_wp2_with fail
    (with_reducible refine (isStay_any _ _).mono ?_)
    rintro e _ ⟨rfl, rfl⟩
    rw [HB.out]
    go_wp2_with fail
    (with_reducible refine (areLinks_any _ _).mono ?_)
    rintro e _ ⟨rfl, rfl⟩
    rw [HL.out]
    go_wp2
    go_ret2
    exact RetI.mk HE.out (OwI.nil _ _) (HTW.out.trans (T1.mono (Nat.le_of_lt hbx)))
  obtain ⟨tF, tR, -, -⟩ := trainR_at hA
  obtain ⟨s1, s2⟩ := inR_iff.1 hB
  obtain ⟨l0, l4⟩ := linksOk_bd hL
  have HE : Hid (slkR F R rd stay links = (slkG F R stay links, 0)) := by show _ = _; unfold slkR; rw [hA, hB, hL]; rfl
  have HA := Lib.hid hA
  have HB := Lib.hid hB
  have HL := Lib.hid hL
  clear hA hB hL
  go_enter Try.func32, Try.ntmps32
  go_wp2_with fail
  generalize hw : w.alloc (.cells #[.slice aF F.length cF, .slice aR R.length cR, .int .i64 rd] 28) = W0
  have bx0 : W0.cell? ⟨w.heap.size, 0, none⟩ = some (.slice aF F.length cF) := by rw [← hw]; simp [go_sem]
  have bx1 : W0.cell? ⟨w.heap.size, 1, none⟩ = some (.slice aR R.length cR) := by rw [← hw]; simp [go_sem]
  have bx2 : W0.cell? ⟨w.heap.size, 2, none⟩ = some (.int .i64 rd) := by rw [← hw]; simp [go_sem]
  have hbx : w.heap.size < W0.heap.size := by rw [← hw]; simp
  have HTW : Hid (Below w.heap.size w W0) := by
    show Below _ _ _
    rw [← hw]; exact (Below.refl _ _).alloc (Nat.le_refl _) _
  have HF0 := Lib.hid (show RdI W0 (.slice aF F.length cF) F by rw [← hw]; exact HF.out.alloc _)
  have HR0 := Lib.hid (show RdI W0 (.slice aR R.length cR) R by rw [← hw]; exact HRr.out.alloc _)
  have HBX := Lib.hid (And.intro bx0 (And.intro bx1 bx2))
  have T0 := Below.refl W0.heap.size W0
  clear hw
  go_wp2_with fail
  (with_reducible refine (IsTrain_any _ _ F R rd _ (HF0.out.below T0) (HR0.out.below T0) hn hm).mono ?_)
  rintro e w1 ⟨rfl, hb1⟩
  have T1 : Below W0.heap.size W0 w1 := T0.trans (hb1.mono T0.size)
  clear bx0 bx1 bx2
  have bx0 := (T1.cell (p := ⟨w.heap.size, 0, none⟩) hbx).trans HBX.out.1
  have bx1 := (T1.cell (p := ⟨w.heap.size, 1, none⟩) hbx).trans HBX.out.2.1
  have bx2 := (T1.cell (p := ⟨w.heap.size, 2, none⟩) hbx).trans HBX.out.2.2
  rw [HA.out]
  go_wp2_with fail
  (with_reducible refine (isStay_any _ _).mono ?_)
  rintro e _ ⟨rfl, rfl⟩
  rw [HB.out]
  go_wp2_with fail
  (with_reducible refine (areLinks_any _ _).mono ?_)
  rintro e _ ⟨rfl, rfl⟩
  rw [HL.out]
  go_wp2_with fail
  (with_reducible refine (slacksOf_any _ _ F R rd _ _ _ (HF0.out.below T1) (HR0.out.below T1) hn hm tF tR s1 s2 l0 l4).mono ?_)
  rintro e w2 ⟨v2, rfl, ho2, hb2⟩
  have T2 : Below W0.heap.size W0 w2 := T1.trans (hb2.mono T1.size)
  clear bx0 bx1 bx2
  have bx0 := (T2.cell (p := ⟨w.heap.size, 0, none⟩) hbx).trans HBX.out.1
  have bx1 := (T2.cell (p := ⟨w.heap.size, 1, none⟩) hbx).trans HBX.out.2.1
  have bx2 := (T2.cell (p := ⟨w.heap.size, 2, none⟩) hbx).trans HBX.out.2.2
  have hsz := T1.size
  go_wp2
  go_ret2
  exact RetI.mk HE.out (ho2.mono (by omega)) (HTW.out.trans (T2.mono (Nat.le_of_lt hbx)))

set_option maxHeartbeats 800000 in
theorem sSlacksOf_any (vF vR : Value) (F R : List Int) (rd : Int) (stay links : Int) (w : World) (hF : RdI w vF F) (hR : RdI w vR R) (hn : F.length ≤ 1048576) (hm : R.length ≤ 1048576)  :
    Calls Try.prog 31 #[.agg #[vF, vR, .int .i64 rd], .int .i64 stay, .int .i64 links] w (RetI w (slkR F R rd stay links)) := by
  have HF := Lib.hid hF
  have HRr := Lib.hid hR
  obtain ⟨aF, cF, rfl, -⟩ := hF
  obtain ⟨aR, cR, rfl, -⟩ := hR
  cases hA : trainR F R rd
  · have HE : Hid (slkR F R rd stay links = ([], 1)) := by show _ = _; unfold slkR; rw [hA]; rfl
    have HC : Hid (code10 F R rd stay links = 1) := by show _ = _; unfold code10; rw [hA]; rfl
    have HA := Lib.hid hA
    clear hA
    go_enter Try.func31, Try.ntmps31
    go_wp2_with fail
    generalize hw : w.alloc (.cells #[.slice aF F.length cF, .slice aR R.length cR, .int .i64 rd] 28) = W0
    have bx0 : W0.cell? ⟨w.heap.size, 0, none⟩ = some (.slice aF F.length cF) := by rw [← hw]; simp [go_sem]
    have bx1 : W0.cell? ⟨w.heap.size, 1, none⟩ = some (.slice aR R.length cR) := by rw [← hw]; simp [go_sem]
    have bx2 : W0.cell? ⟨w.heap.size, 2, none⟩ = some (.int .i64 rd) := by rw [← hw]; simp [go_sem]
    have hbx : w.heap.size < W0.heap.size := by rw [← hw]; simp
    have HTW : Hid (Below w.heap.size w W0) := by
      show Below _ _ _
      rw [← hw]; exact (Below.refl _ _).alloc (Nat.le_refl _) _
    have HF0 := Lib.hid (show RdI W0 (.slice aF F.length cF) F by rw [← hw]; exact HF.out.alloc _)
    have HR0 := Lib.hid (show RdI W0 (.slice aR R.length cR) R by rw [← hw]; exact HRr.out.alloc _)
    have HBX := Lib.hid (And.intro bx0 (And.intro bx1 bx2))
    have T0 := Below.refl W0.heap.size W0
    clear hw
    go_wp2_with fail
    (with_reducible refine (l10Train_any _ _ F R rd _ _ _ (HF0.out.below T0) (HR0.out.below T0) hn hm).mono ?_)
    rintro e w1 ⟨rfl, hb1⟩
    have T1 : Below W0.heap.size W0 w1 := T0.trans (hb1.mono T0.size)
    clear bx0 bx1 bx2
    have bx0 := (T1.cell (p := ⟨w.heap.size, 0, none⟩) hbx).trans HBX.out.1
    have bx1 := (T1.cell (p := ⟨w.heap.size, 1, none⟩) hbx).trans HBX.out.2.1
    have bx2 := (T1.cell (p := ⟨w.heap.size, 2, none⟩) hbx).trans HBX.out.2.2
    rw [HC.out]
    go_wp2
    go_ret2
    exact RetI.mk HE.out (OwI.nil _ _) (HTW.out.trans (T1.mono (Nat.le_of_lt hbx)))
  cases hB : inR stay 3000 6000
  · have HE : Hid (slkR F R rd stay links = ([], 2)) := by show _ = _; unfold slkR; rw [hA, hB, Bool.false_and]; rfl
    have HC : Hid (code10 F R rd stay links = 2) := by show _ = _; unfold code10; rw [hA, hB, Bool.false_and]; rfl
    have HA := Lib.hid hA
    have HB := Lib.hid hB
    clear hA hB
    go_enter Try.func31, Try.ntmps31
    go_wp2_with fail
    generalize hw : w.alloc (.cells #[.slice aF F.length cF, .slice aR R.length cR, .int .i64 rd] 28) = W0
    have bx0 : W0.cell? ⟨w.heap.size, 0, none⟩ = some (.slice aF F.length cF) := by rw [← hw]; simp [go_sem]
    have bx1 : W0.cell? ⟨w.heap.size, 1, none⟩ = some (.slice aR R.length cR) := by rw [← hw]; simp [go_sem]
    have bx2 : W0.cell? ⟨w.heap.size, 2, none⟩ = some (.int .i64 rd) := by rw [← hw]; simp [go_sem]
    have hbx : w.heap.size < W0.heap.size := by rw [← hw]; simp
    have HTW : Hid (Below w.heap.size w W0) := by
      show Below _ _ _
      rw [← hw]; exact (Below.refl _ _).alloc (Nat.le_refl _) _
    have HF0 := Lib.hid (show RdI W0 (.slice aF F.length cF) F by rw [← hw]; exact HF.out.alloc _)
    have HR0 := Lib.hid (show RdI W0 (.slice aR R.length cR) R by rw [← hw]; exact HRr.out.alloc _)
    have HBX := Lib.hid (And.intro bx0 (And.intro bx1 bx2))
    have T0 := Below.refl W0.heap.size W0
    clear hw
    go_wp2_with fail
    (with_reducible refine (l10Train_any _ _ F R rd _ _ _ (HF0.out.below T0) (HR0.out.below T0) hn hm).mono ?_)
    rintro e w1 ⟨rfl, hb1⟩
    have T1 : Below W0.heap.size W0 w1 := T0.trans (hb1.mono T0.size)
    clear bx0 bx1 bx2
    have bx0 := (T1.cell (p := ⟨w.heap.size, 0, none⟩) hbx).trans HBX.out.1
    have bx1 := (T1.cell (p := ⟨w.heap.size, 1, none⟩) hbx).trans HBX.out.2.1
    have bx2 := (T1.cell (p := ⟨w.heap.size, 2, none⟩) hbx).trans HBX.out.2.2
    rw [HC.out]
    go_wp2
    go_ret2
    exact RetI.mk HE.out (OwI.nil _ _) (HTW.out.trans (T1.mono (Nat.le_of_lt hbx)))
  cases hL : linksOk links
  · have HE : Hid (slkR F R rd stay links = ([], 2)) := by show _ = _; unfold slkR; rw [hA, hB, hL]; rfl
    have HC : Hid (code10 F R rd stay links = 2) := by show _ = _; unfold code10; rw [hA, hB, hL]; rfl
    have HA := Lib.hid hA
    have HB := Lib.hid hB
    have HL := Lib.hid hL
    clear hA hB hL
    go_enter Try.func31, Try.ntmps31
    go_wp2_with fail
    generalize hw : w.alloc (.cells #[.slice aF F.length cF, .slice aR R.length cR, .int .i64 rd] 28) = W0
    have bx0 : W0.cell? ⟨w.heap.size, 0, none⟩ = some (.slice aF F.length cF) := by rw [← hw]; simp [go_sem]
    have bx1 : W0.cell? ⟨w.heap.size, 1, none⟩ = some (.slice aR R.length cR) := by rw [← hw]; simp [go_sem]
    have bx2 : W0.cell? ⟨w.heap.size, 2, none⟩ = some (.int .i64 rd) := by rw [← hw]; simp [go_sem]
    have hbx : w.heap.size < W0.heap.size := by rw [← hw]; simp
    have HTW : Hid (Below w.heap.size w W0) := by
      show Below _ _ _
      rw [← hw]; exact (Below.refl _ _).alloc (Nat.le_refl _) _
    have HF0 := Lib.hid (show RdI W0 (.slice aF F.length cF) F by rw [← hw]; exact HF.out.alloc _)
    have HR0 := Lib.hid (show RdI W0 (.slice aR R.length cR) R by rw [← hw]; exact HRr.out.alloc _)
    have HBX := Lib.hid (And.intro bx0 (And.intro bx1 bx2))
    have T0 := Below.refl W0.heap.size W0
    clear hw
    go_wp2_with fail
    (with_reducible refine (l10Train_any _ _ F R rd _ _ _ (HF0.out.below T0) (HR0.out.below T0) hn hm).mono ?_)
    rintro e w1 ⟨rfl, hb1⟩
    have T1 : Below W0.heap.size W0 w1 := T0.trans (hb1.mono T0.size)
    clear bx0 bx1 bx2
    have bx0 := (T1.cell (p := ⟨w.heap.size, 0, none⟩) hbx).trans HBX.out.1
    have bx1 := (T1.cell (p := ⟨w.heap.size, 1, none⟩) hbx).trans HBX.out.2.1
    have bx2 := (T1.cell (p := ⟨w.heap.size, 2, none⟩) hbx).trans HBX.out.2.2
    rw [HC.out]
    go_wp2
    go_ret2
    exact RetI.mk HE.out (OwI.nil _ _) (HTW.out.trans (T1.mono (Nat.le_of_lt hbx)))
  obtain ⟨tF, tR, -, -⟩ := trainR_at hA
  obtain ⟨s1, s2⟩ := inR_iff.1 hB
  obtain ⟨l0, l4⟩ := linksOk_bd hL
  have HC : Hid (code10 F R rd stay links = 0) := by show _ = _; unfold code10; rw [hA, hB, hL]; rfl
  have HE : Hid (slkR F R rd stay links = (slkG F R stay links, 0)) := by show _ = _; unfold slkR; rw [hA, hB, hL]; rfl
  have HA := Lib.hid hA
  have HB := Lib.hid hB
  have HL := Lib.hid hL
  clear hA hB hL
  go_enter Try.func31, Try.ntmps31
  go_wp2_with fail
  generalize hw : w.alloc (.cells #[.slice aF F.length cF, .slice aR R.length cR, .int .i64 rd] 28) = W0
  have bx0 : W0.cell? ⟨w.heap.size, 0, none⟩ = some (.slice aF F.length cF) := by rw [← hw]; simp [go_sem]
  have bx1 : W0.cell? ⟨w.heap.size, 1, none⟩ = some (.slice aR R.length cR) := by rw [← hw]; simp [go_sem]
  have bx2 : W0.cell? ⟨w.heap.size, 2, none⟩ = some (.int .i64 rd) := by rw [← hw]; simp [go_sem]
  have hbx : w.heap.size < W0.heap.size := by rw [← hw]; simp
  have HTW : Hid (Below w.heap.size w W0) := by
    show Below _ _ _
    rw [← hw]; exact (Below.refl _ _).alloc (Nat.le_refl _) _
  have HF0 := Lib.hid (show RdI W0 (.slice aF F.length cF) F by rw [← hw]; exact HF.out.alloc _)
  have HR0 := Lib.hid (show RdI W0 (.slice aR R.length cR) R by rw [← hw]; exact HRr.out.alloc _)
  have HBX := Lib.hid (And.intro bx0 (And.intro bx1 bx2))
  have T0 := Below.refl W0.heap.size W0
  clear hw
  go_wp2_with fail
  (with_reducible refine (l10Train_any _ _ F R rd _ _ _ (HF0.out.below T0) (HR0.out.below T0) hn hm).mono ?_)
  rintro e w1 ⟨rfl, hb1⟩
  have T1 : Below W0.heap.size W0 w1 := T0.trans (hb1.mono T0.size)
  clear bx0 bx1 bx2
  have bx0 := (T1.cell (p := ⟨w.heap.size, 0, none⟩) hbx).trans HBX.out.1
  have bx1 := (T1.cell (p := ⟨w.heap.size, 1, none⟩) hbx).trans HBX.out.2.1
  have bx2 := (T1.cell (p := ⟨w.heap.size, 2, none⟩) hbx).trans HBX.out.2.2
  rw [HC.out]
  go_wp2_with fail
  (with_reducible refine (l10Slacks_any _ _ F R rd _ _ _ (HF0.out.below T1) (HR0.out.below T1) hn hm tF tR s1 s2 l0 l4).mono ?_)
  rintro e w2 ⟨v2, rfl, ho2, hb2⟩
  have T2 : Below W0.heap.size W0 w2 := T1.trans (hb2.mono T1.size)
  clear bx0 bx1 bx2
  have bx0 := (T2.cell (p := ⟨w.heap.size, 0, none⟩) hbx).trans HBX.out.1
  have bx1 := (T2.cell (p := ⟨w.heap.size, 1, none⟩) hbx).trans HBX.out.2.1
  have bx2 := (T2.cell (p := ⟨w.heap.size, 2, none⟩) hbx).trans HBX.out.2.2
  have hsz := T1.size
  go_wp2
  go_ret2
  exact RetI.mk HE.out (ho2.mono (by omega)) (HTW.out.trans (T2.mono (Nat.le_of_lt hbx)))

set_option maxHeartbeats 800000 in
theorem UsableGears_any (vF vR : Value) (F R : List Int) (rd : Int) (limit : Int) (w : World) (hF : RdI w vF F) (hR : RdI w vR R) (hn : F.length ≤ 1048576) (hm : R.length ≤ 1048576)  :
    Calls Try.prog 40 #[.agg #[vF, vR, .int .i64 rd], .int .i64 limit] w (RetG w (usR F R rd limit)) := by
  have HF := Lib.hid hF
  have HRr := Lib.hid hR
  obtain ⟨aF, cF, rfl, -⟩ := hF
  obtain ⟨aR, cR, rfl, -⟩ := hR
  cases hA : trainR F R rd
  · have HE : Hid (usR F R rd limit = ([], 1)) := by show _ = _; unfold usR; rw [hA]; rfl
    have HA := Lib.hid hA
    clear hA
    go_enter Try.func40, Try.ntmps40
    go_wp2_with fail
    generalize hw : w.alloc (.cells #[.slice aF F.length cF, .slice aR R.length cR, .int .i64 rd] 28) = W0
    have bx0 : W0.cell? ⟨w.heap.size, 0, none⟩ = some (.slice aF F.length cF) := by rw [← hw]; simp [go_sem]
    have bx1 : W0.cell? ⟨w.heap.size, 1, none⟩ = some (.slice aR R.length cR) := by rw [← hw]; simp [go_sem]
    have bx2 : W0.cell? ⟨w.heap.size, 2, none⟩ = some (.int .i64 rd) := by rw [← hw]; simp [go_sem]
    have hbx : w.heap.size < W0.heap.size := by rw [← hw]; simp
    have HTW : Hid (Below w.heap.size w W0) := by
      show Below _ _ _
      rw [← hw]; exact (Below.refl _ _).alloc (Nat.le_refl _) _
    have HF0 := Lib.hid (show RdI W0 (.slice aF F.length cF) F by rw [← hw]; exact HF.out.alloc _)
    have HR0 := Lib.hid (show RdI W0 (.slice aR R.length cR) R by rw [← hw]; exact HRr.out.alloc _)
    have HBX := Lib.hid (And.intro bx0 (And.intro bx1 bx2))
    have T0 := Below.refl W0.heap.size W0
    clear hw
    go_wp2_with fail
    (with_reducible refine (IsTrain_any _ _ F R rd _ (HF0.out.below T0) (HR0.out.below T0) hn hm).mono ?_)
    rintro e w1 ⟨rfl, hb1⟩
    have T1 : Below W0.heap.size W0 w1 := T0.trans (hb1.mono T0.size)
    clear bx0 bx1 bx2
    have bx0 := (T1.cell (p := ⟨w.heap.size, 0, none⟩) hbx).trans HBX.out.1
    have bx1 := (T1.cell (p := ⟨w.heap.size, 1, none⟩) hbx).trans HBX.out.2.1
    have bx2 := (T1.cell (p := ⟨w.heap.size, 2, none⟩) hbx).trans HBX.out.2.2
    rw [HA.out]
    go_wp2
    go_ret2
    exact RetG.mk HE.out (OwG.nil _ _) rfl (HTW.out.trans (T1.mono (Nat.le_of_lt hbx)))
  cases hL : inR limit 0 4
  · have HE : Hid (usR F R rd limit = ([], 2)) := by show _ = _; unfold usR; rw [hA, hL]; rfl
    have HA := Lib.hid hA
    have HL := Lib.hid hL
    clear hA hL
    go_enter Try.func40, Try.ntmps40
    go_wp2_with fail
    generalize hw : w.alloc (.cells #[.slice aF F.length cF, .slice aR R.length cR, .int .i64 rd] 28) = W0
    have bx0 : W0.cell? ⟨w.heap.size, 0, none⟩ = some (.slice aF F.length cF) := by rw [← hw]; simp [go_sem]
    have bx1 : W0.cell? ⟨w.heap.size, 1, none⟩ = some (.slice aR R.length cR) := by rw [← hw]; simp [go_sem]
    have bx2 : W0.cell? ⟨w.heap.size, 2, none⟩ = some (.int .i64 rd) := by rw [← hw]; simp [go_sem]
    have hbx : w.heap.size < W0.heap.size := by rw [← hw]; simp
    have HTW : Hid (Below w.heap.size w W0) := by
      show Below _ _ _
      rw [← hw]; exact (Below.refl _ _).alloc (Nat.le_refl _) _
    have HF0 := Lib.hid (show RdI W0 (.slice aF F.length cF) F by rw [← hw]; exact HF.out.alloc _)
    have HR0 := Lib.hid (show RdI W0 (.slice aR R.length cR) R by rw [← hw]; exact HRr.out.alloc _)
    have HBX := Lib.hid (And.intro bx0 (And.intro bx1 bx2))
    have T0 := Below.refl W0.heap.size W0
    clear hw
    go_wp2_with fail
    (with_reducible refine (IsTrain_any _ _ F R rd _ (HF0.out.below T0) (HR0.out.below T0) hn hm).mono ?_)
    rintro e w1 ⟨rfl, hb1⟩
    have T1 : Below W0.heap.size W0 w1 := T0.trans (hb1.mono T0.size)
    clear bx0 bx1 bx2
    have bx0 := (T1.cell (p := ⟨w.heap.size, 0, none⟩) hbx).trans HBX.out.1
    have bx1 := (T1.cell (p := ⟨w.heap.size, 1, none⟩) hbx).trans HBX.out.2.1
    have bx2 := (T1.cell (p := ⟨w.heap.size, 2, none⟩) hbx).trans HBX.out.2.2
    rw [HA.out]
    go_wp2_with fail
    (with_reducible refine (isLimit_any _ _).mono ?_)
    rintro e _ ⟨rfl, rfl⟩
    rw [HL.out]
    go_wp2
    go_ret2
    exact RetG.mk HE.out (OwG.nil _ _) rfl (HTW.out.trans (T1.mono (Nat.le_of_lt hbx)))
  obtain ⟨tF, tR, -, -⟩ := trainR_at hA
  obtain ⟨l0, l4⟩ := inR_iff.1 hL
  have HE : Hid (usR F R rd limit = (usG F R limit, 0)) := by show _ = _; unfold usR; rw [hA, hL]; rfl
  have HA := Lib.hid hA
  have HL := Lib.hid hL
  clear hA hL
  go_enter Try.func40, Try.ntmps40
  go_wp2_with fail
  generalize hw : w.alloc (.cells #[.slice aF F.length cF, .slice aR R.length cR, .int .i64 rd] 28) = W0
  have bx0 : W0.cell? ⟨w.heap.size, 0, none⟩ = some (.slice aF F.length cF) := by rw [← hw]; simp [go_sem]
  have bx1 : W0.cell? ⟨w.heap.size, 1, none⟩ = some (.slice aR R.length cR) := by rw [← hw]; simp [go_sem]
  have bx2 : W0.cell? ⟨w.heap.size, 2, none⟩ = some (.int .i64 rd) := by rw [← hw]; simp [go_sem]
  have hbx : w.heap.size < W0.heap.size := by rw [← hw]; simp
  have HTW : Hid (Below w.heap.size w W0) := by
    show Below _ _ _
    rw [← hw]; exact (Below.refl _ _).alloc (Nat.le_refl _) _
  have HF0 := Lib.hid (show RdI W0 (.slice aF F.length cF) F by rw [← hw]; exact HF.out.alloc _)
  have HR0 := Lib.hid (show RdI W0 (.slice aR R.length cR) R by rw [← hw]; exact HRr.out.alloc _)
  have HBX := Lib.hid (And.intro bx0 (And.intro bx1 bx2))
  have T0 := Below.refl W0.heap.size W0
  clear hw
  go_wp2_with fail
  (with_reducible refine (IsTrain_any _ _ F R rd _ (HF0.out.below T0) (HR0.out.below T0) hn hm).mono ?_)
  rintro e w1 ⟨rfl, hb1⟩
  have T1 : Below W0.heap.size W0 w1 := T0.trans (hb1.mono T0.size)
  clear bx0 bx1 bx2
  have bx0 := (T1.cell (p := ⟨w.heap.size, 0, none⟩) hbx).trans HBX.out.1
  have bx1 := (T1.cell (p := ⟨w.heap.size, 1, none⟩) hbx).trans HBX.out.2.1
  have bx2 := (T1.cell (p := ⟨w.heap.size, 2, none⟩) hbx).trans HBX.out.2.2
  rw [HA.out]
  go_wp2_with fail
  (with_reducible refine (isLimit_any _ _).mono ?_)
  rintro e _ ⟨rfl, rfl⟩
  rw [HL.out]
  go_wp2_with fail
  (with_reducible refine (usableGears_any _ _ F R rd _ _ (HF0.out.below T1) (HR0.out.below T1) hn hm tF tR l0 l4).mono ?_)
  rintro e w2 ⟨v2, L, rfl, ho2, hm2, hb2⟩
  have T2 : Below W0.heap.size W0 w2 := T1.trans (hb2.mono T1.size)
  clear bx0 bx1 bx2
  have bx0 := (T2.cell (p := ⟨w.heap.size, 0, none⟩) hbx).trans HBX.out.1
  have bx1 := (T2.cell (p := ⟨w.heap.size, 1, none⟩) hbx).trans HBX.out.2.1
  have bx2 := (T2.cell (p := ⟨w.heap.size, 2, none⟩) hbx).trans HBX.out.2.2
  have hsz := T1.size
  go_wp2
  go_ret2
  exact RetG.mk HE.out (ho2.mono (by omega)) hm2 (HTW.out.trans (T2.mono (Nat.le_of_lt hbx)))

set_option maxHeartbeats 800000 in
theorem sUsableGears_any (vF vR : Value) (F R : List Int) (rd : Int) (limit : Int) (w : World) (hF : RdI w vF F) (hR : RdI w vR R) (hn : F.length ≤ 1048576) (hm : R.length ≤ 1048576)  :
    Calls Try.prog 39 #[.agg #[vF, vR, .int .i64 rd], .int .i64 limit] w (RetG w (usR F R rd limit)) := by
  have HF := Lib.hid hF
  have HRr := Lib.hid hR
  obtain ⟨aF, cF, rfl, -⟩ := hF
  obtain ⟨aR, cR, rfl, -⟩ := hR
  cases hA : trainR F R rd
  · have HE : Hid (usR F R rd limit = ([], 1)) := by show _ = _; unfold usR; rw [hA]; rfl
    have HC : Hid (code11 F R rd limit 0 0 = 1) := by show _ = _; unfold code11; rw [hA]; rfl
    have HA := Lib.hid hA
    clear hA
    go_enter Try.func39, Try.ntmps39
    go_wp2_with fail
    generalize hw : w.alloc (.cells #[.slice aF F.length cF, .slice aR R.length cR, .int .i64 rd] 28) = W0
    have bx0 : W0.cell? ⟨w.heap.size, 0, none⟩ = some (.slice aF F.length cF) := by rw [← hw]; simp [go_sem]
    have bx1 : W0.cell? ⟨w.heap.size, 1, none⟩ = some (.slice aR R.length cR) := by rw [← hw]; simp [go_sem]
    have bx2 : W0.cell? ⟨w.heap.size, 2, none⟩ = some (.int .i64 rd) := by rw [← hw]; simp [go_sem]
    have hbx : w.heap.size < W0.heap.size := by rw [← hw]; simp
    have HTW : Hid (Below w.heap.size w W0) := by
      show Below _ _ _
      rw [← hw]; exact (Below.refl _ _).alloc (Nat.le_refl _) _
    have HF0 := Lib.hid (show RdI W0 (.slice aF F.length cF) F by rw [← hw]; exact HF.out.alloc _)
    have HR0 := Lib.hid (show RdI W0 (.slice aR R.length cR) R by rw [← hw]; exact HRr.out.alloc _)
    have HBX := Lib.hid (And.intro bx0 (And.intro bx1 bx2))
    have T0 := Below.refl W0.heap.size W0
    clear hw
    go_wp2_with fail
    (with_reducible refine (l11Code_any _ _ F R rd _ _ _ _ (HF0.out.below T0) (HR0.out.below T0) hn hm).mono ?_)
    rintro e w1 ⟨rfl, hb1⟩
    have T1 : Below W0.heap.size W0 w1 := T0.trans (hb1.mono T0.size)
    clear bx0 bx1 bx2
    have bx0 := (T1.cell (p := ⟨w.heap.size, 0, none⟩) hbx).trans HBX.out.1
    have bx1 := (T1.cell (p := ⟨w.heap.size, 1, none⟩) hbx).trans HBX.out.2.1
    have bx2 := (T1.cell (p := ⟨w.heap.size, 2, none⟩) hbx).trans HBX.out.2.2
    rw [HC.out]
    go_wp2
    go_ret2
    exact RetG.mk HE.out (OwG.nil _ _) rfl (HTW.out.trans (T1.mono (Nat.le_of_lt hbx)))
  cases hL : inR limit 0 4
  · have HE : Hid (usR F R rd limit = ([], 2)) := by show _ = _; unfold usR; rw [hA, hL]; rfl
    have hG := gear00 hA
    have HC : Hid (code11 F R rd limit 0 0 = 2) := by show _ = _; unfold code11; rw [hA, hG, hL]; rfl
    clear hG
    have HA := Lib.hid hA
    have HL := Lib.hid hL
    clear hA hL
    go_enter Try.func39, Try.ntmps39
    go_wp2_with fail
    generalize hw : w.alloc (.cells #[.slice aF F.length cF, .slice aR R.length cR, .int .i64 rd] 28) = W0
    have bx0 : W0.cell? ⟨w.heap.size, 0, none⟩ = some (.slice aF F.length cF) := by rw [← hw]; simp [go_sem]
    have bx1 : W0.cell? ⟨w.heap.size, 1, none⟩ = some (.slice aR R.length cR) := by rw [← hw]; simp [go_sem]
    have bx2 : W0.cell? ⟨w.heap.size, 2, none⟩ = some (.int .i64 rd) := by rw [← hw]; simp [go_sem]
    have hbx : w.heap.size < W0.heap.size := by rw [← hw]; simp
    have HTW : Hid (Below w.heap.size w W0) := by
      show Below _ _ _
      rw [← hw]; exact (Below.refl _ _).alloc (Nat.le_refl _) _
    have HF0 := Lib.hid (show RdI W0 (.slice aF F.length cF) F by rw [← hw]; exact HF.out.alloc _)
    have HR0 := Lib.hid (show RdI W0 (.slice aR R.length cR) R by rw [← hw]; exact HRr.out.alloc _)
    have HBX := Lib.hid (And.intro bx0 (And.intro bx1 bx2))
    have T0 := Below.refl W0.heap.size W0
    clear hw
    go_wp2_with fail
    (with_reducible refine (l11Code_any _ _ F R rd _ _ _ _ (HF0.out.below T0) (HR0.out.below T0) hn hm).mono ?_)
    rintro e w1 ⟨rfl, hb1⟩
    have T1 : Below W0.heap.size W0 w1 := T0.trans (hb1.mono T0.size)
    clear bx0 bx1 bx2
    have bx0 := (T1.cell (p := ⟨w.heap.size, 0, none⟩) hbx).trans HBX.out.1
    have bx1 := (T1.cell (p := ⟨w.heap.size, 1, none⟩) hbx).trans HBX.out.2.1
    have bx2 := (T1.cell (p := ⟨w.heap.size, 2, none⟩) hbx).trans HBX.out.2.2
    rw [HC.out]
    go_wp2
    go_ret2
    exact RetG.mk HE.out (OwG.nil _ _) rfl (HTW.out.trans (T1.mono (Nat.le_of_lt hbx)))
  obtain ⟨tF, tR, -, -⟩ := trainR_at hA
  obtain ⟨l0, l4⟩ := inR_iff.1 hL
  have hG := gear00 hA
  have HC : Hid (code11 F R rd limit 0 0 = 0) := by show _ = _; unfold code11; rw [hA, hG, hL]; rfl
  clear hG
  have HE : Hid (usR F R rd limit = (usG F R limit, 0)) := by show _ = _; unfold usR; rw [hA, hL]; rfl
  have HA := Lib.hid hA
  have HL := Lib.hid hL
  clear hA hL
  go_enter Try.func39, Try.ntmps39
  go_wp2_with fail
  generalize hw : w.alloc (.cells #[.slice aF F.length cF, .slice aR R.length cR, .int .i64 rd] 28) = W0
  have bx0 : W0.cell? ⟨w.heap.size, 0, none⟩ = some (.slice aF F.length cF) := by rw [← hw]; simp [go_sem]
  have bx1 : W0.cell? ⟨w.heap.size, 1, none⟩ = some (.slice aR R.length cR) := by rw [← hw]; simp [go_sem]
  have bx2 : W0.cell? ⟨w.heap.size, 2, none⟩ = some (.int .i64 rd) := by rw [← hw]; simp [go_sem]
  have hbx : w.heap.size < W0.heap.size := by rw [← hw]; simp
  have HTW : Hid (Below w.heap.size w W0) := by
    show Below _ _ _
    rw [← hw]; exact (Below.refl _ _).alloc (Nat.le_refl _) _
  have HF0 := Lib.hid (show RdI W0 (.slice aF F.length cF) F by rw [← hw]; exact HF.out.alloc _)
  have HR0 := Lib.hid (show RdI W0 (.slice aR R.length cR) R by rw [← hw]; exact HRr.out.alloc _)
  have HBX := Lib.hid (And.intro bx0 (And.intro bx1 bx2))
  have T0 := Below.refl W0.heap.size W0
  clear hw
  go_wp2_with fail
  (with_reducible refine (l11Code_any _ _ F R rd _ _ _ _ (HF0.out.below T0) (HR0.out.below T0) hn hm).mono ?_)
  rintro e w1 ⟨rfl, hb1⟩
  have T1 : Below W0.heap.size W0 w1 := T0.trans (hb1.mono T0.size)
  clear bx0 bx1 bx2
  have bx0 := (T1.cell (p := ⟨w.heap.size, 0, none⟩) hbx).trans HBX.out.1
  have bx1 := (T1.cell (p := ⟨w.heap.size, 1, none⟩) hbx).trans HBX.out.2.1
  have bx2 := (T1.cell (p := ⟨w.heap.size, 2, none⟩) hbx).trans HBX.out.2.2
  rw [HC.out]
  go_wp2_with fail
  (with_reducible refine (l11Usable_any _ _ F R rd _ _ (HF0.out.below T1) (HR0.out.below T1) hn hm tF tR l0 l4).mono ?_)
  rintro e w2 ⟨v2, L, rfl, ho2, hm2, hb2⟩
  have T2 : Below W0.heap.size W0 w2 := T1.trans (hb2.mono T1.size)
  clear bx0 bx1 bx2
  have bx0 := (T2.cell (p := ⟨w.heap.size, 0, none⟩) hbx).trans HBX.out.1
  have bx1 := (T2.cell (p := ⟨w.heap.size, 1, none⟩) hbx).trans HBX.out.2.1
  have bx2 := (T2.cell (p := ⟨w.heap.size, 2, none⟩) hbx).trans HBX.out.2.2
  have hsz := T1.size
  go_wp2
  go_ret2
  exact RetG.mk HE.out (ho2.mono (by omega)) hm2 (HTW.out.trans (T2.mono (Nat.le_of_lt hbx)))

end Go.Proofs.Ytfdnhamkkcmnfaa
