/- Contracts of LoosestGear and RingShifts, of the program and of the reference. -/
import Derived.Test.YtfdnhamkkcmnfaaGrdF
set_option linter.unusedSimpArgs false
set_option linter.unusedVariables false
namespace Go.Proofs.Ytfdnhamkkcmnfaa
open Go.RowKit

def absG (x : Int) : Int := if x < 0 then -x else x
theorem absG_bd {x : Int} (h0 : -100 ≤ x) (h1 : x ≤ 100) : 0 ≤ absG x ∧ absG x ≤ 100 := by unfold absG; split <;> omega
set_option maxHeartbeats 800000 in
theorem gabs_any (x : Int) (w : World) (h0 : -1000000 ≤ x) (h1 : x ≤ 1000000) :
    Calls Try.prog 78 #[.int .i64 x] w fun e w' => e = .returned (.int .i64 (absG x)) ∧ w = w' := by
  by_cases hx : x < 0
  · go_enter Try.func78, Try.ntmps78
    go_wp2
    all_goals
      go_ret
      exact ⟨ret_int (by unfold absG; split <;> omega), rfl⟩
  · go_enter Try.func78, Try.ntmps78
    go_wp2
    all_goals
      go_ret
      exact ⟨ret_int (by unfold absG; split <;> omega), rfl⟩
set_option maxHeartbeats 800000 in
theorem gl01Abs_any (x : Int) (w : World) (h0 : -1000000 ≤ x) (h1 : x ≤ 1000000) :
    Calls Try.prog 76 #[.int .i64 x] w fun e w' => e = .returned (.int .i64 (absG x)) ∧ w = w' := by
  by_cases hx : x < 0
  · go_enter Try.func76, Try.ntmps76
    go_wp2
    all_goals
      go_ret
      exact ⟨ret_int (by unfold absG; split <;> omega), rfl⟩
  · go_enter Try.func76, Try.ntmps76
    go_wp2
    all_goals
      go_ret
      exact ⟨ret_int (by unfold absG; split <;> omega), rfl⟩
/-- The first place of the greatest among the first k. -/
def bestK (xs : List Int) : Nat → Nat
  | 0 => 0
  | k + 1 => if xs.getD (bestK xs k) 0 < xs.getD k 0 then k else bestK xs k
theorem bestK_lt (xs : List Int) : ∀ k, bestK xs k ≤ k := by
  intro k
  induction k with
  | zero => exact Nat.le_refl _
  | succ k ih => unfold bestK; split <;> omega
theorem bestK_in (xs : List Int) (k : Nat) : bestK xs (k + 1) ≤ k := by
  have := bestK_lt xs k
  unfold bestK
  split <;> omega
theorem ordG_at {F R : List Int} {L : List Gb} (h : L.map Prod.fst = ordG F R) {k : Nat} {g : Gear} {p : Nat} (hx : L[k]? = some (g, p)) : (ordG F R).getD k (0, 0) = g := by
  have : (ordG F R)[k]? = some g := by rw [← h, List.getElem?_map, hx]; rfl
  rw [List.getD_eq_getElem?_getD, this]; rfl
def nnL (xs : List Int) : Bool := xs.all fun x => decide (0 ≤ x)
def looR (F R : List Int) (rd stay links : Int) : Int × Int × Int := if trainR F R rd = true then (if (inR stay 3000 6000 && linksOk links) = true then (if nnL (slkG F R stay links) = true then (((ordG F R).getD (bestK (slkG F R stay links) (slkG F R stay links).length) (0, 0)).1, ((ordG F R).getD (bestK (slkG F R stay links) (slkG F R stay links).length) (0, 0)).2, 0) else (0, 0, 5)) else (0, 0, 2)) else (0, 0, 1)
/-- The moves of the chainring between the first k gears. -/
def shfK (gs : List Gear) : Nat → Int
  | 0 => 0
  | k + 1 => shfK gs k + (if k = 0 then 0 else absG ((gs.getD k (0, 0)).1 - (gs.getD (k - 1) (0, 0)).1))
def shfR (F R : List Int) (rd limit : Int) : Int × Int := if trainR F R rd = true then (if inR limit 0 4 = true then (shfK (usG F R limit) (usG F R limit).length, 0) else (0, 2)) else (0, 1)
theorem slkG_length (F R : List Int) (stay links : Int) : (slkG F R stay links).length = (ordG F R).length := by unfold slkG; rw [List.length_map]
theorem slkG_bd {F R : List Int} {stay links : Int} (h0 : 40 ≤ links) (h1 : links ≤ 200) (hz : ∀ g ∈ ordG F R, 0 ≤ needZ stay (tth F g.1) (tth R g.2)) : ∀ k, k < (slkG F R stay links).length → -1 ≤ (slkG F R stay links).getD k 0 ∧ (slkG F R stay links).getD k 0 ≤ 200000 := by
  intro k hk
  have hk2 : k < (ordG F R).length := by rw [slkG_length] at hk; exact hk
  have e : (slkG F R stay links).getD k 0 = slkV F R stay links (ordG F R)[k] := by
    unfold slkG
    simp [List.getD_eq_getElem?_getD, hk2]
  rw [e]
  have := hz _ (List.getElem_mem hk2)
  unfold slkV
  omega
theorem gret3' {r : Int × Int × Int} {x y c : Int} (h : r = (x, y, c)) : Ending.returned (.tuple #[.int .i64 x, .int .i64 y, .int .i64 c]) = .returned (.tuple #[.int .i64 r.1, .int .i64 r.2.1, .int .i64 r.2.2]) := by rw [h]
theorem usG_ok {F R : List Int} {limit : Int} {k : Nat} {g : Gear} (h : (usG F R limit)[k]? = some g) : ∃ i q : Nat, g = ((i : Int), (q : Int)) ∧ i < F.length ∧ q < R.length := by
  have hm := List.mem_of_getElem? h
  unfold usG at hm
  have hm2 := (List.mem_filter.1 hm).1
  obtain ⟨j, hj⟩ := List.getElem?_of_mem hm2
  exact ordP_bd (Or.inr ⟨rfl, rfl⟩) (Nat.zero_le _) hj
theorem usG_len {F R : List Int} {limit : Int} (f3 : F.length ≤ 3) (r12 : R.length ≤ 12) : (usG F R limit).length ≤ 36 := by
  unfold usG
  have h1 := List.length_filter_le (fun g => !crossR F.length R.length limit g.1 g.2) (ordG F R)
  rw [ordG_length] at h1
  have h2 : F.length * R.length ≤ 3 * 12 := Nat.mul_le_mul f3 r12
  omega

set_option maxRecDepth 100000 in
set_option maxHeartbeats 4000000 in
theorem LoosestGear_any (vF vR : Value) (F R : List Int) (rd : Int) (stay links : Int) (w : World) (hF : RdI w vF F) (hR : RdI w vR R) (hn : F.length ≤ 1048576) (hm : R.length ≤ 1048576)  :
    Calls Try.prog 30 #[.agg #[vF, vR, .int .i64 rd], .int .i64 stay, .int .i64 links] w fun e w' => e = .returned (.tuple #[.int .i64 (looR F R rd stay links).1, .int .i64 (looR F R rd stay links).2.1, .int .i64 (looR F R rd stay links).2.2]) ∧ Below w.heap.size w w' := by
  have HF := Lib.hid hF
  have HRr := Lib.hid hR
  obtain ⟨aF, cF, rfl, -⟩ := hF
  obtain ⟨aR, cR, rfl, -⟩ := hR
  cases hA : trainR F R rd
  · have HE : Hid (looR F R rd stay links = (0, 0, 1)) := by show _ = _; unfold looR; rw [hA]; rfl
    have HA := Lib.hid hA
    clear hA
    go_enter Try.func30, Try.ntmps30
    go_wp2_with fail
    generalize hw : w.alloc (.cells #[.slice aF F.length cF, .slice aR R.length cR, .int .i64 rd] 28) = W0
    have bx0 : W0.cell? ⟨w.heap.size, 0, none⟩ = some (.slice aF F.length cF) := by rw [← hw]; simp [go_sem]
    have bx1 : W0.cell? ⟨w.heap.size, 1, none⟩ = some (.slice aR R.length cR) := by rw [← hw]; simp [go_sem]
    have bx2 : W0.cell? ⟨w.heap.size, 2, none⟩ = some (.int .i64 rd) := by rw [← hw]; simp [go_sem]
    have hbx : w.heap.size < W0.heap.size := by rw [← hw]; simp
    have HTW : Hid (Below w.heap.size w W0) := by
      show Below _ _ _
      rw [← hw]; exact (Below.refl _ _).alloc (Nat.le_refl _) _
    have HF0 := Lib.hid (show RdI W0 (.slice aF F.length cF) F by rw [← hw]; exact HF.out.alloc _)
    have HR0 := Lib.hid (show RdI W0 (.slice aR R.length cR) R by rw [← hw]; exact HRr.out.alloc _)
    have HBX := Lib.hid (And.intro bx0 (And.intro bx1 bx2))
    have T0 := Below.refl W0.heap.size W0
    clear hw
    go_wp2_with fail
    (with_reducible refine (IsTrain_any _ _ F R rd _ (HF0.out.below T0) (HR0.out.below T0) hn hm).mono ?_)
    rintro e w1 ⟨rfl, hb1⟩
    have T1 : Below W0.heap.size W0 w1 := T0.trans (hb1.mono T0.size)
    clear bx0 bx1 bx2
    have bx0 := (T1.cell (p := ⟨w.heap.size, 0, none⟩) hbx).trans HBX.out.1
    have bx1 := (T1.cell (p := ⟨w.heap.size, 1, none⟩) hbx).trans HBX.out.2.1
    have bx2 := (T1.cell (p := ⟨w.heap.size, 2, none⟩) hbx).trans HBX.out.2.2
    rw [HA.out]
    go_wp2
    go_ret3
    exact ⟨gret3' HE.out, (HTW.out.trans (T1.mono (Nat.le_of_lt hbx)))⟩
  cases hB : inR stay 3000 6000
  · have HE : Hid (looR F R rd stay links = (0, 0, 2)) := by show _ = _; unfold looR; rw [hA, hB, Bool.false_and]; rfl
    have HA := Lib.hid hA
    have HB := Lib.hid hB
    clear hA hB
    go_enter Try.func30, Try.ntmps30
    go_wp2_with fail
    generalize hw : w.alloc (.cells #[.slice aF F.length cF, .slice aR R.length cR, .int .i64 rd] 28) = W0
    have bx0 : W0.cell? ⟨w.heap.size, 0, none⟩ = some (.slice aF F.length cF) := by rw [← hw]; simp [go_sem]
    have bx1 : W0.cell? ⟨w.heap.size, 1, none⟩ = some (.slice aR R.length cR) := by rw [← hw]; simp [go_sem]
    have bx2 : W0.cell? ⟨w.heap.size, 2, none⟩ = some (.int .i64 rd) := by rw [← hw]; simp [go_sem]
    have hbx : w.heap.size < W0.heap.size := by rw [← hw]; simp
    have HTW : Hid (Below w.heap.size w W0) := by
      show Below _ _ _
      rw [← hw]; exact (Below.refl _ _).alloc (Nat.le_refl _) _
    have HF0 := Lib.hid (show RdI W0 (.slice aF F.length cF) F by rw [← hw]; exact HF.out.alloc _)
    have HR0 := Lib.hid (show RdI W0 (.slice aR R.length cR) R by rw [← hw]; exact HRr.out.alloc _)
    have HBX := Lib.hid (And.intro bx0 (And.intro bx1 bx2))
    have T0 := Below.refl W0.heap.size W0
    clear hw
    go_wp2_with fail
    (with_reducible refine (IsTrain_any _ _ F R rd _ (HF0.out.below T0) (HR0.out.below T0) hn hm).mono ?_)
    rintro e w1 ⟨rfl, hb1⟩
    have T1 : Below W0.heap.size W0 w1 := T0.trans (hb1.mono T0.size)
    clear bx0 bx1 bx2
    have bx0 := (T1.cell (p := ⟨w.heap.size, 0, none⟩) hbx).trans HBX.out.1
    have bx1 := (T1.cell (p := ⟨w.heap.size, 1, none⟩) hbx).trans HBX.out.2.1
    have bx2 := (T1.cell (p := ⟨w.heap.size, 2, none⟩) hbx).trans HBX.out.2.2
    rw [HA.out]
    go_wp2_with fail
    (with_reducible refine (isStay_any _ _).mono ?_)
    rintro e _ ⟨rfl, rfl⟩
    rw [HB.out]
    go_wp2
    go_ret3
    exact ⟨gret3' HE.out, (HTW.out.trans (T1.mono (Nat.le_of_lt hbx)))⟩
  cases hL : linksOk links
  · have HE : Hid (looR F R rd stay links = (0, 0, 2)) := by show _ = _; unfold looR; rw [hA, hB, hL]; rfl
    have HA := Lib.hid hA
    have HB := Lib.hid hB
    have HL := Lib.hid hL
    clear hA hB hL
    go_enter Try.func30, Try.ntmps30
    go_wp2_with fail
    generalize hw : w.alloc (.cells #[.slice aF F.length cF, .slice aR R.length cR, .int .i64 rd] 28) = W0
    have bx0 : W0.cell? ⟨w.heap.size, 0, none⟩ = some (.slice aF F.length cF) := by rw [← hw]; simp [go_sem]
    have bx1 : W0.cell? ⟨w.heap.size, 1, none⟩ = some (.slice aR R.length cR) := by rw [← hw]; simp [go_sem]
    have bx2 : W0.cell? ⟨w.heap.size, 2, none⟩ = some (.int .i64 rd) := by rw [← hw]; simp [go_sem]
    have hbx : w.heap.size < W0.heap.size := by rw [← hw]; simp
    have HTW : Hid (Below w.heap.size w W0) := by
      show Below _ _ _
      rw [← hw]; exact (Below.refl _ _).alloc (Nat.le_refl _) _
    have HF0 := Lib.hid (show RdI W0 (.slice aF F.length cF) F by rw [← hw]; exact HF.out.alloc _)
    have HR0 := Lib.hid (show RdI W0 (.slice aR R.length cR) R by rw [← hw]; exact HRr.out.alloc _)
    have HBX := Lib.hid (And.intro bx0 (And.intro bx1 bx2))
    have T0 := Below.refl W0.heap.size W0
    clear hw
    go_wp2_with fail
    (with_reducible refine (IsTrain_any _ _ F R rd _ (HF0.out.below T0) (HR0.out.below T0) hn hm).mono ?_)
    rintro e w1 ⟨rfl, hb1⟩
    have T1 : Below W0.heap.size W0 w1 := T0.trans (hb1.mono T0.size)
    clear bx0 bx1 bx2
    have bx0 := (T1.cell (p := ⟨w.heap.size, 0, none⟩) hbx).trans HBX.out.1
    have bx1 := (T1.cell (p := ⟨w.heap.size, 1, none⟩) hbx).trans HBX.out.2.1
    have bx2 := (T1.cell (p := ⟨w.heap.size, 2, none⟩) hbx).trans HBX.out.2.2
    rw [HA.out]
    go_wp2_with fail
    (with_reducible refine (isStay_any _ _).mono ?_)
    rintro e _ ⟨rfl, rfl⟩
    rw [HB.out]
    go_wp2_with fail
    (with_reducible refine (areLinks_any _ _).mono ?_)
    rintro e _ ⟨rfl, rfl⟩
    rw [HL.out]
    go_wp2
    go_ret3
    exact ⟨gret3' HE.out, (HTW.out.trans (T1.mono (Nat.le_of_lt hbx)))⟩
  obtain ⟨tF, tR, -, -⟩ := trainR_at hA
  obtain ⟨s1, s2⟩ := inR_iff.1 hB
  obtain ⟨l0, l4⟩ := linksOk_bd hL
  obtain ⟨f1, f3, -⟩ := teethR_at tF
  obtain ⟨r1, r12, -⟩ := teethR_at tR
  have HA := Lib.hid hA
  have HB := Lib.hid hB
  have HL := Lib.hid hL
  clear hA hB hL
  go_enter Try.func30, Try.ntmps30
  go_wp2_with fail
  generalize hw : w.alloc (.cells #[.slice aF F.length cF, .slice aR R.length cR, .int .i64 rd] 28) = W0
  have bx0 : W0.cell? ⟨w.heap.size, 0, none⟩ = some (.slice aF F.length cF) := by rw [← hw]; simp [go_sem]
  have bx1 : W0.cell? ⟨w.heap.size, 1, none⟩ = some (.slice aR R.length cR) := by rw [← hw]; simp [go_sem]
  have bx2 : W0.cell? ⟨w.heap.size, 2, none⟩ = some (.int .i64 rd) := by rw [← hw]; simp [go_sem]
  have hbx : w.heap.size < W0.heap.size := by rw [← hw]; simp
  have HTW : Hid (Below w.heap.size w W0) := by
    show Below _ _ _
    rw [← hw]; exact (Below.refl _ _).alloc (Nat.le_refl _) _
  have HF0 := Lib.hid (show RdI W0 (.slice aF F.length cF) F by rw [← hw]; exact HF.out.alloc _)
  have HR0 := Lib.hid (show RdI W0 (.slice aR R.length cR) R by rw [← hw]; exact HRr.out.alloc _)
  have HBX := Lib.hid (And.intro bx0 (And.intro bx1 bx2))
  have T0 := Below.refl W0.heap.size W0
  clear hw
  go_wp2_with fail
  (with_reducible refine (IsTrain_any _ _ F R rd _ (HF0.out.below T0) (HR0.out.below T0) hn hm).mono ?_)
  rintro e w1 ⟨rfl, hb1⟩
  have T1 : Below W0.heap.size W0 w1 := T0.trans (hb1.mono T0.size)
  clear bx0 bx1 bx2
  have bx0 := (T1.cell (p := ⟨w.heap.size, 0, none⟩) hbx).trans HBX.out.1
  have bx1 := (T1.cell (p := ⟨w.heap.size, 1, none⟩) hbx).trans HBX.out.2.1
  have bx2 := (T1.cell (p := ⟨w.heap.size, 2, none⟩) hbx).trans HBX.out.2.2
  rw [HA.out]
  go_wp2_with fail
  (with_reducible refine (isStay_any _ _).mono ?_)
  rintro e _ ⟨rfl, rfl⟩
  rw [HB.out]
  go_wp2_with fail
  (with_reducible refine (areLinks_any _ _).mono ?_)
  rintro e _ ⟨rfl, rfl⟩
  rw [HL.out]
  go_wp2_with fail
  (with_reducible refine (slacksOf_any _ _ F R rd _ _ _ (HF0.out.below T1) (HR0.out.below T1) hn hm tF tR s1 s2 l0 l4).mono ?_)
  rintro e w2 ⟨v2, rfl, ho2, hb2⟩
  have T2 : Below W0.heap.size W0 w2 := T1.trans (hb2.mono T1.size)
  clear bx0 bx1 bx2
  have bx0 := (T2.cell (p := ⟨w.heap.size, 0, none⟩) hbx).trans HBX.out.1
  have bx1 := (T2.cell (p := ⟨w.heap.size, 1, none⟩) hbx).trans HBX.out.2.1
  have bx2 := (T2.cell (p := ⟨w.heap.size, 2, none⟩) hbx).trans HBX.out.2.2
  obtain ⟨xs, hxs⟩ : ∃ xs, xs = slkG F R stay links := ⟨_, rfl⟩
  rw [← hxs] at ho2
  have HRX := Lib.hid ho2.rd
  obtain ⟨ax, cx, eX, -⟩ := ho2.rd.shape
  subst eX

  have hxb : ∀ k, k < xs.length → -1 ≤ xs.getD k 0 ∧ xs.getD k 0 ≤ 200000 := by
    intro k hk
    rw [hxs] at hk ⊢
    exact slkG_bd l0 l4 (fun g hg => by
      obtain ⟨j, hj⟩ := List.getElem?_of_mem hg
      obtain ⟨i, q, rfl, hi, hq⟩ := ordP_bd (Or.inr ⟨rfl, rfl⟩) (Nat.zero_le _) hj
      obtain ⟨x1, x2, -⟩ := (teethR_at tF).2.2 i hi
      obtain ⟨z1, z2, -⟩ := (teethR_at tR).2.2 q hq
      rw [tth_eq (by omega), tth_eq (by omega)]
      exact (needZ_bd s1 s2 x1 x2 z1 z2).1) k hk
  have HXB := Lib.hid hxb
  clear hxb
  have hxl : xs.length = (ordG F R).length := by rw [hxs, slkG_length]
  have hol := ordG_length F R
  have hmm : F.length * R.length ≤ 3 * 12 := Nat.mul_le_mul (by omega) (by omega)
  have hmp : 1 * 1 ≤ F.length * R.length := Nat.mul_le_mul f1 r1
  have hx36 : xs.length ≤ 36 := by omega
  have hx1 : 1 ≤ xs.length := by omega
  have HXL := Lib.hid hxl
  have HXS := Lib.hid hxs
  clear hol hmm hmp hxs hxl
  have HC := Lib.hid HRX.out.at
  clear HRX
  have HE : Hid (looR F R rd stay links = if nnL xs = true then (((ordG F R).getD (bestK xs xs.length) (0, 0)).1, ((ordG F R).getD (bestK xs xs.length) (0, 0)).2, 0) else (0, 0, 5)) := by
    show _ = _
    unfold looR
    rw [HA.out, HB.out, HL.out, ← HXS.out]
    rfl
  go_wp2
  go_loopw [10, 31] (fun bi ii wr => ∃ k : Nat, k ≤ xs.length ∧ bi = .int .i64 (bestK xs k) ∧ ii = .int .i64 k ∧ Below w2.heap.size w2 wr ∧ Hid ((xs.take k).all (fun x => decide (0 ≤ x)) = true)) (fun _ ii _ => xs.length - (intOf ii).toNat)
  case atStart => exact ⟨0, Nat.zero_le _, rfl, rfl, Below.refl _ _, rfl⟩
  case round =>
    obtain ⟨k, hk, rfl, rfl, hbw, hnn⟩ := hrel
    have hbk0 := bestK_lt xs k
    by_cases hlt : k < xs.length
    · obtain ⟨b, o, rfl, c0⟩ := HC.out k hlt
      obtain ⟨b2, o2, e2, c2⟩ := HC.out (bestK xs k) (by omega)
      simp only [Option.some.injEq, Addr.mk.injEq] at e2
      obtain ⟨rfl, rfl, -⟩ := e2
      have g0 := (hbw.cell (p := ⟨b, o + k, none⟩) (World.block_lt_of_cell? _ _ c0)).trans c0
      have g2 := (hbw.cell (p := ⟨b, o + bestK xs k, none⟩) (World.block_lt_of_cell? _ _ c2)).trans c2
      obtain ⟨y1, y2⟩ := HXB.out k hlt
      have HK : Hid (bestK xs (k + 1) = if xs.getD (bestK xs k) 0 < xs.getD k 0 then k else bestK xs k) := rfl
      have HNo : Hid (xs.getD k 0 < 0 → nnL xs = false) := by
        show _ → _
        intro h
        unfold nnL
        rw [List.all_eq_false]
        exact ⟨xs[k], List.getElem_mem hlt, by simp only [List.getD_eq_getElem?_getD, List.getElem?_eq_getElem hlt, Option.getD_some] at h; simp; omega⟩
      have HYes : Hid (0 ≤ xs.getD k 0 → (xs.take (k + 1)).all (fun x => decide (0 ≤ x)) = true) := by
        show _ → _
        intro h
        rw [List.take_succ_eq_append_getElem hlt, List.all_append, hnn.out]
        simp only [List.getD_eq_getElem?_getD, List.getElem?_eq_getElem hlt, Option.getD_some] at h
        simpa using h
      generalize bestK xs k = bk at *
      generalize xs.getD k 0 = x at *
      generalize xs.getD bk 0 = y at *
      clear c0 c2
      have hkx : (k : Int) < (xs.length : Int) := by omega
      have hbx2 : (bk : Int) < (xs.length : Int) := by omega
      have hk00 : (0 : Int) ≤ (k : Int) := by omega
      have hb00 : (0 : Int) ≤ (bk : Int) := by omega
      by_cases hneg : x < 0
      · have HF : Hid (looR F R rd stay links = (0, 0, 5)) := by
          show _ = _
          rw [HE.out, HNo.out hneg]; rfl
        have hd : decide (x < 0) = true := by simpa using hneg
        clear HK HNo HYes
        go_wp2
        go_ret3
        exact ⟨gret3' HF.out, (HTW.out.trans ((T2.trans (hbw.mono T2.size)).mono (Nat.le_of_lt hbx)))⟩
      · have HN := Lib.hid (HYes.out (by omega))
        have hd : decide (x < 0) = false := by simpa using hneg
        by_cases hgt : y < x
        · have hd2 : decide (y < x) = true := by simpa using hgt
          have hbe : bestK xs (k + 1) = k := by rw [HK.out, if_pos hgt]
          clear HK HNo HYes
          go_wp2
          go_roundw
          case rel => exact ⟨k + 1, by omega, by rw [hbe], by go_num, hbw, HN⟩
          case measure => simp [intOf] <;> omega
        · have hd2 : decide (y < x) = false := by simpa using hgt
          have hbe : bestK xs (k + 1) = bk := by rw [HK.out, if_neg hgt]
          clear HK HNo HYes
          go_wp2
          go_roundw
          case rel => exact ⟨k + 1, by omega, by rw [hbe], by go_num, hbw, HN⟩
          case measure => simp [intOf] <;> omega
    · obtain rfl : k = xs.length := by omega
      have HNN : Hid (nnL xs = true) := by
        show _ = _
        have := hnn.out
        rw [List.take_length] at this
        exact this
      have HF := Lib.hid (HE.out.trans (if_pos HNN.out))
      have hbl : bestK xs xs.length < xs.length := by
        obtain ⟨m, hm3⟩ : ∃ m, xs.length = m + 1 := ⟨xs.length - 1, by omega⟩
        have := bestK_in xs m
        rw [hm3]
        omega
      obtain ⟨bk, hbe⟩ : ∃ bk, bk = bestK xs xs.length := ⟨_, rfl⟩
      rw [← hbe] at hbl
      rw [← hbe]
      have HBE := Lib.hid hbe.symm
      clear hbe
      have bx0 := ((T2.trans (hbw.mono T2.size)).cell (p := ⟨w.heap.size, 0, none⟩) hbx).trans HBX.out.1
      have bx1 := ((T2.trans (hbw.mono T2.size)).cell (p := ⟨w.heap.size, 1, none⟩) hbx).trans HBX.out.2.1
      have bx2 := ((T2.trans (hbw.mono T2.size)).cell (p := ⟨w.heap.size, 2, none⟩) hbx).trans HBX.out.2.2
      go_wp2_with fail
      (with_reducible refine (gearOrder_any _ _ F R rd _ ((HF0.out.below T2).below hbw) ((HR0.out.below T2).below hbw) hn hm tF tR).mono ?_)
      rintro e wz ⟨vz, L, rfl, ho, hm2, hbz⟩
      have HM := Lib.hid hm2
      obtain ⟨hl36, hl1⟩ := lenL hm2 (by omega) (by omega) f1 r1
      obtain ⟨gA, cA, eA, hgA, hlA⟩ := World.ownsRow.form ho.1 (by rw [List.length_map]; omega)
      rw [List.length_map] at eA
      subst eA
      have HO := Lib.hid ho
      have hLx : L.length = xs.length := by rw [← List.length_map (f := Prod.fst), hm2, HXL.out]
      clear ho hm2 bx0 bx1 bx2
      obtain ⟨⟨xg, px⟩, hx⟩ : ∃ x, L[bk]? = some x := ⟨_, List.getElem?_eq_getElem (by omega)⟩
      obtain ⟨i, q, hig, hi2, hq2⟩ := gearL HM.out hx
      simp only at hig
      subst hig
      have HOG := Lib.hid (ordG_at HM.out hx)
      obtain ⟨gB, hgB, c1⟩ := (HO.out).cellAt hx
      obtain rfl : gA = gB := by injection hgB with hgB; injection hgB
      have hrow := ((HO.out).row hx).2
      have r0 : wz.cell? ⟨px, 0, none⟩ = some (.int .i64 i) := cell_of_row wz px 0 _ _ (0, 0) hrow
      have r1x : wz.cell? ⟨px, 1, none⟩ = some (.int .i64 q) := cell_of_row wz px 1 _ _ (0, 0) hrow
      have hgv : gv (((i : Int), (q : Int)), px) = .slice (some ⟨px, 0, none⟩) 2 2 := rfl
      rw [hgv] at c1
      clear hrow hx hgv
      have hbL : (bk : Int) < (L.length : Int) := by omega
      have hb00 : (0 : Int) ≤ (bk : Int) := by omega
      have HF2 : Hid (looR F R rd stay links = ((i : Int), (q : Int), 0)) := by
        show _ = _
        rw [HF.out, HBE.out, HOG.out]
      go_wp2
      go_quiet (fail)
      go_wp2
      go_ret3
      exact ⟨gret3' HF2.out, (HTW.out.trans ((T2.trans ((hbw.trans ((blw_drewN hbz _).mono hbw.size)).mono T2.size)).mono (Nat.le_of_lt hbx)))⟩

set_option maxRecDepth 100000 in
set_option maxHeartbeats 4000000 in
theorem sLoosestGear_any (vF vR : Value) (F R : List Int) (rd : Int) (stay links : Int) (w : World) (hF : RdI w vF F) (hR : RdI w vR R) (hn : F.length ≤ 1048576) (hm : R.length ≤ 1048576)  :
    Calls Try.prog 29 #[.agg #[vF, vR, .int .i64 rd], .int .i64 stay, .int .i64 links] w fun e w' => e = .returned (.tuple #[.int .i64 (looR F R rd stay links).1, .int .i64 (looR F R rd stay links).2.1, .int .i64 (looR F R rd stay links).2.2]) ∧ Below w.heap.size w w' := by
  have HF := Lib.hid hF
  have HRr := Lib.hid hR
  obtain ⟨aF, cF, rfl, -⟩ := hF
  obtain ⟨aR, cR, rfl, -⟩ := hR
  cases hA : trainR F R rd
  · have HE : Hid (looR F R rd stay links = (0, 0, 1)) := by show _ = _; unfold looR; rw [hA]; rfl
    have HC : Hid (code10 F R rd stay links = 1) := by show _ = _; unfold code10; rw [hA]; rfl
    have HA := Lib.hid hA
    clear hA
    go_enter Try.func29, Try.ntmps29
    go_wp2_with fail
    generalize hw : w.alloc (.cells #[.slice aF F.length cF, .slice aR R.length cR, .int .i64 rd] 28) = W0
    have bx0 : W0.cell? ⟨w.heap.size, 0, none⟩ = some (.slice aF F.length cF) := by rw [← hw]; simp [go_sem]
    have bx1 : W0.cell? ⟨w.heap.size, 1, none⟩ = some (.slice aR R.length cR) := by rw [← hw]; simp [go_sem]
    have bx2 : W0.cell? ⟨w.heap.size, 2, none⟩ = some (.int .i64 rd) := by rw [← hw]; simp [go_sem]
    have hbx : w.heap.size < W0.heap.size := by rw [← hw]; simp
    have HTW : Hid (Below w.heap.size w W0) := by
      show Below _ _ _
      rw [← hw]; exact (Below.refl _ _).alloc (Nat.le_refl _) _
    have HF0 := Lib.hid (show RdI W0 (.slice aF F.length cF) F by rw [← hw]; exact HF.out.alloc _)
    have HR0 := Lib.hid (show RdI W0 (.slice aR R.length cR) R by rw [← hw]; exact HRr.out.alloc _)
    have HBX := Lib.hid (And.intro bx0 (And.intro bx1 bx2))
    have T0 := Below.refl W0.heap.size W0
    clear hw
    go_wp2_with fail
    (with_reducible refine (l10Train_any _ _ F R rd _ _ _ (HF0.out.below T0) (HR0.out.below T0) hn hm).mono ?_)
    rintro e w1 ⟨rfl, hb1⟩
    have T1 : Below W0.heap.size W0 w1 := T0.trans (hb1.mono T0.size)
    clear bx0 bx1 bx2
    have bx0 := (T1.cell (p := ⟨w.heap.size, 0, none⟩) hbx).trans HBX.out.1
    have bx1 := (T1.cell (p := ⟨w.heap.size, 1, none⟩) hbx).trans HBX.out.2.1
    have bx2 := (T1.cell (p := ⟨w.heap.size, 2, none⟩) hbx).trans HBX.out.2.2
    rw [HC.out]
    go_wp2
    go_ret3
    exact ⟨gret3' HE.out, (HTW.out.trans (T1.mono (Nat.le_of_lt hbx)))⟩
  cases hB : inR stay 3000 6000
  · have HE : Hid (looR F R rd stay links = (0, 0, 2)) := by show _ = _; unfold looR; rw [hA, hB, Bool.false_and]; rfl
    have HC : Hid (code10 F R rd stay links = 2) := by show _ = _; unfold code10; rw [hA, hB, Bool.false_and]; rfl
    have HA := Lib.hid hA
    have HB := Lib.hid hB
    clear hA hB
    go_enter Try.func29, Try.ntmps29
    go_wp2_with fail
    generalize hw : w.alloc (.cells #[.slice aF F.length cF, .slice aR R.length cR, .int .i64 rd] 28) = W0
    have bx0 : W0.cell? ⟨w.heap.size, 0, none⟩ = some (.slice aF F.length cF) := by rw [← hw]; simp [go_sem]
    have bx1 : W0.cell? ⟨w.heap.size, 1, none⟩ = some (.slice aR R.length cR) := by rw [← hw]; simp [go_sem]
    have bx2 : W0.cell? ⟨w.heap.size, 2, none⟩ = some (.int .i64 rd) := by rw [← hw]; simp [go_sem]
    have hbx : w.heap.size < W0.heap.size := by rw [← hw]; simp
    have HTW : Hid (Below w.heap.size w W0) := by
      show Below _ _ _
      rw [← hw]; exact (Below.refl _ _).alloc (Nat.le_refl _) _
    have HF0 := Lib.hid (show RdI W0 (.slice aF F.length cF) F by rw [← hw]; exact HF.out.alloc _)
    have HR0 := Lib.hid (show RdI W0 (.slice aR R.length cR) R by rw [← hw]; exact HRr.out.alloc _)
    have HBX := Lib.hid (And.intro bx0 (And.intro bx1 bx2))
    have T0 := Below.refl W0.heap.size W0
    clear hw
    go_wp2_with fail
    (with_reducible refine (l10Train_any _ _ F R rd _ _ _ (HF0.out.below T0) (HR0.out.below T0) hn hm).mono ?_)
    rintro e w1 ⟨rfl, hb1⟩
    have T1 : Below W0.heap.size W0 w1 := T0.trans (hb1.mono T0.size)
    clear bx0 bx1 bx2
    have bx0 := (T1.cell (p := ⟨w.heap.size, 0, none⟩) hbx).trans HBX.out.1
    have bx1 := (T1.cell (p := ⟨w.heap.size, 1, none⟩) hbx).trans HBX.out.2.1
    have bx2 := (T1.cell (p := ⟨w.heap.size, 2, none⟩) hbx).trans HBX.out.2.2
    rw [HC.out]
    go_wp2
    go_ret3
    exact ⟨gret3' HE.out, (HTW.out.trans (T1.mono (Nat.le_of_lt hbx)))⟩
  cases hL : linksOk links
  · have HE : Hid (looR F R rd stay links = (0, 0, 2)) := by show _ = _; unfold looR; rw [hA, hB, hL]; rfl
    have HC : Hid (code10 F R rd stay links = 2) := by show _ = _; unfold code10; rw [hA, hB, hL]; rfl
    have HA := Lib.hid hA
    have HB := Lib.hid hB
    have HL := Lib.hid hL
    clear hA hB hL
    go_enter Try.func29, Try.ntmps29
    go_wp2_with fail
    generalize hw : w.alloc (.cells #[.slice aF F.length cF, .slice aR R.length cR, .int .i64 rd] 28) = W0
    have bx0 : W0.cell? ⟨w.heap.size, 0, none⟩ = some (.slice aF F.length cF) := by rw [← hw]; simp [go_sem]
    have bx1 : W0.cell? ⟨w.heap.size, 1, none⟩ = some (.slice aR R.length cR) := by rw [← hw]; simp [go_sem]
    have bx2 : W0.cell? ⟨w.heap.size, 2, none⟩ = some (.int .i64 rd) := by rw [← hw]; simp [go_sem]
    have hbx : w.heap.size < W0.heap.size := by rw [← hw]; simp
    have HTW : Hid (Below w.heap.size w W0) := by
      show Below _ _ _
      rw [← hw]; exact (Below.refl _ _).alloc (Nat.le_refl _) _
    have HF0 := Lib.hid (show RdI W0 (.slice aF F.length cF) F by rw [← hw]; exact HF.out.alloc _)
    have HR0 := Lib.hid (show RdI W0 (.slice aR R.length cR) R by rw [← hw]; exact HRr.out.alloc _)
    have HBX := Lib.hid (And.intro bx0 (And.intro bx1 bx2))
    have T0 := Below.refl W0.heap.size W0
    clear hw
    go_wp2_with fail
    (with_reducible refine (l10Train_any _ _ F R rd _ _ _ (HF0.out.below T0) (HR0.out.below T0) hn hm).mono ?_)
    rintro e w1 ⟨rfl, hb1⟩
    have T1 : Below W0.heap.size W0 w1 := T0.trans (hb1.mono T0.size)
    clear bx0 bx1 bx2
    have bx0 := (T1.cell (p := ⟨w.heap.size, 0, none⟩) hbx).trans HBX.out.1
    have bx1 := (T1.cell (p := ⟨w.heap.size, 1, none⟩) hbx).trans HBX.out.2.1
    have bx2 := (T1.cell (p := ⟨w.heap.size, 2, none⟩) hbx).trans HBX.out.2.2
    rw [HC.out]
    go_wp2
    go_ret3
    exact ⟨gret3' HE.out, (HTW.out.trans (T1.mono (Nat.le_of_lt hbx)))⟩
  obtain ⟨tF, tR, -, -⟩ := trainR_at hA
  obtain ⟨s1, s2⟩ := inR_iff.1 hB
  obtain ⟨l0, l4⟩ := linksOk_bd hL
  have HC : Hid (code10 F R rd stay links = 0) := by show _ = _; unfold code10; rw [hA, hB, hL]; rfl
  obtain ⟨f1, f3, -⟩ := teethR_at tF
  obtain ⟨r1, r12, -⟩ := teethR_at tR
  have HA := Lib.hid hA
  have HB := Lib.hid hB
  have HL := Lib.hid hL
  clear hA hB hL
  go_enter Try.func29, Try.ntmps29
  go_wp2_with fail
  generalize hw : w.alloc (.cells #[.slice aF F.length cF, .slice aR R.length cR, .int .i64 rd] 28) = W0
  have bx0 : W0.cell? ⟨w.heap.size, 0, none⟩ = some (.slice aF F.length cF) := by rw [← hw]; simp [go_sem]
  have bx1 : W0.cell? ⟨w.heap.size, 1, none⟩ = some (.slice aR R.length cR) := by rw [← hw]; simp [go_sem]
  have bx2 : W0.cell? ⟨w.heap.size, 2, none⟩ = some (.int .i64 rd) := by rw [← hw]; simp [go_sem]
  have hbx : w.heap.size < W0.heap.size := by rw [← hw]; simp
  have HTW : Hid (Below w.heap.size w W0) := by
    show Below _ _ _
    rw [← hw]; exact (Below.refl _ _).alloc (Nat.le_refl _) _
  have HF0 := Lib.hid (show RdI W0 (.slice aF F.length cF) F by rw [← hw]; exact HF.out.alloc _)
  have HR0 := Lib.hid (show RdI W0 (.slice aR R.length cR) R by rw [← hw]; exact HRr.out.alloc _)
  have HBX := Lib.hid (And.intro bx0 (And.intro bx1 bx2))
  have T0 := Below.refl W0.heap.size W0
  clear hw
  go_wp2_with fail
  (with_reducible refine (l10Train_any _ _ F R rd _ _ _ (HF0.out.below T0) (HR0.out.below T0) hn hm).mono ?_)
  rintro e w1 ⟨rfl, hb1⟩
  have T1 : Below W0.heap.size W0 w1 := T0.trans (hb1.mono T0.size)
  clear bx0 bx1 bx2
  have bx0 := (T1.cell (p := ⟨w.heap.size, 0, none⟩) hbx).trans HBX.out.1
  have bx1 := (T1.cell (p := ⟨w.heap.size, 1, none⟩) hbx).trans HBX.out.2.1
  have bx2 := (T1.cell (p := ⟨w.heap.size, 2, none⟩) hbx).trans HBX.out.2.2
  rw [HC.out]
  have KP : Hid (∀ W' : World, Below w1.heap.size w1 W' → (W'.cell? ⟨w.heap.size, 0, none⟩ = some (.slice aF F.length cF) ∧ W'.cell? ⟨w.heap.size, 1, none⟩ = some (.slice aR R.length cR) ∧ W'.cell? ⟨w.heap.size, 2, none⟩ = some (.int .i64 rd))) := by
    show ∀ W' : World, _
    intro W' hb
    have h1 := Nat.lt_of_lt_of_le hbx T1.size
    exact ⟨(hb.cell (p := ⟨w.heap.size, 0, none⟩) h1).trans bx0, (hb.cell (p := ⟨w.heap.size, 1, none⟩) h1).trans bx1, (hb.cell (p := ⟨w.heap.size, 2, none⟩) h1).trans bx2⟩
  have HFw := Lib.hid (HF0.out.below T1)
  have HRw := Lib.hid (HR0.out.below T1)
  go_wp2
  go_region_held3 (fun W' => W'.cell? ⟨w.heap.size, 0, none⟩ = some (.slice aF F.length cF) ∧ W'.cell? ⟨w.heap.size, 1, none⟩ = some (.slice aR R.length cR) ∧ W'.cell? ⟨w.heap.size, 2, none⟩ = some (.int .i64 rd))
    (first | exact ⟨bx0, bx1, bx2⟩ | exact KP.out _ (hb2.trans (hb3.mono hb2.size)) | exact KP.out _ hb2)
    ((first
      | (go_at_call 79
         refine (l10Slacks_any _ _ F R rd _ _ _ ?_ ?_ hn hm tF tR s1 s2 l0 l4).mono ?_
         · first | exact HFw.out | exact HFw.out.drew
         · first | exact HRw.out | exact HRw.out.drew
         rintro e w2 ⟨v2, rfl, ho2, hbx2⟩
         have hb2 : Below w1.heap.size w1 w2 := by first | exact hbx2 | exact blw_ofDrew hbx2
         have hsj := hb2.size
         clear hbx2
         obtain ⟨ax, cx, eX, -⟩ := ho2.rd.shape
         subst eX
         have HOX := Lib.hid ho2
         clear ho2)
      | (go_at_call 80
         refine (l09Order_any _ _ F R rd _ ?_ ?_ hn hm tF tR).mono ?_
         · exact HFw.out.below hb2
         · exact HRw.out.below hb2
         rintro e w3 ⟨v3, L, rfl, ho3, hm3, hb3⟩
         have HM := Lib.hid hm3
         obtain ⟨hl36, hl1⟩ := lenL hm3 (by omega) (by omega) f1 r1
         obtain ⟨gA, cA, eA, hgA, hlA⟩ := World.ownsRow.form ho3.1 (by rw [List.length_map]; omega)
         rw [List.length_map] at eA
         subst eA
         have HO := Lib.hid ho3
         clear ho3 hm3)
      | fail))
  all_goals
    obtain ⟨xs, hxs⟩ : ∃ xs, xs = slkG F R stay links := ⟨_, rfl⟩
    have HRX : Hid (RdI w3 (.slice ax xs.length cx) xs) := by show RdI _ _ _; rw [hxs]; exact HOX.out.rd.below hb3
    have hLx : (slkG F R stay links).length = xs.length := by rw [hxs]
    rw [hLx]
    clear HOX
    have T3 := T1.trans ((hb2.trans (hb3.mono hb2.size)).mono T1.size)
    have hxb : ∀ k, k < xs.length → -1 ≤ xs.getD k 0 ∧ xs.getD k 0 ≤ 200000 := by
      intro k hk
      rw [hxs] at hk ⊢
      exact slkG_bd l0 l4 (fun g hg => by
        obtain ⟨j, hj⟩ := List.getElem?_of_mem hg
        obtain ⟨i, q, rfl, hi, hq⟩ := ordP_bd (Or.inr ⟨rfl, rfl⟩) (Nat.zero_le _) hj
        obtain ⟨x1, x2, -⟩ := (teethR_at tF).2.2 i hi
        obtain ⟨z1, z2, -⟩ := (teethR_at tR).2.2 q hq
        rw [tth_eq (by omega), tth_eq (by omega)]
        exact (needZ_bd s1 s2 x1 x2 z1 z2).1) k hk
    have HXB := Lib.hid hxb
    clear hxb
    have hxl : xs.length = (ordG F R).length := by rw [hxs, slkG_length]
    have hol := ordG_length F R
    have hmm : F.length * R.length ≤ 3 * 12 := Nat.mul_le_mul (by omega) (by omega)
    have hmp : 1 * 1 ≤ F.length * R.length := Nat.mul_le_mul f1 r1
    have hx36 : xs.length ≤ 36 := by omega
    have hx1 : 1 ≤ xs.length := by omega
    have HXL := Lib.hid hxl
    have HXS := Lib.hid hxs
    clear hol hmm hmp hxs hxl
    have HLX2 : Hid (L.length = xs.length) := by show _ = _; rw [← List.length_map (f := Prod.fst), HM.out, HXL.out]
    clear hLx
    have HC := Lib.hid HRX.out.at
    clear HRX
    have HE : Hid (looR F R rd stay links = if nnL xs = true then (((ordG F R).getD (bestK xs xs.length) (0, 0)).1, ((ordG F R).getD (bestK xs xs.length) (0, 0)).2, 0) else (0, 0, 5)) := by
      show _ = _
      unfold looR
      rw [HA.out, HB.out, HL.out, ← HXS.out]
      rfl
    go_wp2
    go_loopw [12, 13] (fun bi ii wr => ∃ k : Nat, k ≤ xs.length ∧ bi = .int .i64 (bestK xs k) ∧ ii = .int .i64 k ∧ Below w3.heap.size w3 wr ∧ Hid ((xs.take k).all (fun x => decide (0 ≤ x)) = true)) (fun _ ii _ => xs.length - (intOf ii).toNat)
    case atStart => exact ⟨0, Nat.zero_le _, rfl, rfl, Below.refl _ _, rfl⟩
    case round =>
      obtain ⟨k, hk, rfl, rfl, hbw, hnn⟩ := hrel
      have hbk0 := bestK_lt xs k
      by_cases hlt : k < xs.length
      · obtain ⟨b, o, rfl, c0⟩ := HC.out k hlt
        obtain ⟨b2, o2, e2, c2⟩ := HC.out (bestK xs k) (by omega)
        simp only [Option.some.injEq, Addr.mk.injEq] at e2
        obtain ⟨rfl, rfl, -⟩ := e2
        have g0 := (hbw.cell (p := ⟨b, o + k, none⟩) (World.block_lt_of_cell? _ _ c0)).trans c0
        have g2 := (hbw.cell (p := ⟨b, o + bestK xs k, none⟩) (World.block_lt_of_cell? _ _ c2)).trans c2
        obtain ⟨y1, y2⟩ := HXB.out k hlt
        have HK : Hid (bestK xs (k + 1) = if xs.getD (bestK xs k) 0 < xs.getD k 0 then k else bestK xs k) := rfl
        have HNo : Hid (xs.getD k 0 < 0 → nnL xs = false) := by
          show _ → _
          intro h
          unfold nnL
          rw [List.all_eq_false]
          exact ⟨xs[k], List.getElem_mem hlt, by simp only [List.getD_eq_getElem?_getD, List.getElem?_eq_getElem hlt, Option.getD_some] at h; simp; omega⟩
        have HYes : Hid (0 ≤ xs.getD k 0 → (xs.take (k + 1)).all (fun x => decide (0 ≤ x)) = true) := by
          show _ → _
          intro h
          rw [List.take_succ_eq_append_getElem hlt, List.all_append, hnn.out]
          simp only [List.getD_eq_getElem?_getD, List.getElem?_eq_getElem hlt, Option.getD_some] at h
          simpa using h
        generalize bestK xs k = bk at *
        generalize xs.getD k 0 = x at *
        generalize xs.getD bk 0 = y at *
        clear c0 c2
        have hkx : (k : Int) < (xs.length : Int) := by omega
        have hbx2 : (bk : Int) < (xs.length : Int) := by omega
        have hk00 : (0 : Int) ≤ (k : Int) := by omega
        have hb00 : (0 : Int) ≤ (bk : Int) := by omega
        by_cases hneg : x < 0
        · have HF : Hid (looR F R rd stay links = (0, 0, 5)) := by
            show _ = _
            rw [HE.out, HNo.out hneg]; rfl
          have hd : decide (x < 0) = true := by simpa using hneg
          clear HK HNo HYes
          go_wp2
          go_ret3
          exact ⟨gret3' HF.out, (HTW.out.trans ((T3.trans (hbw.mono T3.size)).mono (Nat.le_of_lt hbx)))⟩
        · have HN := Lib.hid (HYes.out (by omega))
          have hd : decide (x < 0) = false := by simpa using hneg
          by_cases hgt : y < x
          · have hd2 : decide (y < x) = true := by simpa using hgt
            have hbe : bestK xs (k + 1) = k := by rw [HK.out, if_pos hgt]
            clear HK HNo HYes
            go_wp2
            go_quiet (fail)
            go_wp2
            go_roundw
            case rel => exact ⟨k + 1, by omega, by rw [hbe], by go_num, (blw_drewN hbw _), HN⟩
            case measure => simp [intOf] <;> omega
          · have hd2 : decide (y < x) = false := by simpa using hgt
            have hbe : bestK xs (k + 1) = bk := by rw [HK.out, if_neg hgt]
            clear HK HNo HYes
            go_wp2
            go_quiet (fail)
            go_wp2
            go_roundw
            case rel => exact ⟨k + 1, by omega, by rw [hbe], by go_num, (blw_drewN hbw _), HN⟩
            case measure => simp [intOf] <;> omega
      · obtain rfl : k = xs.length := by omega
        have HNN : Hid (nnL xs = true) := by
          show _ = _
          have := hnn.out
          rw [List.take_length] at this
          exact this
        have HF := Lib.hid (HE.out.trans (if_pos HNN.out))
        have hbl : bestK xs xs.length < xs.length := by
          obtain ⟨m, hm3⟩ : ∃ m, xs.length = m + 1 := ⟨xs.length - 1, by omega⟩
          have := bestK_in xs m
          rw [hm3]
          omega
        obtain ⟨bk, hbe⟩ : ∃ bk, bk = bestK xs xs.length := ⟨_, rfl⟩
        rw [← hbe] at hbl
        rw [← hbe]
        have HBE := Lib.hid hbe.symm
        clear hbe
        have hbL0 : bk < L.length := by have := HLX2.out; omega
        obtain ⟨⟨xg, px⟩, hx⟩ : ∃ x, L[bk]? = some x := ⟨_, List.getElem?_eq_getElem (by omega)⟩
        obtain ⟨i, q, hig, hi2, hq2⟩ := gearL HM.out hx
        simp only at hig
        subst hig
        have HOG := Lib.hid (ordG_at HM.out hx)
        obtain ⟨gB, hgB, c1⟩ := (HO.out.below hbw).cellAt hx
        obtain rfl : gA = gB := by injection hgB with hgB; injection hgB
        have hrow := ((HO.out.below hbw).row hx).2
        have r0 : wr.cell? ⟨px, 0, none⟩ = some (.int .i64 i) := cell_of_row wr px 0 _ _ (0, 0) hrow
        have r1x : wr.cell? ⟨px, 1, none⟩ = some (.int .i64 q) := cell_of_row wr px 1 _ _ (0, 0) hrow
        have hgv : gv (((i : Int), (q : Int)), px) = .slice (some ⟨px, 0, none⟩) 2 2 := rfl
        rw [hgv] at c1
        clear hrow hx hgv
        have hbL : (bk : Int) < (L.length : Int) := by omega
        have hb00 : (0 : Int) ≤ (bk : Int) := by omega
        have HF2 : Hid (looR F R rd stay links = ((i : Int), (q : Int), 0)) := by
          show _ = _
          rw [HF.out, HBE.out, HOG.out]
        go_wp2
        go_quiet (fail)
        go_wp2
        go_ret3
        exact ⟨gret3' HF2.out, (HTW.out.trans ((T3.trans ((blw_drewN hbw _).mono T3.size)).mono (Nat.le_of_lt hbx)))⟩

end Go.Proofs.Ytfdnhamkkcmnfaa
