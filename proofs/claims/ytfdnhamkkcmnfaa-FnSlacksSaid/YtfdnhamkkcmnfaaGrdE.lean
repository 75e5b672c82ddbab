/- Contracts of slacksOf and l10Slacks. -/
import Derived.Test.YtfdnhamkkcmnfaaGrdD
import Derived.Test.YtfdnhamkkcmnfaaGeaD
set_option linter.unusedSimpArgs false
set_option linter.unusedVariables false
namespace Go.Proofs.Ytfdnhamkkcmnfaa
open Go.RowKit

theorem OwI.lit0X (w : World) {base N : Nat} (hN : w.heap.size = N) (hb : base ≤ N) : OwI (w.alloc (.cells #[] 2)) base (.slice (some ⟨N, 0, none⟩) 0 0) [] := by
  subst hN
  exact World.ownsRow_lit _ _ _ hb (by unfold maxLen; omega) rfl
theorem RdI.oneX (w : World) (x : Int) {N : Nat} (hN : w.heap.size = N) : RdI (w.alloc (.cells #[.int .i64 x] 2)) (.slice (some ⟨N, 0, none⟩) 1 1) [x] := by
  subst hN
  exact RdI.one w x
/-- The slack of a gear. -/
def slkV (F R : List Int) (stay links : Int) (g : Gear) : Int := max (-1) (1000 * links - needZ stay (tth F g.1) (tth R g.2))
def slkG (F R : List Int) (stay links : Int) : List Int := (ordG F R).map (slkV F R stay links)
theorem slk_map {F R : List Int} {stay links : Int} {L : List Gb} (h : L.map Prod.fst = ordG F R) : L.map (fun x => slkV F R stay links x.1) = slkG F R stay links := by
  unfold slkG
  rw [← h, List.map_map]
  rfl
theorem take_map {α β : Type} {f : α → β} {L : List α} {k : Nat} {x : α} (h : L[k]? = some x) : (L.take (k + 1)).map f = (L.take k).map f ++ [f x] := by
  have hk : k < L.length := by
    rcases Nat.lt_or_ge k L.length with h1 | h1
    · exact h1
    · rw [List.getElem?_eq_none h1] at h; cases h
  rw [List.take_succ_eq_append_getElem hk, List.map_append]
  have : L[k] = x := by
    rw [List.getElem?_eq_getElem hk] at h
    injection h
  rw [this]; rfl

set_option maxRecDepth 100000 in
set_option maxHeartbeats 4000000 in
theorem slacksOf_any (vF vR : Value) (F R : List Int) (rd : Int) (stay links : Int) (w : World) (hF : RdI w vF F) (hR : RdI w vR R) (hn : F.length ≤ 1048576) (hm : R.length ≤ 1048576) (tF : teethR F 3 20 60 = true) (tR : teethR R 12 9 52 = true) (s1 : 3000 ≤ stay) (s2 : stay ≤ 6000) (l0 : 40 ≤ links) (l4 : links ≤ 200) :
    Calls Try.prog 82 #[.agg #[vF, vR, .int .i64 rd], .int .i64 stay, .int .i64 links] w fun e w' => ∃ v, e = .returned v ∧ OwI w' w.heap.size v (slkG F R stay links) ∧ Below w.heap.size w w' := by
  obtain ⟨f1, f3, -⟩ := teethR_at tF
  obtain ⟨r1, r12, -⟩ := teethR_at tR
  have HF := Lib.hid hF
  have HRr := Lib.hid hR
  obtain ⟨aF, cF, rfl, -⟩ := hF
  obtain ⟨aR, cR, rfl, -⟩ := hR
  go_enter Try.func82, Try.ntmps82
  go_wp2_with fail
  generalize hw : w.alloc (.cells #[.slice aF F.length cF, .slice aR R.length cR, .int .i64 rd] 28) = W0
  have bx0 : W0.cell? ⟨w.heap.size, 0, none⟩ = some (.slice aF F.length cF) := by rw [← hw]; simp [go_sem]
  have bx1 : W0.cell? ⟨w.heap.size, 1, none⟩ = some (.slice aR R.length cR) := by rw [← hw]; simp [go_sem]
  have bx2 : W0.cell? ⟨w.heap.size, 2, none⟩ = some (.int .i64 rd) := by rw [← hw]; simp [go_sem]
  have hbx : w.heap.size < W0.heap.size := by rw [← hw]; simp
  have HTW : Hid (Below w.heap.size w W0) := by
    show Below _ _ _
    rw [← hw]; exact (Below.refl _ _).alloc (Nat.le_refl _) _
  have HF0 := Lib.hid (show RdI W0 (.slice aF F.length cF) F by rw [← hw]; exact HF.out.alloc _)
  have HR0 := Lib.hid (show RdI W0 (.slice aR R.length cR) R by rw [← hw]; exact HRr.out.alloc _)
  have HBX := Lib.hid (And.intro bx0 (And.intro bx1 bx2))
  have T0 := Below.refl W0.heap.size W0
  have hWz : W0.heap.size = w.heap.size + 1 := by rw [← hw]; simp
  clear hw
  go_wp2_with fail
  (with_reducible refine (gearOrder_any _ _ F R rd _ (HF0.out.below T0) (HR0.out.below T0) hn hm tF tR).mono ?_)
  rintro e w1 ⟨v1, L, rfl, ho1, hm1, hb1⟩
  have T1 : Below W0.heap.size W0 w1 := T0.trans (hb1.mono T0.size)
  clear bx0 bx1 bx2
  have bx0 := (T1.cell (p := ⟨w.heap.size, 0, none⟩) hbx).trans HBX.out.1
  have bx1 := (T1.cell (p := ⟨w.heap.size, 1, none⟩) hbx).trans HBX.out.2.1
  have bx2 := (T1.cell (p := ⟨w.heap.size, 2, none⟩) hbx).trans HBX.out.2.2
  have HM := Lib.hid hm1
  obtain ⟨hl36, hl1⟩ := lenL hm1 (by omega) (by omega) f1 r1
  obtain ⟨gA, cA, eA, hgA, hlA⟩ := World.ownsRow.form ho1.1 (by rw [List.length_map]; omega)
  rw [List.length_map] at eA
  subst eA
  have HO := Lib.hid ho1
  clear ho1 hm1
  obtain ⟨b0, hb0e⟩ : ∃ b0, b0 = w1.heap.size := ⟨_, rfl⟩
  have hWn : W0.heap.size ≤ w1.heap.size := T1.size
  have hb0 : W0.heap.size ≤ b0 := by omega
  have hbox : w.heap.size ≠ b0 := by omega
  have HFk : Hid (∀ k, (Value.slice aF F.length cF).ownBlock = some k → k ≠ b0) := by
    show ∀ k, _
    intro k hk
    have := HF.out.blkLt f1 hk
    omega
  have HRk : Hid (∀ k, (Value.slice aR R.length cR).ownBlock = some k → k ≠ b0) := by
    show ∀ k, _
    intro k hk
    have := HRr.out.blkLt r1 hk
    omega
  have HNB : Hid (∀ x ∈ L, x.2 ≠ b0) := by
    show ∀ x ∈ L, _
    intro x hx
    have h1 := (HO.out.2.1 x hx).1
    have h2 := obj_lt (HO.out.2.1 x hx).2
    omega
  have hgAb : gA ≠ b0 := by omega
  have HFW := Lib.hid (HF0.out.below T1)
  have HRW := Lib.hid (HR0.out.below T1)
  have HBW : Hid (w1.cell? ⟨w.heap.size, 0, none⟩ = some (.slice aF F.length cF) ∧ w1.cell? ⟨w.heap.size, 1, none⟩ = some (.slice aR R.length cR) ∧ w1.cell? ⟨w.heap.size, 2, none⟩ = some (.int .i64 rd)) := ⟨bx0, bx1, bx2⟩
  clear bx0 bx1 bx2
  go_wp2
  go_loopw [7, 13] (fun ov ii wr => ∃ (k : Nat) (ao : Option Addr) (co : Nat) (xs : List Int), k ≤ L.length ∧ ii = .int .i64 k ∧ ov = .slice ao xs.length co ∧ Hid (xs = (L.take k).map (fun x => slkV F R stay links x.1)) ∧ Hid (OwI wr W0.heap.size (.slice ao xs.length co) xs) ∧ Hid (Grw w1 wr b0 (.slice ao xs.length co))) (fun _ ii _ => L.length - (intOf ii).toNat)
  case atStart => exact ⟨0, none, 0, [], Nat.zero_le _, rfl, rfl, rfl, OwI.nil _ _, Grw.start _ _ _ (fun q hq => by cases hq)⟩
  case round =>
    obtain ⟨k, ao, co, xs, hk, rfl, rfl, hfl2, hown, hG⟩ := hrel
    have hLb : xs.length ≤ 36 := by
      rw [hfl2.out, List.length_map, List.length_take]
      omega
    by_cases hlt : k < L.length
    · skip
      obtain ⟨⟨xg, px⟩, hx⟩ : ∃ x, L[k]? = some x := ⟨_, List.getElem?_eq_getElem (by omega)⟩
      obtain ⟨i, q, hig, hi2, hq2⟩ := gearL HM.out hx
      simp only at hig
      subst hig
      have HX := Lib.hid hx
      obtain ⟨gB, hgB, c1W⟩ := HO.out.cellAt hx
      obtain rfl : gA = gB := by injection hgB with hgB; injection hgB
      have hnx : px ≠ b0 := HNB.out _ (List.mem_of_getElem? hx)
      have hrow : wr.heap[px]? = some (.cells #[.int .i64 i, .int .i64 q] 2 (0, 0)) := hG.out.obj (HO.out.row hx).2 hnx
      have hpl := obj_lt hrow
      have r0 : wr.cell? ⟨px, 0, none⟩ = some (.int .i64 i) := cell_of_row wr px 0 _ _ (0, 0) hrow
      have r1x : wr.cell? ⟨px, 1, none⟩ = some (.int .i64 q) := cell_of_row wr px 1 _ _ (0, 0) hrow
      have hgv : gv (((i : Int), (q : Int)), px) = .slice (some ⟨px, 0, none⟩) 2 2 := rfl
      rw [hgv] at c1W
      have c1 := hG.out.cell c1W hgAb
      have HC1 := Lib.hid c1W
      have HR0x := Lib.hid (cell_of_row _ px 0 _ _ (0, 0) (HO.out.row hx).2)
      have HR1x := Lib.hid (cell_of_row _ px 1 _ _ (0, 0) (HO.out.row hx).2)
      have hgl := World.block_lt_of_cell? _ _ c1
      have bx0 := hG.out.cell HBW.out.1 hbox
      have bx1 := hG.out.cell HBW.out.2.1 hbox
      have bx2 := hG.out.cell HBW.out.2.2 hbox
      have hbl := World.block_lt_of_cell? _ _ bx0
      have HFw := Lib.hid (hG.out.rdI HFW.out HFk.out)
      have HRw := Lib.hid (hG.out.rdI HRW.out HRk.out)
      clear hrow hx c1W
      have hi0 : (0 : Int) ≤ (i : Int) := by omega
      have hq0 : (0 : Int) ≤ (q : Int) := by omega
      have hkL : (k : Int) < (L.length : Int) := by omega
      have hk0 : (0 : Int) ≤ (k : Int) := by omega
      obtain ⟨x1, x2, -⟩ := (teethR_at tF).2.2 i hi2
      obtain ⟨z1, z2, -⟩ := (teethR_at tR).2.2 q hq2
      have HS : Hid (slkV F R stay links ((i : Int), (q : Int)) = max (-1) (1000 * links - needZ stay (F.getD i 0) (R.getD q 0))) := by
        show _ = _
        unfold slkV
        rw [tth_eq (by omega), tth_eq (by omega)]
      obtain ⟨bF, oF, e1, pF⟩ := HFw.out.at i hi2
      subst e1
      obtain ⟨bR, oR, e1, pR⟩ := HRw.out.at q hq2
      subst e1
      obtain ⟨n1, n2⟩ := needZ_bd s1 s2 x1 x2 z1 z2
      obtain ⟨b2, o2, e2, pFW⟩ := HFW.out.at i hi2
      simp only [Option.some.injEq, Addr.mk.injEq] at e2
      obtain ⟨rfl, rfl, -⟩ := e2
      obtain ⟨b2, o2, e2, pRW⟩ := HRW.out.at q hq2
      simp only [Option.some.injEq, Addr.mk.injEq] at e2
      obtain ⟨rfl, rfl, -⟩ := e2
      have hbFb : bF ≠ b0 := HFk.out bF rfl
      have hbRb : bR ≠ b0 := HRk.out bR rfl
      have HPF := Lib.hid pFW
      have HPR := Lib.hid pRW
      clear pFW pRW
      generalize F.getD i 0 = x at *
      generalize R.getD q 0 = z at *
      obtain ⟨nd, hnd⟩ : ∃ nd, nd = needZ stay x z := ⟨_, rfl⟩
      rw [← hnd] at n1 n2
      have HND := Lib.hid hnd.symm
      have hfl := World.block_lt_of_cell? _ _ pF
      have hrl := World.block_lt_of_cell? _ _ pR
      have hFi : (i : Int) < (F.length : Int) := by omega
      have hRq : (q : Int) < (R.length : Int) := by omega
      have jj1 : IntKind.i64.wrap (1000 * links) = 1000 * links := IntWalk.i64_in _ (by omega)
      have jj2 : IntKind.i64.wrap (1000 * links - nd) = 1000 * links - nd := IntWalk.i64_in _ (by omega)
      have KP : Hid (∀ (W' : World) (u : Value), Grw w1 W' b0 u → (W'.cell? ⟨w.heap.size, 0, none⟩ = some (.slice (some ⟨bF, oF, none⟩) F.length cF) ∧ W'.cell? ⟨w.heap.size, 1, none⟩ = some (.slice (some ⟨bR, oR, none⟩) R.length cR) ∧ W'.cell? ⟨w.heap.size, 2, none⟩ = some (.int .i64 rd) ∧ W'.cell? ⟨gA, k, none⟩ = some (.slice (some ⟨px, 0, none⟩) 2 2) ∧ W'.cell? ⟨px, 0, none⟩ = some (.int .i64 i) ∧ W'.cell? ⟨px, 1, none⟩ = some (.int .i64 q) ∧ W'.cell? ⟨bF, oF + i, none⟩ = some (.int .i64 x) ∧ W'.cell? ⟨bR, oR + q, none⟩ = some (.int .i64 z))) := by
        show ∀ (W' : World) (u : Value), _
        intro W' u hg
        exact ⟨hg.cell HBW.out.1 hbox, hg.cell HBW.out.2.1 hbox, hg.cell HBW.out.2.2 hbox, hg.cell HC1.out hgAb, hg.cell HR0x.out hnx, hg.cell HR1x.out hnx, hg.cell HPF.out hbFb, hg.cell HPR.out hbRb⟩
      by_cases hm : -1 < 1000 * links - nd
      · obtain ⟨zv, hzv⟩ : ∃ zv, zv = 1000 * links - nd := ⟨_, rfl⟩
        have HZ : Hid (slkV F R stay links ((i : Int), (q : Int)) = zv) := by
          show _ = _
          rw [HS.out, ← hnd, hzv]; omega
        rw [← hzv] at hm jj2
        have hzv2 := hzv.symm
        have hm2 : decide (-1 < zv) = true := by simpa using hm
        have hm3 : ¬ zv < -1 := by omega
        have hm4 : max (-1) zv = zv := by omega
        have hm5 : (-1 < zv) = True := by simp; omega
        clear HS hnd hzv
        go_wp2
        go_region_held3 (fun W' => W'.cell? ⟨w.heap.size, 0, none⟩ = some (.slice (some ⟨bF, oF, none⟩) F.length cF) ∧ W'.cell? ⟨w.heap.size, 1, none⟩ = some (.slice (some ⟨bR, oR, none⟩) R.length cR) ∧ W'.cell? ⟨w.heap.size, 2, none⟩ = some (.int .i64 rd) ∧ W'.cell? ⟨gA, k, none⟩ = some (.slice (some ⟨px, 0, none⟩) 2 2) ∧ W'.cell? ⟨px, 0, none⟩ = some (.int .i64 i) ∧ W'.cell? ⟨px, 1, none⟩ = some (.int .i64 q) ∧ W'.cell? ⟨bF, oF + i, none⟩ = some (.int .i64 x) ∧ W'.cell? ⟨bR, oR + q, none⟩ = some (.int .i64 z))
          (first | exact ⟨bx0, bx1, bx2, c1, r0, r1x, pF, pR⟩ | exact KP.out _ _ hG2.out | exact KP.out _ _ (hG.out.call (by repeat (first | (with_reducible refine blw_drewN ?_ _) | (with_reducible assumption) | (with_reducible exact Below.refl _ _) | (with_reducible refine Below.drew ?_) | (with_reducible refine blw_al ?_ _) | (with_reducible refine blw_stp (by with_reducible assumption) ?_) | (with_reducible refine blw_set ?_ (by dsimp only; omega) _)))))
          ((first
            | (go_at_call 101
               (with_reducible refine (need_any _ _ _ _ s1 s2 x1 x2 z1 z2).mono ?_)
               rintro e _ ⟨rfl, rfl⟩
               rw [HND.out])
            | (refine step_appI4 _ (by rfl) _ _ (by rfl) W0.heap.size (.slice ao xs.length co) _ xs [zv] (by rfl) (by rfl) ?_ ?_ ?_ ?_ ?_
               · repeat (first | (with_reducible exact hown.out) | (with_reducible refine OwI.drew ?_) | (with_reducible refine OwI.alloc ?_ _))
               · repeat (first | (exact RdI.oneX _ zv (by simp)) | (with_reducible refine RdI.drew ?_) | (with_reducible refine RdI.alloc ?_ _))
               · (try simp); (try omega)
               · (have := hG.out.size; (try simp); omega)
               intro v2 w2 hown2 hgrow hblk
               have hG2 := Lib.hid (hG.out.app (by repeat (first | (with_reducible refine blw_drewN ?_ _) | (with_reducible assumption) | (with_reducible exact Below.refl _ _) | (with_reducible refine Below.drew ?_) | (with_reducible refine blw_al ?_ _) | (with_reducible refine blw_stp (by with_reducible assumption) ?_) | (with_reducible refine blw_set ?_ (by dsimp only; omega) _))) hgrow hblk)
               have HO2 := Lib.hid hown2
               clear hown2 hgrow hblk)
            | fail))
        all_goals
          clear KP bx0 bx1 bx2 r0 r1x c1 pF pR
          have HF3 : Hid (xs ++ [zv] = (L.take (k + 1)).map (fun x => slkV F R stay links x.1)) := by
            show _ = _
            rw [take_map HX.out, ← hfl2.out, HZ.out]
          obtain ⟨ao2, co2, e3, -⟩ := HO2.out.rd.shape
          subst e3
          clear hfl2 hown hG
          go_wp2
          go_roundw
          case rel => exact ⟨k + 1, ao2, co2, _, by omega, by go_num, rfl, HF3, HO2, hG2⟩
          case measure => simp [intOf] <;> omega
      · obtain ⟨zv, hzv⟩ : ∃ zv : Int, zv = -1 := ⟨_, rfl⟩
        have HZ : Hid (slkV F R stay links ((i : Int), (q : Int)) = zv) := by
          show _ = _
          rw [HS.out, ← hnd, hzv]; omega
        subst hzv
        obtain ⟨yv, hyv⟩ : ∃ yv, yv = 1000 * links - nd := ⟨_, rfl⟩
        rw [← hyv] at hm jj2
        have hyv2 := hyv.symm
        have hm2 : decide (-1 < yv) = false := by simpa using hm
        have hm3 : yv ≤ -1 := by omega
        have hm4 : max (-1) yv = -1 := by omega
        have hm5 : (-1 < yv) = False := by simp; omega
        clear HS hnd hyv
        go_wp2
        go_region_held3 (fun W' => W'.cell? ⟨w.heap.size, 0, none⟩ = some (.slice (some ⟨bF, oF, none⟩) F.length cF) ∧ W'.cell? ⟨w.heap.size, 1, none⟩ = some (.slice (some ⟨bR, oR, none⟩) R.length cR) ∧ W'.cell? ⟨w.heap.size, 2, none⟩ = some (.int .i64 rd) ∧ W'.cell? ⟨gA, k, none⟩ = some (.slice (some ⟨px, 0, none⟩) 2 2) ∧ W'.cell? ⟨px, 0, none⟩ = some (.int .i64 i) ∧ W'.cell? ⟨px, 1, none⟩ = some (.int .i64 q) ∧ W'.cell? ⟨bF, oF + i, none⟩ = some (.int .i64 x) ∧ W'.cell? ⟨bR, oR + q, none⟩ = some (.int .i64 z))
          (first | exact ⟨bx0, bx1, bx2, c1, r0, r1x, pF, pR⟩ | exact KP.out _ _ hG2.out | exact KP.out _ _ (hG.out.call (by repeat (first | (with_reducible refine blw_drewN ?_ _) | (with_reducible assumption) | (with_reducible exact Below.refl _ _) | (with_reducible refine Below.drew ?_) | (with_reducible refine blw_al ?_ _) | (with_reducible refine blw_stp (by with_reducible assumption) ?_) | (with_reducible refine blw_set ?_ (by dsimp only; omega) _)))))
          ((first
            | (go_at_call 101
               (with_reducible refine (need_any _ _ _ _ s1 s2 x1 x2 z1 z2).mono ?_)
               rintro e _ ⟨rfl, rfl⟩
               rw [HND.out])
            | (refine step_appI4 _ (by rfl) _ _ (by rfl) W0.heap.size (.slice ao xs.length co) _ xs [(-1)] (by rfl) (by rfl) ?_ ?_ ?_ ?_ ?_
               · repeat (first | (with_reducible exact hown.out) | (with_reducible refine OwI.drew ?_) | (with_reducible refine OwI.alloc ?_ _))
               · repeat (first | (exact RdI.oneX _ (-1) (by simp)) | (with_reducible refine RdI.drew ?_) | (with_reducible refine RdI.alloc ?_ _))
               · (try simp); (try omega)
               · (have := hG.out.size; (try simp); omega)
               intro v2 w2 hown2 hgrow hblk
               have hG2 := Lib.hid (hG.out.app (by repeat (first | (with_reducible refine blw_drewN ?_ _) | (with_reducible assumption) | (with_reducible exact Below.refl _ _) | (with_reducible refine Below.drew ?_) | (with_reducible refine blw_al ?_ _) | (with_reducible refine blw_stp (by with_reducible assumption) ?_) | (with_reducible refine blw_set ?_ (by dsimp only; omega) _))) hgrow hblk)
               have HO2 := Lib.hid hown2
               clear hown2 hgrow hblk)
            | fail))
        all_goals
          clear KP bx0 bx1 bx2 r0 r1x c1 pF pR
          have HF3 : Hid (xs ++ [(-1)] = (L.take (k + 1)).map (fun x => slkV F R stay links x.1)) := by
            show _ = _
            rw [take_map HX.out, ← hfl2.out, HZ.out]
          obtain ⟨ao2, co2, e3, -⟩ := HO2.out.rd.shape
          subst e3
          clear hfl2 hown hG
          go_wp2
          go_roundw
          case rel => exact ⟨k + 1, ao2, co2, _, by omega, by go_num, rfl, HF3, HO2, hG2⟩
          case measure => simp [intOf] <;> omega
    · obtain rfl : k = L.length := by omega
      have HE : Hid (xs = slkG F R stay links) := by
        show _ = _
        rw [hfl2.out, List.take_length]
        exact slk_map HM.out
      have HB : Hid (Below W0.heap.size W0 wr) := hG.out.below T1 hWn hb0
      have HR : Hid (OwI wr W0.heap.size (.slice ao xs.length co) xs) := hown
      go_wp2
      go_ret
      exact ⟨_, rfl, by rw [← HE.out]; exact HR.out.mono (Nat.le_of_lt hbx), HTW.out.trans (HB.out.mono (Nat.le_of_lt hbx))⟩

set_option maxRecDepth 100000 in
set_option maxHeartbeats 4000000 in
theorem l10Slacks_any (vF vR : Value) (F R : List Int) (rd : Int) (stay links : Int) (w : World) (hF : RdI w vF F) (hR : RdI w vR R) (hn : F.length ≤ 1048576) (hm : R.length ≤ 1048576) (tF : teethR F 3 20 60 = true) (tR : teethR R 12 9 52 = true) (s1 : 3000 ≤ stay) (s2 : stay ≤ 6000) (l0 : 40 ≤ links) (l4 : links ≤ 200) :
    Calls Try.prog 79 #[.agg #[vF, vR, .int .i64 rd], .int .i64 stay, .int .i64 links] w fun e w' => ∃ v, e = .returned v ∧ OwI w' w.heap.size v (slkG F R stay links) ∧ Below w.heap.size w w' := by
  obtain ⟨f1, f3, -⟩ := teethR_at tF
  obtain ⟨r1, r12, -⟩ := teethR_at tR
  have HF := Lib.hid hF
  have HRr := Lib.hid hR
  obtain ⟨aF, cF, rfl, -⟩ := hF
  obtain ⟨aR, cR, rfl, -⟩ := hR
  go_enter Try.func79, Try.ntmps79
  go_wp2_with fail
  generalize hw : w.alloc (.cells #[.slice aF F.length cF, .slice aR R.length cR, .int .i64 rd] 28) = W0
  have bx0 : W0.cell? ⟨w.heap.size, 0, none⟩ = some (.slice aF F.length cF) := by rw [← hw]; simp [go_sem]
  have bx1 : W0.cell? ⟨w.heap.size, 1, none⟩ = some (.slice aR R.length cR) := by rw [← hw]; simp [go_sem]
  have bx2 : W0.cell? ⟨w.heap.size, 2, none⟩ = some (.int .i64 rd) := by rw [← hw]; simp [go_sem]
  have hbx : w.heap.size < W0.heap.size := by rw [← hw]; simp
  have HTW : Hid (Below w.heap.size w W0) := by
    show Below _ _ _
    rw [← hw]; exact (Below.refl _ _).alloc (Nat.le_refl _) _
  have HF0 := Lib.hid (show RdI W0 (.slice aF F.length cF) F by rw [← hw]; exact HF.out.alloc _)
  have HR0 := Lib.hid (show RdI W0 (.slice aR R.length cR) R by rw [← hw]; exact HRr.out.alloc _)
  have HBX := Lib.hid (And.intro bx0 (And.intro bx1 bx2))
  have T0 := Below.refl W0.heap.size W0
  have hWz : W0.heap.size = w.heap.size + 1 := by rw [← hw]; simp
  clear hw
  clear bx0 bx1 bx2
  go_wp2_with fail
  generalize hwl : W0.alloc (.cells #[] 2) = w1
  have T1 : Below W0.heap.size W0 w1 := by rw [← hwl]; exact (Below.refl _ _).alloc (Nat.le_refl _) _
  have HLI : Hid (OwI w1 W0.heap.size (.slice (some ⟨w.heap.size + 1, 0, none⟩) 0 0) []) := by show OwI _ _ _ _; rw [← hwl]; exact OwI.lit0X W0 hWz (by omega)
  have hz1 : w1.heap.size = w.heap.size + 2 := by rw [← hwl]; simp; omega
  clear hwl
  have bx0 := (T1.cell (p := ⟨w.heap.size, 0, none⟩) hbx).trans HBX.out.1
  have bx1 := (T1.cell (p := ⟨w.heap.size, 1, none⟩) hbx).trans HBX.out.2.1
  have bx2 := (T1.cell (p := ⟨w.heap.size, 2, none⟩) hbx).trans HBX.out.2.2
  go_wp2_with fail
  (with_reducible refine (l09Order_any _ _ F R rd _ (HF0.out.below T1) (HR0.out.below T1) hn hm tF tR).mono ?_)
  rintro e w2 ⟨v2, L, rfl, ho2, hm2, hb2⟩
  have T2 : Below W0.heap.size W0 w2 := T1.trans (hb2.mono T1.size)
  clear bx0 bx1 bx2
  have bx0 := (T2.cell (p := ⟨w.heap.size, 0, none⟩) hbx).trans HBX.out.1
  have bx1 := (T2.cell (p := ⟨w.heap.size, 1, none⟩) hbx).trans HBX.out.2.1
  have bx2 := (T2.cell (p := ⟨w.heap.size, 2, none⟩) hbx).trans HBX.out.2.2
  have HM := Lib.hid hm2
  obtain ⟨hl36, hl1⟩ := lenL hm2 (by omega) (by omega) f1 r1
  obtain ⟨gA, cA, eA, hgA, hlA⟩ := World.ownsRow.form ho2.1 (by rw [List.length_map]; omega)
  rw [List.length_map] at eA
  subst eA
  have HO := Lib.hid ho2
  clear ho2 hm2
  obtain ⟨b0, hb0e⟩ : ∃ b0, b0 = w.heap.size + 1 := ⟨_, rfl⟩
  have hWn : W0.heap.size ≤ w2.heap.size := T2.size
  have hb0 : W0.heap.size ≤ b0 := by omega
  have hbox : w.heap.size ≠ b0 := by omega
  have HFk : Hid (∀ k, (Value.slice aF F.length cF).ownBlock = some k → k ≠ b0) := by
    show ∀ k, _
    intro k hk
    have := HF.out.blkLt f1 hk
    omega
  have HRk : Hid (∀ k, (Value.slice aR R.length cR).ownBlock = some k → k ≠ b0) := by
    show ∀ k, _
    intro k hk
    have := HRr.out.blkLt r1 hk
    omega
  have HNB : Hid (∀ x ∈ L, x.2 ≠ b0) := by
    show ∀ x ∈ L, _
    intro x hx
    have h1 := (HO.out.2.1 x hx).1
    have h2 := obj_lt (HO.out.2.1 x hx).2
    omega
  have hgAb : gA ≠ b0 := by omega
  have HFW := Lib.hid (HF0.out.below T2)
  have HRW := Lib.hid (HR0.out.below T2)
  have HBW : Hid (w2.cell? ⟨w.heap.size, 0, none⟩ = some (.slice aF F.length cF) ∧ w2.cell? ⟨w.heap.size, 1, none⟩ = some (.slice aR R.length cR) ∧ w2.cell? ⟨w.heap.size, 2, none⟩ = some (.int .i64 rd)) := ⟨bx0, bx1, bx2⟩
  clear bx0 bx1 bx2
  go_wp2
  go_loopw [7, 9] (fun ov ii wr => ∃ (k : Nat) (ao : Option Addr) (co : Nat) (xs : List Int), k ≤ L.length ∧ ii = .int .i64 k ∧ ov = .slice ao xs.length co ∧ Hid (xs = (L.take k).map (fun x => slkV F R stay links x.1)) ∧ Hid (OwI wr W0.heap.size (.slice ao xs.length co) xs) ∧ Hid (Grw w2 wr b0 (.slice ao xs.length co))) (fun _ ii _ => L.length - (intOf ii).toNat)
  case atStart => exact ⟨0, some ⟨w.heap.size + 1, 0, none⟩, 0, [], Nat.zero_le _, rfl, rfl, rfl, HLI.out.below hb2, Grw.start _ _ _ (fun q hq => by have hq2 : some (w.heap.size + 1) = some q := hq; injection hq2 with hq2; omega)⟩
  case round =>
    obtain ⟨k, ao, co, xs, hk, rfl, rfl, hfl2, hown, hG⟩ := hrel
    have hLb : xs.length ≤ 36 := by
      rw [hfl2.out, List.length_map, List.length_take]
      omega
    by_cases hlt : k < L.length
    · skip
      obtain ⟨⟨xg, px⟩, hx⟩ : ∃ x, L[k]? = some x := ⟨_, List.getElem?_eq_getElem (by omega)⟩
      obtain ⟨i, q, hig, hi2, hq2⟩ := gearL HM.out hx
      simp only at hig
      subst hig
      have HX := Lib.hid hx
      obtain ⟨gB, hgB, c1W⟩ := HO.out.cellAt hx
      obtain rfl : gA = gB := by injection hgB with hgB; injection hgB
      have hnx : px ≠ b0 := HNB.out _ (List.mem_of_getElem? hx)
      have hrow : wr.heap[px]? = some (.cells #[.int .i64 i, .int .i64 q] 2 (0, 0)) := hG.out.obj (HO.out.row hx).2 hnx
      have hpl := obj_lt hrow
      have r0 : wr.cell? ⟨px, 0, none⟩ = some (.int .i64 i) := cell_of_row wr px 0 _ _ (0, 0) hrow
      have r1x : wr.cell? ⟨px, 1, none⟩ = some (.int .i64 q) := cell_of_row wr px 1 _ _ (0, 0) hrow
      have hgv : gv (((i : Int), (q : Int)), px) = .slice (some ⟨px, 0, none⟩) 2 2 := rfl
      rw [hgv] at c1W
      have c1 := hG.out.cell c1W hgAb
      have HC1 := Lib.hid c1W
      have HR0x := Lib.hid (cell_of_row _ px 0 _ _ (0, 0) (HO.out.row hx).2)
      have HR1x := Lib.hid (cell_of_row _ px 1 _ _ (0, 0) (HO.out.row hx).2)
      have hgl := World.block_lt_of_cell? _ _ c1
      have bx0 := hG.out.cell HBW.out.1 hbox
      have bx1 := hG.out.cell HBW.out.2.1 hbox
      have bx2 := hG.out.cell HBW.out.2.2 hbox
      have hbl := World.block_lt_of_cell? _ _ bx0
      have HFw := Lib.hid (hG.out.rdI HFW.out HFk.out)
      have HRw := Lib.hid (hG.out.rdI HRW.out HRk.out)
      clear hrow hx c1W
      have hi0 : (0 : Int) ≤ (i : Int) := by omega
      have hq0 : (0 : Int) ≤ (q : Int) := by omega
      have hkL : (k : Int) < (L.length : Int) := by omega
      have hk0 : (0 : Int) ≤ (k : Int) := by omega
      obtain ⟨x1, x2, -⟩ := (teethR_at tF).2.2 i hi2
      obtain ⟨z1, z2, -⟩ := (teethR_at tR).2.2 q hq2
      have HS : Hid (slkV F R stay links ((i : Int), (q : Int)) = max (-1) (1000 * links - needZ stay (F.getD i 0) (R.getD q 0))) := by
        show _ = _
        unfold slkV
        rw [tth_eq (by omega), tth_eq (by omega)]
      obtain ⟨bF, oF, e1, pF⟩ := HFw.out.at i hi2
      subst e1
      obtain ⟨bR, oR, e1, pR⟩ := HRw.out.at q hq2
      subst e1
      obtain ⟨n1, n2⟩ := needZ_bd s1 s2 x1 x2 z1 z2
      obtain ⟨b2, o2, e2, pFW⟩ := HFW.out.at i hi2
      simp only [Option.some.injEq, Addr.mk.injEq] at e2
      obtain ⟨rfl, rfl, -⟩ := e2
      obtain ⟨b2, o2, e2, pRW⟩ := HRW.out.at q hq2
      simp only [Option.some.injEq, Addr.mk.injEq] at e2
      obtain ⟨rfl, rfl, -⟩ := e2
      have hbFb : bF ≠ b0 := HFk.out bF rfl
      have hbRb : bR ≠ b0 := HRk.out bR rfl
      have HPF := Lib.hid pFW
      have HPR := Lib.hid pRW
      clear pFW pRW
      generalize F.getD i 0 = x at *
      generalize R.getD q 0 = z at *
      obtain ⟨nd, hnd⟩ : ∃ nd, nd = needZ stay x z := ⟨_, rfl⟩
      rw [← hnd] at n1 n2
      have HND := Lib.hid hnd.symm
      have hfl := World.block_lt_of_cell? _ _ pF
      have hrl := World.block_lt_of_cell? _ _ pR
      have hFi : (i : Int) < (F.length : Int) := by omega
      have hRq : (q : Int) < (R.length : Int) := by omega
      have jj1 : IntKind.i64.wrap (1000 * links) = 1000 * links := IntWalk.i64_in _ (by omega)
      have jj2 : IntKind.i64.wrap (1000 * links - nd) = 1000 * links - nd := IntWalk.i64_in _ (by omega)
      have KP : Hid (∀ (W' : World) (u : Value), Grw w2 W' b0 u → (W'.cell? ⟨w.heap.size, 0, none⟩ = some (.slice (some ⟨bF, oF, none⟩) F.length cF) ∧ W'.cell? ⟨w.heap.size, 1, none⟩ = some (.slice (some ⟨bR, oR, none⟩) R.length cR) ∧ W'.cell? ⟨w.heap.size, 2, none⟩ = some (.int .i64 rd) ∧ W'.cell? ⟨gA, k, none⟩ = some (.slice (some ⟨px, 0, none⟩) 2 2) ∧ W'.cell? ⟨px, 0, none⟩ = some (.int .i64 i) ∧ W'.cell? ⟨px, 1, none⟩ = some (.int .i64 q) ∧ W'.cell? ⟨bF, oF + i, none⟩ = some (.int .i64 x) ∧ W'.cell? ⟨bR, oR + q, none⟩ = some (.int .i64 z))) := by
        show ∀ (W' : World) (u : Value), _
        intro W' u hg
        exact ⟨hg.cell HBW.out.1 hbox, hg.cell HBW.out.2.1 hbox, hg.cell HBW.out.2.2 hbox, hg.cell HC1.out hgAb, hg.cell HR0x.out hnx, hg.cell HR1x.out hnx, hg.cell HPF.out hbFb, hg.cell HPR.out hbRb⟩
      by_cases hm : -1 < 1000 * links - nd
      · obtain ⟨zv, hzv⟩ : ∃ zv, zv = 1000 * links - nd := ⟨_, rfl⟩
        have HZ : Hid (slkV F R stay links ((i : Int), (q : Int)) = zv) := by
          show _ = _
          rw [HS.out, ← hnd, hzv]; omega
        rw [← hzv] at hm jj2
        have hzv2 := hzv.symm
        have hm2 : decide (-1 < zv) = true := by simpa using hm
        have hm3 : ¬ zv < -1 := by omega
        have hm4 : max (-1) zv = zv := by omega
        have hm5 : (-1 < zv) = True := by simp; omega
        clear HS hnd hzv
        go_wp2
        go_region_held3 (fun W' => W'.cell? ⟨w.heap.size, 0, none⟩ = some (.slice (some ⟨bF, oF, none⟩) F.length cF) ∧ W'.cell? ⟨w.heap.size, 1, none⟩ = some (.slice (some ⟨bR, oR, none⟩) R.length cR) ∧ W'.cell? ⟨w.heap.size, 2, none⟩ = some (.int .i64 rd) ∧ W'.cell? ⟨gA, k, none⟩ = some (.slice (some ⟨px, 0, none⟩) 2 2) ∧ W'.cell? ⟨px, 0, none⟩ = some (.int .i64 i) ∧ W'.cell? ⟨px, 1, none⟩ = some (.int .i64 q) ∧ W'.cell? ⟨bF, oF + i, none⟩ = some (.int .i64 x) ∧ W'.cell? ⟨bR, oR + q, none⟩ = some (.int .i64 z))
          (first | exact ⟨bx0, bx1, bx2, c1, r0, r1x, pF, pR⟩ | exact KP.out _ _ hG2.out | exact KP.out _ _ (hG.out.call (by repeat (first | (with_reducible refine blw_drewN ?_ _) | (with_reducible assumption) | (with_reducible exact Below.refl _ _) | (with_reducible refine Below.drew ?_) | (with_reducible refine blw_al ?_ _) | (with_reducible refine blw_stp (by with_reducible assumption) ?_) | (with_reducible refine blw_set ?_ (by dsimp only; omega) _)))))
          ((first
            | (go_at_call 100
               (with_reducible refine (l10Need_any _ _ _ _ s1 s2 x1 x2 z1 z2).mono ?_)
               rintro e _ ⟨rfl, rfl⟩
               rw [HND.out])
            | (refine step_appI4 _ (by rfl) _ _ (by rfl) W0.heap.size (.slice ao xs.length co) _ xs [zv] (by rfl) (by rfl) ?_ ?_ ?_ ?_ ?_
               · repeat (first | (with_reducible exact hown.out) | (with_reducible refine OwI.drew ?_) | (with_reducible refine OwI.alloc ?_ _))
               · repeat (first | (exact RdI.oneX _ zv (by simp)) | (with_reducible refine RdI.drew ?_) | (with_reducible refine RdI.alloc ?_ _))
               · (try simp); (try omega)
               · (have := hG.out.size; (try simp); omega)
               intro v2 w2 hown2 hgrow hblk
               have hG2 := Lib.hid (hG.out.app (by repeat (first | (with_reducible refine blw_drewN ?_ _) | (with_reducible assumption) | (with_reducible exact Below.refl _ _) | (with_reducible refine Below.drew ?_) | (with_reducible refine blw_al ?_ _) | (with_reducible refine blw_stp (by with_reducible assumption) ?_) | (with_reducible refine blw_set ?_ (by dsimp only; omega) _))) hgrow hblk)
               have HO2 := Lib.hid hown2
               clear hown2 hgrow hblk)
            | fail))
        all_goals
          clear KP bx0 bx1 bx2 r0 r1x c1 pF pR
          have HF3 : Hid (xs ++ [zv] = (L.take (k + 1)).map (fun x => slkV F R stay links x.1)) := by
            show _ = _
            rw [take_map HX.out, ← hfl2.out, HZ.out]
          obtain ⟨ao2, co2, e3, -⟩ := HO2.out.rd.shape
          subst e3
          clear hfl2 hown hG
          go_wp2
          go_roundw
          case rel => exact ⟨k + 1, ao2, co2, _, by omega, by go_num, rfl, HF3, HO2, hG2⟩
          case measure => simp [intOf] <;> omega
      · obtain ⟨zv, hzv⟩ : ∃ zv : Int, zv = -1 := ⟨_, rfl⟩
        have HZ : Hid (slkV F R stay links ((i : Int), (q : Int)) = zv) := by
          show _ = _
          rw [HS.out, ← hnd, hzv]; omega
        subst hzv
        obtain ⟨yv, hyv⟩ : ∃ yv, yv = 1000 * links - nd := ⟨_, rfl⟩
        rw [← hyv] at hm jj2
        have hyv2 := hyv.symm
        have hm2 : decide (-1 < yv) = false := by simpa using hm
        have hm3 : yv ≤ -1 := by omega
        have hm4 : max (-1) yv = -1 := by omega
        have hm5 : (-1 < yv) = False := by simp; omega
        clear HS hnd hyv
        go_wp2
        go_region_held3 (fun W' => W'.cell? ⟨w.heap.size, 0, none⟩ = some (.slice (some ⟨bF, oF, none⟩) F.length cF) ∧ W'.cell? ⟨w.heap.size, 1, none⟩ = some (.slice (some ⟨bR, oR, none⟩) R.length cR) ∧ W'.cell? ⟨w.heap.size, 2, none⟩ = some (.int .i64 rd) ∧ W'.cell? ⟨gA, k, none⟩ = some (.slice (some ⟨px, 0, none⟩) 2 2) ∧ W'.cell? ⟨px, 0, none⟩ = some (.int .i64 i) ∧ W'.cell? ⟨px, 1, none⟩ = some (.int .i64 q) ∧ W'.cell? ⟨bF, oF + i, none⟩ = some (.int .i64 x) ∧ W'.cell? ⟨bR, oR + q, none⟩ = some (.int .i64 z))
          (first | exact ⟨bx0, bx1, bx2, c1, r0, r1x, pF, pR⟩ | exact KP.out _ _ hG2.out | exact KP.out _ _ (hG.out.call (by repeat (first | (with_reducible refine blw_drewN ?_ _) | (with_reducible assumption) | (with_reducible exact Below.refl _ _) | (with_reducible refine Below.drew ?_) | (with_reducible refine blw_al ?_ _) | (with_reducible refine blw_stp (by with_reducible assumption) ?_) | (with_reducible refine blw_set ?_ (by dsimp only; omega) _)))))
          ((first
            | (go_at_call 100
               (with_reducible refine (l10Need_any _ _ _ _ s1 s2 x1 x2 z1 z2).mono ?_)
               rintro e _ ⟨rfl, rfl⟩
               rw [HND.out])
            | (refine step_appI4 _ (by rfl) _ _ (by rfl) W0.heap.size (.slice ao xs.length co) _ xs [(-1)] (by rfl) (by rfl) ?_ ?_ ?_ ?_ ?_
               · repeat (first | (with_reducible exact hown.out) | (with_reducible refine OwI.drew ?_) | (with_reducible refine OwI.alloc ?_ _))
               · repeat (first | (exact RdI.oneX _ (-1) (by simp)) | (with_reducible refine RdI.drew ?_) | (with_reducible refine RdI.alloc ?_ _))
               · (try simp); (try omega)
               · (have := hG.out.size; (try simp); omega)
               intro v2 w2 hown2 hgrow hblk
               have hG2 := Lib.hid (hG.out.app (by repeat (first | (with_reducible refine blw_drewN ?_ _) | (with_reducible assumption) | (with_reducible exact Below.refl _ _) | (with_reducible refine Below.drew ?_) | (with_reducible refine blw_al ?_ _) | (with_reducible refine blw_stp (by with_reducible assumption) ?_) | (with_reducible refine blw_set ?_ (by dsimp only; omega) _))) hgrow hblk)
               have HO2 := Lib.hid hown2
               clear hown2 hgrow hblk)
            | fail))
        all_goals
          clear KP bx0 bx1 bx2 r0 r1x c1 pF pR
          have HF3 : Hid (xs ++ [(-1)] = (L.take (k + 1)).map (fun x => slkV F R stay links x.1)) := by
            show _ = _
            rw [take_map HX.out, ← hfl2.out, HZ.out]
          obtain ⟨ao2, co2, e3, -⟩ := HO2.out.rd.shape
          subst e3
          clear hfl2 hown hG
          go_wp2
          go_roundw
          case rel => exact ⟨k + 1, ao2, co2, _, by omega, by go_num, rfl, HF3, HO2, hG2⟩
          case measure => simp [intOf] <;> omega
    · obtain rfl : k = L.length := by omega
      have HE : Hid (xs = slkG F R stay links) := by
        show _ = _
        rw [hfl2.out, List.take_length]
        exact slk_map HM.out
      have HB : Hid (Below W0.heap.size W0 wr) := hG.out.below T2 hWn hb0
      have HR : Hid (OwI wr W0.heap.size (.slice ao xs.length co) xs) := hown
      go_wp2
      go_ret
      exact ⟨_, rfl, by rw [← HE.out]; exact HR.out.mono (Nat.le_of_lt hbx), HTW.out.trans (HB.out.mono (Nat.le_of_lt hbx))⟩

end Go.Proofs.Ytfdnhamkkcmnfaa
