/- Contracts of usableGears and l11Usable. -/
import Derived.Test.YtfdnhamkkcmnfaaGrdC
import Derived.Test.YtfdnhamkkcmnfaaGrwA
set_option linter.unusedSimpArgs false
set_option linter.unusedVariables false
namespace Go.Proofs.Ytfdnhamkkcmnfaa
open Go.RowKit

/-- The gears that are not crossed, in order. -/
def usG (F R : List Int) (limit : Int) : List Gear := (ordG F R).filter fun g => !crossR F.length R.length limit g.1 g.2
def okL (F R : List Int) (limit : Int) (x : Gb) : Bool := !crossR F.length R.length limit x.1.1 x.1.2
theorem usG_map {F R : List Int} {limit : Int} {L : List Gb} (h : L.map Prod.fst = ordG F R) : (L.filter (okL F R limit)).map Prod.fst = usG F R limit := by
  unfold usG
  rw [← h, List.filter_map]
  rfl
theorem take_filter {α : Type} {p : α → Bool} {L : List α} {k : Nat} {x : α} (h : L[k]? = some x) : (L.take (k + 1)).filter p = (L.take k).filter p ++ (if p x = true then [x] else []) := by
  have hk : k < L.length := by
    rcases Nat.lt_or_ge k L.length with h1 | h1
    · exact h1
    · rw [List.getElem?_eq_none h1] at h; cases h
  rw [List.take_succ_eq_append_getElem hk, List.filter_append]
  have : L[k] = x := by
    rw [List.getElem?_eq_getElem hk] at h
    injection h
  rw [this]
  by_cases hp : p x = true
  · simp [hp]
  · simp [hp]
/-- A slice of some gears of L. -/
theorem OwG.partG {W wr : World} {B base b0 : Nat} {v u : Value} {L L' : List Gb} (h : OwG W B v L) (hg : Grw W wr b0 u) (hB : base ≤ B) (ho : OwV wr base u (L'.map gv)) (hs : L'.Sublist L) (hn : ∀ x ∈ L, x.2 ≠ b0) : OwG wr base u L' := by
  refine ⟨ho, fun x hx => ⟨Nat.le_trans hB (h.2.1 x (hs.subset hx)).1, hg.obj (h.2.1 x (hs.subset hx)).2 (hn x (hs.subset hx))⟩, fun x hx e => ?_, (hs.map Prod.snd).nodup h.2.2.2⟩
  have h2 := obj_lt (h.2.1 x (hs.subset hx)).2
  rcases hg.2 _ e with e1 | e1
  · exact hn x (hs.subset hx) e1
  · omega
theorem gearL {F R : List Int} {L : List Gb} (h : L.map Prod.fst = ordG F R) {k : Nat} {x : Gb} (hx : L[k]? = some x) : ∃ i q : Nat, x.1 = ((i : Int), (q : Int)) ∧ i < F.length ∧ q < R.length := by
  have hy : (ordP F R F.length 0)[k]? = some x.1 := by
    show (ordG F R)[k]? = _
    rw [← h, List.getElem?_map, hx]; rfl
  exact ordP_bd (Or.inr ⟨rfl, rfl⟩) (Nat.zero_le _) hy
theorem ordG_length (F R : List Int) : (ordG F R).length = F.length * R.length := by
  show (ordP F R F.length 0).length = _
  rw [ordP_length]; rfl
theorem lenL {F R : List Int} {L : List Gb} (h : L.map Prod.fst = ordG F R) (f3 : F.length ≤ 3) (r12 : R.length ≤ 12) (f1 : 1 ≤ F.length) (r1 : 1 ≤ R.length) : L.length ≤ 36 ∧ 1 ≤ L.length := by
  have e : L.length = F.length * R.length := by rw [← List.length_map (f := Prod.fst), h, ordG_length]
  have h1 : F.length * R.length ≤ 3 * 12 := Nat.mul_le_mul f3 r12
  have h2 : 1 * 1 ≤ F.length * R.length := Nat.mul_le_mul f1 r1
  omega

set_option maxRecDepth 100000 in
set_option maxHeartbeats 4000000 in
theorem usableGears_any (vF vR : Value) (F R : List Int) (rd : Int) (limit : Int) (w : World) (hF : RdI w vF F) (hR : RdI w vR R) (hn : F.length ≤ 1048576) (hm : R.length ≤ 1048576) (tF : teethR F 3 20 60 = true) (tR : teethR R 12 9 52 = true) (l0 : 0 ≤ limit) (l4 : limit ≤ 4) :
    Calls Try.prog 77 #[.agg #[vF, vR, .int .i64 rd], .int .i64 limit] w fun e w' => ∃ v L, e = .returned v ∧ OwG w' w.heap.size v L ∧ L.map Prod.fst = usG F R limit ∧ Below w.heap.size w w' := by
  obtain ⟨f1, f3, -⟩ := teethR_at tF
  obtain ⟨r1, r12, -⟩ := teethR_at tR
  have HF := Lib.hid hF
  have HRr := Lib.hid hR
  obtain ⟨aF, cF, rfl, -⟩ := hF
  obtain ⟨aR, cR, rfl, -⟩ := hR
  go_enter Try.func77, Try.ntmps77
  go_wp2_with fail
  generalize hw : w.alloc (.cells #[.slice aF F.length cF, .slice aR R.length cR, .int .i64 rd] 28) = W0
  have bx0 : W0.cell? ⟨w.heap.size, 0, none⟩ = some (.slice aF F.length cF) := by rw [← hw]; simp [go_sem]
  have bx1 : W0.cell? ⟨w.heap.size, 1, none⟩ = some (.slice aR R.length cR) := by rw [← hw]; simp [go_sem]
  have bx2 : W0.cell? ⟨w.heap.size, 2, none⟩ = some (.int .i64 rd) := by rw [← hw]; simp [go_sem]
  have hbx : w.heap.size < W0.heap.size := by rw [← hw]; simp
  have HTW : Hid (Below w.heap.size w W0) := by
    show Below _ _ _
    rw [← hw]; exact (Below.refl _ _).alloc (Nat.le_refl _) _
  have HF0 := Lib.hid (show RdI W0 (.slice aF F.length cF) F by rw [← hw]; exact HF.out.alloc _)
  have HR0 := Lib.hid (show RdI W0 (.slice aR R.length cR) R by rw [← hw]; exact HRr.out.alloc _)
  have HBX := Lib.hid (And.intro bx0 (And.intro bx1 bx2))
  have T0 := Below.refl W0.heap.size W0
  have hWz : W0.heap.size = w.heap.size + 1 := by rw [← hw]; simp
  clear hw
  go_wp2_with fail
  (with_reducible refine (gearOrder_any _ _ F R rd _ (HF0.out.below T0) (HR0.out.below T0) hn hm tF tR).mono ?_)
  rintro e w1 ⟨v1, L, rfl, ho1, hm1, hb1⟩
  have T1 : Below W0.heap.size W0 w1 := T0.trans (hb1.mono T0.size)
  clear bx0 bx1 bx2
  have bx0 := (T1.cell (p := ⟨w.heap.size, 0, none⟩) hbx).trans HBX.out.1
  have bx1 := (T1.cell (p := ⟨w.heap.size, 1, none⟩) hbx).trans HBX.out.2.1
  have bx2 := (T1.cell (p := ⟨w.heap.size, 2, none⟩) hbx).trans HBX.out.2.2
  have HM := Lib.hid hm1
  obtain ⟨hl36, hl1⟩ := lenL hm1 (by omega) (by omega) f1 r1
  obtain ⟨gA, cA, eA, hgA, hlA⟩ := World.ownsRow.form ho1.1 (by rw [List.length_map]; omega)
  rw [List.length_map] at eA
  subst eA
  have HO := Lib.hid ho1
  clear ho1 hm1
  obtain ⟨b0, hb0e⟩ : ∃ b0, b0 = w1.heap.size := ⟨_, rfl⟩
  have hWn : W0.heap.size ≤ w1.heap.size := T1.size
  have hb0 : W0.heap.size ≤ b0 := by omega
  have hbox : w.heap.size ≠ b0 := by omega
  have HFk : Hid (∀ k, (Value.slice aF F.length cF).ownBlock = some k → k ≠ b0) := by
    show ∀ k, _
    intro k hk
    have := HF.out.blkLt f1 hk
    omega
  have HRk : Hid (∀ k, (Value.slice aR R.length cR).ownBlock = some k → k ≠ b0) := by
    show ∀ k, _
    intro k hk
    have := HRr.out.blkLt r1 hk
    omega
  have HNB : Hid (∀ x ∈ L, x.2 ≠ b0) := by
    show ∀ x ∈ L, _
    intro x hx
    have h1 := (HO.out.2.1 x hx).1
    have h2 := obj_lt (HO.out.2.1 x hx).2
    omega
  have hgAb : gA ≠ b0 := by omega
  have HFW := Lib.hid (HF0.out.below T1)
  have HRW := Lib.hid (HR0.out.below T1)
  have HBW : Hid (w1.cell? ⟨w.heap.size, 0, none⟩ = some (.slice aF F.length cF) ∧ w1.cell? ⟨w.heap.size, 1, none⟩ = some (.slice aR R.length cR) ∧ w1.cell? ⟨w.heap.size, 2, none⟩ = some (.int .i64 rd)) := ⟨bx0, bx1, bx2⟩
  clear bx0 bx1 bx2
  go_wp2
  go_loopw [5, 11] (fun ov ii wr => ∃ (k : Nat) (ao : Option Addr) (co : Nat) (L' : List Gb), k ≤ L.length ∧ ii = .int .i64 k ∧ ov = .slice ao L'.length co ∧ Hid (L' = (L.take k).filter (okL F R limit)) ∧ Hid (OwV wr W0.heap.size (.slice ao L'.length co) (L'.map gv)) ∧ Hid (Grw w1 wr b0 (.slice ao L'.length co))) (fun _ ii _ => L.length - (intOf ii).toNat)
  case atStart => exact ⟨0, none, 0, [], Nat.zero_le _, rfl, rfl, rfl, OwV.nil _ _, Grw.start _ _ _ (fun q hq => by cases hq)⟩
  case round =>
    obtain ⟨k, ao, co, L', hk, rfl, rfl, hfl, hown, hG⟩ := hrel
    have hLb : L'.length ≤ 36 := by
      rw [hfl.out]
      have h1 := List.length_filter_le (okL F R limit) (L.take k)
      rw [List.length_take] at h1
      omega
    by_cases hlt : k < L.length
    · skip
      obtain ⟨⟨xg, px⟩, hx⟩ : ∃ x, L[k]? = some x := ⟨_, List.getElem?_eq_getElem (by omega)⟩
      obtain ⟨i, q, hig, hi2, hq2⟩ := gearL HM.out hx
      simp only at hig
      subst hig
      have HX := Lib.hid hx
      obtain ⟨gB, hgB, c1W⟩ := HO.out.cellAt hx
      obtain rfl : gA = gB := by injection hgB with hgB; injection hgB
      have hnx : px ≠ b0 := HNB.out _ (List.mem_of_getElem? hx)
      have hrow : wr.heap[px]? = some (.cells #[.int .i64 i, .int .i64 q] 2 (0, 0)) := hG.out.obj (HO.out.row hx).2 hnx
      have hpl := obj_lt hrow
      have r0 : wr.cell? ⟨px, 0, none⟩ = some (.int .i64 i) := cell_of_row wr px 0 _ _ (0, 0) hrow
      have r1x : wr.cell? ⟨px, 1, none⟩ = some (.int .i64 q) := cell_of_row wr px 1 _ _ (0, 0) hrow
      have hgv : gv (((i : Int), (q : Int)), px) = .slice (some ⟨px, 0, none⟩) 2 2 := rfl
      rw [hgv] at c1W
      have c1 := hG.out.cell c1W hgAb
      have HC1 := Lib.hid c1W
      have HR0x := Lib.hid (cell_of_row _ px 0 _ _ (0, 0) (HO.out.row hx).2)
      have HR1x := Lib.hid (cell_of_row _ px 1 _ _ (0, 0) (HO.out.row hx).2)
      have hgl := World.block_lt_of_cell? _ _ c1
      have bx0 := hG.out.cell HBW.out.1 hbox
      have bx1 := hG.out.cell HBW.out.2.1 hbox
      have bx2 := hG.out.cell HBW.out.2.2 hbox
      have hbl := World.block_lt_of_cell? _ _ bx0
      have HFw := Lib.hid (hG.out.rdI HFW.out HFk.out)
      have HRw := Lib.hid (hG.out.rdI HRW.out HRk.out)
      clear hrow hx c1W
      have hi0 : (0 : Int) ≤ (i : Int) := by omega
      have hq0 : (0 : Int) ≤ (q : Int) := by omega
      have hkL : (k : Int) < (L.length : Int) := by omega
      have hk0 : (0 : Int) ≤ (k : Int) := by omega
      have KP : Hid (∀ W' : World, Below wr.heap.size wr W' → (W'.cell? ⟨w.heap.size, 0, none⟩ = some (.slice aF F.length cF) ∧ W'.cell? ⟨w.heap.size, 1, none⟩ = some (.slice aR R.length cR) ∧ W'.cell? ⟨w.heap.size, 2, none⟩ = some (.int .i64 rd) ∧ W'.cell? ⟨gA, k, none⟩ = some (.slice (some ⟨px, 0, none⟩) 2 2) ∧ W'.cell? ⟨px, 0, none⟩ = some (.int .i64 i) ∧ W'.cell? ⟨px, 1, none⟩ = some (.int .i64 q))) := by
        show ∀ W' : World, _
        intro W' hb
        exact ⟨(hb.cell (p := ⟨w.heap.size, 0, none⟩) hbl).trans bx0, (hb.cell (p := ⟨w.heap.size, 1, none⟩) hbl).trans bx1, (hb.cell (p := ⟨w.heap.size, 2, none⟩) hbl).trans bx2, (hb.cell (p := ⟨gA, k, none⟩) hgl).trans c1, (hb.cell (p := ⟨px, 0, none⟩) hpl).trans r0, (hb.cell (p := ⟨px, 1, none⟩) hpl).trans r1x⟩
      go_wp2
      go_region_held3 (fun W' => W'.cell? ⟨w.heap.size, 0, none⟩ = some (.slice aF F.length cF) ∧ W'.cell? ⟨w.heap.size, 1, none⟩ = some (.slice aR R.length cR) ∧ W'.cell? ⟨w.heap.size, 2, none⟩ = some (.int .i64 rd) ∧ W'.cell? ⟨gA, k, none⟩ = some (.slice (some ⟨px, 0, none⟩) 2 2) ∧ W'.cell? ⟨px, 0, none⟩ = some (.int .i64 i) ∧ W'.cell? ⟨px, 1, none⟩ = some (.int .i64 q))
        (first | exact ⟨bx0, bx1, bx2, c1, r0, r1x⟩ | exact KP.out _ hbc)
        ((first
          | (go_at_call 65
             refine (crossed_any _ _ F R rd _ _ _ _ ?_ ?_ hn hm l0 l4).mono ?_
             · first | exact HFw.out | exact HFw.out.drew
             · first | exact HRw.out | exact HRw.out.drew
             rintro e w2 ⟨rfl, hbc0⟩
             have hbc : Below wr.heap.size wr w2 := by first | exact hbc0 | exact blw_ofDrew hbc0
             clear hbc0
             generalize hcz : crossR F.length R.length limit (i : Int) (q : Int) = cr at *
             have HCR := Lib.hid hcz
             clear hcz)
          | fail))
      all_goals
        clear KP bx0 bx1 bx2 r0 r1x c1
        cases cr
        · have HO2 := Lib.hid (hown.out.below hbc)
          have hG2 := Lib.hid (hG.out.call hbc)
          clear hown hG
          go_wp2_with (at_builtin; refine wpList_appV _ rfl _ _ rfl W0.heap.size _ _ (L'.map gv) [.slice (some ⟨px, 0, none⟩) 2 2] rfl rfl (HO2.out.alloc _) (RdV.oneN _ _ rfl) (by intro z hz; rw [List.mem_singleton] at hz; subst hz; rfl) (by simp; omega) (by have := hG2.out.size; (try simp); omega) ?_; intro v' w3 hown3 hgrow hblk)
          have hG3 := Lib.hid (hG2.out.app ((Below.refl _ _).alloc (Nat.le_refl _) _) hgrow hblk)
          have HF3 : Hid (L' ++ [(((i : Int), (q : Int)), px)] = (L.take (k + 1)).filter (okL F R limit)) := by
            show _ = _
            rw [take_filter HX.out, ← hfl.out, if_pos (by unfold okL; rw [HCR.out]; rfl)]
          obtain ⟨gN, cN, e3, hgN, hlN⟩ := World.ownsRow.form hown3 (by simp)
          have hln : (L'.map gv ++ [Value.slice (some ⟨px, 0, none⟩) 2 2]).length = (L' ++ [(((i : Int), (q : Int)), px)]).length := by simp
          rw [hln] at e3
          subst e3
          have HO3 : Hid (OwV w3 W0.heap.size (.slice (some ⟨gN, 0, none⟩) (L' ++ [(((i : Int), (q : Int)), px)]).length cN) ((L' ++ [(((i : Int), (q : Int)), px)]).map gv)) := by
            show OwV _ _ _ _
            rw [List.map_append]
            exact hown3
          clear hown3 hgrow hblk HO2 hG2 hfl
          go_wp2
          go_roundw
          case rel => exact ⟨k + 1, _, cN, _, by omega, by go_num, rfl, HF3, HO3, hG3⟩
          case measure => simp [intOf] <;> omega
        · have HF3 : Hid (L' = (L.take (k + 1)).filter (okL F R limit)) := by
            show _ = _
            rw [take_filter HX.out, ← hfl.out, if_neg (by unfold okL; rw [HCR.out]; simp), List.append_nil]
          have HO3 := Lib.hid (hown.out.below hbc)
          have hG3 := Lib.hid (hG.out.call hbc)
          clear hfl hown hG
          go_wp2
          go_roundw
          case rel => exact ⟨k + 1, ao, co, L', by omega, by go_num, rfl, HF3, HO3, hG3⟩
          case measure => simp [intOf] <;> omega
    · obtain rfl : k = L.length := by omega
      have HR : Hid (OwG wr W0.heap.size (.slice ao L'.length co) L') := HO.out.partG hG.out (by omega) hown.out (by rw [hfl.out, List.take_length]; exact List.filter_sublist) HNB.out
      have HE : Hid (L'.map Prod.fst = usG F R limit) := by
        show _ = _
        rw [hfl.out, List.take_length]
        exact usG_map HM.out
      have HB : Hid (Below W0.heap.size W0 wr) := hG.out.below T1 hWn hb0
      go_wp2
      go_ret
      exact ⟨_, L', rfl, HR.out.mono (Nat.le_of_lt hbx), HE.out, HTW.out.trans (HB.out.mono (Nat.le_of_lt hbx))⟩

set_option maxRecDepth 100000 in
set_option maxHeartbeats 4000000 in
theorem l11Usable_any (vF vR : Value) (F R : List Int) (rd : Int) (limit : Int) (w : World) (hF : RdI w vF F) (hR : RdI w vR R) (hn : F.length ≤ 1048576) (hm : R.length ≤ 1048576) (tF : teethR F 3 20 60 = true) (tR : teethR R 12 9 52 = true) (l0 : 0 ≤ limit) (l4 : limit ≤ 4) :
    Calls Try.prog 75 #[.agg #[vF, vR, .int .i64 rd], .int .i64 limit] w fun e w' => ∃ v L, e = .returned v ∧ OwG w' w.heap.size v L ∧ L.map Prod.fst = usG F R limit ∧ Below w.heap.size w w' := by
  obtain ⟨f1, f3, -⟩ := teethR_at tF
  obtain ⟨r1, r12, -⟩ := teethR_at tR
  have HF := Lib.hid hF
  have HRr := Lib.hid hR
  obtain ⟨aF, cF, rfl, -⟩ := hF
  obtain ⟨aR, cR, rfl, -⟩ := hR
  go_enter Try.func75, Try.ntmps75
  go_wp2_with fail
  generalize hw : w.alloc (.cells #[.slice aF F.length cF, .slice aR R.length cR, .int .i64 rd] 28) = W0
  have bx0 : W0.cell? ⟨w.heap.size, 0, none⟩ = some (.slice aF F.length cF) := by rw [← hw]; simp [go_sem]
  have bx1 : W0.cell? ⟨w.heap.size, 1, none⟩ = some (.slice aR R.length cR) := by rw [← hw]; simp [go_sem]
  have bx2 : W0.cell? ⟨w.heap.size, 2, none⟩ = some (.int .i64 rd) := by rw [← hw]; simp [go_sem]
  have hbx : w.heap.size < W0.heap.size := by rw [← hw]; simp
  have HTW : Hid (Below w.heap.size w W0) := by
    show Below _ _ _
    rw [← hw]; exact (Below.refl _ _).alloc (Nat.le_refl _) _
  have HF0 := Lib.hid (show RdI W0 (.slice aF F.length cF) F by rw [← hw]; exact HF.out.alloc _)
  have HR0 := Lib.hid (show RdI W0 (.slice aR R.length cR) R by rw [← hw]; exact HRr.out.alloc _)
  have HBX := Lib.hid (And.intro bx0 (And.intro bx1 bx2))
  have T0 := Below.refl W0.heap.size W0
  have hWz : W0.heap.size = w.heap.size + 1 := by rw [← hw]; simp
  clear hw
  clear bx0 bx1 bx2
  go_wp2_with fail
  generalize hwl : W0.alloc (.cells #[] 22) = w1
  have T1 : Below W0.heap.size W0 w1 := by rw [← hwl]; exact (Below.refl _ _).alloc (Nat.le_refl _) _
  have HLI : Hid (OwV w1 W0.heap.size (.slice (some ⟨w.heap.size + 1, 0, none⟩) 0 0) []) := by show OwV _ _ _ _; rw [← hwl]; exact OwV.lit0N W0 hWz (by omega)
  have hz1 : w1.heap.size = w.heap.size + 2 := by rw [← hwl]; simp; omega
  clear hwl
  have bx0 := (T1.cell (p := ⟨w.heap.size, 0, none⟩) hbx).trans HBX.out.1
  have bx1 := (T1.cell (p := ⟨w.heap.size, 1, none⟩) hbx).trans HBX.out.2.1
  have bx2 := (T1.cell (p := ⟨w.heap.size, 2, none⟩) hbx).trans HBX.out.2.2
  go_wp2_with fail
  (with_reducible refine (l09Order_any _ _ F R rd _ (HF0.out.below T1) (HR0.out.below T1) hn hm tF tR).mono ?_)
  rintro e w2 ⟨v2, L, rfl, ho2, hm2, hb2⟩
  have T2 : Below W0.heap.size W0 w2 := T1.trans (hb2.mono T1.size)
  clear bx0 bx1 bx2
  have bx0 := (T2.cell (p := ⟨w.heap.size, 0, none⟩) hbx).trans HBX.out.1
  have bx1 := (T2.cell (p := ⟨w.heap.size, 1, none⟩) hbx).trans HBX.out.2.1
  have bx2 := (T2.cell (p := ⟨w.heap.size, 2, none⟩) hbx).trans HBX.out.2.2
  have HM := Lib.hid hm2
  obtain ⟨hl36, hl1⟩ := lenL hm2 (by omega) (by omega) f1 r1
  obtain ⟨gA, cA, eA, hgA, hlA⟩ := World.ownsRow.form ho2.1 (by rw [List.length_map]; omega)
  rw [List.length_map] at eA
  subst eA
  have HO := Lib.hid ho2
  clear ho2 hm2
  obtain ⟨b0, hb0e⟩ : ∃ b0, b0 = w.heap.size + 1 := ⟨_, rfl⟩
  have hWn : W0.heap.size ≤ w2.heap.size := T2.size
  have hb0 : W0.heap.size ≤ b0 := by omega
  have hbox : w.heap.size ≠ b0 := by omega
  have HFk : Hid (∀ k, (Value.slice aF F.length cF).ownBlock = some k → k ≠ b0) := by
    show ∀ k, _
    intro k hk
    have := HF.out.blkLt f1 hk
    omega
  have HRk : Hid (∀ k, (Value.slice aR R.length cR).ownBlock = some k → k ≠ b0) := by
    show ∀ k, _
    intro k hk
    have := HRr.out.blkLt r1 hk
    omega
  have HNB : Hid (∀ x ∈ L, x.2 ≠ b0) := by
    show ∀ x ∈ L, _
    intro x hx
    have h1 := (HO.out.2.1 x hx).1
    have h2 := obj_lt (HO.out.2.1 x hx).2
    omega
  have hgAb : gA ≠ b0 := by omega
  have HFW := Lib.hid (HF0.out.below T2)
  have HRW := Lib.hid (HR0.out.below T2)
  have HBW : Hid (w2.cell? ⟨w.heap.size, 0, none⟩ = some (.slice aF F.length cF) ∧ w2.cell? ⟨w.heap.size, 1, none⟩ = some (.slice aR R.length cR) ∧ w2.cell? ⟨w.heap.size, 2, none⟩ = some (.int .i64 rd)) := ⟨bx0, bx1, bx2⟩
  clear bx0 bx1 bx2
  go_wp2
  go_loopw [5, 7] (fun ov ii wr => ∃ (k : Nat) (ao : Option Addr) (co : Nat) (L' : List Gb), k ≤ L.length ∧ ii = .int .i64 k ∧ ov = .slice ao L'.length co ∧ Hid (L' = (L.take k).filter (okL F R limit)) ∧ Hid (OwV wr W0.heap.size (.slice ao L'.length co) (L'.map gv)) ∧ Hid (Grw w2 wr b0 (.slice ao L'.length co))) (fun _ ii _ => L.length - (intOf ii).toNat)
  case atStart => exact ⟨0, some ⟨w.heap.size + 1, 0, none⟩, 0, [], Nat.zero_le _, rfl, rfl, rfl, HLI.out.below hb2, Grw.start _ _ _ (fun q hq => by have hq2 : some (w.heap.size + 1) = some q := hq; injection hq2 with hq2; omega)⟩
  case round =>
    obtain ⟨k, ao, co, L', hk, rfl, rfl, hfl, hown, hG⟩ := hrel
    have hLb : L'.length ≤ 36 := by
      rw [hfl.out]
      have h1 := List.length_filter_le (okL F R limit) (L.take k)
      rw [List.length_take] at h1
      omega
    by_cases hlt : k < L.length
    · skip
      obtain ⟨⟨xg, px⟩, hx⟩ : ∃ x, L[k]? = some x := ⟨_, List.getElem?_eq_getElem (by omega)⟩
      obtain ⟨i, q, hig, hi2, hq2⟩ := gearL HM.out hx
      simp only at hig
      subst hig
      have HX := Lib.hid hx
      obtain ⟨gB, hgB, c1W⟩ := HO.out.cellAt hx
      obtain rfl : gA = gB := by injection hgB with hgB; injection hgB
      have hnx : px ≠ b0 := HNB.out _ (List.mem_of_getElem? hx)
      have hrow : wr.heap[px]? = some (.cells #[.int .i64 i, .int .i64 q] 2 (0, 0)) := hG.out.obj (HO.out.row hx).2 hnx
      have hpl := obj_lt hrow
      have r0 : wr.cell? ⟨px, 0, none⟩ = some (.int .i64 i) := cell_of_row wr px 0 _ _ (0, 0) hrow
      have r1x : wr.cell? ⟨px, 1, none⟩ = some (.int .i64 q) := cell_of_row wr px 1 _ _ (0, 0) hrow
      have hgv : gv (((i : Int), (q : Int)), px) = .slice (some ⟨px, 0, none⟩) 2 2 := rfl
      rw [hgv] at c1W
      have c1 := hG.out.cell c1W hgAb
      have HC1 := Lib.hid c1W
      have HR0x := Lib.hid (cell_of_row _ px 0 _ _ (0, 0) (HO.out.row hx).2)
      have HR1x := Lib.hid (cell_of_row _ px 1 _ _ (0, 0) (HO.out.row hx).2)
      have hgl := World.block_lt_of_cell? _ _ c1
      have bx0 := hG.out.cell HBW.out.1 hbox
      have bx1 := hG.out.cell HBW.out.2.1 hbox
      have bx2 := hG.out.cell HBW.out.2.2 hbox
      have hbl := World.block_lt_of_cell? _ _ bx0
      have HFw := Lib.hid (hG.out.rdI HFW.out HFk.out)
      have HRw := Lib.hid (hG.out.rdI HRW.out HRk.out)
      clear hrow hx c1W
      have hi0 : (0 : Int) ≤ (i : Int) := by omega
      have hq0 : (0 : Int) ≤ (q : Int) := by omega
      have hkL : (k : Int) < (L.length : Int) := by omega
      have hk0 : (0 : Int) ≤ (k : Int) := by omega
      have KP : Hid (∀ W' : World, Below wr.heap.size wr W' → (W'.cell? ⟨w.heap.size, 0, none⟩ = some (.slice aF F.length cF) ∧ W'.cell? ⟨w.heap.size, 1, none⟩ = some (.slice aR R.length cR) ∧ W'.cell? ⟨w.heap.size, 2, none⟩ = some (.int .i64 rd) ∧ W'.cell? ⟨gA, k, none⟩ = some (.slice (some ⟨px, 0, none⟩) 2 2) ∧ W'.cell? ⟨px, 0, none⟩ = some (.int .i64 i) ∧ W'.cell? ⟨px, 1, none⟩ = some (.int .i64 q))) := by
        show ∀ W' : World, _
        intro W' hb
        exact ⟨(hb.cell (p := ⟨w.heap.size, 0, none⟩) hbl).trans bx0, (hb.cell (p := ⟨w.heap.size, 1, none⟩) hbl).trans bx1, (hb.cell (p := ⟨w.heap.size, 2, none⟩) hbl).trans bx2, (hb.cell (p := ⟨gA, k, none⟩) hgl).trans c1, (hb.cell (p := ⟨px, 0, none⟩) hpl).trans r0, (hb.cell (p := ⟨px, 1, none⟩) hpl).trans r1x⟩
      go_wp2
      go_region_held3 (fun W' => W'.cell? ⟨w.heap.size, 0, none⟩ = some (.slice aF F.length cF) ∧ W'.cell? ⟨w.heap.size, 1, none⟩ = some (.slice aR R.length cR) ∧ W'.cell? ⟨w.heap.size, 2, none⟩ = some (.int .i64 rd) ∧ W'.cell? ⟨gA, k, none⟩ = some (.slice (some ⟨px, 0, none⟩) 2 2) ∧ W'.cell? ⟨px, 0, none⟩ = some (.int .i64 i) ∧ W'.cell? ⟨px, 1, none⟩ = some (.int .i64 q))
        (first | exact ⟨bx0, bx1, bx2, c1, r0, r1x⟩ | exact KP.out _ hbc)
        ((first
          | (go_at_call 62
             refine (l11Crossed_any _ _ F R rd _ _ _ _ ?_ ?_ hn hm l0 l4).mono ?_
             · first | exact HFw.out | exact HFw.out.drew
             · first | exact HRw.out | exact HRw.out.drew
             rintro e w2 ⟨rfl, hbc0⟩
             have hbc : Below wr.heap.size wr w2 := by first | exact hbc0 | exact blw_ofDrew hbc0
             clear hbc0
             generalize hcz : crossR F.length R.length limit (i : Int) (q : Int) = cr at *
             have HCR := Lib.hid hcz
             clear hcz)
          | fail))
      all_goals
        clear KP bx0 bx1 bx2 r0 r1x
        cases cr
        · have HO2 := Lib.hid (hown.out.below hbc)
          have hG2 := Lib.hid (hG.out.call hbc)
          have c1 := (hbc.cell (p := ⟨gA, k, none⟩) hgl).trans c1
          clear hown hG
          go_wp2_with (at_builtin; refine wpList_appV _ rfl _ _ rfl W0.heap.size _ _ (L'.map gv) [.slice (some ⟨px, 0, none⟩) 2 2] rfl rfl (HO2.out.alloc _) (RdV.oneN _ _ rfl) (by intro z hz; rw [List.mem_singleton] at hz; subst hz; rfl) (by simp; omega) (by have := hG2.out.size; (try simp); omega) ?_; intro v' w3 hown3 hgrow hblk)
          have hG3 := Lib.hid (hG2.out.app ((Below.refl _ _).alloc (Nat.le_refl _) _) hgrow hblk)
          have HF3 : Hid (L' ++ [(((i : Int), (q : Int)), px)] = (L.take (k + 1)).filter (okL F R limit)) := by
            show _ = _
            rw [take_filter HX.out, ← hfl.out, if_pos (by unfold okL; rw [HCR.out]; rfl)]
          obtain ⟨gN, cN, e3, hgN, hlN⟩ := World.ownsRow.form hown3 (by simp)
          have hln : (L'.map gv ++ [Value.slice (some ⟨px, 0, none⟩) 2 2]).length = (L' ++ [(((i : Int), (q : Int)), px)]).length := by simp
          rw [hln] at e3
          subst e3
          have HO3 : Hid (OwV w3 W0.heap.size (.slice (some ⟨gN, 0, none⟩) (L' ++ [(((i : Int), (q : Int)), px)]).length cN) ((L' ++ [(((i : Int), (q : Int)), px)]).map gv)) := by
            show OwV _ _ _ _
            rw [List.map_append]
            exact hown3
          clear hown3 hgrow hblk HO2 hG2 hfl
          go_wp2
          go_roundw
          case rel => exact ⟨k + 1, _, cN, _, by omega, by go_num, rfl, HF3, HO3, hG3⟩
          case measure => simp [intOf] <;> omega
        · have HF3 : Hid (L' = (L.take (k + 1)).filter (okL F R limit)) := by
            show _ = _
            rw [take_filter HX.out, ← hfl.out, if_neg (by unfold okL; rw [HCR.out]; simp), List.append_nil]
          have HO3 := Lib.hid (hown.out.below hbc)
          have hG3 := Lib.hid (hG.out.call hbc)
          clear hfl hown hG
          go_wp2
          go_roundw
          case rel => exact ⟨k + 1, ao, co, L', by omega, by go_num, rfl, HF3, HO3, hG3⟩
          case measure => simp [intOf] <;> omega
    · obtain rfl : k = L.length := by omega
      have HR : Hid (OwG wr W0.heap.size (.slice ao L'.length co) L') := HO.out.partG hG.out (by omega) hown.out (by rw [hfl.out, List.take_length]; exact List.filter_sublist) HNB.out
      have HE : Hid (L'.map Prod.fst = usG F R limit) := by
        show _ = _
        rw [hfl.out, List.take_length]
        exact usG_map HM.out
      have HB : Hid (Below W0.heap.size W0 wr) := hG.out.below T2 hWn hb0
      go_wp2
      go_ret
      exact ⟨_, L', rfl, HR.out.mono (Nat.le_of_lt hbx), HE.out, HTW.out.trans (HB.out.mono (Nat.le_of_lt hbx))⟩

end Go.Proofs.Ytfdnhamkkcmnfaa
