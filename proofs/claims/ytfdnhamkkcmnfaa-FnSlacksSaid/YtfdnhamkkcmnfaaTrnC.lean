/- Contracts of the draws of a train with a gear, and of a limit. -/
import Derived.Test.YtfdnhamkkcmnfaaTrnB
set_option linter.unusedSimpArgs false
set_option linter.unusedVariables false
namespace Go.Proofs.Ytfdnhamkkcmnfaa
open Go.RowKit

/-- What l09Some gives. -/
def TrnG (w w' : World) (g : Nat) (a : Option Addr) (n c : Nat) (e : Ending) : Prop := ∃ (vF vR : Value) (F R : List Int) (rd f r : Int), e = .returned (.tuple #[.agg #[vF, vR, .int .i64 rd], .int .i64 f, .int .i64 r]) ∧ OwI w' w.heap.size vF F ∧ OwI w' w.heap.size vR R ∧ (∀ k, vF.ownBlock = some k → vR.ownBlock ≠ some k) ∧ 1 ≤ F.length ∧ F.length ≤ 3 ∧ R.length ≤ 10 ∧ Src w' g a n c ∧ w.grownBy w' (some g)
theorem TrS.cellsFin {w wr : World} {g : Nat} {a : Option Addr} {n c bx br : Nat} {vF vR : Value} {F R : List Int} {rd : Int} (h : TrS w wr g a n c bx br vF vR F R rd) (u0 u1 u2 : Value) :
    (((wr.setCell ⟨br, 0, none⟩ u0).setCell ⟨br, 1, none⟩ u1).setCell ⟨br, 2, none⟩ u2).cell? ⟨bx, 0, none⟩ = some vF ∧ (((wr.setCell ⟨br, 0, none⟩ u0).setCell ⟨br, 1, none⟩ u1).setCell ⟨br, 2, none⟩ u2).cell? ⟨bx, 1, none⟩ = some vR ∧ (((wr.setCell ⟨br, 0, none⟩ u0).setCell ⟨br, 1, none⟩ u1).setCell ⟨br, 2, none⟩ u2).cell? ⟨bx, 2, none⟩ = some (.int .i64 rd) := by
  have hk := hk_setO (u := u2) (i := 2) (hk_setO (u := u1) (i := 1) (hk_setO (u := u0) (i := 0) h.box h.ne) h.ne) h.ne
  exact ⟨hk_cell (i := 0) hk rfl, hk_cell (i := 1) hk rfl, hk_cell (i := 2) hk rfl⟩
set_option maxRecDepth 100000 in
set_option maxHeartbeats 800000 in
theorem Limit11_any (g : Nat) (a : Option Addr) (n c : Nat) (w : World) (h : Src w g a n c) :
    Calls Try.prog 93 #[.pointer (some ⟨g, 0, none⟩)] w fun e w' => ∃ x : Int, e = .returned (.int .i64 x) ∧ Src w' g a n c ∧ w.grownBy w' (some g) := by
  have S0 := Lib.hid h
  have D0 := World.grownBy.refl w (some g)
  clear h
  go_enter Try.func93, Try.ntmps93
  go_wp2_with fail
  (with_reducible refine (Pick_any g a n c _ 2 _ _ (S0.out.alloc _) (heap_alloc_new _ _) rfl (by omega) (by omega) (by simp) (by have := S0.out.lt; omega)).mono ?_)
  rintro e w1 ⟨x1, rfl, hs1, hg1⟩
  have S1 := Lib.hid hs1
  have D1 := (drw_alloc D0 _).trans hg1
  clear hs1 hg1 S0
  go_wp2_with fail
  (with_reducible refine (Pick_any g a n c _ 8 _ _ (S1.out.alloc _) (heap_alloc_new _ _) rfl (by omega) (by omega) (by simp) (by have := S1.out.lt; omega)).mono ?_)
  rintro e w2 ⟨x2, rfl, hs2, hg2⟩
  have S2 := Lib.hid hs2
  have D2 := (drw_alloc D1 _).trans hg2
  clear hs2 hg2 S1
  go_wp2
  go_ret
  exact ⟨_, rfl, S2.out, D2⟩

set_option maxRecDepth 100000 in
set_option maxHeartbeats 4000000 in
theorem Some09_any (g : Nat) (a : Option Addr) (n c : Nat) (w : World) (h : Src w g a n c) :
    Calls Try.prog 92 #[.pointer (some ⟨g, 0, none⟩)] w fun e w' => TrnG w w' g a n c e := by
  have S0 := Lib.hid h
  have hgb := h.lt
  clear h
  go_enter Try.func92, Try.ntmps92
  go_wp2_with fail
  (with_reducible refine (Draw09_any g a n c _ (S0.out.alloc _)).mono ?_)
  rintro e w1 ⟨vF, vR, F, R, rd, rfl, hF, hR, hne, hF1, hF3, hR9, hs1, hg1⟩
  rw [World.size_alloc] at hF hR
  have HT1 := Lib.hid (TrS.ofR (rd := rd) hgb hF hR hne hs1 hg1)
  have hbx0 : w.heap.size < w1.heap.size := by have := hg1.size; simp only [World.size_alloc] at this; omega
  obtain ⟨aF, cF, eF, -⟩ := hF.rd.shape
  subst eF
  obtain ⟨aR, cR, eR, -⟩ := hR.rd.shape
  subst eR
  obtain ⟨bx, hbx⟩ : ∃ bx, w1.heap.size = bx := ⟨_, rfl⟩
  rw [hbx] at HT1
  clear S0 hs1 hg1 hF hR hne
  have hFw : (F.length : Int) ≤ 3 := by omega
  have hRw : (R.length : Int) ≤ 10 := by omega
  go_upto_region 2 with fail
  generalize hw2 : w1.alloc (.cells #[.slice aF F.length cF, .slice aR R.length cR, .int .i64 rd] 28) = wa at *
  clear hw2
  have HTX0 := HT1
  clear HT1
  obtain ⟨cx0, cx1, cx2, fx, cr0, cr1, cr2, fr⟩ := HTX0.out.cells
  have hbn := HTX0.out.ne
  have f0 := fr 0
  have f1 := fr 1
  have f2 := fr 2
  clear fx fr
  have KT : Hid (∀ (W' : World), TrS w W' g a n c bx w.heap.size (.slice aF F.length cF) (.slice aR R.length cR) F R rd → (W'.cell? ⟨bx, 0, none⟩ = some (.slice aF F.length cF) ∧ W'.cell? ⟨bx, 1, none⟩ = some (.slice aR R.length cR) ∧ W'.cell? ⟨bx, 2, none⟩ = some (.int .i64 rd))) := by
    show ∀ (W' : World), _
    intro W' h
    exact ⟨h.cells.1, h.cells.2.1, h.cells.2.2.1⟩
  go_region_held3 (fun W' => W'.cell? ⟨bx, 0, none⟩ = some (.slice aF F.length cF) ∧ W'.cell? ⟨bx, 1, none⟩ = some (.slice aR R.length cR) ∧ W'.cell? ⟨bx, 2, none⟩ = some (.int .i64 rd))
    (first | exact ⟨cx0, cx1, cx2⟩ | exact KT.out _ HTX4.out | exact KT.out _ HTX4.out.drew | exact KT.out _ HTX3.out | exact KT.out _ HTX3.out.drew | exact KT.out _ HTX2.out | exact KT.out _ HTX2.out.drew | exact KT.out _ HTX1.out | exact KT.out _ HTX1.out.drew | exact KT.out _ HTX0.out | exact KT.out _ HTX0.out.drew | exact HTX4.out.cellsFin _ _ _)
    ((first
      | (go_at_call 88
         (with_reducible refine (Next_any g a n c _ _ (by first | exact HTX3.out.src | exact HTX3.out.src.drew)).mono ?_)
         rintro e wx4 ⟨xx4, rfl, ⟨lx4, -, ux4⟩, hs3, hg3⟩
         have HTX4 : Hid (TrS w wx4 g a n c bx w.heap.size (.slice aF F.length cF) (.slice aR R.length cR) F R rd) := (by first | exact HTX3.out.call hs3 hg3 | exact HTX3.out.drew.call hs3 hg3)
         obtain ⟨-, -, -, -, rr0, rr1, rr2, rfr⟩ := HTX4.out.cells
         have rf0 := rfr 0
         have rf1 := rfr 1
         have rf2 := rfr 2
         clear hs3 hg3 rfr)
      | (go_at_call 88
         (with_reducible refine (Next_any g a n c _ _ (by first | exact HTX2.out.src | exact HTX2.out.src.drew)).mono ?_)
         rintro e wx3 ⟨xx3, rfl, ⟨lx3, -, ux3⟩, hs3, hg3⟩
         have HTX3 : Hid (TrS w wx3 g a n c bx w.heap.size (.slice aF F.length cF) (.slice aR R.length cR) F R rd) := (by first | exact HTX2.out.call hs3 hg3 | exact HTX2.out.drew.call hs3 hg3)
         obtain ⟨-, -, -, -, rr0, rr1, rr2, rfr⟩ := HTX3.out.cells
         have rf0 := rfr 0
         have rf1 := rfr 1
         have rf2 := rfr 2
         clear hs3 hg3 rfr)
      | (go_at_call 88
         (with_reducible refine (Next_any g a n c _ _ (by first | exact HTX1.out.src | exact HTX1.out.src.drew)).mono ?_)
         rintro e wx2 ⟨xx2, rfl, ⟨lx2, -, ux2⟩, hs3, hg3⟩
         have HTX2 : Hid (TrS w wx2 g a n c bx w.heap.size (.slice aF F.length cF) (.slice aR R.length cR) F R rd) := (by first | exact HTX1.out.call hs3 hg3 | exact HTX1.out.drew.call hs3 hg3)
         obtain ⟨-, -, -, -, rr0, rr1, rr2, rfr⟩ := HTX2.out.cells
         have rf0 := rfr 0
         have rf1 := rfr 1
         have rf2 := rfr 2
         clear hs3 hg3 rfr)
      | (go_at_call 88
         (with_reducible refine (Next_any g a n c _ _ (by first | exact HTX0.out.src | exact HTX0.out.src.drew)).mono ?_)
         rintro e wx1 ⟨xx1, rfl, ⟨lx1, -, ux1⟩, hs3, hg3⟩
         have HTX1 : Hid (TrS w wx1 g a n c bx w.heap.size (.slice aF F.length cF) (.slice aR R.length cR) F R rd) := (by first | exact HTX0.out.call hs3 hg3 | exact HTX0.out.drew.call hs3 hg3)
         obtain ⟨-, -, -, -, rr0, rr1, rr2, rfr⟩ := HTX1.out.cells
         have rf0 := rfr 0
         have rf1 := rfr 1
         have rf2 := rfr 2
         clear hs3 hg3 rfr)
      | fail))
  all_goals
    clear cx0 cx1 cx2 KT
    go_wp2
    refine bodyPost_ret (v := .tuple #[.agg #[.slice aF F.length cF, .slice aR R.length cR, .int .i64 rd], .int .i64 xx2, .int .i64 xx4]) (by simp [results, Try.results92, go_sem, *]) rfl ⟨_, _, F, R, rd, xx2, xx4, rfl, (HTX4.out.fin _ _ _).1, (HTX4.out.fin _ _ _).2.1, fun k hk => (HTX4.out.aF k hk).2.2, by omega, by omega, by omega, (HTX4.out.fin _ _ _).2.2.1, (HTX4.out.fin _ _ _).2.2.2⟩
end Go.Proofs.Ytfdnhamkkcmnfaa
