/- Contract of the draw of a train. -/
import Derived.Test.YtfdnhamkkcmnfaaDrwS
import Derived.Test.YtfdnhamkkcmnfaaGrwA
import Derived.OwnWalk
import Derived.Deep.RegionWith
set_option linter.unusedSimpArgs false
set_option linter.unusedVariables false
namespace Go.Proofs.Ytfdnhamkkcmnfaa
open Go.RowKit

theorem OwI.shapeN9 {w : World} {base : Nat} {v : Value} {xs : List Int} {x : Int} (h : OwI w base v (xs ++ [x])) : ∃ g c, v = .slice (some ⟨g, 0, none⟩) (xs.length + 1) c := by
  rcases h.form with ⟨_, e⟩ | ⟨g, c, rfl, _⟩
  · simp at e
  · exact ⟨g, c, by simp⟩
theorem OwI.lit0N9 (w : World) {base N : Nat} (hN : w.heap.size = N) (hb : base ≤ N) : OwI (w.alloc (.cells #[] 2)) base (.slice (some ⟨N, 0, none⟩) 0 0) [] := by
  subst hN
  exact World.ownsRow_lit _ _ _ hb (by unfold maxLen; omega) rfl
theorem grown_setCellT (w : World) (b i : Nat) (u : Value) : w.grownBy (w.setCell ⟨b, i, none⟩ u) (some b) :=
  ⟨rfl, rfl, rfl, by simp [World.setCell], fun k _ hne => Below.heap_setCell w ⟨b, i, none⟩ u k (fun e => hne (by rw [show k = b from e]))⟩
theorem OwI.one9 {w : World} {base : Nat} {v : Value} {xs : List Int} (h : OwI w base v xs) : v.oneCell' = true := by
  rcases h.form with ⟨rfl, _⟩ | ⟨g, cap, rfl, _⟩ <;> rfl
/-- A train that is drawn, in its box bx, beside the source and the result's box br. -/
structure TrS (w wr : World) (g : Nat) (a : Option Addr) (n c bx br : Nat) (vF vR : Value) (F R : List Int) (rd : Int) : Prop where
  src : Src wr g a n c
  grown : w.grownBy wr (some g)
  box : wr.heap[bx]? = some (.cells #[vF, vR, .int .i64 rd] 28 (0, 0))
  res : wr.heap[br]? = some (.cells #[.slice none 0 0, .slice none 0 0, .int .i64 0] 28 (0, 0))
  front : OwI wr w.heap.size vF F
  rear : OwI wr w.heap.size vR R
  aF : ∀ k, vF.ownBlock = some k → k ≠ bx ∧ k ≠ br ∧ vR.ownBlock ≠ some k
  aR : ∀ k, vR.ownBlock = some k → k ≠ bx ∧ k ≠ br
  ne : bx ≠ br
  lb : w.heap.size ≤ bx
  lr : w.heap.size ≤ br
  lg : g < w.heap.size
theorem TrS.alloc {w wr : World} {g : Nat} {a : Option Addr} {n c bx br : Nat} {vF vR : Value} {F R : List Int} {rd : Int} (h : TrS w wr g a n c bx br vF vR F R rd) (o : Obj) : TrS w (wr.alloc o) g a n c bx br vF vR F R rd :=
  ⟨h.src.alloc o, drw_alloc h.grown o, hk_alloc h.box o, hk_alloc h.res o, h.front.alloc o, h.rear.alloc o, h.aF, h.aR, h.ne, h.lb, h.lr, h.lg⟩
theorem TrS.call {w wr w1 : World} {g : Nat} {a : Option Addr} {n c bx br : Nat} {vF vR : Value} {F R : List Int} {rd : Int} (h : TrS w wr g a n c bx br vF vR F R rd) (hs : Src w1 g a n c) (hg : wr.grownBy w1 (some g)) : TrS w w1 g a n c bx br vF vR F R rd := by
  have h1 := h.lg
  have h2 := h.lb
  have h3 := h.lr
  exact ⟨hs, h.grown.trans hg, hk_call h.box hg (by omega), hk_call h.res hg (by omega), h.front.farLt hg (fun q hq => by injection hq with hq; omega), h.rear.farLt hg (fun q hq => by injection hq with hq; omega), h.aF, h.aR, h.ne, h.lb, h.lr, h.lg⟩
theorem TrS.cells {w wr : World} {g : Nat} {a : Option Addr} {n c bx br : Nat} {vF vR : Value} {F R : List Int} {rd : Int} (h : TrS w wr g a n c bx br vF vR F R rd) : wr.cell? ⟨bx, 0, none⟩ = some vF ∧ wr.cell? ⟨bx, 1, none⟩ = some vR ∧ wr.cell? ⟨bx, 2, none⟩ = some (.int .i64 rd) ∧ (∀ i, wr.frozen? ⟨bx, i, none⟩ = false) ∧ wr.cell? ⟨br, 0, none⟩ = some (.slice none 0 0) ∧ wr.cell? ⟨br, 1, none⟩ = some (.slice none 0 0) ∧ wr.cell? ⟨br, 2, none⟩ = some (.int .i64 0) ∧ ∀ i, wr.frozen? ⟨br, i, none⟩ = false :=
  ⟨hk_cell (i := 0) h.box rfl, hk_cell (i := 1) h.box rfl, hk_cell (i := 2) h.box rfl, fun i => hk_free (i := i) h.box, hk_cell (i := 0) h.res rfl, hk_cell (i := 1) h.res rfl, hk_cell (i := 2) h.res rfl, fun i => hk_free (i := i) h.res⟩
/-- A number is put behind the front's teeth: the box before it is stored. -/
theorem TrS.appF1 {w wr w1 : World} {g : Nat} {a : Option Addr} {n c bx br : Nat} {vF vR v1 : Value} {F R : List Int} {rd : Int} {o : Obj} (h : TrS w wr g a n c bx br vF vR F R rd) (hg : (wr.alloc o).grownBy w1 vF.ownBlock) : w1.heap[bx]? = some (.cells #[vF, vR, .int .i64 rd] 28 (0, 0)) :=
  (hg.block bx (heap_lt (hk_alloc h.box o)) (fun e => (h.aF bx e.symm).1 rfl)).trans (hk_alloc h.box o)
theorem TrS.appF {w wr w1 : World} {g : Nat} {a : Option Addr} {n c bx br : Nat} {vF vR v1 : Value} {F R F1 : List Int} {rd : Int} {o : Obj} (h : TrS w wr g a n c bx br vF vR F R rd) (hg : (wr.alloc o).grownBy w1 vF.ownBlock) (ho : OwI w1 w.heap.size v1 F1) (hk : v1.ownBlock = vF.ownBlock ∨ v1.ownBlock = some (wr.alloc o).heap.size) :
    TrS w (w1.setCell ⟨bx, 0, none⟩ v1) g a n c bx br v1 vR F1 R rd := by
  have hb := h.appF1 (v1 := v1) hg
  have h1 := h.lg
  have h2 := h.lb
  have h3 := h.lr
  have hl := World.ownsRow.lt h.front
  have hlr := World.ownsRow.lt h.rear
  have hbl := heap_lt h.box
  have hrl := heap_lt h.res
  have hx : ∀ k, v1.ownBlock = some k → k ≠ bx ∧ k ≠ br ∧ vR.ownBlock ≠ some k := by
    intro k hk2
    rcases hk with hk | hk
    · exact h.aF k (hk.symm.trans hk2)
    · rw [hk] at hk2
      injection hk2 with hk2
      simp at hk2
      refine ⟨by omega, by omega, fun e => ?_⟩
      have := (hlr k e).2
      omega
  have hg2 := grown_setCellT w1 bx 0 v1
  refine ⟨(h.src.alloc o |>.far hg (fun q hq => by have := (hl q hq).1; omega)).set (by omega) 0 v1, drw_setN (drw_far (drw_alloc h.grown o) hg (fun q hq => (hl q hq).1)) h2 0 v1, hk_set (i := 0) (u := v1) hb, hk_setO ((hg.block br (heap_lt (hk_alloc h.res o)) (fun e => (h.aF br e.symm).2.1 rfl)).trans (hk_alloc h.res o)) (fun e => h.ne e.symm), ho.far hg2 (fun k hk2 e => ?_), ((h.rear.alloc o).far hg (fun k hk2 e => (h.aF k e).2.2 hk2)).far hg2 (fun k hk2 e => ?_), hx, h.aR, h.ne, h.lb, h.lr, h.lg⟩
  · injection e with e
    exact (hx k hk2).1 e.symm
  · injection e with e
    exact (h.aR k hk2).1 e.symm
theorem TrS.appR1 {w wr w1 : World} {g : Nat} {a : Option Addr} {n c bx br : Nat} {vF vR v1 : Value} {F R : List Int} {rd : Int} {o : Obj} (h : TrS w wr g a n c bx br vF vR F R rd) (hg : (wr.alloc o).grownBy w1 vR.ownBlock) : w1.heap[bx]? = some (.cells #[vF, vR, .int .i64 rd] 28 (0, 0)) :=
  (hg.block bx (heap_lt (hk_alloc h.box o)) (fun e => (h.aR bx e.symm).1 rfl)).trans (hk_alloc h.box o)
theorem TrS.appR {w wr w1 : World} {g : Nat} {a : Option Addr} {n c bx br : Nat} {vF vR v1 : Value} {F R R1 : List Int} {rd : Int} {o : Obj} (h : TrS w wr g a n c bx br vF vR F R rd) (hg : (wr.alloc o).grownBy w1 vR.ownBlock) (ho : OwI w1 w.heap.size v1 R1) (hk : v1.ownBlock = vR.ownBlock ∨ v1.ownBlock = some (wr.alloc o).heap.size) :
    TrS w (w1.setCell ⟨bx, 1, none⟩ v1) g a n c bx br vF v1 F R1 rd := by
  have hb := h.appR1 (v1 := v1) hg
  have h1 := h.lg
  have h2 := h.lb
  have h3 := h.lr
  have hl := World.ownsRow.lt h.rear
  have hlf := World.ownsRow.lt h.front
  have hbl := heap_lt h.box
  have hrl := heap_lt h.res
  have hx : ∀ k, v1.ownBlock = some k → k ≠ bx ∧ k ≠ br ∧ vF.ownBlock ≠ some k := by
    intro k hk2
    rcases hk with hk | hk
    · have hk3 := hk.symm.trans hk2
      exact ⟨(h.aR k hk3).1, (h.aR k hk3).2, fun e => (h.aF k e).2.2 hk3⟩
    · rw [hk] at hk2
      injection hk2 with hk2
      simp at hk2
      refine ⟨by omega, by omega, fun e => ?_⟩
      have := (hlf k e).2
      omega
  have hg2 := grown_setCellT w1 bx 1 v1
  refine ⟨(h.src.alloc o |>.far hg (fun q hq => by have := (hl q hq).1; omega)).set (by omega) 1 v1, drw_setN (drw_far (drw_alloc h.grown o) hg (fun q hq => (hl q hq).1)) h2 1 v1, hk_set (i := 1) (u := v1) hb, hk_setO ((hg.block br (heap_lt (hk_alloc h.res o)) (fun e => (h.aR br e.symm).2 rfl)).trans (hk_alloc h.res o)) (fun e => h.ne e.symm), ((h.front.alloc o).far hg (fun k hk2 e => (h.aF k hk2).2.2 e)).far hg2 (fun k hk2 e => ?_), ho.far hg2 (fun k hk2 e => ?_), fun k hk2 => ⟨(h.aF k hk2).1, (h.aF k hk2).2.1, fun e => (hx k e).2.2 hk2⟩, fun k hk2 => ⟨(hx k hk2).1, (hx k hk2).2.1⟩, h.ne, h.lb, h.lr, h.lg⟩
  · injection e with e
    exact (h.aF k hk2).1 e.symm
  · injection e with e
    exact (hx k hk2).1 e.symm
theorem TrS.fin {w wr : World} {g : Nat} {a : Option Addr} {n c bx br : Nat} {vF vR : Value} {F R : List Int} {rd : Int} (h : TrS w wr g a n c bx br vF vR F R rd) (u0 u1 u2 : Value) :
    OwI (((wr.setCell ⟨br, 0, none⟩ u0).setCell ⟨br, 1, none⟩ u1).setCell ⟨br, 2, none⟩ u2) w.heap.size vF F ∧ OwI (((wr.setCell ⟨br, 0, none⟩ u0).setCell ⟨br, 1, none⟩ u1).setCell ⟨br, 2, none⟩ u2) w.heap.size vR R ∧ Src (((wr.setCell ⟨br, 0, none⟩ u0).setCell ⟨br, 1, none⟩ u1).setCell ⟨br, 2, none⟩ u2) g a n c ∧ w.grownBy (((wr.setCell ⟨br, 0, none⟩ u0).setCell ⟨br, 1, none⟩ u1).setCell ⟨br, 2, none⟩ u2) (some g) := by
  have h1 := h.lg
  have h3 := h.lr
  have kF : ∀ k, vF.ownBlock = some k → some br ≠ some k := fun k hk e => by injection e with e; exact (h.aF k hk).2.1 e.symm
  have kR : ∀ k, vR.ownBlock = some k → some br ≠ some k := fun k hk e => by injection e with e; exact (h.aR k hk).2 e.symm
  exact ⟨((h.front.far (grown_setCellT _ _ 0 _) kF).far (grown_setCellT _ _ 1 _) kF).far (grown_setCellT _ _ 2 _) kF, ((h.rear.far (grown_setCellT _ _ 0 _) kR).far (grown_setCellT _ _ 1 _) kR).far (grown_setCellT _ _ 2 _) kR, ((h.src.set (by omega) 0 _).set (by omega) 1 _).set (by omega) 2 _, drw_setN (drw_setN (drw_setN h.grown h3 0 _) h3 1 _) h3 2 _⟩
/-- A train that was drawn, as a result. -/
def TrnR (w w' : World) (g : Nat) (a : Option Addr) (n c : Nat) (e : Ending) : Prop := ∃ (vF vR : Value) (F R : List Int) (rd : Int), e = .returned (.agg #[vF, vR, .int .i64 rd]) ∧ OwI w' w.heap.size vF F ∧ OwI w' w.heap.size vR R ∧ (∀ k, vF.ownBlock = some k → vR.ownBlock ≠ some k) ∧ 1 ≤ F.length ∧ F.length ≤ 3 ∧ R.length ≤ 9 ∧ Src w' g a n c ∧ w.grownBy w' (some g)
theorem TrS.start {w w1 : World} {g : Nat} {a : Option Addr} {n c : Nat} {rd : Int} (h : Src w g a n c) (hs : Src w1 g a n c) (hg : (((w.alloc (.cells #[.slice none 0 0, .slice none 0 0, .int .i64 0] 28)).alloc (.cells #[] 2)).alloc (.cells #[] 2)).grownBy w1 (some g)) :
    TrS w (w1.alloc (.cells #[.slice (some ⟨w.heap.size + 1, 0, none⟩) 0 0, .slice (some ⟨w.heap.size + 2, 0, none⟩) 0 0, .int .i64 rd] 28)) g a n c w1.heap.size w.heap.size (.slice (some ⟨w.heap.size + 1, 0, none⟩) 0 0) (.slice (some ⟨w.heap.size + 2, 0, none⟩) 0 0) [] [] rd := by
  have hl := h.lt
  have hz := hg.size
  simp only [World.size_alloc] at hz
  have o1 : OwI ((w.alloc (.cells #[.slice none 0 0, .slice none 0 0, .int .i64 0] 28)).alloc (.cells #[] 2)) w.heap.size (.slice (some ⟨w.heap.size + 1, 0, none⟩) 0 0) [] := OwI.lit0N9 _ (by simp) (by omega)
  have o2 : OwI (((w.alloc (.cells #[.slice none 0 0, .slice none 0 0, .int .i64 0] 28)).alloc (.cells #[] 2)).alloc (.cells #[] 2)) w.heap.size (.slice (some ⟨w.heap.size + 2, 0, none⟩) 0 0) [] := OwI.lit0N9 _ (by simp) (by omega)
  refine ⟨hs.alloc _, drw_alloc ((drw_alloc (drw_alloc (drw_alloc (World.grownBy.refl w (some g)) _) _) _).trans hg) _, heap_alloc_new _ _, hk_alloc (hk_call (hk_alloc (hk_alloc (heap_alloc_new w _) _) _) hg (by omega)) _, ((o1.alloc _).far hg (fun k hk e => ?_)).alloc _, (o2.far hg (fun k hk e => ?_)).alloc _, fun k hk => ?_, fun k hk => ?_, by omega, by omega, Nat.le_refl _, hl⟩
  · have hk' : some (w.heap.size + 1) = some k := hk
    have e' := e.trans hk'.symm
    injection e' with e'
    omega
  · have hk' : some (w.heap.size + 2) = some k := hk
    have e' := e.trans hk'.symm
    injection e' with e'
    omega
  · have hk' : some (w.heap.size + 1) = some k := hk
    injection hk' with hk'
    refine ⟨by omega, by omega, fun e => ?_⟩
    have e' : some (w.heap.size + 2) = some k := e
    injection e' with e'
    omega
  · have hk' : some (w.heap.size + 2) = some k := hk
    injection hk' with hk'
    exact ⟨by omega, by omega⟩
set_option maxRecDepth 100000 in
set_option maxHeartbeats 4000000 in
theorem Good09_any (g : Nat) (a : Option Addr) (n c : Nat) (w : World) (h : Src w g a n c) :
    Calls Try.prog 108 #[.pointer (some ⟨g, 0, none⟩)] w fun e w' => TrnR w w' g a n c e := by
  have S0 := Lib.hid h
  have hgb := h.lt
  go_enter Try.func108, Try.ntmps108
  go_wp2_with fail
  (with_reducible refine (Next_any g a n c _ _ (((S0.out.alloc _).alloc _).alloc _)).mono ?_)
  rintro e w1 ⟨x1, rfl, ⟨lo1, -, up1⟩, hs1, hg1⟩
  replace up1 := up1 (by omega)
  have hw1 : IntKind.i64.wrap (1900 + x1) = 1900 + x1 := IntWalk.i64_in _ (by omega)
  obtain ⟨rd, hrd⟩ : ∃ rd, 1900 + x1 = rd := ⟨_, rfl⟩
  have HT1 := Lib.hid (TrS.start (rd := rd) h hs1 hg1)
  obtain ⟨bx, hbx⟩ : ∃ bx, w1.heap.size = bx := ⟨_, rfl⟩
  rw [hbx] at HT1
  clear h S0 hs1 hg1
  go_wp2_with fail
  generalize hw2 : w1.alloc (.cells #[.slice (some ⟨w.heap.size + 1, 0, none⟩) 0 0, .slice (some ⟨w.heap.size + 2, 0, none⟩) 0 0, .int .i64 rd] 28) = wa at *
  clear hw2 hrd hw1
  (with_reducible refine (Next_any g a n c _ _ HT1.out.src).mono ?_)
  rintro e w2 ⟨x2, rfl, ⟨lo2, -, up2⟩, hs2, hg2⟩
  replace up2 := up2 (by omega)
  have HT2 := Lib.hid (HT1.out.call hs2 hg2)
  clear hs2 hg2 HT1
  have hw2 : IntKind.i64.wrap (24 + x2) = 24 + x2 := IntWalk.i64_in _ (by omega)
  go_wp2_with fail
  (with_reducible refine (Next_any g a n c _ _ HT2.out.src).mono ?_)
  rintro e w3 ⟨x3, rfl, ⟨lo3, -, up3⟩, hs3, hg3⟩
  replace up3 := up3 (by omega)
  have HT3 := Lib.hid (HT2.out.call hs3 hg3)
  clear hs3 hg3 HT2
  have hw3 : IntKind.i64.wrap (1 + x3) = 1 + x3 := IntWalk.i64_in _ (by omega)
  obtain ⟨k0, hk0⟩ : ∃ k : Nat, 1 + x3 = (k : Int) := ⟨(1 + x3).toNat, by omega⟩
  obtain ⟨t0, ht0⟩ : ∃ t0, 24 + x2 = t0 := ⟨_, rfl⟩
  have hk01 : 1 ≤ k0 ∧ k0 ≤ 3 := by omega
  go_wp2
  clear hw2 hw3 hk0 ht0
  go_loopw [4, 5] (fun tv kk wr => ∃ (k : Nat) (tt : Int) (vF vR : Value) (F R : List Int), kk = .int .i64 k ∧ tv = .int .i64 tt ∧ (F.length + k ≤ 3 ∧ 1 ≤ F.length + k ∧ R.length = 0) ∧ Hid (TrS w wr g a n c bx w.heap.size vF vR F R rd)) (fun _ kk _ => (intOf kk).toNat)
  case atStart => exact ⟨k0, t0, _, _, [], [], rfl, rfl, by simp; omega, HT3⟩
  case round =>
    clear HT3
    obtain ⟨k, tt, vF, vR, F, R, rfl, rfl, ⟨hkF, hkF1, hkR⟩, hts⟩ := hrel
    by_cases hpos : 0 < k
    · skip
      have hd : decide ((0 : Int) < (k : Int)) = true := decide_eq_true (by omega)
      have hdI : (0 : Int) < (k : Int) := by omega
      obtain ⟨cx0, cx1, cx2, fx, -, -, -, -⟩ := hts.out.cells
      have hsz := hts.out.grown.size
      clear cx2 fx
      go_wp2_with (at_builtin; refine wpList_appI4 _ rfl _ _ rfl w.heap.size _ _ F [tt] rfl rfl (hts.out.front.alloc _) (RdI.one _ _) (by simp; omega) (by (try simp); omega) ?_; intro v1 w1 ho1 hg1 hk1; obtain ⟨g1, c1, e1⟩ := ho1.shapeN9; subst e1; have cb := hk_cell (i := 0) (hts.out.appF1 (v1 := .slice none 0 0) hg1) rfl; have fb := hk_free (i := 0) (hts.out.appF1 (v1 := .slice none 0 0) hg1))
      have HT1 := Lib.hid (hts.out.appF hg1 ho1 hk1)
      clear cb fb ho1 hg1 hk1 cx0 cx1 hts
      (with_reducible refine (Next_any g a n c _ _ HT1.out.src).mono ?_)
      rintro e w2 ⟨x2, rfl, ⟨lo2, -, up2⟩, hs2, hg2⟩
      replace up2 := up2 (by omega)
      have HT2 := Lib.hid (HT1.out.call hs2 hg2)
      have hw1 : IntKind.i64.wrap (1 + x2) = 1 + x2 := IntWalk.i64_in _ (by omega)
      have hgl := HT2.out.src.lt
      clear hs2 hg2 HT1
      go_wp2_with fail
      (with_reducible refine (Pick_any g a n c _ 3 _ _ (HT2.out.src.alloc _) (heap_alloc_new _ _) rfl (by omega) (by omega) (by simp) (by omega)).mono ?_)
      rintro e w3 ⟨x3, rfl, hs3, hg3⟩
      have HT3 := Lib.hid ((HT2.out.alloc _).call hs3 hg3)
      clear hs3 hg3 HT2 hw1
      go_wp2
      go_roundw
      case rel => exact ⟨k - 1, _, _, vR, F ++ [tt], R, by rw [show ((k - 1 : Nat) : Int) = (k : Int) - 1 by omega], rfl, ⟨by rw [List.length_append, List.length_singleton]; omega, by rw [List.length_append, List.length_singleton]; omega, hkR⟩, HT3⟩
      case measure => simp [intOf] <;> omega
    · have hd : decide ((0 : Int) < (k : Int)) = false := decide_eq_false (by omega)
      obtain rfl : k = 0 := by omega
      have hF3 : 1 ≤ F.length ∧ F.length ≤ 3 := by omega
      have hR0 : R.length = 0 := hkR
      clear hkF hkF1 hkR hpos
      go_wp2_with fail
      (with_reducible refine (Next_any g a n c _ _ hts.out.src).mono ?_)
      rintro e w5 ⟨x5, rfl, ⟨lo5, -, up5⟩, hs5, hg5⟩
      replace up5 := up5 (by omega)
      have HT5 := Lib.hid (hts.out.call hs5 hg5)
      clear hs5 hg5 hts
      have hw4 : IntKind.i64.wrap (11 + x5) = 11 + x5 := IntWalk.i64_in _ (by omega)
      go_wp2_with fail
      (with_reducible refine (Next_any g a n c _ _ HT5.out.src).mono ?_)
      rintro e w6 ⟨x6, rfl, ⟨lo6, -, up6⟩, hs6, hg6⟩
      replace up6 := up6 (by omega)
      have HT6 := Lib.hid (HT5.out.call hs6 hg6)
      clear hs6 hg6 HT5
      have hw5 : IntKind.i64.wrap (2 + x6) = 2 + x6 := IntWalk.i64_in _ (by omega)
      obtain ⟨k1, hk1⟩ : ∃ k : Nat, 2 + x6 = (k : Int) := ⟨(2 + x6).toNat, by omega⟩
      obtain ⟨t1, ht1⟩ : ∃ t1, 11 + x5 = t1 := ⟨_, rfl⟩
      have hk11 : k1 ≤ 8 := by omega
      have HRL : Hid (R.length + k1 ≤ 8) := by show _ ≤ _; omega
      go_wp2
      clear hw4 hw5 hk1 ht1 hR0
      go_loopw [4, 6] (fun tv kk wr => ∃ (k : Nat) (tt : Int) (vF vR : Value) (F R : List Int), kk = .int .i64 k ∧ tv = .int .i64 tt ∧ (1 ≤ F.length ∧ F.length ≤ 3 ∧ R.length + k ≤ 8) ∧ Hid (TrS w wr g a n c bx w.heap.size vF vR F R rd)) (fun _ kk _ => (intOf kk).toNat)
      case atStart => exact ⟨k1, t1, vF, vR, F, R, rfl, rfl, ⟨hF3.1, hF3.2, HRL.out⟩, HT6⟩
      case round =>
        clear HT6 hF3 HRL
        obtain ⟨k, tt, vF, vR, F, R, rfl, rfl, ⟨hF1, hF3, hkR⟩, hts⟩ := hrel
        by_cases hpos : 0 < k
        · skip
          have hd : decide ((0 : Int) < (k : Int)) = true := decide_eq_true (by omega)
          have hdI : (0 : Int) < (k : Int) := by omega
          obtain ⟨cx0, cx1, cx2, fx, -, -, -, -⟩ := hts.out.cells
          have hsz := hts.out.grown.size
          clear cx2 fx
          go_wp2_with (at_builtin; refine wpList_appI4 _ rfl _ _ rfl w.heap.size _ _ R [tt] rfl rfl (hts.out.rear.alloc _) (RdI.one _ _) (by simp; omega) (by (try simp); omega) ?_; intro v1 w1 ho1 hg1 hk1; obtain ⟨g1, c1, e1⟩ := ho1.shapeN9; subst e1; have cb := hk_cell (i := 1) (hts.out.appR1 (v1 := .slice none 0 0) hg1) rfl; have fb := hk_free (i := 1) (hts.out.appR1 (v1 := .slice none 0 0) hg1))
          have HT1 := Lib.hid (hts.out.appR hg1 ho1 hk1)
          clear cb fb ho1 hg1 hk1 cx0 cx1 hts
          have hgl : g < w1.heap.size := by have := HT1.out.src.lt; rw [World.size_setCell] at this; exact this
          (with_reducible refine (Pick_any g a n c w1.heap.size 4 #[.int .i64 1, .int .i64 2, .int .i64 3, .int .i64 4] _ (HT1.out.src.alloc _) (by have h := heap_alloc_new (w1.setCell ⟨bx, 1, none⟩ (Value.slice (some ⟨g1, 0, none⟩) (R.length + 1) c1)) (Obj.cells #[.int .i64 1, .int .i64 2, .int .i64 3, .int .i64 4] 2); rw [World.size_setCell] at h; exact h) rfl (by omega) (by omega) (by simp) (by omega)).mono ?_)
          rintro e w3 ⟨x3, rfl, hs3, hg3⟩
          have HT3 := Lib.hid ((HT1.out.alloc _).call hs3 hg3)
          clear hs3 hg3 HT1
          go_wp2
          go_roundw
          case rel => exact ⟨k - 1, _, vF, _, F, R ++ [tt], by rw [show ((k - 1 : Nat) : Int) = (k : Int) - 1 by omega], rfl, ⟨hF1, hF3, by rw [List.length_append, List.length_singleton]; omega⟩, HT3⟩
          case measure => simp [intOf] <;> omega
        · obtain rfl : k = 0 := by omega
          have hd : decide ((0 : Int) < (0 : Int)) = false := by decide
          obtain ⟨cx0, cx1, cx2, fx, cr0, cr1, cr2, fr⟩ := hts.out.cells
          have f0 := fr 0
          have f1 := fr 1
          have f2 := fr 2
          have HTE := hts
          have haF := hts.out.aF
          have HAF := Lib.hid haF
          obtain ⟨aF, cF, eF, -⟩ := hts.out.front.rd.shape
          subst eF
          obtain ⟨aR, cR, eR, -⟩ := hts.out.rear.rd.shape
          subst eR
          have hbn : bx ≠ w.heap.size := hts.out.ne
          clear fx fr haF
          go_wp2
          refine bodyPost_ret (v := .agg #[.slice aF F.length cF, .slice aR R.length cR, .int .i64 rd]) (by simp [results, Try.results108, go_sem, *]) rfl ⟨_, _, F, R, rd, rfl, ?_, ?_, fun k hk => (HAF.out k hk).2.2, hF1, hF3, by omega, ?_, ?_⟩
          · exact (HTE.out.fin _ _ _).1
          · exact (HTE.out.fin _ _ _).2.1
          · exact (HTE.out.fin _ _ _).2.2.1
          · exact (HTE.out.fin _ _ _).2.2.2
end Go.Proofs.Ytfdnhamkkcmnfaa
