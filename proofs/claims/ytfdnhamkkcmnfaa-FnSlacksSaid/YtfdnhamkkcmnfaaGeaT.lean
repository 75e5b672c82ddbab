/- Contracts of toTrain and eqTrain. -/
import Derived.Test.YtfdnhamkkcmnfaaGeaC
set_option linter.unusedSimpArgs false
set_option linter.unusedVariables false
namespace Go.Proofs.Ytfdnhamkkcmnfaa
open Go.RowKit

theorem OwI.setFar {w : World} {base : Nat} {v : Value} {xs : List Int} (h : OwI w base v xs) {g : Nat} (hg : g < base) (i : Nat) (u : Value) : OwI (w.setCell ⟨g, i, none⟩ u) base v xs :=
  OwI.farLt h (only_setCell (World.grownBy.refl w (some g)) i u) (fun q hq => by injection hq with hq; omega)

set_option maxHeartbeats 800000 in
theorem toTrain_any (vF vR : Value) (F R : List Int) (rd : Int) (w : World) (hF : RdI w vF F) (hR : RdI w vR R) (hn : F.length ≤ 1048576) (hm : R.length ≤ 1048576) :
    Calls Try.prog 18 #[.agg #[vF, vR, .int .i64 rd]] w fun e w' => ∃ uF uR B, e = .returned (.agg #[uF, uR, .int .i64 rd]) ∧ OwI w' w.heap.size uF F ∧ OwI w' B uR R ∧ w.heap.size ≤ B ∧ (∀ q, uF.ownBlock = some q → q < B) ∧ Below w.heap.size w w' := by
  have HF := Lib.hid hF
  have HRr := Lib.hid hR
  obtain ⟨aF, cF, rfl, -⟩ := hF
  obtain ⟨aR, cR, rfl, -⟩ := hR
  go_enter Try.func18, Try.ntmps18
  go_wp2_with fail
  (with_reducible refine (toInt64S_any _ F _ (HF.out.below ((by repeat (first | (with_reducible assumption) | (with_reducible exact Below.refl _ _) | (with_reducible refine Below.drew ?_) | (with_reducible refine blw_al ?_ _) | (with_reducible refine blw_stp (by with_reducible assumption) ?_) | (with_reducible refine blw_set ?_ (by dsimp only; omega) _))))) hn).mono ?_)
  rintro e w1 ⟨rfl, ho1, hb1⟩
  obtain ⟨hc1, hf1⟩ := bcell hb1
  have hz1 := hb1.size
  simp only [World.size_alloc] at hz1 ho1
  have hz1a : w.heap.size < w1.heap.size := by omega
  have hz1b : w.heap.size + 1 < w1.heap.size := by omega
  have hz1c : w.heap.size + 1 + 1 < w1.heap.size := by omega
  have HO1 := Lib.hid ho1
  clear ho1
  go_wp2_with fail
  (with_reducible refine (toInt64S_any _ R _ (HRr.out.below ((by repeat (first | (with_reducible assumption) | (with_reducible exact Below.refl _ _) | (with_reducible refine Below.drew ?_) | (with_reducible refine blw_al ?_ _) | (with_reducible refine blw_stp (by with_reducible assumption) ?_) | (with_reducible refine blw_set ?_ (by dsimp only; omega) _))))) hm).mono ?_)
  rintro e w2 ⟨rfl, ho2, hb2⟩
  obtain ⟨hc2, hf2⟩ := bcell hb2
  have hz2 := hb2.size
  simp only [World.size_setCell] at hz2 ho2
  have hz2a : w.heap.size < w2.heap.size := by omega
  have hz2b : w.heap.size + 1 < w2.heap.size := by omega
  have hz2c : w.heap.size + 1 + 1 < w2.heap.size := by omega
  have HO2 := Lib.hid ho2
  clear ho2
  go_wp2
  refine bodyPost_ret (v := .agg #[.slice (some ⟨w.heap.size + 1 + 1 + 1, 0, none⟩) F.length F.length, .slice (some ⟨w1.heap.size, 0, none⟩) R.length R.length, .int .i64 rd]) (by simp [results, Try.results18, go_sem, hc1, hc2, hz1a, hz1b, hz1c, hz2a, hz2b, hz2c]) rfl ?_
  have hO1 := ((((((HO1.out.setFar (g := w.heap.size + 1 + 1) (by omega) 0 _).below hb2).setFar (g := w.heap.size + 1 + 1) (by omega) 1 (.slice (some ⟨w1.heap.size, 0, none⟩) R.length R.length)).setFar (g := w.heap.size + 1 + 1) (by omega) 2 (.int .i64 rd)).setFar (g := w.heap.size + 1) (by omega) 0 (.slice (some ⟨w.heap.size + 1 + 1 + 1, 0, none⟩) F.length F.length)).setFar (g := w.heap.size + 1) (by omega) 1 (.slice (some ⟨w1.heap.size, 0, none⟩) R.length R.length)).setFar (g := w.heap.size + 1) (by omega) 2 (.int .i64 rd)
  have hO2 := ((((HO2.out.setFar (g := w.heap.size + 1 + 1) (by omega) 1 (.slice (some ⟨w1.heap.size, 0, none⟩) R.length R.length)).setFar (g := w.heap.size + 1 + 1) (by omega) 2 (.int .i64 rd)).setFar (g := w.heap.size + 1) (by omega) 0 (.slice (some ⟨w.heap.size + 1 + 1 + 1, 0, none⟩) F.length F.length)).setFar (g := w.heap.size + 1) (by omega) 1 (.slice (some ⟨w1.heap.size, 0, none⟩) R.length R.length)).setFar (g := w.heap.size + 1) (by omega) 2 (.int .i64 rd)
  refine ⟨_, _, w1.heap.size, rfl, hO1.mono (by omega), hO2, by omega, ?_, (by repeat (first | (with_reducible assumption) | (with_reducible exact Below.refl _ _) | (with_reducible refine Below.drew ?_) | (with_reducible refine blw_al ?_ _) | (with_reducible refine blw_stp (by with_reducible assumption) ?_) | (with_reducible refine blw_set ?_ (by dsimp only; omega) _)))⟩
  exact fun q hq => (World.ownsRow.lt HO1.out q hq).2

set_option maxHeartbeats 800000 in
theorem eqTrain_same (vF vR uF uR : Value) (F R : List Int) (rd : Int) (w : World) (hF : RdI w vF F) (hR : RdI w vR R) (gF : RdI w uF F) (gR : RdI w uR R) (hn : F.length ≤ 1048576) (hm : R.length ≤ 1048576) :
    Calls Try.prog 20 #[.agg #[vF, vR, .int .i64 rd], .agg #[uF, uR, .int .i64 rd]] w fun e w' => e = .returned (.bool true) ∧ Below w.heap.size w w' := by
  have HF := Lib.hid hF
  have HRr := Lib.hid hR
  have GF := Lib.hid gF
  have GR := Lib.hid gR
  obtain ⟨aF, cF, rfl, -⟩ := hF
  obtain ⟨aR, cR, rfl, -⟩ := hR
  obtain ⟨bF, dF, rfl, -⟩ := gF
  obtain ⟨bR, dR, rfl, -⟩ := gR
  go_enter Try.func20, Try.ntmps20
  go_wp2_with fail
  (with_reducible refine (eqInt64S_same _ _ F _ (HF.out.below ((by repeat (first | (with_reducible assumption) | (with_reducible exact Below.refl _ _) | (with_reducible refine Below.drew ?_) | (with_reducible refine blw_al ?_ _) | (with_reducible refine blw_stp (by with_reducible assumption) ?_) | (with_reducible refine blw_set ?_ (by dsimp only; omega) _))))) (GF.out.below ((by repeat (first | (with_reducible assumption) | (with_reducible exact Below.refl _ _) | (with_reducible refine Below.drew ?_) | (with_reducible refine blw_al ?_ _) | (with_reducible refine blw_stp (by with_reducible assumption) ?_) | (with_reducible refine blw_set ?_ (by dsimp only; omega) _))))) hn).mono ?_)
  rintro e w1 ⟨rfl, hb1⟩
  obtain ⟨hc1, hf1⟩ := bcell hb1
  have hz1 := hb1.size
  simp only [World.size_alloc] at hz1
  have hz1a : w.heap.size < w1.heap.size := by omega
  have hz1b : w.heap.size + 1 < w1.heap.size := by omega
  go_wp2_with fail
  (with_reducible refine (eqInt64S_same _ _ R _ (HRr.out.below ((by repeat (first | (with_reducible assumption) | (with_reducible exact Below.refl _ _) | (with_reducible refine Below.drew ?_) | (with_reducible refine blw_al ?_ _) | (with_reducible refine blw_stp (by with_reducible assumption) ?_) | (with_reducible refine blw_set ?_ (by dsimp only; omega) _))))) (GR.out.below ((by repeat (first | (with_reducible assumption) | (with_reducible exact Below.refl _ _) | (with_reducible refine Below.drew ?_) | (with_reducible refine blw_al ?_ _) | (with_reducible refine blw_stp (by with_reducible assumption) ?_) | (with_reducible refine blw_set ?_ (by dsimp only; omega) _))))) hm).mono ?_)
  rintro e w2 ⟨rfl, hb2⟩
  obtain ⟨hc2, hf2⟩ := bcell hb2
  have hz2 := hb2.size
  have hz2a : w.heap.size < w2.heap.size := by omega
  have hz2b : w.heap.size + 1 < w2.heap.size := by omega
  go_wp2
  go_ret
  exact ⟨rfl, (by repeat (first | (with_reducible assumption) | (with_reducible exact Below.refl _ _) | (with_reducible refine Below.drew ?_) | (with_reducible refine blw_al ?_ _) | (with_reducible refine blw_stp (by with_reducible assumption) ?_) | (with_reducible refine blw_set ?_ (by dsimp only; omega) _)))⟩

end Go.Proofs.Ytfdnhamkkcmnfaa
