/- Contracts of the table of cosines, chords, ChordOf and MostBalls, of the program and of the reference. -/
import Derived.Test.YthmimkllnjkhaaaTrgA
import Derived.Test.YthmimkllnjkhaaaBalA
import Derived.Test.YthmimkllnjkhaaaIntsK
set_option linter.unusedSimpArgs false
set_option linter.unusedVariables false
namespace Go.Proofs.Ythmimkllnjkhaaa
open Go.RowKit

theorem OwI.lit2 (w : World) (x y : Int) : OwI (w.alloc (.cells #[.int .i64 x, .int .i64 y] 2)) w.heap.size (.slice (some ⟨w.heap.size, 0, none⟩) 2 2) [x, y] := World.ownsRow_lit _ _ _ (Nat.le_refl _) (by unfold maxLen; omega) rfl
set_option maxRecDepth 100000 in
set_option maxHeartbeats 800000 in
theorem l03Table_any (w : World) :
    Calls Try.prog 58 #[] w fun e w' => ∃ v, e = .returned v ∧ OwI w' w.heap.size v (tabL 180 ++ [0]) ∧ Below w.heap.size w w' := by
  go_enter Try.func58, Try.ntmps58
  go_wp2
  go_loopw [1, 2] (fun ov kk wr => ∃ (j g cp : Nat), j + 2 ≤ 180 ∧ kk = .int .i64 ((j : Int) + 2) ∧ ov = .slice (some ⟨g, 0, none⟩) (j + 2) cp ∧ w.heap.size ≤ g ∧ Below w.heap.size w wr ∧ Hid (OwI wr w.heap.size (.slice (some ⟨g, 0, none⟩) (j + 2) cp) (tabL (j + 2)))) (fun _ kk _ => 180 - (intOf kk).toNat)
  case atStart => exact ⟨0, w.heap.size, 2, by omega, rfl, rfl, Nat.le_refl _, (Below.refl _ _).alloc (Nat.le_refl _) _, OwI.lit2 w _ _⟩
  case round =>
    obtain ⟨j, g, cp, hj, rfl, rfl, hg, hbw, ho⟩ := hrel
    by_cases hlt : j + 2 < 180
    · have c0 := OwI.cell ho.out (k := j + 1) (by rw [tabL_length]; omega)
      have c1 := OwI.cell ho.out (k := j) (by rw [tabL_length]; omega)
      rw [tabL_at (by omega)] at c0 c1
      have HS : Hid (tabL (j + 2 + 1) = tabL (j + 2) ++ [nea (1999923846 * (cosP (j + 1)).1) - (cosP j).1]) := by show _ = _; rw [tabL_succ]; rfl
      obtain ⟨b1, b2, -, -⟩ := cosP_bd (k := j) (by omega)
      obtain ⟨b3, b4, -, -⟩ := cosP_bd (k := j + 1) (by omega)
      generalize hp : (cosP j).1 = p at *
      generalize hq : (cosP (j + 1)).1 = q at *
      have HP0 := Lib.hid hp
      have HP1 := Lib.hid hq
      clear hp hq
      obtain ⟨n1, n2⟩ := nea_bd2 (a := 1999923846 * q) (by omega) (by omega)
      have k1 : IntKind.i64.wrap ((j : Int) + 2 - 1) = (j : Int) + 1 := by rw [IntWalk.i64_in _ (by omega)]; omega
      have k2 : IntKind.i64.wrap ((j : Int) + 2 - 2) = (j : Int) := by rw [IntWalk.i64_in _ (by omega)]; omega
      have k2b : IntKind.i64.wrap (j : Int) = (j : Int) := IntWalk.i64_in _ (by omega)
      have k3 : ((j : Int) + 1).toNat = j + 1 := by omega
      have k4 : (0 : Int) ≤ (j : Int) := by omega
      have k5 : (j : Int) + 1 < ((j + 2 : Nat) : Int) := by omega
      have k6 : (j : Int) < ((j + 2 : Nat) : Int) := by omega
      have k7 : (0 : Int) ≤ (j : Int) + 1 := by omega
      have k8 : (j : Int) + 1 < (j : Int) + 2 := by omega
      have k9 : (j : Int) < (j : Int) + 2 := by omega
      have w1 : IntKind.i64.wrap (1999923846 * q) = 1999923846 * q := IntWalk.i64_in _ (by omega)
      have w2 : IntKind.i64.wrap (nea (1999923846 * q) - p) = nea (1999923846 * q) - p := IntWalk.i64_in _ (by omega)
      have hsz := hbw.size
      have KC : Hid (∀ W, RdI W (.slice (some ⟨g, 0, none⟩) (j + 2) cp) (tabL (j + 2)) → W.cell? ⟨g, j + 1, none⟩ = some (.int .i64 q) ∧ W.cell? ⟨g, j, none⟩ = some (.int .i64 p)) := by
        show ∀ W, _
        intro W hW
        obtain ⟨b, o, e, h1⟩ := hW.at (j + 1) (by rw [tabL_length]; omega)
        obtain ⟨b', o', e', h2⟩ := hW.at j (by rw [tabL_length]; omega)
        simp only [Option.some.injEq, Addr.mk.injEq] at e e'
        obtain ⟨rfl, rfl, -⟩ := e
        obtain ⟨rfl, rfl, -⟩ := e'
        rw [tabL_at (by omega), Nat.zero_add] at h1 h2
        rw [HP1.out] at h1
        rw [HP0.out] at h2
        exact ⟨h1, h2⟩
      go_wp2
      go_region_held3 (fun W => W.cell? ⟨g, j + 1, none⟩ = some (.int .i64 q) ∧ W.cell? ⟨g, j, none⟩ = some (.int .i64 p)) (first | exact ⟨c0, c1⟩ | go_keep | exact KC.out _ hk1)
        ((first
          | (go_at_call 51
             (with_reducible refine (l01Nearest_any _ _ (by omega) (by omega)).mono ?_)
             rintro e _ ⟨rfl, rfl⟩)
          | (refine step_appK _ (by rfl) _ _ (by rfl) w.heap.size g (j + 2) cp _ _ _ (tabL (j + 2)) [nea (1999923846 * q) - p] (by rfl) (by rfl) ?_ ?_ ?_ ?_ ?_
             · repeat (first | (with_reducible exact ho.out) | (with_reducible refine OwI.drew ?_) | (with_reducible refine OwI.alloc ?_ _))
             · repeat (first | (exact RdI.one _ _) | (with_reducible refine RdI.drew ?_))
             · rw [tabL_length]; simp only [List.length_cons, List.length_nil]; omega
             · (try simp); (try omega)
             intro v' w1 ho1 hg1 hk1
             have HO1 := Lib.hid ho1
             have HG1 := Lib.hid hg1
             clear ho1 hg1)
          | fail))
      have HW1 : Hid (Below w.heap.size w w1) := by
        show Below _ _ _
        refine Below.grown (by repeat (first | (with_reducible refine sblw_drewN ?_ _) | (with_reducible assumption) | (with_reducible exact Below.refl _ _) | (with_reducible refine Below.drew ?_) | (with_reducible refine blw_al ?_ _) | (with_reducible refine blw_stp (by with_reducible assumption) ?_) | (with_reducible refine blw_set ?_ (by dsimp only; omega) _))) HG1.out ?_ (fun k hk => (World.ownsRow.lt ho.out k hk).1)
        (try simp); (try omega)
      have HO2 : Hid (OwI w1 w.heap.size v' (tabL (j + 2 + 1))) := by show OwI _ _ _ _; rw [HS.out]; exact HO1.out
      obtain ⟨gN, cN, e3, hgN, hlN⟩ := World.ownsRow.form HO2.out (by rw [tabL_length]; omega)
      rw [tabL_length] at e3
      subst e3
      clear HO1 HG1 HS KC ho c0 c1
      go_wp2
      go_roundw
      case rel => exact ⟨j + 1, gN, cN, by omega, by go_num, rfl, hgN, HW1.out, HO2⟩
      case measure => simp [intOf]; omega
    · obtain rfl : j = 178 := by omega
      have hsz := hbw.size
      have ho2 := Lib.hid ho.out
      clear ho
      go_wp2_with (at_builtin; refine wpList_appI _ rfl _ _ rfl w.heap.size _ _ (tabL 180) [0] rfl rfl (ho2.out.alloc _) (RdI.one _ _) (by rw [tabL_length]; decide) (by simp; omega) ?_; intro v' w1 hown hgrow)
      have HO1 := Lib.hid hown
      have HG := Lib.hid hgrow
      clear hown hgrow
      go_wp2
      go_ret
      exact ⟨_, rfl, HO1.out, OwI.grown (ho2.out.alloc _) (hbw.alloc hsz _) (by simp; omega) HG.out⟩

end Go.Proofs.Ythmimkllnjkhaaa
