/- Contracts of l01Own and of l15Order. -/
import Derived.Test.YthmimkllnjkhaaaSrtA
import Derived.Test.YthmimkllnjkhaaaBalP
import Derived.Deep.RegionHeld3
import Derived.Deep.RegionLaw
set_option linter.unusedSimpArgs false
set_option linter.unusedVariables false
namespace Go.Proofs.Ythmimkllnjkhaaa
open Go.RowKit

set_option maxHeartbeats 800000 in
theorem l01Own_any (u : Value) (xs : List Int) (w : World) (hr : RdI w u xs) (hn : xs.length ≤ 1048576) :
    Calls Try.prog 41 #[u] w fun e w' => ∃ v, e = .returned v ∧ OwI w' w.heap.size v xs ∧ Below w.heap.size w w' := by
  have HR := Lib.hid (hr.below ((Below.refl _ _).alloc (Nat.le_refl _) (.cells #[] 2)))
  have HO := Lib.hid (OwI.lit0 w)
  obtain ⟨a, c, rfl, -⟩ := hr
  go_enter Try.func41, Try.ntmps41
  go_wp2_with (at_builtin; refine wpList_appI _ rfl _ _ rfl w.heap.size _ _ [] xs rfl rfl HO.out HR.out (by simp; omega) (by simp) ?_; intro v' w1 hown hgrow)
  have HO1 := Lib.hid hown
  have HG := Lib.hid hgrow
  clear hown hgrow
  go_ret
  exact ⟨_, rfl, by simpa using HO1.out, OwI.grown HO.out ((Below.refl _ _).alloc (Nat.le_refl _) _) (by simp) HG.out⟩

set_option maxHeartbeats 800000 in
theorem l15Order_any (u : Value) (xs : List Int) (w : World) (hr : RdI w u xs) (hn : xs.length ≤ 4096) :
    Calls Try.prog 32 #[u] w fun e w' => ∃ v, e = .returned v ∧ OwI w' w.heap.size v (ordB xs) ∧ Below w.heap.size w w' := by
  have HR := Lib.hid hr
  obtain ⟨a, c, rfl, hcell⟩ := hr
  have HC := Lib.hid hcell
  clear hcell
  go_enter Try.func32, Try.ntmps32
  go_wp2
  go_loopw [3, 4] (fun ov ii wr => ∃ i : Nat, i ≤ xs.length ∧ ii = .int .i64 i ∧ Below w.heap.size w wr ∧ ∃ g cp, ov = .slice (some ⟨g, 0, none⟩) i cp ∧ w.heap.size ≤ g ∧ Hid (OwI wr w.heap.size (.slice (some ⟨g, 0, none⟩) i cp) (ordK xs i))) (fun _ ii _ => xs.length - (intOf ii).toNat)
  case atStart => exact ⟨0, Nat.zero_le _, rfl, (Below.refl _ _).alloc (Nat.le_refl _) _, w.heap.size, 0, rfl, Nat.le_refl _, OwI.lit0 w⟩
  case round =>
    obtain ⟨i, hi, rfl, hbw, g, cp, rfl, hg, ho⟩ := hrel
    by_cases hlt : i < xs.length
    · obtain ⟨b, o, rfl, c0⟩ := HC.out i hlt
      have hblt : b < w.heap.size := World.block_lt_of_cell? w _ c0
      have hcap := OwI.cap ho.out
      rw [ordK_length] at hcap
      obtain ⟨hcap, -, -⟩ := hcap
      obtain ⟨wo, rfl⟩ : ∃ wo : World, wo = wr := ⟨_, rfl⟩
      have HE : Hid (∀ p, p ≤ i → (∀ j y, j < p → (ordK xs i)[j]? = some y → leK (keyB xs) y i = true) → (∀ y, (ordK xs i)[p]? = some y → leK (keyB xs) y i = false) → insAt (leK (keyB xs)) (ordK xs i) (i : Int) = p) := fun p hp h1 h2 => insAt_of _ (by rw [ordK_length]; exact hp) h1 h2
      go_wp2
      go_loopw [5] (fun pp wr => ∃ p : Nat, p ≤ i ∧ pp = .int .i64 p ∧ Below wo.heap.size wo wr ∧ Hid (∀ j y, j < p → (ordK xs i)[j]? = some y → leK (keyB xs) y i = true)) (fun pp _ => i - (intOf pp).toNat)
      case atStart => exact ⟨0, Nat.zero_le _, rfl, Below.refl _ _, fun j y h => by omega⟩
      case round =>
        obtain ⟨p, hp, rfl, hb2, hle⟩ := hrel
        have ho2 := Lib.hid (ho.out.below hb2)
        have hbw2 : Below w.heap.size w wr := hbw.trans (hb2.mono hbw.size)
        clear ho
        have g0 : wr.cell? ⟨b, o + i, none⟩ = some (.int .i64 (xs.getD i 0)) := (hbw2.cell (p := ⟨b, o + i, none⟩) hblt).trans c0
        have hii : (i : Int) < (xs.length : Int) := by omega
        have hi0 : (0 : Int) ≤ (i : Int) := by omega
        by_cases hpi : p < i
        · have c1 := OwI.cell ho2.out (k := p) (by rw [ordK_length]; exact hpi)
          obtain ⟨m0, m1⟩ := ordK_at (xs := xs) hpi
          have HG : Hid ((ordK xs i)[p]? = some ((ordK xs i).getD p 0)) := by
            show _ = _
            have : p < (ordK xs i).length := by rw [ordK_length]; exact hpi
            simp [List.getD_eq_getElem?_getD, this]
          generalize (ordK xs i).getD p 0 = m at *
          obtain ⟨m, rfl⟩ : ∃ q : Nat, m = (q : Int) := ⟨m.toNat, by omega⟩
          obtain ⟨b', o', e, c2⟩ := HC.out m (by omega)
          simp only [Option.some.injEq, Addr.mk.injEq] at e
          obtain ⟨rfl, rfl, -⟩ := e
          have g2 : wr.cell? ⟨b, o + m, none⟩ = some (.int .i64 (xs.getD m 0)) := (hbw2.cell (p := ⟨b, o + m, none⟩) hblt).trans c2
          have hmx : (m : Int) < (xs.length : Int) := by omega
          have hpi' : (p : Int) < (i : Int) := by omega
          have hdp : decide (p < i) = true := by simpa using hpi
          have hp0 : (0 : Int) ≤ (p : Int) := by omega
          by_cases hle2 : xs.getD m 0 ≤ xs.getD i 0
          · have HS : Hid (∀ j y, j < p + 1 → (ordK xs i)[j]? = some y → leK (keyB xs) y i = true) := by
              show ∀ j y, _
              intro j y hj hy
              by_cases hjp : j = p
              · subst hjp
                rw [HG.out] at hy
                injection hy with hy
                subst hy
                rw [show leK (keyB xs) (m : Int) (i : Int) = decide (xs.getD m 0 ≤ xs.getD i 0) from rfl]
                simpa using hle2
              · exact hle.out j y (by omega) hy
            have hd : decide (xs.getD m 0 ≤ xs.getD i 0) = true := by simpa using hle2
            generalize xs.getD m 0 = zm at *
            generalize xs.getD i 0 = zi at *
            clear c0 c2 HG
            go_wp2
            go_quiet (fail)
            go_wp2
            go_roundw
            case rel => exact ⟨p + 1, by omega, by go_num, (by repeat (first | (with_reducible refine sblw_drewN ?_ _) | (with_reducible assumption) | (with_reducible exact Below.refl _ _) | (with_reducible refine Below.drew ?_) | (with_reducible refine blw_al ?_ _) | (with_reducible refine blw_stp (by with_reducible assumption) ?_) | (with_reducible refine blw_set ?_ (by dsimp only; omega) _))), HS⟩
            case measure => simp [intOf]; omega
          · have HI := Lib.hid (HE.out p hp hle.out (fun y hy => by
              rw [HG.out] at hy
              injection hy with hy
              subst hy
              rw [show leK (keyB xs) (m : Int) (i : Int) = decide (xs.getD m 0 ≤ xs.getD i 0) from rfl]
              simpa using hle2))
            have hd : decide (xs.getD m 0 ≤ xs.getD i 0) = false := by simpa using hle2
            generalize xs.getD m 0 = zm at *
            generalize xs.getD i 0 = zi at *
            clear c0 c2 HG
            go_wp2
            go_quiet (fail)
            clear g2 g0 c1
            have hb3' : Below w.heap.size w (wr.drewN nq) := (by repeat (first | (with_reducible refine sblw_drewN ?_ _) | (with_reducible assumption) | (with_reducible exact Below.refl _ _) | (with_reducible refine Below.drew ?_) | (with_reducible refine blw_al ?_ _) | (with_reducible refine blw_stp (by with_reducible assumption) ?_) | (with_reducible refine blw_set ?_ (by dsimp only; omega) _)))
            have ho3 := Lib.hid (ho2.out.drewN nq)
            obtain ⟨wq, hwq⟩ : ∃ wq, wq = wr.drewN nq := ⟨_, rfl⟩
            rw [← hwq] at hb3' ho3
            have hb4 : Below wo.heap.size wo wq := by rw [hwq]; exact (by repeat (first | (with_reducible refine sblw_drewN ?_ _) | (with_reducible assumption) | (with_reducible exact Below.refl _ _) | (with_reducible refine Below.drew ?_) | (with_reducible refine blw_al ?_ _) | (with_reducible refine blw_stp (by with_reducible assumption) ?_) | (with_reducible refine blw_set ?_ (by dsimp only; omega) _)))
            rw [← hwq]
            clear hwq ho2 hb2 hbw2
            have hpc : (p : Int) ≤ (cp : Int) := by omega
            go_wp2
            have HU1 := Lib.hid (RdI.head ho3.out.rd (p := p) (by rw [ordK_length]; omega))
            have HU2 := Lib.hid (RdI.tail ho3.out.rd (by rw [ordK_length]) hcap (p := p) (by rw [ordK_length]; omega))
            have HU3 := Lib.hid (fun h => RdI.tail' ho3.out.rd (by rw [ordK_length]) hcap (p := p) (by rw [ordK_length]; exact h))
            have hbB := hb3'.size
            go_region_held3 (fun w' => True) (trivial) ((first
              | (go_at_call 41
                 refine (l01Own_any _ ((ordK xs i).take p) _ ?_ ?_).mono ?_
                 · first
                     | exact HU1.out.drew
                     | exact HU1.out.drew.alloc _
                 · rw [List.length_take]; omega
                 rintro e w1 ⟨v1, rfl, hown1', hb1'⟩
                 have hown1 := Lib.hid (OwI.mono (base' := wq.heap.size) hown1' (by simp))
                 have hb1 := Lib.hid hb1'
                 clear hown1' hb1')
              | (refine step_appI _ (by rfl) _ _ (by rfl) wq.heap.size v1 _ ((ordK xs i).take p) [(i : Int)] (by rfl) (by rfl) ?_ ?_ ?_ ?_ ?_
                 · first
                     | exact hown1.out.alloc _
                     | exact hown1.out
                 · first
                     | exact RdI.one w1 (i : Int)
                     | exact (RdI.one wq.drew (i : Int)).below hb1.out
                 · simp; omega
                 · have := hb1.out.size; simp at this ⊢; omega
                 intro v2 w2 hown2' hgrow2'
                 have hb2 : Hid (Below wq.heap.size wq w2) := by
                   first
                     | exact OwI.grown (hown1.out.alloc _) ((blw_ofDrew hb1.out).alloc hb1.out.size _) (by have := hb1.out.size; simp at this ⊢; omega) hgrow2'
                     | exact OwI.grown hown1.out (blw_ofDrew (blw_ofAlloc (Nat.le_refl _) (hb1.out.mono (by simp)))) (by have := hb1.out.size; simp at this ⊢; omega) hgrow2'
                 have hown2 := Lib.hid hown2'
                 clear hown2' hgrow2')
              | (refine step_appI _ (by rfl) _ _ (by rfl) wq.heap.size v2 _ ((ordK xs i).take p ++ [(i : Int)]) ((ordK xs i).drop p) (by rfl) (by rfl) ?_ ?_ ?_ ?_ ?_
                 · exact hown2.out
                 · first
                     | exact HU2.out.below hb2.out
                     | exact (HU3.out (by omega)).below hb2.out
                     | (rw [HN.out]; exact RdI.nil _)
                 · simp [ordK_length]; omega
                 · exact hb2.out.size
                 intro v3 w3 hown3' hgrow3'
                 have hb5 : Hid (Below wq.heap.size wq w3) := OwI.grown hown2.out hb2.out hb2.out.size hgrow3'
                 have hown3 := Lib.hid hown3'
                 clear hown3' hgrow3')
              | fail))
            all_goals
              have HF : Hid (OwI w3 w.heap.size v3 (ordK xs (i + 1))) := by
                show OwI _ _ _ _
                rw [ordK_succ, ins_eq, HI.out]
                have := hown3.out
                rw [List.append_assoc] at this
                exact this.mono hbB
              have hbF : Below w.heap.size w w3 := hb3'.trans (hb5.out.mono hbB)
              obtain ⟨gN, cN, e3, hgN, hlN⟩ := World.ownsRow.form HF.out (by rw [ordK_length]; omega)
              rw [ordK_length] at e3
              subst e3
              clear hown1 hown2 hown3 hb1 hb2 hb5 HU1 HU2 HU3
              go_wp2
              go_roundw
              case rel => exact ⟨i + 1, by omega, by go_num, hbF, gN, cN, rfl, hgN, HF⟩
              case measure => simp [intOf]; omega
        · obtain rfl : p = i := by omega
          have HI := Lib.hid (HE.out p (Nat.le_refl _) hle.out (fun y hy => by rw [List.getElem?_eq_none (by rw [ordK_length]; omega)] at hy; cases hy))
          have hdp : decide (p < p) = false := by simp
          have hdp2 : decide ((p : Int) < (p : Int)) = false := by simp
          have HN : Hid ((ordK xs p).drop p = []) := by
            show _ = _
            exact List.drop_eq_nil_of_le (by rw [ordK_length]; omega)
          go_wp2
          go_quiet (fail)
          clear g0
          by_cases hcp : cp = p
          · subst hcp
            have hb3' : Below w.heap.size w (wr.drewN nq) := (by repeat (first | (with_reducible refine sblw_drewN ?_ _) | (with_reducible assumption) | (with_reducible exact Below.refl _ _) | (with_reducible refine Below.drew ?_) | (with_reducible refine blw_al ?_ _) | (with_reducible refine blw_stp (by with_reducible assumption) ?_) | (with_reducible refine blw_set ?_ (by dsimp only; omega) _)))
            have ho3 := Lib.hid (ho2.out.drewN nq)
            obtain ⟨wq, hwq⟩ : ∃ wq, wq = wr.drewN nq := ⟨_, rfl⟩
            rw [← hwq] at hb3' ho3
            have hb4 : Below wo.heap.size wo wq := by rw [hwq]; exact (by repeat (first | (with_reducible refine sblw_drewN ?_ _) | (with_reducible assumption) | (with_reducible exact Below.refl _ _) | (with_reducible refine Below.drew ?_) | (with_reducible refine blw_al ?_ _) | (with_reducible refine blw_stp (by with_reducible assumption) ?_) | (with_reducible refine blw_set ?_ (by dsimp only; omega) _)))
            rw [← hwq]
            clear hwq ho2 hb2 hbw2
            have hpc : (cp : Int) ≤ (cp : Int) := by omega
            go_wp2
            have HU1 := Lib.hid (RdI.head ho3.out.rd (p := cp) (by rw [ordK_length]; omega))
            have HU2 := Lib.hid (RdI.tail ho3.out.rd (by rw [ordK_length]) hcap (p := cp) (by rw [ordK_length]; omega))
            have HU3 := Lib.hid (fun h => RdI.tail' ho3.out.rd (by rw [ordK_length]) hcap (p := cp) (by rw [ordK_length]; exact h))
            have hbB := hb3'.size
            go_region_held3 (fun w' => True) (trivial) ((first
              | (go_at_call 41
                 refine (l01Own_any _ ((ordK xs cp).take cp) _ ?_ ?_).mono ?_
                 · first
                     | exact HU1.out.drew
                     | exact HU1.out.drew.alloc _
                 · rw [List.length_take]; omega
                 rintro e w1 ⟨v1, rfl, hown1', hb1'⟩
                 have hown1 := Lib.hid (OwI.mono (base' := wq.heap.size) hown1' (by simp))
                 have hb1 := Lib.hid hb1'
                 clear hown1' hb1')
              | (refine step_appI _ (by rfl) _ _ (by rfl) wq.heap.size v1 _ ((ordK xs cp).take cp) [(cp : Int)] (by rfl) (by rfl) ?_ ?_ ?_ ?_ ?_
                 · first
                     | exact hown1.out.alloc _
                     | exact hown1.out
                 · first
                     | exact RdI.one w1 (cp : Int)
                     | exact (RdI.one wq.drew (cp : Int)).below hb1.out
                 · simp; omega
                 · have := hb1.out.size; simp at this ⊢; omega
                 intro v2 w2 hown2' hgrow2'
                 have hb2 : Hid (Below wq.heap.size wq w2) := by
                   first
                     | exact OwI.grown (hown1.out.alloc _) ((blw_ofDrew hb1.out).alloc hb1.out.size _) (by have := hb1.out.size; simp at this ⊢; omega) hgrow2'
                     | exact OwI.grown hown1.out (blw_ofDrew (blw_ofAlloc (Nat.le_refl _) (hb1.out.mono (by simp)))) (by have := hb1.out.size; simp at this ⊢; omega) hgrow2'
                 have hown2 := Lib.hid hown2'
                 clear hown2' hgrow2')
              | (refine step_appI _ (by rfl) _ _ (by rfl) wq.heap.size v2 _ ((ordK xs cp).take cp ++ [(cp : Int)]) ((ordK xs cp).drop cp) (by rfl) (by rfl) ?_ ?_ ?_ ?_ ?_
                 · exact hown2.out
                 · first
                     | exact HU2.out.below hb2.out
                     | exact (HU3.out (by omega)).below hb2.out
                     | (rw [HN.out]; exact RdI.nil _)
                 · simp [ordK_length]; omega
                 · exact hb2.out.size
                 intro v3 w3 hown3' hgrow3'
                 have hb5 : Hid (Below wq.heap.size wq w3) := OwI.grown hown2.out hb2.out hb2.out.size hgrow3'
                 have hown3 := Lib.hid hown3'
                 clear hown3' hgrow3')
              | fail))
            all_goals
              have HF : Hid (OwI w3 w.heap.size v3 (ordK xs (cp + 1))) := by
                show OwI _ _ _ _
                rw [ordK_succ, ins_eq, HI.out]
                have := hown3.out
                rw [List.append_assoc] at this
                exact this.mono hbB
              have hbF : Below w.heap.size w w3 := hb3'.trans (hb5.out.mono hbB)
              obtain ⟨gN, cN, e3, hgN, hlN⟩ := World.ownsRow.form HF.out (by rw [ordK_length]; omega)
              rw [ordK_length] at e3
              subst e3
              clear hown1 hown2 hown3 hb1 hb2 hb5 HU1 HU2 HU3
              go_wp2
              go_roundw
              case rel => exact ⟨cp + 1, by omega, by go_num, hbF, gN, cN, rfl, hgN, HF⟩
              case measure => simp [intOf]; omega
          · skip
            have hb3' : Below w.heap.size w (wr.drewN nq) := (by repeat (first | (with_reducible refine sblw_drewN ?_ _) | (with_reducible assumption) | (with_reducible exact Below.refl _ _) | (with_reducible refine Below.drew ?_) | (with_reducible refine blw_al ?_ _) | (with_reducible refine blw_stp (by with_reducible assumption) ?_) | (with_reducible refine blw_set ?_ (by dsimp only; omega) _)))
            have ho3 := Lib.hid (ho2.out.drewN nq)
            obtain ⟨wq, hwq⟩ : ∃ wq, wq = wr.drewN nq := ⟨_, rfl⟩
            rw [← hwq] at hb3' ho3
            have hb4 : Below wo.heap.size wo wq := by rw [hwq]; exact (by repeat (first | (with_reducible refine sblw_drewN ?_ _) | (with_reducible assumption) | (with_reducible exact Below.refl _ _) | (with_reducible refine Below.drew ?_) | (with_reducible refine blw_al ?_ _) | (with_reducible refine blw_stp (by with_reducible assumption) ?_) | (with_reducible refine blw_set ?_ (by dsimp only; omega) _)))
            rw [← hwq]
            clear hwq ho2 hb2 hbw2
            have hpc : (p : Int) ≤ (cp : Int) := by omega
            go_wp2
            have HU1 := Lib.hid (RdI.head ho3.out.rd (p := p) (by rw [ordK_length]; omega))
            have HU2 := Lib.hid (RdI.tail ho3.out.rd (by rw [ordK_length]) hcap (p := p) (by rw [ordK_length]; omega))
            have HU3 := Lib.hid (fun h => RdI.tail' ho3.out.rd (by rw [ordK_length]) hcap (p := p) (by rw [ordK_length]; exact h))
            have hbB := hb3'.size
            go_region_held3 (fun w' => True) (trivial) ((first
              | (go_at_call 41
                 refine (l01Own_any _ ((ordK xs p).take p) _ ?_ ?_).mono ?_
                 · first
                     | exact HU1.out.drew
                     | exact HU1.out.drew.alloc _
                 · rw [List.length_take]; omega
                 rintro e w1 ⟨v1, rfl, hown1', hb1'⟩
                 have hown1 := Lib.hid (OwI.mono (base' := wq.heap.size) hown1' (by simp))
                 have hb1 := Lib.hid hb1'
                 clear hown1' hb1')
              | (refine step_appI _ (by rfl) _ _ (by rfl) wq.heap.size v1 _ ((ordK xs p).take p) [(p : Int)] (by rfl) (by rfl) ?_ ?_ ?_ ?_ ?_
                 · first
                     | exact hown1.out.alloc _
                     | exact hown1.out
                 · first
                     | exact RdI.one w1 (p : Int)
                     | exact (RdI.one wq.drew (p : Int)).below hb1.out
                 · simp; omega
                 · have := hb1.out.size; simp at this ⊢; omega
                 intro v2 w2 hown2' hgrow2'
                 have hb2 : Hid (Below wq.heap.size wq w2) := by
                   first
                     | exact OwI.grown (hown1.out.alloc _) ((blw_ofDrew hb1.out).alloc hb1.out.size _) (by have := hb1.out.size; simp at this ⊢; omega) hgrow2'
                     | exact OwI.grown hown1.out (blw_ofDrew (blw_ofAlloc (Nat.le_refl _) (hb1.out.mono (by simp)))) (by have := hb1.out.size; simp at this ⊢; omega) hgrow2'
                 have hown2 := Lib.hid hown2'
                 clear hown2' hgrow2')
              | (refine step_appI _ (by rfl) _ _ (by rfl) wq.heap.size v2 _ ((ordK xs p).take p ++ [(p : Int)]) ((ordK xs p).drop p) (by rfl) (by rfl) ?_ ?_ ?_ ?_ ?_
                 · exact hown2.out
                 · first
                     | exact HU2.out.below hb2.out
                     | exact (HU3.out (by omega)).below hb2.out
                     | (rw [HN.out]; exact RdI.nil _)
                 · simp [ordK_length]; omega
                 · exact hb2.out.size
                 intro v3 w3 hown3' hgrow3'
                 have hb5 : Hid (Below wq.heap.size wq w3) := OwI.grown hown2.out hb2.out hb2.out.size hgrow3'
                 have hown3 := Lib.hid hown3'
                 clear hown3' hgrow3')
              | fail))
            all_goals
              have HF : Hid (OwI w3 w.heap.size v3 (ordK xs (p + 1))) := by
                show OwI _ _ _ _
                rw [ordK_succ, ins_eq, HI.out]
                have := hown3.out
                rw [List.append_assoc] at this
                exact this.mono hbB
              have hbF : Below w.heap.size w w3 := hb3'.trans (hb5.out.mono hbB)
              obtain ⟨gN, cN, e3, hgN, hlN⟩ := World.ownsRow.form HF.out (by rw [ordK_length]; omega)
              rw [ordK_length] at e3
              subst e3
              clear hown1 hown2 hown3 hb1 hb2 hb5 HU1 HU2 HU3
              go_wp2
              go_roundw
              case rel => exact ⟨p + 1, by omega, by go_num, hbF, gN, cN, rfl, hgN, HF⟩
              case measure => simp [intOf]; omega
    · obtain rfl : i = xs.length := by omega
      go_wp2
      go_ret
      exact ⟨_, rfl, ho.out, hbw⟩

end Go.Proofs.Ythmimkllnjkhaaa
