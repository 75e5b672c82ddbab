/- Contract of the reference's SortNumbers, for a list of values that is not too long. -/
import Derived.Test.YthmimkllnjkhaaaSrtB
set_option linter.unusedSimpArgs false
set_option linter.unusedVariables false
namespace Go.Proofs.Ythmimkllnjkhaaa
open Go.RowKit

theorem OwI.lit0N (w : World) {base N : Nat} (hN : w.heap.size = N) (hb : base ≤ N) : OwI (w.alloc (.cells #[] 2)) base (.slice (some ⟨N, 0, none⟩) 0 0) [] := by
  subst hN
  exact World.ownsRow_lit _ _ _ hb (by unfold maxLen; omega) rfl
theorem RdI.oneN (w : World) (x : Int) {N : Nat} (hN : w.heap.size = N) : RdI (w.alloc (.cells #[.int .i64 x] 2)) (.slice (some ⟨N, 0, none⟩) 1 1) [x] := by
  subst hN
  exact RdI.one w x
theorem RdI.farG {w w' : World} {g o n c : Nat} {xs : List Int} {row : Option Nat} (h : RdI w (.slice (some ⟨g, o, none⟩) n c) xs) (hg : w.grownBy w' row) (hne : row ≠ some g) : RdI w' (.slice (some ⟨g, o, none⟩) n c) xs :=
  RdI.far h hg (fun k hk e => by
    have hk' : some g = some k := hk
    rw [e, hk'] at hne
    exact hne rfl)
def smallV (xs : List Int) : Bool := allR xs (-1000000000000) 1000000000000
set_option maxHeartbeats 800000 in
theorem l01Is_any (n : Int) (w : World) : Calls Try.prog 49 #[.int .i64 n] w fun e w' => e = .returned (.bool (inR n (-1000000000000) 1000000000000)) ∧ w = w' := by
  go_enter Try.func49, Try.ntmps49
  go_wp2_with (go_at_call 29; (with_reducible refine (l01In_any _ _ _ _).mono ?_); rintro e w' ⟨rfl, rfl⟩)
  go_ret
  exact ⟨rfl, rfl⟩
set_option maxHeartbeats 800000 in
theorem l01Values_ok (u : Value) (xs : List Int) (w : World) (hr : RdI w u xs) (hn : xs.length ≤ 60) (hs : smallV xs = true) :
    Calls Try.prog 44 #[u] w fun e w' => e = .returned (.int .i64 0) ∧ w = w' := by
  have HS := Lib.hid hs
  clear hs
  obtain ⟨a, c, rfl, hcell⟩ := hr
  have HC := Lib.hid hcell
  clear hcell
  go_enter Try.func44, Try.ntmps44
  go_wp2
  go_loop [3] (fun i => ∃ k : Nat, k ≤ xs.length ∧ i = .int .i64 k) (fun i => xs.length - (intOf i).toNat)
  case atStart => exact ⟨0, Nat.zero_le _, rfl⟩
  case round =>
    obtain ⟨k, hk, rfl⟩ := hrel
    by_cases hlt : k < xs.length
    · obtain ⟨b, o, rfl, hc⟩ := HC.out k hlt
      have hp : inR (xs.getD k 0) (-1000000000000) 1000000000000 = true := by
        have := HS.out
        unfold smallV allR at this
        rw [List.all_eq_true] at this
        have h2 := this xs[k] (List.getElem_mem hlt)
        simpa [List.getD_eq_getElem?_getD, hlt] using h2
      generalize xs.getD k 0 = x at *
      go_wp2_with (go_at_call 49; (with_reducible refine (l01Is_any _ _).mono ?_); rintro e w' ⟨rfl, rfl⟩)
      go_round
      case rel => exact ⟨k + 1, by omega, by go_num⟩
      case measure => simp [intOf]; omega
    · obtain rfl : k = xs.length := by omega
      go_wp2
      go_ret
      exact ⟨rfl, rfl⟩
set_option maxHeartbeats 800000 in
theorem sSort_any (u : Value) (xs : List Int) (w : World) (hr : RdI w u xs) (hn : xs.length ≤ 60) (hs : smallV xs = true) :
    Calls Try.prog 36 #[u] w fun e w' => ∃ v, e = .returned (.tuple #[v, .int .i64 0]) ∧ OwI w' w.heap.size v (srt leI xs) ∧ Below w.heap.size w w' := by
  have HR := Lib.hid hr
  have HSM := Lib.hid hs
  clear hs
  obtain ⟨a, c, rfl, hcell⟩ := hr
  have HC := Lib.hid hcell
  clear hcell
  go_enter Try.func36, Try.ntmps36
  go_wp2_with fail
  (with_reducible refine (l01Values_ok _ xs _ HR.out hn HSM.out).mono ?_)
  rintro e _ ⟨rfl, rfl⟩
  go_wp2
  go_loopw [5, 6] (fun ov ii wr => ∃ (i g cp : Nat), i ≤ xs.length ∧ ii = .int .i64 i ∧ ov = .slice (some ⟨g, 0, none⟩) i cp ∧ w.heap.size ≤ g ∧ Below w.heap.size w wr ∧ Hid (OwI wr w.heap.size (.slice (some ⟨g, 0, none⟩) i cp) (srt leI (xs.take i)))) (fun _ ii _ => xs.length - (intOf ii).toNat)
  case atStart => exact ⟨0, w.heap.size, 0, Nat.zero_le _, rfl, rfl, Nat.le_refl _, (Below.refl _ _).alloc (Nat.le_refl _) _, OwI.lit0 w⟩
  case round =>
    obtain ⟨i, g, cp, hi, rfl, rfl, hg, hbw, ho⟩ := hrel
    by_cases hlt : i < xs.length
    · obtain ⟨b, o, rfl, c0⟩ := HC.out i hlt
      have hblt : b < w.heap.size := World.block_lt_of_cell? w _ c0
      have HTK : Hid (xs.take (i + 1) = xs.take i ++ [xs.getD i 0]) := by
        show _ = _
        rw [List.take_succ_eq_append_getElem hlt]
        simp [List.getD_eq_getElem?_getD, hlt]
      obtain ⟨L, hL⟩ : ∃ L, L = srt leI (xs.take i) := ⟨_, rfl⟩
      have HLS := Lib.hid hL.symm
      have hLl : L.length = i := by rw [hL, srt_length, List.length_take]; omega
      rw [← hL] at ho
      clear hL
      have hcap := (OwI.cap ho.out).1
      rw [hLl] at hcap
      have HLL := Lib.hid hLl
      generalize xs.getD i 0 = x at *
      have HE : Hid (∀ p, p ≤ i → (∀ j y, j < p → L[j]? = some y → leI y x = true) → (∀ y, L[p]? = some y → leI y x = false) → insAt leI L x = p) := fun p hp h1 h2 => insAt_of _ (by rw [HLL.out]; exact hp) h1 h2
      obtain ⟨wo, rfl⟩ : ∃ wo : World, wo = wr := ⟨_, rfl⟩
      go_wp2
      go_loopw [7] (fun pp wr => ∃ p : Nat, p ≤ i ∧ pp = .int .i64 p ∧ Below wo.heap.size wo wr ∧ Hid (∀ j y, j < p → L[j]? = some y → leI y x = true)) (fun pp _ => i - (intOf pp).toNat)
      case atStart => exact ⟨0, Nat.zero_le _, rfl, Below.refl _ _, fun j y h => by omega⟩
      case round =>
        obtain ⟨p, hp, rfl, hb2, hle⟩ := hrel
        have ho2 := Lib.hid (ho.out.below hb2)
        have hbw2 : Below w.heap.size w wr := hbw.trans (hb2.mono hbw.size)
        clear ho
        have g0 : wr.cell? ⟨b, o + i, none⟩ = some (.int .i64 x) := (hbw2.cell (p := ⟨b, o + i, none⟩) hblt).trans c0
        have hii : (i : Int) < (xs.length : Int) := by omega
        have hi0 : (0 : Int) ≤ (i : Int) := by omega
        by_cases hpi : p < i
        · have c1 := OwI.cell ho2.out (k := p) (by omega)
          have HG : Hid (L[p]? = some (L.getD p 0)) := by
            show _ = _
            have : p < L.length := by omega
            simp [List.getD_eq_getElem?_getD, this]
          generalize L.getD p 0 = y at *
          have hpi2 : (p : Int) < (i : Int) := by omega
          have hdp : decide (p < i) = true := by simpa using hpi
          have hp0 : (0 : Int) ≤ (p : Int) := by omega
          by_cases hle2 : y ≤ x
          · have HS : Hid (∀ j z, j < p + 1 → L[j]? = some z → leI z x = true) := by
              show ∀ j z, _
              intro j z hj hz
              by_cases hjp : j = p
              · subst hjp
                rw [HG.out] at hz
                injection hz with hz
                subst hz
                simpa [leI, leK] using hle2
              · exact hle.out j z (by omega) hz
            have hd : decide (y ≤ x) = true := by simpa using hle2
            clear c0 HG
            go_wp2
            go_quiet (fail)
            go_wp2
            go_roundw
            case rel => exact ⟨p + 1, by omega, by go_num, (by repeat (first | (with_reducible refine sblw_drewN ?_ _) | (with_reducible assumption) | (with_reducible exact Below.refl _ _) | (with_reducible refine Below.drew ?_) | (with_reducible refine blw_al ?_ _) | (with_reducible refine blw_stp (by with_reducible assumption) ?_) | (with_reducible refine blw_set ?_ (by dsimp only; omega) _))), HS⟩
            case measure => simp [intOf]; omega
          · have HI := Lib.hid (HE.out p hp hle.out (fun z hz => by
              rw [HG.out] at hz
              injection hz with hz
              subst hz
              simp only [leI, leK, decide_eq_false_iff_not]
              exact hle2))
            have hd : decide (y ≤ x) = false := by simpa using hle2
            clear c0 HG
            go_wp2
            go_quiet (fail)
            clear c1 hd
            have hb3' : Below w.heap.size w (wr.drewN nq) := (by repeat (first | (with_reducible refine sblw_drewN ?_ _) | (with_reducible assumption) | (with_reducible exact Below.refl _ _) | (with_reducible refine Below.drew ?_) | (with_reducible refine blw_al ?_ _) | (with_reducible refine blw_stp (by with_reducible assumption) ?_) | (with_reducible refine blw_set ?_ (by dsimp only; omega) _)))
            have ho3 := Lib.hid (ho2.out.drewN nq)
            have gq : (wr.drewN nq).cell? ⟨b, o + i, none⟩ = some (.int .i64 x) := g0
            obtain ⟨wq, hwq⟩ : ∃ wq, wq = wr.drewN nq := ⟨_, rfl⟩
            rw [← hwq] at hb3' ho3 gq
            rw [← hwq]
            clear hwq ho2 hb2 hbw2 g0
            have hpc : (p : Int) ≤ (cp : Int) := by omega
            have hpi' : (p : Int) ≤ (i : Int) := by omega
            have hp0' : (0 : Int) ≤ (p : Int) := by omega
            have HU1 := Lib.hid (RdI.head ho3.out.rd (p := p) (by omega))
            have HU2 := Lib.hid (RdI.tail ho3.out.rd HLL.out.symm hcap (p := p) (by omega))
            have HU3 := Lib.hid (fun h => RdI.tail' ho3.out.rd HLL.out.symm hcap (p := p) h)
            clear ho3
            have hbz := hb3'.size
            have KP : Hid (∀ W, Below wq.heap.size wq W → W.cell? ⟨b, o + i, none⟩ = some (.int .i64 x)) := by
              show ∀ W, _
              intro W hb
              exact (hb.cell (p := ⟨b, o + i, none⟩) (show b < wq.heap.size by omega)).trans gq
            go_wp2
            go_region_held3 (fun W => W.cell? ⟨b, o + i, none⟩ = some (.int .i64 x))
              (exact KP.out _ (by repeat (first | (with_reducible exact HB1.out) | (with_reducible exact HB2.out) | (with_reducible exact HB3.out) | (with_reducible assumption) | (with_reducible exact Below.refl _ _) | (with_reducible refine Below.drew ?_) | (with_reducible refine blw_al ?_ _) | (with_reducible refine blw_stp (by with_reducible assumption) ?_) | (with_reducible refine blw_set ?_ (by dsimp only; omega) _))))
              ((first
                | (refine step_appI _ (by rfl) _ _ (by rfl) wq.heap.size _ _ [] (L.take p) (by rfl) (by rfl) ?_ ?_ ?_ ?_ ?_
                   · repeat (first | (with_reducible refine OwI.drew ?_) | (exact OwI.lit0N _ (by simp) (by simp)) | (with_reducible refine OwI.alloc ?_ _))
                   · exact HU1.out.below (by repeat (first | (with_reducible refine sblw_drewN ?_ _) | (with_reducible assumption) | (with_reducible exact Below.refl _ _) | (with_reducible refine Below.drew ?_) | (with_reducible refine blw_al ?_ _) | (with_reducible refine blw_stp (by with_reducible assumption) ?_) | (with_reducible refine blw_set ?_ (by dsimp only; omega) _)))
                   · (try simp); (try omega)
                   · (try simp); (try omega)
                   intro v2 w2 ho2x hg2
                   have HB1 : Hid (Below wq.heap.size wq w2) := by
                     refine Below.grown (by repeat (first | (with_reducible refine sblw_drewN ?_ _) | (with_reducible assumption) | (with_reducible exact Below.refl _ _) | (with_reducible refine Below.drew ?_) | (with_reducible refine blw_al ?_ _) | (with_reducible refine blw_stp (by with_reducible assumption) ?_) | (with_reducible refine blw_set ?_ (by dsimp only; omega) _))) hg2 ?_ ?_
                     · (try simp); (try omega)
                     · intro k hk
                       first
                         | (have hk' : (Value.slice (some ⟨wq.heap.size, 0, none⟩) 0 0).ownBlock = some k := hk
                            simp [Value.ownBlock] at hk'
                            omega)
                         | (have hk' : (Value.slice (some ⟨wq.heap.size + 1, 0, none⟩) 0 0).ownBlock = some k := hk
                            simp [Value.ownBlock] at hk'
                            omega)
                   have HO1 := Lib.hid ho2x
                   have HG1 := Lib.hid hg2
                   clear ho2x hg2)
                | (refine step_appI _ (by rfl) _ _ (by rfl) wq.heap.size v2 _ ([] ++ L.take p) [x] (by rfl) (by rfl) ?_ ?_ ?_ ?_ ?_
                   · repeat (first | (with_reducible exact HO1.out) | (with_reducible refine OwI.drew ?_) | (with_reducible refine OwI.alloc ?_ _))
                   · repeat (first | (exact RdI.oneN _ x (by simp)) | (with_reducible refine RdI.drew ?_) | (with_reducible refine RdI.alloc ?_ _) | (refine RdI.farG ?_ HG1.out ?_; rotate_left; (first | exact (fun e => by have e' : (Value.slice (some ⟨wq.heap.size, 0, none⟩) 0 0).ownBlock = some (wq.heap.size + 1) := e; simp [Value.ownBlock] at e') | exact (fun e => by have e' : (Value.slice (some ⟨wq.heap.size + 1, 0, none⟩) 0 0).ownBlock = some wq.heap.size := e; simp [Value.ownBlock] at e'))))
                   · (try simp); (try omega)
                   · (have := HB1.out.size; (try simp); omega)
                   intro v3 w3 ho3x hg3
                   have HB2 : Hid (Below wq.heap.size wq w3) := by
                     refine Below.grown (by repeat (first | (with_reducible exact HB1.out) | (with_reducible exact HB2.out) | (with_reducible exact HB3.out) | (with_reducible assumption) | (with_reducible exact Below.refl _ _) | (with_reducible refine Below.drew ?_) | (with_reducible refine blw_al ?_ _) | (with_reducible refine blw_stp (by with_reducible assumption) ?_) | (with_reducible refine blw_set ?_ (by dsimp only; omega) _))) hg3 ?_ (fun k hk => (World.ownsRow.lt HO1.out k hk).1)
                     have := HB1.out.size
                     (try simp); omega
                   have HO2 := Lib.hid ho3x
                   clear ho3x hg3)
                | (refine step_appI _ (by rfl) _ _ (by rfl) wq.heap.size v3 _ ([] ++ L.take p ++ [x]) (L.drop p) (by rfl) (by rfl) ?_ ?_ ?_ ?_ ?_
                   · exact HO2.out
                   · first
                       | exact HU2.out.below HB2.out
                       | exact (HU3.out (by omega)).below HB2.out
                       | (rw [HN.out]; exact RdI.nil _)
                   · (try simp); (try omega)
                   · exact HB2.out.size
                   intro v4 w4 ho4x hg4
                   have HB3 : Hid (Below wq.heap.size wq w4) := OwI.grown HO2.out HB2.out HB2.out.size hg4
                   have HO3 := Lib.hid ho4x
                   clear ho4x hg4)
                | fail))
            all_goals
              have HF : Hid (OwI w4 w.heap.size v4 (srt leI (xs.take (i + 1)))) := by
                show OwI _ _ _ _
                rw [HTK.out, srt_snoc, HLS.out, ins_eq, HI.out]
                have := HO3.out.mono (base' := w.heap.size) hbz
                simpa using this
              have hbF : Below w.heap.size w w4 := hb3'.trans (HB3.out.mono hbz)
              have hll : (srt leI (xs.take (i + 1))).length = i + 1 := by rw [srt_length, List.length_take]; omega
              obtain ⟨gN, cN, e3, hgN, hlN⟩ := World.ownsRow.form HF.out (by rw [hll]; omega)
              rw [hll] at e3
              subst e3
              clear HO1 HO2 HO3 HB1 HB2 HB3 HG1 HU1 HU2 HU3 KP hll
              go_wp2
              go_roundw
              case rel => exact ⟨i + 1, gN, cN, by omega, by go_num, rfl, hgN, hbF, HF⟩
              case measure => simp [intOf] <;> omega
        · obtain rfl : p = i := by omega
          have HI := Lib.hid (HE.out p hp hle.out (fun y hy => by rw [List.getElem?_eq_none (by omega)] at hy; cases hy))
          have hdp : decide (p < p) = false := by simp
          have hdp2 : decide ((p : Int) < (p : Int)) = false := by simp
          have HN : Hid (L.drop p = []) := by
            show _ = _
            exact List.drop_eq_nil_of_le (by omega)
          go_wp2
          go_quiet (fail)
          clear hdp hdp2
          by_cases hcp : cp = p
          · subst hcp
            have hb3' : Below w.heap.size w (wr.drewN nq) := (by repeat (first | (with_reducible refine sblw_drewN ?_ _) | (with_reducible assumption) | (with_reducible exact Below.refl _ _) | (with_reducible refine Below.drew ?_) | (with_reducible refine blw_al ?_ _) | (with_reducible refine blw_stp (by with_reducible assumption) ?_) | (with_reducible refine blw_set ?_ (by dsimp only; omega) _)))
            have ho3 := Lib.hid (ho2.out.drewN nq)
            have gq : (wr.drewN nq).cell? ⟨b, o + cp, none⟩ = some (.int .i64 x) := g0
            obtain ⟨wq, hwq⟩ : ∃ wq, wq = wr.drewN nq := ⟨_, rfl⟩
            rw [← hwq] at hb3' ho3 gq
            rw [← hwq]
            clear hwq ho2 hb2 hbw2 g0
            have hpc : (cp : Int) ≤ (cp : Int) := by omega
            have hpi' : (cp : Int) ≤ (cp : Int) := by omega
            have hp0' : (0 : Int) ≤ (cp : Int) := by omega
            have HU1 := Lib.hid (RdI.head ho3.out.rd (p := cp) (by omega))
            have HU2 := Lib.hid (RdI.tail ho3.out.rd HLL.out.symm hcap (p := cp) (by omega))
            have HU3 := Lib.hid (fun h => RdI.tail' ho3.out.rd HLL.out.symm hcap (p := cp) h)
            clear ho3
            have hbz := hb3'.size
            have KP : Hid (∀ W, Below wq.heap.size wq W → W.cell? ⟨b, o + cp, none⟩ = some (.int .i64 x)) := by
              show ∀ W, _
              intro W hb
              exact (hb.cell (p := ⟨b, o + cp, none⟩) (show b < wq.heap.size by omega)).trans gq
            go_wp2
            go_region_held3 (fun W => W.cell? ⟨b, o + cp, none⟩ = some (.int .i64 x))
              (exact KP.out _ (by repeat (first | (with_reducible exact HB1.out) | (with_reducible exact HB2.out) | (with_reducible exact HB3.out) | (with_reducible assumption) | (with_reducible exact Below.refl _ _) | (with_reducible refine Below.drew ?_) | (with_reducible refine blw_al ?_ _) | (with_reducible refine blw_stp (by with_reducible assumption) ?_) | (with_reducible refine blw_set ?_ (by dsimp only; omega) _))))
              ((first
                | (refine step_appI _ (by rfl) _ _ (by rfl) wq.heap.size _ _ [] (L.take cp) (by rfl) (by rfl) ?_ ?_ ?_ ?_ ?_
                   · repeat (first | (with_reducible refine OwI.drew ?_) | (exact OwI.lit0N _ (by simp) (by simp)) | (with_reducible refine OwI.alloc ?_ _))
                   · exact HU1.out.below (by repeat (first | (with_reducible refine sblw_drewN ?_ _) | (with_reducible assumption) | (with_reducible exact Below.refl _ _) | (with_reducible refine Below.drew ?_) | (with_reducible refine blw_al ?_ _) | (with_reducible refine blw_stp (by with_reducible assumption) ?_) | (with_reducible refine blw_set ?_ (by dsimp only; omega) _)))
                   · (try simp); (try omega)
                   · (try simp); (try omega)
                   intro v2 w2 ho2x hg2
                   have HB1 : Hid (Below wq.heap.size wq w2) := by
                     refine Below.grown (by repeat (first | (with_reducible refine sblw_drewN ?_ _) | (with_reducible assumption) | (with_reducible exact Below.refl _ _) | (with_reducible refine Below.drew ?_) | (with_reducible refine blw_al ?_ _) | (with_reducible refine blw_stp (by with_reducible assumption) ?_) | (with_reducible refine blw_set ?_ (by dsimp only; omega) _))) hg2 ?_ ?_
                     · (try simp); (try omega)
                     · intro k hk
                       first
                         | (have hk' : (Value.slice (some ⟨wq.heap.size, 0, none⟩) 0 0).ownBlock = some k := hk
                            simp [Value.ownBlock] at hk'
                            omega)
                         | (have hk' : (Value.slice (some ⟨wq.heap.size + 1, 0, none⟩) 0 0).ownBlock = some k := hk
                            simp [Value.ownBlock] at hk'
                            omega)
                   have HO1 := Lib.hid ho2x
                   have HG1 := Lib.hid hg2
                   clear ho2x hg2)
                | (refine step_appI _ (by rfl) _ _ (by rfl) wq.heap.size v2 _ ([] ++ L.take cp) [x] (by rfl) (by rfl) ?_ ?_ ?_ ?_ ?_
                   · repeat (first | (with_reducible exact HO1.out) | (with_reducible refine OwI.drew ?_) | (with_reducible refine OwI.alloc ?_ _))
                   · repeat (first | (exact RdI.oneN _ x (by simp)) | (with_reducible refine RdI.drew ?_) | (with_reducible refine RdI.alloc ?_ _) | (refine RdI.farG ?_ HG1.out ?_; rotate_left; (first | exact (fun e => by have e' : (Value.slice (some ⟨wq.heap.size, 0, none⟩) 0 0).ownBlock = some (wq.heap.size + 1) := e; simp [Value.ownBlock] at e') | exact (fun e => by have e' : (Value.slice (some ⟨wq.heap.size + 1, 0, none⟩) 0 0).ownBlock = some wq.heap.size := e; simp [Value.ownBlock] at e'))))
                   · (try simp); (try omega)
                   · (have := HB1.out.size; (try simp); omega)
                   intro v3 w3 ho3x hg3
                   have HB2 : Hid (Below wq.heap.size wq w3) := by
                     refine Below.grown (by repeat (first | (with_reducible exact HB1.out) | (with_reducible exact HB2.out) | (with_reducible exact HB3.out) | (with_reducible assumption) | (with_reducible exact Below.refl _ _) | (with_reducible refine Below.drew ?_) | (with_reducible refine blw_al ?_ _) | (with_reducible refine blw_stp (by with_reducible assumption) ?_) | (with_reducible refine blw_set ?_ (by dsimp only; omega) _))) hg3 ?_ (fun k hk => (World.ownsRow.lt HO1.out k hk).1)
                     have := HB1.out.size
                     (try simp); omega
                   have HO2 := Lib.hid ho3x
                   clear ho3x hg3)
                | (refine step_appI _ (by rfl) _ _ (by rfl) wq.heap.size v3 _ ([] ++ L.take cp ++ [x]) (L.drop cp) (by rfl) (by rfl) ?_ ?_ ?_ ?_ ?_
                   · exact HO2.out
                   · first
                       | exact HU2.out.below HB2.out
                       | exact (HU3.out (by omega)).below HB2.out
                       | (rw [HN.out]; exact RdI.nil _)
                   · (try simp); (try omega)
                   · exact HB2.out.size
                   intro v4 w4 ho4x hg4
                   have HB3 : Hid (Below wq.heap.size wq w4) := OwI.grown HO2.out HB2.out HB2.out.size hg4
                   have HO3 := Lib.hid ho4x
                   clear ho4x hg4)
                | fail))
            all_goals
              have HF : Hid (OwI w4 w.heap.size v4 (srt leI (xs.take (cp + 1)))) := by
                show OwI _ _ _ _
                rw [HTK.out, srt_snoc, HLS.out, ins_eq, HI.out]
                have := HO3.out.mono (base' := w.heap.size) hbz
                simpa using this
              have hbF : Below w.heap.size w w4 := hb3'.trans (HB3.out.mono hbz)
              have hll : (srt leI (xs.take (cp + 1))).length = cp + 1 := by rw [srt_length, List.length_take]; omega
              obtain ⟨gN, cN, e3, hgN, hlN⟩ := World.ownsRow.form HF.out (by rw [hll]; omega)
              rw [hll] at e3
              subst e3
              clear HO1 HO2 HO3 HB1 HB2 HB3 HG1 HU1 HU2 HU3 KP hll
              go_wp2
              go_roundw
              case rel => exact ⟨cp + 1, gN, cN, by omega, by go_num, rfl, hgN, hbF, HF⟩
              case measure => simp [intOf] <;> omega
          · skip
            have hb3' : Below w.heap.size w (wr.drewN nq) := (by repeat (first | (with_reducible refine sblw_drewN ?_ _) | (with_reducible assumption) | (with_reducible exact Below.refl _ _) | (with_reducible refine Below.drew ?_) | (with_reducible refine blw_al ?_ _) | (with_reducible refine blw_stp (by with_reducible assumption) ?_) | (with_reducible refine blw_set ?_ (by dsimp only; omega) _)))
            have ho3 := Lib.hid (ho2.out.drewN nq)
            have gq : (wr.drewN nq).cell? ⟨b, o + p, none⟩ = some (.int .i64 x) := g0
            obtain ⟨wq, hwq⟩ : ∃ wq, wq = wr.drewN nq := ⟨_, rfl⟩
            rw [← hwq] at hb3' ho3 gq
            rw [← hwq]
            clear hwq ho2 hb2 hbw2 g0
            have hpc : (p : Int) ≤ (cp : Int) := by omega
            have hpi' : (p : Int) ≤ (p : Int) := by omega
            have hp0' : (0 : Int) ≤ (p : Int) := by omega
            have HU1 := Lib.hid (RdI.head ho3.out.rd (p := p) (by omega))
            have HU2 := Lib.hid (RdI.tail ho3.out.rd HLL.out.symm hcap (p := p) (by omega))
            have HU3 := Lib.hid (fun h => RdI.tail' ho3.out.rd HLL.out.symm hcap (p := p) h)
            clear ho3
            have hbz := hb3'.size
            have KP : Hid (∀ W, Below wq.heap.size wq W → W.cell? ⟨b, o + p, none⟩ = some (.int .i64 x)) := by
              show ∀ W, _
              intro W hb
              exact (hb.cell (p := ⟨b, o + p, none⟩) (show b < wq.heap.size by omega)).trans gq
            go_wp2
            go_region_held3 (fun W => W.cell? ⟨b, o + p, none⟩ = some (.int .i64 x))
              (exact KP.out _ (by repeat (first | (with_reducible exact HB1.out) | (with_reducible exact HB2.out) | (with_reducible exact HB3.out) | (with_reducible assumption) | (with_reducible exact Below.refl _ _) | (with_reducible refine Below.drew ?_) | (with_reducible refine blw_al ?_ _) | (with_reducible refine blw_stp (by with_reducible assumption) ?_) | (with_reducible refine blw_set ?_ (by dsimp only; omega) _))))
              ((first
                | (refine step_appI _ (by rfl) _ _ (by rfl) wq.heap.size _ _ [] (L.take p) (by rfl) (by rfl) ?_ ?_ ?_ ?_ ?_
                   · repeat (first | (with_reducible refine OwI.drew ?_) | (exact OwI.lit0N _ (by simp) (by simp)) | (with_reducible refine OwI.alloc ?_ _))
                   · exact HU1.out.below (by repeat (first | (with_reducible refine sblw_drewN ?_ _) | (with_reducible assumption) | (with_reducible exact Below.refl _ _) | (with_reducible refine Below.drew ?_) | (with_reducible refine blw_al ?_ _) | (with_reducible refine blw_stp (by with_reducible assumption) ?_) | (with_reducible refine blw_set ?_ (by dsimp only; omega) _)))
                   · (try simp); (try omega)
                   · (try simp); (try omega)
                   intro v2 w2 ho2x hg2
                   have HB1 : Hid (Below wq.heap.size wq w2) := by
                     refine Below.grown (by repeat (first | (with_reducible refine sblw_drewN ?_ _) | (with_reducible assumption) | (with_reducible exact Below.refl _ _) | (with_reducible refine Below.drew ?_) | (with_reducible refine blw_al ?_ _) | (with_reducible refine blw_stp (by with_reducible assumption) ?_) | (with_reducible refine blw_set ?_ (by dsimp only; omega) _))) hg2 ?_ ?_
                     · (try simp); (try omega)
                     · intro k hk
                       first
                         | (have hk' : (Value.slice (some ⟨wq.heap.size, 0, none⟩) 0 0).ownBlock = some k := hk
                            simp [Value.ownBlock] at hk'
                            omega)
                         | (have hk' : (Value.slice (some ⟨wq.heap.size + 1, 0, none⟩) 0 0).ownBlock = some k := hk
                            simp [Value.ownBlock] at hk'
                            omega)
                   have HO1 := Lib.hid ho2x
                   have HG1 := Lib.hid hg2
                   clear ho2x hg2)
                | (refine step_appI _ (by rfl) _ _ (by rfl) wq.heap.size v2 _ ([] ++ L.take p) [x] (by rfl) (by rfl) ?_ ?_ ?_ ?_ ?_
                   · repeat (first | (with_reducible exact HO1.out) | (with_reducible refine OwI.drew ?_) | (with_reducible refine OwI.alloc ?_ _))
                   · repeat (first | (exact RdI.oneN _ x (by simp)) | (with_reducible refine RdI.drew ?_) | (with_reducible refine RdI.alloc ?_ _) | (refine RdI.farG ?_ HG1.out ?_; rotate_left; (first | exact (fun e => by have e' : (Value.slice (some ⟨wq.heap.size, 0, none⟩) 0 0).ownBlock = some (wq.heap.size + 1) := e; simp [Value.ownBlock] at e') | exact (fun e => by have e' : (Value.slice (some ⟨wq.heap.size + 1, 0, none⟩) 0 0).ownBlock = some wq.heap.size := e; simp [Value.ownBlock] at e'))))
                   · (try simp); (try omega)
                   · (have := HB1.out.size; (try simp); omega)
                   intro v3 w3 ho3x hg3
                   have HB2 : Hid (Below wq.heap.size wq w3) := by
                     refine Below.grown (by repeat (first | (with_reducible exact HB1.out) | (with_reducible exact HB2.out) | (with_reducible exact HB3.out) | (with_reducible assumption) | (with_reducible exact Below.refl _ _) | (with_reducible refine Below.drew ?_) | (with_reducible refine blw_al ?_ _) | (with_reducible refine blw_stp (by with_reducible assumption) ?_) | (with_reducible refine blw_set ?_ (by dsimp only; omega) _))) hg3 ?_ (fun k hk => (World.ownsRow.lt HO1.out k hk).1)
                     have := HB1.out.size
                     (try simp); omega
                   have HO2 := Lib.hid ho3x
                   clear ho3x hg3)
                | (refine step_appI _ (by rfl) _ _ (by rfl) wq.heap.size v3 _ ([] ++ L.take p ++ [x]) (L.drop p) (by rfl) (by rfl) ?_ ?_ ?_ ?_ ?_
                   · exact HO2.out
                   · first
                       | exact HU2.out.below HB2.out
                       | exact (HU3.out (by omega)).below HB2.out
                       | (rw [HN.out]; exact RdI.nil _)
                   · (try simp); (try omega)
                   · exact HB2.out.size
                   intro v4 w4 ho4x hg4
                   have HB3 : Hid (Below wq.heap.size wq w4) := OwI.grown HO2.out HB2.out HB2.out.size hg4
                   have HO3 := Lib.hid ho4x
                   clear ho4x hg4)
                | fail))
            all_goals
              have HF : Hid (OwI w4 w.heap.size v4 (srt leI (xs.take (p + 1)))) := by
                show OwI _ _ _ _
                rw [HTK.out, srt_snoc, HLS.out, ins_eq, HI.out]
                have := HO3.out.mono (base' := w.heap.size) hbz
                simpa using this
              have hbF : Below w.heap.size w w4 := hb3'.trans (HB3.out.mono hbz)
              have hll : (srt leI (xs.take (p + 1))).length = p + 1 := by rw [srt_length, List.length_take]; omega
              obtain ⟨gN, cN, e3, hgN, hlN⟩ := World.ownsRow.form HF.out (by rw [hll]; omega)
              rw [hll] at e3
              subst e3
              clear HO1 HO2 HO3 HB1 HB2 HB3 HG1 HU1 HU2 HU3 KP hll
              go_wp2
              go_roundw
              case rel => exact ⟨p + 1, gN, cN, by omega, by go_num, rfl, hgN, hbF, HF⟩
              case measure => simp [intOf] <;> omega
    · obtain rfl : i = xs.length := by omega
      have HT : Hid (xs.take xs.length = xs) := by show _ = _; exact List.take_length
      rw [HT.out] at ho
      go_wp2
      go_ret2
      exact ⟨_, rfl, ho.out, hbw⟩

end Go.Proofs.Ythmimkllnjkhaaa
