/- Plain law: a shortest way leads where it should, and the way back is as long. -/
import Derived.Test.YtfdnhamkkcmnfaaShwP
import Derived.Test.YtfdnhamkkcmnfaaShwI
set_option linter.unusedSimpArgs false
set_option linter.unusedVariables false
namespace Go.Proofs.Ytfdnhamkkcmnfaa
open Go.RowKit

theorem swR_size (F R : List Int) (rd limit f r tf tr : Int) : (swR F R rd limit f r tf tr).1.length ≤ 1048576 := by
  cases h1 : trainR F R rd
  · unfold swR; rw [h1]; simp
  cases h2 : gearR F R f r
  · unfold swR; rw [h1, h2]; simp
  cases h3 : gearR F R tf tr
  · unfold swR; rw [h1, h2, h3]; simp
  cases h4 : inR limit 0 4
  · unfold swR; rw [h1, h2, h3, h4]; simp
  cases h5 : crossR F.length R.length limit f r
  · cases h6 : crossR F.length R.length limit tf tr
    · rw [sw_ok h1 h2 h3 h4 h5 h6]
      obtain ⟨tF, tR, -, -⟩ := trainR_at h1
      have g3 : F.length ≤ 3 := by have := (teethR_at tF).2.1; omega
      have g12 : R.length ≤ 12 := by have := (teethR_at tR).2.1; omega
      have hok := okB_of (limit := limit) h2 h5
      have hot := okB_of (limit := limit) h3 h6
      have hU := fnd_done hot g3 g12
      by_cases hd : 0 ≤ dOf (fndG F R limit (tf, tr)) (f, r)
      · rw [way_down hok hot g3 g12 hU hd]
        have hb := hU.bound (g := (f, r)) hot g3 g12
        obtain ⟨k, hk⟩ : ∃ k : Nat, dOf (fndG F R limit (tf, tr)) (f, r) = k := ⟨(dOf (fndG F R limit (tf, tr)) (f, r)).toNat, by omega⟩
        have hp := (hU.down_path mvB_back hot k (f, r) hk).2
        rw [hk, Int.toNat_natCast]
        show (down mvB (okB F R limit) (fndG F R limit (tf, tr)) k (f, r)).length ≤ _
        omega
      · rw [way_nodown hok hot g3 g12 hU hd]
        simp
    · unfold swR; rw [h1, h2, h3, h4, h5, h6]; simp
  · unfold swR; rw [h1, h2, h3, h4, h5]; simp
/-- Where a way leads. -/
def posW (s : Gr) : List Int → Gr
  | [] => s
  | m :: w => posW (mvB m s) w
theorem posW_end {ok : Gr → Bool} {s t : Gr} {w : List Int} (h : Path mvB ok s w t) : posW s w = t := by
  induction h with
  | nil g => rfl
  | cons _ _ _ _ ih => exact ih
/-- Each step of a way: the move is one, the place before and behind it is good. -/
theorem Path.stepAt {ok : Gr → Bool} {s t : Gr} {w : List Int} (h : Path mvB ok s w t) (hs : ok s = true) : ∀ k, k < w.length → 0 ≤ w.getD k 0 ∧ w.getD k 0 ≤ 3 ∧ ok (posW s (w.take k)) = true ∧ posW s (w.take (k + 1)) = mvB (w.getD k 0) (posW s (w.take k)) ∧ ok (posW s (w.take (k + 1))) = true := by
  induction h with
  | nil g => intro k hk; simp at hk
  | @cons g t m w h0 h3 hk h ih =>
    intro k hkl
    cases k with
    | zero => exact ⟨h0, h3, hs, by simp [posW], by simpa [posW] using hk⟩
    | succ k =>
      have := ih hk k (by simpa using hkl)
      simpa [posW] using this
theorem sw_parts {F R : List Int} {rd limit f r tf tr : Int} {ws : List Int} {bad : Int} (h : (ws, bad) = swR F R rd limit f r tf tr) (hb : bad = 0) : trainR F R rd = true ∧ gearR F R f r = true ∧ gearR F R tf tr = true ∧ inR limit 0 4 = true ∧ crossR F.length R.length limit f r = false ∧ crossR F.length R.length limit tf tr = false ∧ wayG F R limit (f, r) (tf, tr) = some ws := by
  unfold swR at h
  split at h
  · rename_i hT
    split at h
    · rename_i hg
      rw [Bool.and_eq_true, Bool.and_eq_true] at hg
      split at h
      · injection h with h1 h2; omega
      · rename_i hx
        have hx' : crossR F.length R.length limit f r = false ∧ crossR F.length R.length limit tf tr = false := by simpa using hx
        split at h
        · rename_i w hw
          injection h with h1 h2
          exact ⟨hT, hg.1.1, hg.1.2, hg.2, hx'.1, hx'.2, by rw [h1]; exact hw⟩
        · injection h with h1 h2; omega
    · injection h with h1 h2; omega
  · injection h with h1 h2; omega
theorem way_at {F R : List Int} {limit : Int} {s t : Gr} {ws : List Int} (hs : okB F R limit s = true) (h3 : F.length ≤ 3) (h12 : R.length ≤ 12) (h : wayG F R limit s t = some ws) : ∃ (j : Nat) (y : En), (fndG F R limit s)[j]? = some y ∧ y.1 = t ∧ y.2 = ws := by
  unfold wayG at h
  cases hf : (fndG F R limit s).find? (fun y => decide (y.1 = t)) with
  | none => rw [hf] at h; cases h
  | some y =>
    rw [hf] at h
    have hy := List.find?_some hf
    obtain ⟨j, hj⟩ := List.getElem?_of_mem (List.mem_of_find?_eq_some hf)
    exact ⟨j, y, hj, by simpa using hy, by simpa using h⟩
/-- The step of the way k, as ShiftGear tells it. -/
theorem way_law {F R : List Int} {rd limit f r tf tr : Int} {ws : List Int} {bad : Int} (h : (ws, bad) = swR F R rd limit f r tf tr) (hb : bad = 0) : posW (f, r) ws = (tf, tr) ∧ (∀ k, k < ws.length → ((posW (f, r) (ws.take (k + 1))).1, (posW (f, r) (ws.take (k + 1))).2, (0 : Int)) = sgR F R rd limit (posW (f, r) (ws.take k)).1 (posW (f, r) (ws.take k)).2 (ws.getD k 0)) ∧ ∃ back : List Int, (back, (0 : Int)) = swR F R rd limit tf tr f r ∧ back.length = ws.length := by
  obtain ⟨hT, hg1, hg2, hl, hx1, hx2, hw⟩ := sw_parts h hb
  obtain ⟨tF, tR, -⟩ := trainR_at hT
  have f3 := (teethR_at tF).2.1
  have r12 := (teethR_at tR).2.1
  have h3 : F.length ≤ 3 := by omega
  have h12 : R.length ≤ 12 := by omega
  have hs := okB_of (limit := limit) hg1 hx1
  have ht := okB_of (limit := limit) hg2 hx2
  have V := fnd_done hs h3 h12
  have U := fnd_done ht h3 h12
  obtain ⟨j, y, hj, e1, e2⟩ := way_at hs h3 h12 hw
  have hp : Path mvB (okB F R limit) (f, r) ws (tf, tr) := by rw [← e1, ← e2]; exact V.path j y hj
  refine ⟨posW_end hp, fun k hk => ?_, ?_⟩
  · obtain ⟨m0, m3, k1, k2, k3⟩ := hp.stepAt hs k hk
    rw [k2] at k3 ⊢
    generalize posW (f, r) (ws.take k) = g at *
    generalize ws.getD k 0 = m at *
    obtain ⟨a, b⟩ := g
    have k1' : okM F R limit a b = true := k1
    have k3' : okM F R limit (mvG m a b).1 (mvG m a b).2 = true := k3
    have k1b := k1'
    unfold okM at k1b
    rw [Bool.and_eq_true] at k1b
    have hc : crossR F.length R.length limit a b = false := by simpa using k1b.2
    unfold sgR
    rw [hT, k1b.1, hl, inR_iff.2 ⟨m0, m3⟩, hc, k3']
    rfl
  · obtain ⟨d0, d1, -⟩ := V.same mvB_back U hs ht hj e1
    obtain ⟨i, z, hz, z1, z2⟩ := dOf_some (dOf_nn.1 d0)
    have hb2 := way_found ht hs h3 h12 U hz z1
    refine ⟨z.2, ?_, by rw [e2] at d1; omega⟩
    have := sw_some (sw_ok hT hg2 hg1 hl hx2 hx1) hb2
    exact this.symm
/-- A shift changes one index by one, and the gear behind it is not crossed. -/
theorem shift_law {F R : List Int} {rd limit a b m p q one : Int} (h : (p, q, one) = sgR F R rd limit a b m) (h1 : one = 0) : (false, (0 : Int)) = icR F R rd limit p q ∧ (0 ≤ a ∧ a ≤ 2 ∧ 0 ≤ b ∧ b ≤ 11) ∧ ((p = a - 1 ∧ q = b) ∨ (p = a + 1 ∧ q = b) ∨ (p = a ∧ q = b - 1) ∨ (p = a ∧ q = b + 1)) := by
  unfold sgR at h
  split at h
  · rename_i hT
    obtain ⟨tF, tR, -⟩ := trainR_at hT
    have f3 := (teethR_at tF).2.1
    have r12 := (teethR_at tR).2.1
    split at h
    · rename_i hg
      rw [Bool.and_eq_true] at hg
      have hb := gearR_bd hg.1
      split at h
      · rename_i hm
        split at h
        · rename_i hk
          rw [Bool.and_eq_true] at hk
          simp only [Prod.mk.injEq] at h
          obtain ⟨e1, e2, -⟩ := h
          have hk2 := hk.2
          rw [← e1, ← e2] at hk2
          unfold okM at hk2
          rw [Bool.and_eq_true] at hk2
          have hc : crossR F.length R.length limit p q = false := by simpa using hk2.2
          refine ⟨?_, by omega, ?_⟩
          · unfold icR
            rw [hT, hk2.1, hg.2, hc]
            rfl
          · unfold mvG at e1 e2
            split at e1
            · rename_i h0; rw [if_pos h0] at e2; left; exact ⟨e1, e2⟩
            · rename_i h0
              rw [if_neg h0] at e2
              split at e1
              · rename_i h0; rw [if_pos h0] at e2; right; left; exact ⟨e1, e2⟩
              · rename_i h0
                rw [if_neg h0] at e2
                split at e1
                · rename_i h0; rw [if_pos h0] at e2; right; right; left; exact ⟨e1, e2⟩
                · rename_i h0; rw [if_neg h0] at e2; right; right; right; exact ⟨e1, e2⟩
        · simp only [Prod.mk.injEq] at h; omega
      · simp only [Prod.mk.injEq] at h; omega
    · simp only [Prod.mk.injEq] at h; omega
  · simp only [Prod.mk.injEq] at h; omega
end Go.Proofs.Ytfdnhamkkcmnfaa
