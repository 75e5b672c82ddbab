/- Plain laws on brakes: grips, travels, what the searches find. -/
import Derived.Test.YtfgokehoanlobaaBrkE
set_option linter.unusedSimpArgs false
set_option linter.unusedVariables false
namespace Go.Proofs.Ytfgokehoanlobaa
open Go.RowKit

theorem ediv_mono {a b c : Int} (hc : 0 < c) (h : a ≤ b) : a / c ≤ b / c := Int.ediv_le_ediv hc h
theorem pull_mono {l f g : Int} (hl : 0 ≤ l) (h : f ≤ g) : pull l f ≤ pull l g := by
  unfold pull
  exact ediv_mono (by omega) (Int.mul_le_mul_of_nonneg_right h hl)
theorem grip_mono {l a s f g : Int} (hl : 0 ≤ l) (ha : 0 ≤ a) (h : f ≤ g) : grip l a s f ≤ grip l a s g := by
  unfold grip
  have := ediv_mono (c := 100) (by omega) (Int.mul_le_mul_of_nonneg_right (pull_mono hl h) ha)
  omega
theorem gripR_val {l a t s f : Int} (hb : isBrk l a t s = true) (h0 : 0 ≤ f) (h1 : f ≤ 1000) : gripR l a t s f = (grip l a s f, 0) := by
  unfold gripR; rw [if_pos hb, if_pos (inR_iff.2 ⟨h0, h1⟩)]
theorem travelR_val {l a t s f g : Int} (hb : isBrk l a t s = true) (h0 : 0 ≤ f) (h1 : f ≤ 1000) (h2 : 0 ≤ g) (h3 : g ≤ 5000) : travelR l a t s f g = (travel l a t f g, 0) := by
  unfold travelR; rw [if_pos hb, if_pos (inR_iff.2 ⟨h0, h1⟩), if_pos (inR_iff.2 ⟨h2, h3⟩)]
theorem gripR_law {l a t s f g c : Int} (h : (g, c) = gripR l a t s f) (hc : c = 0) (hf : f < 1000) : ∃ g', (g', (0 : Int)) = gripR l a t s (f + 1) ∧ g ≤ g' := by
  unfold gripR at h
  split at h
  · rename_i hb
    split at h
    · rename_i hr
      obtain ⟨r0, r1⟩ := inR_iff.1 hr
      injection h with h1 h2
      obtain ⟨l1, l2, a1, a2, -⟩ := isBrk_bd hb
      exact ⟨_, (gripR_val hb (by omega) (by omega)).symm, by rw [h1]; exact grip_mono (by omega) (by omega) (by omega)⟩
    · injection h with h1 h2; omega
  · injection h with h1 h2; omega
theorem gripR_in {l a t s f g c : Int} (h : (g, c) = gripR l a t s f) (hc : c = 0) : 0 ≤ f ∧ f ≤ 1000 := by
  unfold gripR at h
  split at h
  · split at h
    · rename_i hr
      exact inR_iff.1 hr
    · injection h with h1 h2; omega
  · injection h with h1 h2; omega
theorem firstUp_law {p : Int → Bool} : ∀ (n : Nat) (i x : Int), firstUp p i n = some x → i ≤ x ∧ x < i + n ∧ p x = true ∧ (i < x → p (x - 1) = false) := by
  intro n
  induction n with
  | zero => intro i x h; cases h
  | succ n ih =>
    intro i x h
    unfold firstUp at h
    split at h
    · injection h with h
      subst h
      exact ⟨by omega, by omega, by assumption, fun h => by omega⟩
    · rename_i hp
      obtain ⟨h1, h2, h3, h4⟩ := ih (i + 1) x h
      refine ⟨by omega, by omega, h3, fun _ => ?_⟩
      by_cases hx : i + 1 < x
      · exact h4 hx
      · have e : x - 1 = i := by omega
        rw [e]
        simpa using hp
theorem firstDown_law {p : Int → Bool} : ∀ (n : Nat) (i x : Int), firstDown p i n = some x → x ≤ i ∧ i - n < x ∧ p x = true ∧ (x < i → p (x + 1) = false) := by
  intro n
  induction n with
  | zero => intro i x h; cases h
  | succ n ih =>
    intro i x h
    unfold firstDown at h
    split at h
    · injection h with h
      subst h
      exact ⟨by omega, by omega, by assumption, fun h => by omega⟩
    · rename_i hp
      obtain ⟨h1, h2, h3, h4⟩ := ih (i - 1) x h
      refine ⟨by omega, by omega, h3, fun _ => ?_⟩
      by_cases hx : x < i - 1
      · exact h4 hx
      · have e : x + 1 = i := by omega
        rw [e]
        simpa using hp
theorem forceR_law {l a t s q f c : Int} (h : (f, c) = forceR l a t s q) (hc : c = 0) : 0 ≤ f ∧ f ≤ 1000 ∧ (∃ g, (g, (0 : Int)) = gripR l a t s f ∧ q ≤ g) ∧ (f ≠ 0 → ∃ g, (g, (0 : Int)) = gripR l a t s (f - 1) ∧ g < q) := by
  unfold forceR at h
  split at h
  · rename_i hb
    split at h
    · cases hu : firstUp (gripP l a s q) 0 1001 with
      | none => rw [hu] at h; injection h with h1 h2; omega
      | some x =>
        rw [hu] at h
        injection h with h1 h2
        subst h1
        obtain ⟨u1, u2, u3, u4⟩ := firstUp_law _ _ _ hu
        unfold gripP at u3 u4
        refine ⟨u1, by omega, ⟨_, (gripR_val hb u1 (by omega)).symm, by simpa using u3⟩, fun hn => ⟨_, (gripR_val hb (by omega) (by omega)).symm, ?_⟩⟩
        have := u4 (by omega)
        simp only [decide_eq_false_iff_not] at this
        omega
    · injection h with h1 h2; omega
  · injection h with h1 h2; omega
theorem gapR_law {l a t s f v g c : Int} (h : (g, c) = gapR l a t s f v) (hc : c = 0) : 0 ≤ g ∧ g ≤ 5000 ∧ (∃ x, (x, (0 : Int)) = travelR l a t s f g ∧ x ≤ v) ∧ (g ≠ 5000 → ∃ x, (x, (0 : Int)) = travelR l a t s f (g + 1) ∧ v < x) := by
  unfold gapR at h
  split at h
  · rename_i hb
    split at h
    · rename_i hf
      obtain ⟨f0, f1⟩ := inR_iff.1 hf
      split at h
      · cases hu : firstDown (travP l a t f v) 5000 5001 with
        | none => rw [hu] at h; injection h with h1 h2; omega
        | some x =>
          rw [hu] at h
          injection h with h1 h2
          subst h1
          obtain ⟨u1, u2, u3, u4⟩ := firstDown_law _ _ _ hu
          unfold travP at u3 u4
          refine ⟨by omega, by omega, ⟨_, (travelR_val hb f0 f1 (by omega) (by omega)).symm, by simpa using u3⟩, fun hn => ⟨_, (travelR_val hb f0 f1 (by omega) (by omega)).symm, ?_⟩⟩
          have := u4 (by omega)
          simp only [decide_eq_false_iff_not] at this
          omega
      · injection h with h1 h2; omega
    · injection h with h1 h2; omega
  · injection h with h1 h2; omega
theorem cmp3_anti (x y : Int) : cmp3 y x = -cmp3 x y := by
  unfold cmp3
  repeat' split
  all_goals omega
theorem compR_law {l a t s l' a' t' s' f c d : Int} (h : (c, d) = compR l a t s l' a' t' s' f) (hd : d = 0) : (-c, (0 : Int)) = compR l' a' t' s' l a t s f ∧ -1 ≤ c ∧ c ≤ 1 := by
  unfold compR at h
  split at h
  · rename_i h1
    split at h
    · rename_i h2
      split at h
      · rename_i h3
        injection h with e1 e2
        unfold compR
        rw [if_pos h2, if_pos h1, if_pos h3, cmp3_anti, e1]
        refine ⟨rfl, ?_, ?_⟩ <;> (unfold cmp3; repeat' split) <;> omega
      · injection h with e1 e2; omega
    · injection h with e1 e2; omega
  · injection h with e1 e2; omega
theorem stopsR_law {l a t s f g v q d : Int} {b : Bool} (h : (b, d) = stopsR l a t s f g v q) (hd : d = 0) : ∃ x y, (x, (0 : Int)) = travelR l a t s f g ∧ (y, (0 : Int)) = gripR l a t s f ∧ b = (decide (x ≤ v) && decide (q ≤ y)) := by
  unfold stopsR at h
  split at h
  · rename_i h1
    split at h
    · rename_i h2
      obtain ⟨f0, f1⟩ := inR_iff.1 h2
      split at h
      · rename_i h3
        obtain ⟨g0, g1⟩ := inR_iff.1 h3
        split at h
        · split at h
          · injection h with e1 e2
            exact ⟨_, _, (travelR_val h1 f0 f1 g0 g1).symm, (gripR_val h1 f0 f1).symm, e1⟩
          · injection h with e1 e2; omega
        · injection h with e1 e2; omega
      · injection h with e1 e2; omega
    · injection h with e1 e2; omega
  · injection h with e1 e2; omega
theorem cdiv_law {n b : Int} (hn : 0 < n) (hb : 0 < b) : 0 < cdiv n b ∧ n ≤ cdiv n b * b ∧ (cdiv n b - 1) * b < n := by
  unfold cdiv
  have h1 := Int.emod_nonneg (n + b - 1) (Int.ne_of_gt hb)
  have h2 := Int.emod_lt_of_pos (n + b - 1) hb
  have h3 := Int.mul_ediv_add_emod (n + b - 1) b
  have h4 : 0 < (n + b - 1) / b := by
    have := (Int.le_ediv_iff_mul_le (a := 1) (b := n + b - 1) hb).2 (by omega)
    omega
  generalize (n + b - 1) / b = q at *
  refine ⟨h4, ?_, ?_⟩
  · rw [Int.mul_comm q b]; omega
  · rw [Int.sub_mul, Int.mul_comm q b]; omega
theorem turnsR_law {l a t s g v k d : Int} (h : (k, d) = turnsR l a t s g v) (hd : d = 0) : 100 ≤ a ∧ a ≤ 1000 ∧ 0 ≤ g ∧ g ≤ 5000 ∧ 0 ≤ k ∧ k ≤ 5000 ∧ g - k * (25000 / a) ≤ v ∧ (0 < k → v < g - (k - 1) * (25000 / a)) ∧ k * (25000 / a) ≤ 6000 := by
  unfold turnsR at h
  split at h
  · rename_i h1
    obtain ⟨-, -, a1, a2, -⟩ := isBrk_bd h1
    split at h
    · rename_i h2
      obtain ⟨g0, g1⟩ := inR_iff.1 h2
      split at h
      · rename_i h3
        obtain ⟨v0, v1⟩ := inR_iff.1 h3
        split at h
        · injection h with e1 e2
          subst e1
          exact ⟨a1, a2, g0, g1, by omega, by omega, by omega, fun h => by omega, by omega⟩
        · injection h with e1 e2
          have hb := turn_bd a1 a2
          obtain ⟨k1, k2, k3⟩ := cdiv_law (n := g - v) (b := 25000 / a) (by omega) (by omega)
          rw [← e1] at k1 k2 k3
          generalize 25000 / a = b at *
          have k4 : (k - 1) * 25 ≤ (k - 1) * b := Int.mul_le_mul_of_nonneg_left hb.1 (by omega)
          have k5 : k * b = (k - 1) * b + b := by rw [Int.sub_mul]; omega
          refine ⟨a1, a2, g0, g1, by omega, by omega, by omega, fun _ => by omega, by omega⟩
      · injection h with e1 e2; omega
    · injection h with e1 e2; omega
  · injection h with e1 e2; omega
theorem ForceFor_r (l a t s q : Int) (x : Int) (c : Int) (w : World) (h : (x, c) = forceR l a t s q) : Calls Try.prog 24 #[.agg #[.int .i64 l, .int .i64 a, .int .i64 t, .int .i64 s], .int .i64 q] w fun e w' => e = .returned (.tuple #[.int .i64 x, .int .i64 c]) ∧ Below w.heap.size w w' :=
  (ForceFor_any l a t s q w).mono fun e w' q => by rw [q.1, ← h]; exact ⟨rfl, q.2⟩
theorem GripOf_r (l a t s f : Int) (x : Int) (c : Int) (w : World) (h : (x, c) = gripR l a t s f) : Calls Try.prog 20 #[.agg #[.int .i64 l, .int .i64 a, .int .i64 t, .int .i64 s], .int .i64 f] w fun e w' => e = .returned (.tuple #[.int .i64 x, .int .i64 c]) ∧ Below w.heap.size w w' :=
  (GripOf_any l a t s f w).mono fun e w' q => by rw [q.1, ← h]; exact ⟨rfl, q.2⟩
theorem PullOf_r (l a t s f : Int) (x : Int) (c : Int) (w : World) (h : (x, c) = pullR l a t s f) : Calls Try.prog 18 #[.agg #[.int .i64 l, .int .i64 a, .int .i64 t, .int .i64 s], .int .i64 f] w fun e w' => e = .returned (.tuple #[.int .i64 x, .int .i64 c]) ∧ Below w.heap.size w w' :=
  (PullOf_any l a t s f w).mono fun e w' q => by rw [q.1, ← h]; exact ⟨rfl, q.2⟩
theorem CompareBrakes_r (l a t s l' a' t' s' f : Int) (x : Int) (c : Int) (w : World) (h : (x, c) = compR l a t s l' a' t' s' f) : Calls Try.prog 28 #[.agg #[.int .i64 l, .int .i64 a, .int .i64 t, .int .i64 s], .agg #[.int .i64 l', .int .i64 a', .int .i64 t', .int .i64 s'], .int .i64 f] w fun e w' => e = .returned (.tuple #[.int .i64 x, .int .i64 c]) ∧ Below w.heap.size w w' :=
  (CompareBrakes_any l a t s l' a' t' s' f w).mono fun e w' q => by rw [q.1, ← h]; exact ⟨rfl, q.2⟩
theorem TravelOf_r (l a t s f g : Int) (x : Int) (c : Int) (w : World) (h : (x, c) = travelR l a t s f g) : Calls Try.prog 26 #[.agg #[.int .i64 l, .int .i64 a, .int .i64 t, .int .i64 s], .int .i64 f, .int .i64 g] w fun e w' => e = .returned (.tuple #[.int .i64 x, .int .i64 c]) ∧ Below w.heap.size w w' :=
  (TravelOf_any l a t s f g w).mono fun e w' q => by rw [q.1, ← h]; exact ⟨rfl, q.2⟩
theorem GapFor_r (l a t s f v : Int) (x : Int) (c : Int) (w : World) (h : (x, c) = gapR l a t s f v) : Calls Try.prog 32 #[.agg #[.int .i64 l, .int .i64 a, .int .i64 t, .int .i64 s], .int .i64 f, .int .i64 v] w fun e w' => e = .returned (.tuple #[.int .i64 x, .int .i64 c]) ∧ Below w.heap.size w w' :=
  (GapFor_any l a t s f v w).mono fun e w' q => by rw [q.1, ← h]; exact ⟨rfl, q.2⟩
theorem StopsWithin_r (l a t s f g v q : Int) (x : Bool) (c : Int) (w : World) (h : (x, c) = stopsR l a t s f g v q) : Calls Try.prog 30 #[.agg #[.int .i64 l, .int .i64 a, .int .i64 t, .int .i64 s], .int .i64 f, .int .i64 g, .int .i64 v, .int .i64 q] w fun e w' => e = .returned (.tuple #[.bool x, .int .i64 c]) ∧ Below w.heap.size w w' :=
  (StopsWithin_any l a t s f g v q w).mono fun e w' q => by rw [q.1, ← h]; exact ⟨rfl, q.2⟩
theorem TurnsOfBarrel_r (l a t s g v : Int) (x : Int) (c : Int) (w : World) (h : (x, c) = turnsR l a t s g v) : Calls Try.prog 22 #[.agg #[.int .i64 l, .int .i64 a, .int .i64 t, .int .i64 s], .int .i64 g, .int .i64 v] w fun e w' => e = .returned (.tuple #[.int .i64 x, .int .i64 c]) ∧ Below w.heap.size w w' :=
  (TurnsOfBarrel_any l a t s g v w).mono fun e w' q => by rw [q.1, ← h]; exact ⟨rfl, q.2⟩
theorem sForceFor_r (l a t s q : Int) (x : Int) (c : Int) (w : World) (h : (x, c) = forceR l a t s q) : Calls Try.prog 23 #[.agg #[.int .i64 l, .int .i64 a, .int .i64 t, .int .i64 s], .int .i64 q] w fun e w' => e = .returned (.tuple #[.int .i64 x, .int .i64 c]) ∧ Below w.heap.size w w' :=
  (sForceFor_any l a t s q w).mono fun e w' q => by rw [q.1, ← h]; exact ⟨rfl, q.2⟩
theorem sGripOf_r (l a t s f : Int) (x : Int) (c : Int) (w : World) (h : (x, c) = gripR l a t s f) : Calls Try.prog 19 #[.agg #[.int .i64 l, .int .i64 a, .int .i64 t, .int .i64 s], .int .i64 f] w fun e w' => e = .returned (.tuple #[.int .i64 x, .int .i64 c]) ∧ Below w.heap.size w w' :=
  (sGripOf_any l a t s f w).mono fun e w' q => by rw [q.1, ← h]; exact ⟨rfl, q.2⟩
theorem sPullOf_r (l a t s f : Int) (x : Int) (c : Int) (w : World) (h : (x, c) = pullR l a t s f) : Calls Try.prog 17 #[.agg #[.int .i64 l, .int .i64 a, .int .i64 t, .int .i64 s], .int .i64 f] w fun e w' => e = .returned (.tuple #[.int .i64 x, .int .i64 c]) ∧ Below w.heap.size w w' :=
  (sPullOf_any l a t s f w).mono fun e w' q => by rw [q.1, ← h]; exact ⟨rfl, q.2⟩
theorem sCompareBrakes_r (l a t s l' a' t' s' f : Int) (x : Int) (c : Int) (w : World) (h : (x, c) = compR l a t s l' a' t' s' f) : Calls Try.prog 27 #[.agg #[.int .i64 l, .int .i64 a, .int .i64 t, .int .i64 s], .agg #[.int .i64 l', .int .i64 a', .int .i64 t', .int .i64 s'], .int .i64 f] w fun e w' => e = .returned (.tuple #[.int .i64 x, .int .i64 c]) ∧ Below w.heap.size w w' :=
  (sCompareBrakes_any l a t s l' a' t' s' f w).mono fun e w' q => by rw [q.1, ← h]; exact ⟨rfl, q.2⟩
theorem sTravelOf_r (l a t s f g : Int) (x : Int) (c : Int) (w : World) (h : (x, c) = travelR l a t s f g) : Calls Try.prog 25 #[.agg #[.int .i64 l, .int .i64 a, .int .i64 t, .int .i64 s], .int .i64 f, .int .i64 g] w fun e w' => e = .returned (.tuple #[.int .i64 x, .int .i64 c]) ∧ Below w.heap.size w w' :=
  (sTravelOf_any l a t s f g w).mono fun e w' q => by rw [q.1, ← h]; exact ⟨rfl, q.2⟩
theorem sGapFor_r (l a t s f v : Int) (x : Int) (c : Int) (w : World) (h : (x, c) = gapR l a t s f v) : Calls Try.prog 31 #[.agg #[.int .i64 l, .int .i64 a, .int .i64 t, .int .i64 s], .int .i64 f, .int .i64 v] w fun e w' => e = .returned (.tuple #[.int .i64 x, .int .i64 c]) ∧ Below w.heap.size w w' :=
  (sGapFor_any l a t s f v w).mono fun e w' q => by rw [q.1, ← h]; exact ⟨rfl, q.2⟩
theorem sStopsWithin_r (l a t s f g v q : Int) (x : Bool) (c : Int) (w : World) (h : (x, c) = stopsR l a t s f g v q) : Calls Try.prog 29 #[.agg #[.int .i64 l, .int .i64 a, .int .i64 t, .int .i64 s], .int .i64 f, .int .i64 g, .int .i64 v, .int .i64 q] w fun e w' => e = .returned (.tuple #[.bool x, .int .i64 c]) ∧ Below w.heap.size w w' :=
  (sStopsWithin_any l a t s f g v q w).mono fun e w' q => by rw [q.1, ← h]; exact ⟨rfl, q.2⟩
theorem sTurnsOfBarrel_r (l a t s g v : Int) (x : Int) (c : Int) (w : World) (h : (x, c) = turnsR l a t s g v) : Calls Try.prog 21 #[.agg #[.int .i64 l, .int .i64 a, .int .i64 t, .int .i64 s], .int .i64 g, .int .i64 v] w fun e w' => e = .returned (.tuple #[.int .i64 x, .int .i64 c]) ∧ Below w.heap.size w w' :=
  (sTurnsOfBarrel_any l a t s g v w).mono fun e w' q => by rw [q.1, ← h]; exact ⟨rfl, q.2⟩
end Go.Proofs.Ytfgokehoanlobaa
