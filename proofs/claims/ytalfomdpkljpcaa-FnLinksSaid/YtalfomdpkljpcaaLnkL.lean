/- The walk of the law on links. -/
import Derived.Test.YtalfomdpkljpcaaNedB
import Derived.Test.YtalfomdpkljpcaaDrwB
import Derived.Test.YtalfomdpkljpcaaOpenB
set_option linter.unusedSimpArgs false
set_option linter.unusedVariables false
namespace Go.Proofs.Ytalfomdpkljpcaa
open Go.RowKit

theorem lnkF_law (n : Int) : ∀ k L, 40 ≤ L → L % 2 = 0 → (L = 40 ∨ 1000 * (L - 2) < n) → lnkF n k L = 0 ∨ (lnkF n k L % 2 = 0 ∧ n ≤ 1000 * lnkF n k L ∧ (lnkF n k L = 40 ∨ 1000 * (lnkF n k L - 2) < n)) := by
  intro k
  induction k with
  | zero => intro L _ _ _; exact Or.inl rfl
  | succ k ih =>
    intro L h1 h2 h3
    unfold lnkF
    split
    · exact Or.inr ⟨h2, by omega, h3⟩
    · exact ih (L + 2) (by omega) (by omega) (Or.inr (by omega))
theorem styF_law (L f r : Int) : ∀ k s, (s = 6000 ∨ 1000 * L < needZ (s + 1) f r) → styF L f r k s = 0 ∨ (styF L f r k s ≤ s ∧ s - k < styF L f r k s ∧ needZ (styF L f r k s) f r ≤ 1000 * L ∧ (styF L f r k s = 6000 ∨ 1000 * L < needZ (styF L f r k s + 1) f r)) := by
  intro k
  induction k with
  | zero => intro s _; exact Or.inl rfl
  | succ k ih =>
    intro s h
    unfold styF
    split
    · exact Or.inr ⟨by omega, by omega, by assumption, h⟩
    · rcases ih (s - 1) (Or.inr (by rw [show s - 1 + 1 = s by omega]; omega)) with h1 | ⟨h1, h2, h3, h4⟩
      · exact Or.inl h1
      · exact Or.inr ⟨by omega, by omega, h3, h4⟩
theorem lfR_law {s f r l c n d : Int} (h : (l, c) = lfR s f r) (hn : (n, d) = ndR s f r) (hc : c = 0) : 40 ≤ l ∧ l ≤ 202 ∧ l % 2 = 0 ∧ n ≤ 1000 * l ∧ (l = 40 ∨ 1000 * (l - 2) < n) := by
  unfold lfR at h
  unfold ndR at hn
  split at h
  · rename_i hr
    rw [if_pos hr] at hn
    injection hn with hn1 hn2
    split at h
    · injection h with h1 h2; omega
    · rename_i h0
      injection h with h1 h2
      have hb := lnkF_bd (needZ s f r) 81 40 (by omega)
      have hl := lnkF_law (needZ s f r) 81 40 (by omega) (by omega) (Or.inl rfl)
      unfold linksZ at h0 h1
      rw [← h1] at hb hl h0
      rw [← hn1] at hl
      omega
  · injection h with h1 h2; omega
theorem sfR_law {a b c s d : Int} (h : (s, d) = sfR a b c) (hd : d = 0) : 40 ≤ a ∧ a ≤ 200 ∧ 3000 ≤ s ∧ s ≤ 6000 ∧ ndR s b c = (needZ s b c, 0) ∧ needZ s b c ≤ 1000 * a ∧ (s < 6000 → ndR (s + 1) b c = (needZ (s + 1) b c, 0) ∧ 1000 * a < needZ (s + 1) b c) := by
  unfold sfR at h
  split at h
  · rename_i hr
    unfold rangeS at hr
    have hr' : linksB a = true ∧ (inR b 20 60 && inR c 9 52) = true := by simpa [Bool.and_eq_true, and_assoc] using hr
    obtain ⟨a1, a2, -⟩ := linksB_at hr'.1
    split at h
    · injection h with h1 h2; omega
    · rename_i h0
      injection h with h1 h2
      have hl := styF_law a b c 3001 6000 (Or.inl rfl)
      unfold stayZ at h0 h1
      rw [← h1] at hl h0
      rcases hl with hl | ⟨l1, l2, l3, l4⟩
      · exact absurd hl h0
      · have rg : ∀ q : Int, 3000 ≤ q → q ≤ 6000 → ndR q b c = (needZ q b c, 0) := by
          intro q q1 q2
          have : inR q 3000 6000 = true := inR_iff.2 ⟨q1, q2⟩
          unfold ndR rangeL
          rw [this, hr'.2]
          rfl
        refine ⟨a1, a2, by omega, by omega, rg s (by omega) (by omega), l3, fun hs => ⟨rg (s + 1) (by omega) (by omega), ?_⟩⟩
        rcases l4 with l4 | l4
        · omega
        · exact l4
  · injection h with h1 h2; omega
theorem cutR_law {x y c d : Int} (h : (c, d) = cutR x y) (hd : d = 0) : 40 ≤ x ∧ x ≤ 200 ∧ 40 ≤ y ∧ y ≤ 200 ∧ y + c = x := by
  unfold cutR at h
  split at h
  · rename_i hr
    have hr' : linksB x = true ∧ linksB y = true := by simpa [Bool.and_eq_true] using hr
    obtain ⟨a1, a2, -⟩ := linksB_at hr'.1
    obtain ⟨b1, b2, -⟩ := linksB_at hr'.2
    split at h
    · injection h with h1 h2; omega
    · injection h with h1 h2; omega
  · injection h with h1 h2; omega
theorem iLinksFor_r (s f r x c : Int) (w : World) (h : (x, c) = lfR s f r) : Calls Try.prog 20 #[.int .i64 s, .int .i64 f, .int .i64 r] w fun e w' => e = .returned (.tuple #[.int .i64 x, .int .i64 c]) ∧ w = w' :=
  (iLinksFor_any s f r w).mono fun e w' q => by rw [q.1, ← h]; exact ⟨rfl, q.2⟩
theorem sLinksFor_r (s f r x c : Int) (w : World) (h : (x, c) = lfR s f r) : Calls Try.prog 21 #[.int .i64 s, .int .i64 f, .int .i64 r] w fun e w' => e = .returned (.tuple #[.int .i64 x, .int .i64 c]) ∧ w = w' :=
  (sLinksFor_any s f r w).mono fun e w' q => by rw [q.1, ← h]; exact ⟨rfl, q.2⟩
theorem iNeedOf_r (s f r x c : Int) (w : World) (h : (x, c) = ndR s f r) : Calls Try.prog 22 #[.int .i64 s, .int .i64 f, .int .i64 r] w fun e w' => e = .returned (.tuple #[.int .i64 x, .int .i64 c]) ∧ w = w' :=
  (iNeedOf_any s f r w).mono fun e w' q => by rw [q.1, ← h]; exact ⟨rfl, q.2⟩
theorem sNeedOf_r (s f r x c : Int) (w : World) (h : (x, c) = ndR s f r) : Calls Try.prog 23 #[.int .i64 s, .int .i64 f, .int .i64 r] w fun e w' => e = .returned (.tuple #[.int .i64 x, .int .i64 c]) ∧ w = w' :=
  (sNeedOf_any s f r w).mono fun e w' q => by rw [q.1, ← h]; exact ⟨rfl, q.2⟩
theorem iStayFor_r (s f r x c : Int) (w : World) (h : (x, c) = sfR s f r) : Calls Try.prog 25 #[.int .i64 s, .int .i64 f, .int .i64 r] w fun e w' => e = .returned (.tuple #[.int .i64 x, .int .i64 c]) ∧ w = w' :=
  (iStayFor_any s f r w).mono fun e w' q => by rw [q.1, ← h]; exact ⟨rfl, q.2⟩
theorem sStayFor_r (s f r x c : Int) (w : World) (h : (x, c) = sfR s f r) : Calls Try.prog 26 #[.int .i64 s, .int .i64 f, .int .i64 r] w fun e w' => e = .returned (.tuple #[.int .i64 x, .int .i64 c]) ∧ w = w' :=
  (sStayFor_any s f r w).mono fun e w' q => by rw [q.1, ← h]; exact ⟨rfl, q.2⟩
theorem iCutLinks_r (s f x c : Int) (w : World) (h : (x, c) = cutR s f) : Calls Try.prog 28 #[.int .i64 s, .int .i64 f] w fun e w' => e = .returned (.tuple #[.int .i64 x, .int .i64 c]) ∧ w = w' :=
  (iCutLinks_any s f w).mono fun e w' q => by rw [q.1, ← h]; exact ⟨rfl, q.2⟩
theorem sCutLinks_r (s f x c : Int) (w : World) (h : (x, c) = cutR s f) : Calls Try.prog 29 #[.int .i64 s, .int .i64 f] w fun e w' => e = .returned (.tuple #[.int .i64 x, .int .i64 c]) ∧ w = w' :=
  (sCutLinks_any s f w).mono fun e w' q => by rw [q.1, ← h]; exact ⟨rfl, q.2⟩
set_option maxRecDepth 100000 in
set_option maxHeartbeats 8000000 in
theorem FnLinks_walk (a : Option Addr) (n c : Nat) (w : World) (h : RdB w w.heap.size a n) :
    Calls Try.prog 6 #[.slice a n c] w fun e w' => e = .returned (.bool true) ∧ Below w.heap.size w w' := by
  by_cases hn : n ≤ 4096
  · have HN : Hid (decide (4096 < n) = false) := by show _ = _; simp; omega
    have HB0 := Lib.hid h
    have T0 := Below.refl w.heap.size w
    clear h
    go_enter Try.func6, Try.ntmps6
    go_wp2_with fail
    (with_reducible refine (big_any _ _ _ _).mono ?_)
    rintro e _ ⟨rfl, rfl⟩
    rw [HN.out]
    go_wp2_with fail
    (with_reducible refine (DrawLinksFor_any a n c _ HB0.out hn).mono ?_)
    rintro e w1 ⟨s, f, r, rfl, hb1⟩
    have HB1 := Lib.hid ((HB0.out.below hb1).keep hb1.size (fun _ _ => rfl))
    have T1 := T0.trans (hb1.mono T0.size)
    clear hb1 HB0
    obtain ⟨⟨l, cl⟩, hl⟩ : ∃ p, p = lfR s f r := ⟨_, rfl⟩
    have Hhl := Lib.hid hl
    obtain ⟨⟨nd, cn⟩, hd⟩ : ∃ p, p = ndR s f r := ⟨_, rfl⟩
    have Hhd := Lib.hid hd
    have hL := lfR_law hl hd
    clear hl hd
    go_wp2_with fail
    (with_reducible refine (iLinksFor_r _ _ _ _ _ _ Hhl.out).mono ?_)
    rintro e _ ⟨rfl, rfl⟩
    go_wp2_with fail
    (with_reducible refine (sLinksFor_r _ _ _ _ _ _ Hhl.out).mono ?_)
    rintro e _ ⟨rfl, rfl⟩
    go_wp2_with fail
    (with_reducible refine (iNeedOf_r _ _ _ _ _ _ Hhd.out).mono ?_)
    rintro e _ ⟨rfl, rfl⟩
    go_wp2_with fail
    (with_reducible refine (sNeedOf_r _ _ _ _ _ _ Hhd.out).mono ?_)
    rintro e _ ⟨rfl, rfl⟩
    go_wp2_with fail
    (with_reducible refine (DrawStayFor_any a n c _ HB1.out hn).mono ?_)
    rintro e w2 ⟨a1, b1, c1, rfl, hb2⟩
    have HB2 := Lib.hid ((HB1.out.below hb2).keep hb2.size (fun _ _ => rfl))
    have T2 := T1.trans (hb2.mono T1.size)
    clear hb2 HB1
    obtain ⟨⟨st, cs⟩, hs⟩ : ∃ p, p = sfR a1 b1 c1 := ⟨_, rfl⟩
    have Hhs := Lib.hid hs
    have hS := sfR_law hs
    clear hs
    go_wp2_with fail
    (with_reducible refine (iStayFor_r _ _ _ _ _ _ Hhs.out).mono ?_)
    rintro e _ ⟨rfl, rfl⟩
    go_wp2_with fail
    (with_reducible refine (sStayFor_r _ _ _ _ _ _ Hhs.out).mono ?_)
    rintro e _ ⟨rfl, rfl⟩
    go_wp2_with fail
    (with_reducible refine (DrawCutLinks_any a n c _ HB2.out hn).mono ?_)
    rintro e w3 ⟨x1, y1, rfl, hb3⟩
    have HB3 := Lib.hid ((HB2.out.below hb3).keep hb3.size (fun _ _ => rfl))
    have T3 := T2.trans (hb3.mono T2.size)
    clear hb3 HB2
    obtain ⟨⟨ct, cc⟩, hk⟩ : ∃ p, p = cutR x1 y1 := ⟨_, rfl⟩
    have Hhk := Lib.hid hk
    have hC := cutR_law hk
    clear hk
    go_wp2_with fail
    (with_reducible refine (iCutLinks_r _ _ _ _ _ Hhk.out).mono ?_)
    rintro e _ ⟨rfl, rfl⟩
    go_wp2_with fail
    (with_reducible refine (sCutLinks_r _ _ _ _ _ Hhk.out).mono ?_)
    rintro e _ ⟨rfl, rfl⟩
    by_cases hcs : cs = 0
    · obtain ⟨s1, s2, s3, s4, s5, s6, s7⟩ := hS hcs
      clear hS
      subst hcs
      have H5 := Lib.hid s5
      clear s5
      go_wp2_with fail
      (with_reducible refine (iNeedOf_r _ _ _ _ _ _ H5.out.symm).mono ?_)
      rintro e _ ⟨rfl, rfl⟩
      by_cases h6 : st < 6000
      · obtain ⟨s8, s9⟩ := s7 h6
        clear s7
        have H8 := Lib.hid s8
        clear s8
        go_wp2_with fail
        (with_reducible refine (iNeedOf_r _ _ _ _ _ _ H8.out.symm).mono ?_)
        rintro e _ ⟨rfl, rfl⟩
        by_cases hcc : cc = 0
        · obtain ⟨k1, k2, k3, k4, k5⟩ := hC hcc
          clear hC
          subst hcc
          by_cases hcl : cl = 0
          · obtain ⟨l1, l2, l3, l4, l5⟩ := hL hcl
            clear hL
            have hq : (l % 2 == 0) = true := by rw [beq_iff_eq]; exact l3
            have hq2 : (l.tmod 2 == 0) = true := by rw [Int.tmod_eq_emod_of_nonneg (by omega)]; exact hq
            subst hcl
            rcases l5 with rfl | l5
            all_goals
              go_wp2
              all_goals
                go_ret
                exact ⟨rfl, T3⟩
          · clear hL
            go_wp2
            go_ret
            exact ⟨rfl, T3⟩
        · clear hC
          by_cases hcl : cl = 0
          · obtain ⟨l1, l2, l3, l4, l5⟩ := hL hcl
            clear hL
            have hq : (l % 2 == 0) = true := by rw [beq_iff_eq]; exact l3
            have hq2 : (l.tmod 2 == 0) = true := by rw [Int.tmod_eq_emod_of_nonneg (by omega)]; exact hq
            subst hcl
            rcases l5 with rfl | l5
            all_goals
              go_wp2
              all_goals
                go_ret
                exact ⟨rfl, T3⟩
          · clear hL
            go_wp2
            go_ret
            exact ⟨rfl, T3⟩
      · clear s7
        by_cases hcc : cc = 0
        · obtain ⟨k1, k2, k3, k4, k5⟩ := hC hcc
          clear hC
          subst hcc
          by_cases hcl : cl = 0
          · obtain ⟨l1, l2, l3, l4, l5⟩ := hL hcl
            clear hL
            have hq : (l % 2 == 0) = true := by rw [beq_iff_eq]; exact l3
            have hq2 : (l.tmod 2 == 0) = true := by rw [Int.tmod_eq_emod_of_nonneg (by omega)]; exact hq
            subst hcl
            rcases l5 with rfl | l5
            all_goals
              go_wp2
              all_goals
                go_ret
                exact ⟨rfl, T3⟩
          · clear hL
            go_wp2
            go_ret
            exact ⟨rfl, T3⟩
        · clear hC
          by_cases hcl : cl = 0
          · obtain ⟨l1, l2, l3, l4, l5⟩ := hL hcl
            clear hL
            have hq : (l % 2 == 0) = true := by rw [beq_iff_eq]; exact l3
            have hq2 : (l.tmod 2 == 0) = true := by rw [Int.tmod_eq_emod_of_nonneg (by omega)]; exact hq
            subst hcl
            rcases l5 with rfl | l5
            all_goals
              go_wp2
              all_goals
                go_ret
                exact ⟨rfl, T3⟩
          · clear hL
            go_wp2
            go_ret
            exact ⟨rfl, T3⟩
    · clear hS
      by_cases hcc : cc = 0
      · obtain ⟨k1, k2, k3, k4, k5⟩ := hC hcc
        clear hC
        subst hcc
        by_cases hcl : cl = 0
        · obtain ⟨l1, l2, l3, l4, l5⟩ := hL hcl
          clear hL
          have hq : (l % 2 == 0) = true := by rw [beq_iff_eq]; exact l3
          have hq2 : (l.tmod 2 == 0) = true := by rw [Int.tmod_eq_emod_of_nonneg (by omega)]; exact hq
          subst hcl
          rcases l5 with rfl | l5
          all_goals
            go_wp2
            all_goals
              go_ret
              exact ⟨rfl, T3⟩
        · clear hL
          go_wp2
          go_ret
          exact ⟨rfl, T3⟩
      · clear hC
        by_cases hcl : cl = 0
        · obtain ⟨l1, l2, l3, l4, l5⟩ := hL hcl
          clear hL
          have hq : (l % 2 == 0) = true := by rw [beq_iff_eq]; exact l3
          have hq2 : (l.tmod 2 == 0) = true := by rw [Int.tmod_eq_emod_of_nonneg (by omega)]; exact hq
          subst hcl
          rcases l5 with rfl | l5
          all_goals
            go_wp2
            all_goals
              go_ret
              exact ⟨rfl, T3⟩
        · clear hL
          go_wp2
          go_ret
          exact ⟨rfl, T3⟩
  · have HN : Hid (decide (4096 < n) = true) := by show _ = _; simp; omega
    go_enter Try.func6, Try.ntmps6
    go_wp2_with fail
    (with_reducible refine (big_any _ _ _ _).mono ?_)
    rintro e _ ⟨rfl, rfl⟩
    rw [HN.out]
    go_wp2
    go_ret
    exact ⟨rfl, Below.refl _ _⟩
end Go.Proofs.Ytalfomdpkljpcaa
