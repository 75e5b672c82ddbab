/- Contracts of NearestThread, of the program and of the reference. -/
import Derived.Test.YtoaacipgphoiaaaThrA
import Derived.Test.YtoaacipgphoiaaaThxB
set_option linter.unusedSimpArgs false
set_option linter.unusedVariables false
namespace Go.Proofs.Ytoaacipgphoiaaa
open Go.RowKit

abbrev Thx : Type := Int × Int × Bool × Bool
def thrAt (rs : List Thx) (k : Nat) : Bool := isThr (rs.getD k (0, 0, false, false)).1 (rs.getD k (0, 0, false, false)).2.1
def areT (rs : List Thx) : Bool := (List.range rs.length).all (thrAt rs)
theorem all_range_succT {p : Nat → Bool} {k : Nat} (h : (List.range k).all p = true) (hp : p k = true) : (List.range (k + 1)).all p = true := by
  rw [List.range_succ, List.all_append, h]; simp [hp]
theorem all_range_noT {p : Nat → Bool} {k n : Nat} (hk : k < n) (hp : p k = false) : (List.range n).all p = false := by
  rw [List.all_eq_false]
  exact ⟨k, List.mem_range.2 hk, by simp [hp]⟩
def absI (x : Int) : Int := if x < 0 then -x else x
theorem absI_bd {x : Int} : 0 ≤ absI x ∧ (absI x = x ∨ absI x = -x) := by unfold absI; split <;> omega
def distT (d p : Int) (x : Thx) : Int := absI (10 * x.1 - 10 * d) + absI (x.2.1 - p)
theorem dist_alt (x d : Int) : absI (10 * x - 10 * d) = 10 * absI (x - d) := by unfold absI; split <;> split <;> omega
/-- The index of the first thread that is the nearest among the first k. -/
def nearK (rs : List Thx) (d p : Int) : Nat → Nat
  | 0 => 0
  | k + 1 => if k = 0 then 0 else if distT d p (rs.getD k (0, 0, false, false)) < distT d p (rs.getD (nearK rs d p k) (0, 0, false, false)) then k else nearK rs d p k
theorem nearK_lt (rs : List Thx) (d p : Int) : ∀ k, nearK rs d p k ≤ k := by
  intro k
  induction k with
  | zero => simp [nearK]
  | succ k ih =>
    simp only [nearK]
    split
    · omega
    · split <;> omega
def nearR (rs : List Thx) (d p : Int) : Int × Int := if rs.length ≤ 60 then (if areT rs = true then (if isThr d p = true then (if rs.length = 0 then (0, 4) else ((nearK rs d p rs.length : Int), 0)) else (0, 2)) else (0, 1)) else (0, 1)
theorem tret2_end {r : Int × Int} {x c : Int} (h : r = (x, c)) : Ending.returned (.tuple #[.int .i64 x, .int .i64 c]) = .returned (.tuple #[.int .i64 r.1, .int .i64 r.2]) := by rw [h]
theorem blw_drewN {B : Nat} {a w : World} (h : Below B a w) (n : Nat) : Below B a (w.drewN n) := ⟨h.os, h.tape, h.output, h.size, h.block⟩
theorem tquiet_eq {P : Program} {f : FuncId} {args : Array Value} {w : World} {n : Nat} {v : Value} (h : Calls P f args (w.drewN n) fun e w' => e = .returned v ∧ w.drewN n = w') :
    Calls P f args (w.drewN n) fun e w'' => e = .returned v ∧ ∃ m, w'' = w.drewN m := h.mono fun _ _ ⟨he, hm⟩ => ⟨he, n, hm.symm⟩

set_option maxHeartbeats 800000 in
theorem abs_any (x : Int) (w : World) (h0 : -1000000 ≤ x) (h1 : x ≤ 1000000) :
    Calls Try.prog 51 #[.int .i64 x] w fun e w' => e = .returned (.int .i64 (absI x)) ∧ w = w' := by
  by_cases hx : x < 0
  · go_enter Try.func51, Try.ntmps51
    go_wp2
    all_goals
      go_ret
      exact ⟨ret_int (by unfold absI; split <;> omega), rfl⟩
  · go_enter Try.func51, Try.ntmps51
    go_wp2
    all_goals
      go_ret
      exact ⟨ret_int (by unfold absI; split <;> omega), rfl⟩

set_option maxHeartbeats 800000 in
theorem l01Abs_any (x : Int) (w : World) (h0 : -1000000 ≤ x) (h1 : x ≤ 1000000) :
    Calls Try.prog 50 #[.int .i64 x] w fun e w' => e = .returned (.int .i64 (absI x)) ∧ w = w' := by
  by_cases hx : x < 0
  · go_enter Try.func50, Try.ntmps50
    go_wp2
    all_goals
      go_ret
      exact ⟨ret_int (by unfold absI; split <;> omega), rfl⟩
  · go_enter Try.func50, Try.ntmps50
    go_wp2
    all_goals
      go_ret
      exact ⟨ret_int (by unfold absI; split <;> omega), rfl⟩

set_option maxHeartbeats 800000 in
theorem NearestThread_any (v : Value) (rs : List Thx) (d p : Int) (w : World) (hr : RdThx w v rs) (hn : rs.length ≤ 1048576) :
    Calls Try.prog 30 #[v, .int .i64 d, .int .i64 p] w fun e w' => e = .returned (.tuple #[.int .i64 (nearR rs d p).1, .int .i64 (nearR rs d p).2]) ∧ Below w.heap.size w w' := by
  obtain ⟨a, c, rfl, hr2⟩ := hr.shape
  have HC := Lib.hid hr2.at
  clear hr2 hr
  by_cases h60 : rs.length ≤ 60
  rotate_left
  · have h60' : 60 < rs.length := by omega
    go_enter Try.func30, Try.ntmps30
    go_wp2
    go_ret2
    exact ⟨tret2_end (by unfold nearR; rw [if_neg h60]), Below.refl _ _⟩
  go_enter Try.func30, Try.ntmps30
  go_wp2
  go_loopw [20] (fun i wr => ∃ k : Nat, k ≤ rs.length ∧ i = .int .i64 k ∧ Below w.heap.size w wr ∧ Hid ((List.range k).all (thrAt rs) = true)) (fun i _ => rs.length - (intOf i).toNat)
  case atStart => exact ⟨0, Nat.zero_le _, rfl, Below.refl _ _, rfl⟩
  case round =>
    obtain ⟨k, hk, rfl, hbw, hall⟩ := hrel
    by_cases hlt : k < rs.length
    · skip
      obtain ⟨b, o, rfl, h0, h1, h2, h3⟩ := HC.out k hlt
      have hblt : b < w.heap.size := World.block_lt_of_cell? w _ h0
      have hsz := hbw.size
      have hbr : b < wr.heap.size := by omega
      have c0 : wr.cell? ⟨b, o + k * 4, none⟩ = some (.int .i64 (rs.getD k (0, 0, false, false)).1) := (hbw.cell (p := ⟨b, o + k * 4, none⟩) hblt).trans h0
      have c1 : wr.cell? ⟨b, o + k * 4 + 1, none⟩ = some (.int .i64 (rs.getD k (0, 0, false, false)).2.1) := (hbw.cell (p := ⟨b, o + k * 4 + 1, none⟩) hblt).trans h1
      have c2 : wr.cell? ⟨b, o + k * 4 + 2, none⟩ = some (.bool (rs.getD k (0, 0, false, false)).2.2.1) := (hbw.cell (p := ⟨b, o + k * 4 + 2, none⟩) hblt).trans h2
      have c3 : wr.cell? ⟨b, o + k * 4 + 3, none⟩ = some (.bool (rs.getD k (0, 0, false, false)).2.2.2) := (hbw.cell (p := ⟨b, o + k * 4 + 3, none⟩) hblt).trans h3
      have HN := Lib.hid (fun hp => all_range_noT (p := thrAt rs) hlt hp)
      have HY := Lib.hid (fun hp => all_range_succT (p := thrAt rs) (k := k) hall.out hp)
      have HO : Hid (thrAt rs k = isThr (rs.getD k (0, 0, false, false)).1 (rs.getD k (0, 0, false, false)).2.1) := rfl
      generalize (rs.getD k (0, 0, false, false)) = x at *
      obtain ⟨xd, xp, xl, xi⟩ := x
      simp only at c0 c1 c2 c3
      clear h0 h1 h2 h3
      cases hT : isThr xd xp
      · have HF : Hid (nearR rs d p = (0, 1)) := by
          show _ = _
          have h9 := HN.out (HO.out.trans hT)
          unfold nearR areT; rw [h9]; split <;> simp
        go_wp2_with (first | (go_at_call 15; (with_reducible refine (IsThread_any _ _ _ _ _).mono ?_); rintro e w' ⟨rfl, hb⟩; obtain ⟨hc, hf⟩ := bcell hb; have hz := hb.size; (try simp only [World.size_alloc, World.size_drew] at hz); (try have hz0 : w.heap.size < w'.heap.size := by omega); (try have hz1 : w.heap.size + 1 < w'.heap.size := by omega)))
        go_ret2
        exact ⟨tret2_end HF.out, (by repeat (first | (with_reducible assumption) | (with_reducible exact Below.refl _ _) | (with_reducible refine Below.drew ?_) | (with_reducible refine blw_al ?_ _) | (with_reducible refine blw_stp (by with_reducible assumption) ?_) | (with_reducible refine blw_set ?_ (by dsimp only; omega) _)))⟩
      · have HF := Lib.hid (HY.out (HO.out.trans hT))
        go_wp2_with (first | (go_at_call 15; (with_reducible refine (IsThread_any _ _ _ _ _).mono ?_); rintro e w' ⟨rfl, hb⟩; obtain ⟨hc, hf⟩ := bcell hb; have hz := hb.size; (try simp only [World.size_alloc, World.size_drew] at hz); (try have hz0 : w.heap.size < w'.heap.size := by omega); (try have hz1 : w.heap.size + 1 < w'.heap.size := by omega)))
        go_roundw
        case rel => exact ⟨k + 1, by omega, by go_num, (by repeat (first | (with_reducible assumption) | (with_reducible exact Below.refl _ _) | (with_reducible refine Below.drew ?_) | (with_reducible refine blw_al ?_ _) | (with_reducible refine blw_stp (by with_reducible assumption) ?_) | (with_reducible refine blw_set ?_ (by dsimp only; omega) _))), HF⟩
        case measure => simp [intOf]; omega
    · obtain rfl : k = rs.length := by omega
      have HA : Hid (areT rs = true) := hall
      clear hall
      cases hD : inR d 10 1000
      · have HF : Hid (nearR rs d p = (0, 2)) := by
          show _ = _
          unfold nearR; rw [if_pos h60, if_pos HA.out, if_neg (by simp [isThr, hD])]
        go_wp2_with (first | (go_at_call 41; (with_reducible refine (isThreadDiameter_any _ _).mono ?_); rintro e w' ⟨rfl, rfl⟩) | (go_at_call 42; (with_reducible refine (isThreadPitch_any _ _).mono ?_); rintro e w' ⟨rfl, rfl⟩))
        go_ret2
        exact ⟨tret2_end HF.out, (by repeat (first | (with_reducible assumption) | (with_reducible exact Below.refl _ _) | (with_reducible refine Below.drew ?_) | (with_reducible refine blw_al ?_ _) | (with_reducible refine blw_stp (by with_reducible assumption) ?_) | (with_reducible refine blw_set ?_ (by dsimp only; omega) _)))⟩
      cases hP : inR p 20 500
      · have HF : Hid (nearR rs d p = (0, 2)) := by
          show _ = _
          unfold nearR; rw [if_pos h60, if_pos HA.out, if_neg (by simp [isThr, hP])]
        go_wp2_with (first | (go_at_call 41; (with_reducible refine (isThreadDiameter_any _ _).mono ?_); rintro e w' ⟨rfl, rfl⟩) | (go_at_call 42; (with_reducible refine (isThreadPitch_any _ _).mono ?_); rintro e w' ⟨rfl, rfl⟩))
        go_ret2
        exact ⟨tret2_end HF.out, (by repeat (first | (with_reducible assumption) | (with_reducible exact Below.refl _ _) | (with_reducible refine Below.drew ?_) | (with_reducible refine blw_al ?_ _) | (with_reducible refine blw_stp (by with_reducible assumption) ?_) | (with_reducible refine blw_set ?_ (by dsimp only; omega) _)))⟩
      have HT : Hid (isThr d p = true) := by show _ = _; simp [isThr, hD, hP]
      obtain ⟨w1, w2, w3, w4⟩ := isThr_bd HT.out
      have HB : Hid (∀ k, k < rs.length → 10 ≤ (rs.getD k (0, 0, false, false)).1 ∧ (rs.getD k (0, 0, false, false)).1 ≤ 1000 ∧ 20 ≤ (rs.getD k (0, 0, false, false)).2.1 ∧ (rs.getD k (0, 0, false, false)).2.1 ≤ 500) := by
        intro k hk
        have h9 := HA.out
        unfold areT at h9
        rw [List.all_eq_true] at h9
        exact isThr_bd (h9 k (List.mem_range.2 hk))
      go_wp2_with (first | (go_at_call 41; (with_reducible refine (isThreadDiameter_any _ _).mono ?_); rintro e w' ⟨rfl, rfl⟩) | (go_at_call 42; (with_reducible refine (isThreadPitch_any _ _).mono ?_); rintro e w' ⟨rfl, rfl⟩))
      clear hD hP
      obtain ⟨wo, rfl⟩ : ∃ wo : World, wo = wr := ⟨_, rfl⟩
      go_loopw [10, 11, 38] (fun bq lq i wr => ∃ k : Nat, k ≤ rs.length ∧ i = .int .i64 k ∧ Below wo.heap.size wo wr ∧ ((k = 0 ∧ bq = .int .i64 (-1) ∧ lq = .int .i64 (0)) ∨ (0 < k ∧ bq = .int .i64 (nearK rs d p k : Nat) ∧ lq = .int .i64 (distT d p (rs.getD (nearK rs d p k) (0, 0, false, false)))))) (fun _ _ i _ => rs.length - (intOf i).toNat)
      case atStart => exact ⟨0, Nat.zero_le _, rfl, Below.refl _ _, Or.inl ⟨rfl, rfl, rfl⟩⟩
      case round =>
        obtain ⟨k, hk, rfl, hb2, hcase⟩ := hrel
        by_cases hlt : k < rs.length
        · have hbw3 : Below w.heap.size w wr := hbw.trans (hb2.mono hbw.size)
          obtain ⟨v1, v2, v3, v4⟩ := HB.out k hlt
          obtain ⟨b, o, rfl, h0, h1, h2, h3⟩ := HC.out k hlt
          have hblt : b < w.heap.size := World.block_lt_of_cell? w _ h0
          have hsz := hbw3.size
          have hbr : b < wr.heap.size := by omega
          have c0 : wr.cell? ⟨b, o + k * 4, none⟩ = some (.int .i64 (rs.getD k (0, 0, false, false)).1) := (hbw3.cell (p := ⟨b, o + k * 4, none⟩) hblt).trans h0
          have c1 : wr.cell? ⟨b, o + k * 4 + 1, none⟩ = some (.int .i64 (rs.getD k (0, 0, false, false)).2.1) := (hbw3.cell (p := ⟨b, o + k * 4 + 1, none⟩) hblt).trans h1
          have c2 : wr.cell? ⟨b, o + k * 4 + 2, none⟩ = some (.bool (rs.getD k (0, 0, false, false)).2.2.1) := (hbw3.cell (p := ⟨b, o + k * 4 + 2, none⟩) hblt).trans h2
          have c3 : wr.cell? ⟨b, o + k * 4 + 3, none⟩ = some (.bool (rs.getD k (0, 0, false, false)).2.2.2) := (hbw3.cell (p := ⟨b, o + k * 4 + 3, none⟩) hblt).trans h3
          have E1 : Hid (nearK rs d p (k + 1) = if k = 0 then 0 else if distT d p (rs.getD k (0, 0, false, false)) < distT d p (rs.getD (nearK rs d p k) (0, 0, false, false)) then k else nearK rs d p k) := rfl
          obtain ⟨x, hx⟩ : ∃ x, x = rs.getD k (0, 0, false, false) := ⟨_, rfl⟩
          rw [← hx] at c0 c1 c2 c3 v1 v2 v3 v4 E1
          have HX := Lib.hid hx
          obtain ⟨xd, xp, xl, xi⟩ := x
          simp only at c0 c1 c2 c3 v1 v2 v3 v4
          clear h0 h1 h2 h3 hx
          have hlt' : (k : Int) < (rs.length : Int) := by omega
          have hk0 : (0 : Int) ≤ (k : Int) := by omega
          obtain ⟨u1, u2⟩ := absI_bd (x := 10 * xd - 10 * d)
          obtain ⟨u3, u4⟩ := absI_bd (x := xp - p)
          have HDV : Hid (distT d p (xd, xp, xl, xi) = absI (10 * xd - 10 * d) + absI (xp - p)) := rfl
          have k1 : IntKind.i64.wrap (10 * xd) = 10 * xd := IntWalk.i64_in _ (by omega)
          have k2 : IntKind.i64.wrap (10 * d) = 10 * d := IntWalk.i64_in _ (by omega)
          have k3 : IntKind.i64.wrap (10 * xd - 10 * d) = 10 * xd - 10 * d := IntWalk.i64_in _ (by omega)
          have k4 : IntKind.i64.wrap (xp - p) = xp - p := IntWalk.i64_in _ (by omega)
          have k5 : IntKind.i64.wrap (absI (10 * xd - 10 * d) + absI (xp - p)) = absI (10 * xd - 10 * d) + absI (xp - p) := IntWalk.i64_in _ (by omega)
          rcases hcase with ⟨rfl, rfl, rfl⟩ | ⟨hpos, rfl, rfl⟩
          · have E2 : Hid (nearK rs d p (0 + 1) = 0) := by show _ = _; rw [E1.out]; exact if_pos rfl
            clear E1
            simp only [Nat.zero_mul, Nat.add_zero] at c0 c1 c2 c3
            go_wp2
            go_quiet ((first | (go_at_call 51; exact tquiet_eq (abs_any _ _ (by omega) (by omega)))))
            go_wp2
            go_roundw
            case rel => exact ⟨0 + 1, by omega, by go_num, (by repeat (first | (with_reducible refine blw_drewN ?_ _) | (with_reducible assumption) | (with_reducible exact Below.refl _ _) | (with_reducible refine Below.drew ?_) | (with_reducible refine blw_al ?_ _) | (with_reducible refine blw_stp (by with_reducible assumption) ?_) | (with_reducible refine blw_set ?_ (by dsimp only; omega) _))), Or.inr ⟨by omega, by rw [E2.out] <;> go_num, by rw [E2.out, ← HX.out, HDV.out]⟩⟩
            case measure => simp [intOf]; omega
          · have hm0 : (0 : Int) ≤ ((nearK rs d p k : Nat) : Int) := by omega
            have hmk := nearK_lt rs d p k
            have hdn : 0 ≤ distT d p (rs.getD (nearK rs d p k) (0, 0, false, false)) := by
              have q1 := (absI_bd (x := 10 * (rs.getD (nearK rs d p k) (0, 0, false, false)).1 - 10 * d)).1
              have q2 := (absI_bd (x := (rs.getD (nearK rs d p k) (0, 0, false, false)).2.1 - p)).1
              unfold distT
              omega
            by_cases hg : distT d p (xd, xp, xl, xi) < distT d p (rs.getD (nearK rs d p k) (0, 0, false, false))
            · have E2 : Hid (nearK rs d p (k + 1) = k) := by show _ = _; rw [E1.out, if_neg (by omega)]; exact if_pos hg
              rw [HDV.out] at hg
              clear E1
              generalize distT d p (rs.getD (nearK rs d p k) (0, 0, false, false)) = ld at *
              generalize nearK rs d p k = mk at *
              go_wp2
              go_quiet ((first | (go_at_call 51; exact tquiet_eq (abs_any _ _ (by omega) (by omega)))))
              go_wp2
              go_roundw
              case rel => exact ⟨k + 1, by omega, by go_num, (by repeat (first | (with_reducible refine blw_drewN ?_ _) | (with_reducible assumption) | (with_reducible exact Below.refl _ _) | (with_reducible refine Below.drew ?_) | (with_reducible refine blw_al ?_ _) | (with_reducible refine blw_stp (by with_reducible assumption) ?_) | (with_reducible refine blw_set ?_ (by dsimp only; omega) _))), Or.inr ⟨by omega, by rw [E2.out], by rw [E2.out, ← HX.out, HDV.out]⟩⟩
              case measure => simp [intOf]; omega
            · have E2 : Hid (nearK rs d p (k + 1) = nearK rs d p k) := by show _ = _; rw [E1.out, if_neg (by omega)]; exact if_neg hg
              rw [HDV.out] at hg
              clear E1
              obtain ⟨ld, hld⟩ : ∃ ld, ld = distT d p (rs.getD (nearK rs d p k) (0, 0, false, false)) := ⟨_, rfl⟩
              obtain ⟨mk, hmk2⟩ : ∃ mk, mk = nearK rs d p k := ⟨_, rfl⟩
              rw [← hld] at hg hdn
              rw [← hmk2] at hm0 hmk
              rw [← hld, ← hmk2]
              have HLD := Lib.hid hld
              have HMK := Lib.hid hmk2
              clear hld hmk2
              go_wp2
              go_quiet ((first | (go_at_call 51; exact tquiet_eq (abs_any _ _ (by omega) (by omega)))))
              go_wp2
              go_roundw
              case rel => exact ⟨k + 1, by omega, by go_num, (by repeat (first | (with_reducible refine blw_drewN ?_ _) | (with_reducible assumption) | (with_reducible exact Below.refl _ _) | (with_reducible refine Below.drew ?_) | (with_reducible refine blw_al ?_ _) | (with_reducible refine blw_stp (by with_reducible assumption) ?_) | (with_reducible refine blw_set ?_ (by dsimp only; omega) _))), Or.inr ⟨by omega, by rw [E2.out, HMK.out], by rw [E2.out, HLD.out]⟩⟩
              case measure => simp [intOf]; omega
        · obtain rfl : k = rs.length := by omega
          rcases hcase with ⟨h0, rfl, rfl⟩ | ⟨hpos, rfl, rfl⟩
          · have HF : Hid (nearR rs d p = (0, 4)) := by
              show _ = _
              unfold nearR; rw [if_pos h60, if_pos HA.out, if_pos HT.out, if_pos h0]
            clear h0
            go_wp2
            go_ret2
            exact ⟨tret2_end HF.out, (by repeat (first | (with_reducible assumption) | (with_reducible exact Below.refl _ _) | (with_reducible refine Below.drew ?_) | (with_reducible refine blw_al ?_ _) | (with_reducible refine blw_stp (by with_reducible assumption) ?_) | (with_reducible refine blw_set ?_ (by dsimp only; omega) _)))⟩
          · have HF : Hid (nearR rs d p = ((nearK rs d p rs.length : Int), 0)) := by
              show _ = _
              unfold nearR; rw [if_pos h60, if_pos HA.out, if_pos HT.out, if_neg (by omega)]
            generalize nearK rs d p rs.length = mk at *
            go_wp2
            go_ret2
            exact ⟨tret2_end HF.out, (by repeat (first | (with_reducible assumption) | (with_reducible exact Below.refl _ _) | (with_reducible refine Below.drew ?_) | (with_reducible refine blw_al ?_ _) | (with_reducible refine blw_stp (by with_reducible assumption) ?_) | (with_reducible refine blw_set ?_ (by dsimp only; omega) _)))⟩
end Go.Proofs.Ytoaacipgphoiaaa
