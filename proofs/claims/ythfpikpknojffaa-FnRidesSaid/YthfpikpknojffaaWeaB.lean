/- Contracts of wearOf, WearOf, WetShare, LongestRide, of the program and of the reference. -/
import Derived.Test.YthfpikpknojffaaWeaA
set_option linter.unusedSimpArgs false
set_option linter.unusedVariables false
namespace Go.Proofs.Ythfpikpknojffaa
open Go.RowKit

def wear1 (r : Rid) : Int := if r.2.2 = true then 3 * r.2.1 else r.2.1
/-- The wear of the first k rides. -/
def wearK (rs : List Rid) : Nat → Int
  | 0 => 0
  | k + 1 => wearK rs k + wear1 (rs.getD k (0, 0, false))
def tensK (rs : List Rid) : Nat → Int
  | 0 => 0
  | k + 1 => tensK rs k + (rs.getD k (0, 0, false)).2.1
def wetK (rs : List Rid) : Nat → Int
  | 0 => 0
  | k + 1 => wetK rs k + (if (rs.getD k (0, 0, false)).2.2 = true then (rs.getD k (0, 0, false)).2.1 else 0)
/-- What is known of rides. -/
theorem areR_at {rs : List Rid} (h : areR rs = true) : rs.length ≤ 40 ∧ ∀ k, k < rs.length → 0 ≤ (rs.getD k (0, 0, false)).1 ∧ (rs.getD k (0, 0, false)).1 ≤ 100000 ∧ 1 ≤ (rs.getD k (0, 0, false)).2.1 ∧ (rs.getD k (0, 0, false)).2.1 ≤ 10000 ∧ (0 < k → (rs.getD (k - 1) (0, 0, false)).1 ≤ (rs.getD k (0, 0, false)).1) := by
  unfold areR at h
  simp only [Bool.and_eq_true, decide_eq_true_eq, List.all_eq_true, List.mem_range] at h
  refine ⟨h.1, fun k hk => ?_⟩
  have := h.2 k hk
  unfold okAt at this
  simp only [Bool.and_eq_true, Bool.or_eq_true, decide_eq_true_eq, inR_iff] at this
  exact ⟨this.1.1, this.1.2, this.2.1.1, this.2.1.2, fun hp => this.2.2.resolve_left (by omega)⟩
theorem wear1_bd {r : Rid} (h1 : 1 ≤ r.2.1) (h2 : r.2.1 ≤ 10000) : 1 ≤ wear1 r ∧ wear1 r ≤ 30000 := by
  unfold wear1; split <;> omega
theorem wearK_bd {rs : List Rid} (h : areR rs = true) : ∀ k, k ≤ rs.length → (k : Int) ≤ wearK rs k ∧ wearK rs k ≤ 30000 * k := by
  intro k
  induction k with
  | zero => intro _; simp [wearK]
  | succ k ih =>
    intro hk
    have := ih (by omega)
    have h1 := (areR_at h).2 k (by omega)
    have := wear1_bd h1.2.2.1 h1.2.2.2.1
    simp only [wearK]
    omega
theorem tensK_bd {rs : List Rid} (h : areR rs = true) : ∀ k, k ≤ rs.length → (k : Int) ≤ tensK rs k ∧ tensK rs k ≤ 10000 * k := by
  intro k
  induction k with
  | zero => intro _; simp [tensK]
  | succ k ih =>
    intro hk
    have := ih (by omega)
    have h1 := (areR_at h).2 k (by omega)
    simp only [tensK]
    omega
theorem wetK_bd {rs : List Rid} (h : areR rs = true) : ∀ k, k ≤ rs.length → 0 ≤ wetK rs k ∧ wetK rs k ≤ tensK rs k := by
  intro k
  induction k with
  | zero => intro _; simp [wetK, tensK]
  | succ k ih =>
    intro hk
    have := ih (by omega)
    have h1 := (areR_at h).2 k (by omega)
    simp only [wetK, tensK]
    split <;> omega
def wearRR (rs : List Rid) : Int × Int := if areR rs = true then (wearK rs rs.length, 0) else (0, 1)
def wetR (rs : List Rid) : Int × Int := if areR rs = true then (if tensK rs rs.length = 0 then (0, 0) else (1000 * wetK rs rs.length / tensK rs rs.length, 0)) else (0, 1)
/-- The index of the first ride that is the longest among the first k. -/
def bestK (rs : List Rid) : Nat → Nat
  | 0 => 0
  | k + 1 => if (rs.getD (bestK rs k) (0, 0, false)).2.1 < (rs.getD k (0, 0, false)).2.1 then k else bestK rs k
theorem bestK_lt (rs : List Rid) : ∀ k, 0 < rs.length → k ≤ rs.length → bestK rs k < rs.length := by
  intro k
  induction k with
  | zero => intro h _; exact h
  | succ k ih =>
    intro h hk
    simp only [bestK]
    split
    · omega
    · exact ih h (by omega)
def longR (rs : List Rid) : Int × Int := if areR rs = true then (if rs.length = 0 then (0, 4) else ((bestK rs rs.length : Int), 0)) else (0, 1)
theorem ret2_end {r : Int × Int} {x c : Int} (h : r = (x, c)) : Ending.returned (.tuple #[.int .i64 x, .int .i64 c]) = .returned (.tuple #[.int .i64 r.1, .int .i64 r.2]) := by rw [h]

set_option maxHeartbeats 800000 in
theorem wearOfRide_any (d t : Int) (wt : Bool) (w : World) (h1 : 1 ≤ t) (h2 : t ≤ 10000) :
    Calls Try.prog 64 #[.agg #[.int .i64 d, .int .i64 t, .bool wt]] w fun e w' => e = .returned (.int .i64 (wear1 (d, t, wt))) ∧ Below w.heap.size w w' := by
  cases wt
  · go_enter Try.func64, Try.ntmps64
    go_wp2
    go_ret
    exact ⟨ret_int (by simp [wear1]), (by repeat (first | (with_reducible assumption) | (with_reducible exact Below.refl _ _) | (with_reducible refine Below.drew ?_) | (with_reducible refine blw_al ?_ _) | (with_reducible refine blw_stp (by with_reducible assumption) ?_) | (with_reducible refine blw_set ?_ (by dsimp only; omega) _)))⟩
  · go_enter Try.func64, Try.ntmps64
    go_wp2
    go_ret
    exact ⟨ret_int (by simp [wear1]), (by repeat (first | (with_reducible assumption) | (with_reducible exact Below.refl _ _) | (with_reducible refine Below.drew ?_) | (with_reducible refine blw_al ?_ _) | (with_reducible refine blw_stp (by with_reducible assumption) ?_) | (with_reducible refine blw_set ?_ (by dsimp only; omega) _)))⟩

set_option maxHeartbeats 800000 in
theorem l12Of_any (d t : Int) (wt : Bool) (w : World) (h1 : 1 ≤ t) (h2 : t ≤ 10000) :
    Calls Try.prog 56 #[.agg #[.int .i64 d, .int .i64 t, .bool wt]] w fun e w' => e = .returned (.int .i64 (wear1 (d, t, wt))) ∧ Below w.heap.size w w' := by
  cases wt
  · go_enter Try.func56, Try.ntmps56
    go_wp2
    go_ret
    exact ⟨ret_int (by simp [wear1]), (by repeat (first | (with_reducible assumption) | (with_reducible exact Below.refl _ _) | (with_reducible refine Below.drew ?_) | (with_reducible refine blw_al ?_ _) | (with_reducible refine blw_stp (by with_reducible assumption) ?_) | (with_reducible refine blw_set ?_ (by dsimp only; omega) _)))⟩
  · go_enter Try.func56, Try.ntmps56
    go_wp2
    go_ret
    exact ⟨ret_int (by simp [wear1]), (by repeat (first | (with_reducible assumption) | (with_reducible exact Below.refl _ _) | (with_reducible refine Below.drew ?_) | (with_reducible refine blw_al ?_ _) | (with_reducible refine blw_stp (by with_reducible assumption) ?_) | (with_reducible refine blw_set ?_ (by dsimp only; omega) _)))⟩

set_option maxHeartbeats 800000 in
theorem wearOf_any (v : Value) (rs : List Rid) (w : World) (hr : RdRid w v rs) (hA : areR rs = true) :
    Calls Try.prog 51 #[v] w fun e w' => e = .returned (.int .i64 (wearK rs rs.length)) ∧ Below w.heap.size w w' := by
  obtain ⟨hn, hat⟩ := areR_at hA
  have HAT := Lib.hid hat
  have HB := Lib.hid (wearK_bd hA)
  clear hat hA
  obtain ⟨a, c, rfl, hcell⟩ := hr
  have HC := Lib.hid hcell
  clear hcell
  go_enter Try.func51, Try.ntmps51
  go_wp2
  go_loopw [3, 8] (fun q i wr => ∃ k : Nat, k ≤ rs.length ∧ i = .int .i64 k ∧ q = .int .i64 (wearK rs k) ∧ Below w.heap.size w wr) (fun _ i _ => rs.length - (intOf i).toNat)
  case atStart => exact ⟨0, Nat.zero_le _, rfl, rfl, Below.refl _ _⟩
  case round =>
    obtain ⟨k, hk, rfl, rfl, hbw⟩ := hrel
    by_cases hlt : k < rs.length
    · skip
      obtain ⟨b, o, rfl, h0, h1, h2⟩ := HC.out k hlt
      have hblt : b < w.heap.size := World.block_lt_of_cell? w _ h0
      have hsz := hbw.size
      have hbr : b < wr.heap.size := by omega
      have c0 : wr.cell? ⟨b, o + k * 3, none⟩ = some (.int .i64 (rs.getD k (0, 0, false)).1) := (hbw.cell (p := ⟨b, o + k * 3, none⟩) hblt).trans h0
      have c1 : wr.cell? ⟨b, o + k * 3 + 1, none⟩ = some (.int .i64 (rs.getD k (0, 0, false)).2.1) := (hbw.cell (p := ⟨b, o + k * 3 + 1, none⟩) hblt).trans h1
      have c2 : wr.cell? ⟨b, o + k * 3 + 2, none⟩ = some (.bool (rs.getD k (0, 0, false)).2.2) := (hbw.cell (p := ⟨b, o + k * 3 + 2, none⟩) hblt).trans h2
      obtain ⟨-, -, t1, t2, -⟩ := HAT.out k hlt
      obtain ⟨w1, w2⟩ := HB.out k hk
      have HW : Hid (wearK rs (k + 1) = wearK rs k + wear1 (rs.getD k (0, 0, false))) := rfl
      have hw := wear1_bd t1 t2
      obtain ⟨y1, y2⟩ := hw
      generalize (rs.getD k (0, 0, false)) = x at *
      obtain ⟨d, t, wt⟩ := x
      simp only at c0 c1 c2 t1 t2
      clear h0 h1 h2
      generalize wearK rs k = q at *
      go_wp2_with (go_at_call 64; (with_reducible refine (wearOfRide_any _ _ _ _ (by omega) (by omega)).mono ?_); rintro e w' ⟨rfl, hb⟩; obtain ⟨hc, hf⟩ := bcell hb; have hz := hb.size; (try simp only [World.size_alloc, World.size_drew] at hz); (try have hz0 : w.heap.size < w'.heap.size := by omega); (try have hz1 : w.heap.size + 1 < w'.heap.size := by omega))
      go_roundw
      case rel => exact ⟨k + 1, by omega, by go_num, by rw [HW.out], (by repeat (first | (with_reducible assumption) | (with_reducible exact Below.refl _ _) | (with_reducible refine Below.drew ?_) | (with_reducible refine blw_al ?_ _) | (with_reducible refine blw_stp (by with_reducible assumption) ?_) | (with_reducible refine blw_set ?_ (by dsimp only; omega) _)))⟩
      case measure => simp [intOf]; omega
    · obtain rfl : k = rs.length := by omega
      go_wp2
      go_ret
      exact ⟨rfl, hbw⟩

set_option maxHeartbeats 800000 in
theorem l12Wear_any (v : Value) (rs : List Rid) (w : World) (hr : RdRid w v rs) (hA : areR rs = true) :
    Calls Try.prog 50 #[v] w fun e w' => e = .returned (.int .i64 (wearK rs rs.length)) ∧ Below w.heap.size w w' := by
  obtain ⟨hn, hat⟩ := areR_at hA
  have HAT := Lib.hid hat
  have HB := Lib.hid (wearK_bd hA)
  clear hat hA
  obtain ⟨a, c, rfl, hcell⟩ := hr
  have HC := Lib.hid hcell
  clear hcell
  go_enter Try.func50, Try.ntmps50
  go_wp2
  go_loopw [3, 4] (fun q i wr => ∃ k : Nat, k ≤ rs.length ∧ i = .int .i64 k ∧ q = .int .i64 (wearK rs k) ∧ Below w.heap.size w wr) (fun _ i _ => rs.length - (intOf i).toNat)
  case atStart => exact ⟨0, Nat.zero_le _, rfl, rfl, Below.refl _ _⟩
  case round =>
    obtain ⟨k, hk, rfl, rfl, hbw⟩ := hrel
    by_cases hlt : k < rs.length
    · skip
      obtain ⟨b, o, rfl, h0, h1, h2⟩ := HC.out k hlt
      have hblt : b < w.heap.size := World.block_lt_of_cell? w _ h0
      have hsz := hbw.size
      have hbr : b < wr.heap.size := by omega
      have c0 : wr.cell? ⟨b, o + k * 3, none⟩ = some (.int .i64 (rs.getD k (0, 0, false)).1) := (hbw.cell (p := ⟨b, o + k * 3, none⟩) hblt).trans h0
      have c1 : wr.cell? ⟨b, o + k * 3 + 1, none⟩ = some (.int .i64 (rs.getD k (0, 0, false)).2.1) := (hbw.cell (p := ⟨b, o + k * 3 + 1, none⟩) hblt).trans h1
      have c2 : wr.cell? ⟨b, o + k * 3 + 2, none⟩ = some (.bool (rs.getD k (0, 0, false)).2.2) := (hbw.cell (p := ⟨b, o + k * 3 + 2, none⟩) hblt).trans h2
      obtain ⟨-, -, t1, t2, -⟩ := HAT.out k hlt
      obtain ⟨w1, w2⟩ := HB.out k hk
      have HW : Hid (wearK rs (k + 1) = wearK rs k + wear1 (rs.getD k (0, 0, false))) := rfl
      have hw := wear1_bd t1 t2
      obtain ⟨y1, y2⟩ := hw
      generalize (rs.getD k (0, 0, false)) = x at *
      obtain ⟨d, t, wt⟩ := x
      simp only at c0 c1 c2 t1 t2
      clear h0 h1 h2
      generalize wearK rs k = q at *
      go_wp2_with (go_at_call 56; (with_reducible refine (l12Of_any _ _ _ _ (by omega) (by omega)).mono ?_); rintro e w' ⟨rfl, hb⟩; obtain ⟨hc, hf⟩ := bcell hb; have hz := hb.size; (try simp only [World.size_alloc, World.size_drew] at hz); (try have hz0 : w.heap.size < w'.heap.size := by omega); (try have hz1 : w.heap.size + 1 < w'.heap.size := by omega))
      go_roundw
      case rel => exact ⟨k + 1, by omega, by go_num, by rw [HW.out], (by repeat (first | (with_reducible assumption) | (with_reducible exact Below.refl _ _) | (with_reducible refine Below.drew ?_) | (with_reducible refine blw_al ?_ _) | (with_reducible refine blw_stp (by with_reducible assumption) ?_) | (with_reducible refine blw_set ?_ (by dsimp only; omega) _)))⟩
      case measure => simp [intOf]; omega
    · obtain rfl : k = rs.length := by omega
      go_wp2
      go_ret
      exact ⟨rfl, hbw⟩

set_option maxHeartbeats 800000 in
theorem WearOf_any (v : Value) (rs : List Rid) (w : World) (hr : RdRid w v rs) (hn : rs.length ≤ 1048576) :
    Calls Try.prog 24 #[v] w fun e w' => e = .returned (.tuple #[.int .i64 (wearRR rs).1, .int .i64 (wearRR rs).2]) ∧ Below w.heap.size w w' := by
  have HR := Lib.hid hr
  clear hr
  cases hA : areR rs
  · have HA := Lib.hid hA
    clear hA
    go_enter Try.func24, Try.ntmps24
    go_wp2_with fail
    (with_reducible refine (AreRides_any _ rs _ HR.out hn).mono ?_)
    rintro e w1 ⟨rfl, hb1⟩
    rw [HA.out]
    go_wp2
    go_ret2
    exact ⟨ret2_end (by unfold wearRR; rw [if_neg (by rw [HA.out]; simp)]), hb1⟩
  · have HA := Lib.hid hA
    clear hA
    go_enter Try.func24, Try.ntmps24
    go_wp2_with fail
    (with_reducible refine (AreRides_any _ rs _ HR.out hn).mono ?_)
    rintro e w1 ⟨rfl, hb1⟩
    rw [HA.out]
    have HR1 := Lib.hid (HR.out.below hb1)
    go_wp2_with fail
    (with_reducible refine (wearOf_any _ rs _ HR1.out HA.out).mono ?_)
    rintro e w2 ⟨rfl, hb2⟩
    go_wp2
    go_ret2
    exact ⟨ret2_end (by unfold wearRR; rw [if_pos HA.out]), (by repeat (first | (with_reducible assumption) | (with_reducible exact Below.refl _ _) | (with_reducible refine Below.drew ?_) | (with_reducible refine blw_al ?_ _) | (with_reducible refine blw_stp (by with_reducible assumption) ?_) | (with_reducible refine blw_set ?_ (by dsimp only; omega) _)))⟩

set_option maxHeartbeats 800000 in
theorem sWearOf_any (v : Value) (rs : List Rid) (w : World) (hr : RdRid w v rs) (hn : rs.length ≤ 1048576) :
    Calls Try.prog 23 #[v] w fun e w' => e = .returned (.tuple #[.int .i64 (wearRR rs).1, .int .i64 (wearRR rs).2]) ∧ Below w.heap.size w w' := by
  have HR := Lib.hid hr
  clear hr
  cases hA : areR rs
  · have HA := Lib.hid hA
    clear hA
    go_enter Try.func23, Try.ntmps23
    go_wp2_with fail
    (with_reducible refine (sAreRides_any _ rs _ HR.out hn).mono ?_)
    rintro e w1 ⟨rfl, hb1⟩
    rw [HA.out]
    go_wp2
    go_ret2
    exact ⟨ret2_end (by unfold wearRR; rw [if_neg (by rw [HA.out]; simp)]), hb1⟩
  · have HA := Lib.hid hA
    clear hA
    go_enter Try.func23, Try.ntmps23
    go_wp2_with fail
    (with_reducible refine (sAreRides_any _ rs _ HR.out hn).mono ?_)
    rintro e w1 ⟨rfl, hb1⟩
    rw [HA.out]
    have HR1 := Lib.hid (HR.out.below hb1)
    go_wp2_with fail
    (with_reducible refine (l12Wear_any _ rs _ HR1.out HA.out).mono ?_)
    rintro e w2 ⟨rfl, hb2⟩
    go_wp2
    go_ret2
    exact ⟨ret2_end (by unfold wearRR; rw [if_pos HA.out]), (by repeat (first | (with_reducible assumption) | (with_reducible exact Below.refl _ _) | (with_reducible refine Below.drew ?_) | (with_reducible refine blw_al ?_ _) | (with_reducible refine blw_stp (by with_reducible assumption) ?_) | (with_reducible refine blw_set ?_ (by dsimp only; omega) _)))⟩

end Go.Proofs.Ythfpikpknojffaa
