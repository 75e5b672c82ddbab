/- Contracts of the exported functions on brakes that search or compare, of the program and of the reference. -/
import Derived.Test.YtfgokehoanlobaaBrkC
set_option linter.unusedSimpArgs false
set_option linter.unusedVariables false
namespace Go.Proofs.Ytfgokehoanlobaa
open Go.RowKit

/-- The first of n numbers from i on that has p. -/
def firstUp (p : Int → Bool) (i : Int) : Nat → Option Int
  | 0 => none
  | n + 1 => if p i = true then some i else firstUp p (i + 1) n
/-- The first of n numbers from i down that has p. -/
def firstDown (p : Int → Bool) (i : Int) : Nat → Option Int
  | 0 => none
  | n + 1 => if p i = true then some i else firstDown p (i - 1) n
theorem firstUp_yes {p : Int → Bool} {i : Int} {n : Nat} (h : p i = true) : firstUp p i (n + 1) = some i := by simp [firstUp, h]
theorem firstUp_no {p : Int → Bool} {i : Int} {n : Nat} (h : p i = false) : firstUp p i (n + 1) = firstUp p (i + 1) n := by simp [firstUp, h]
theorem firstDown_yes {p : Int → Bool} {i : Int} {n : Nat} (h : p i = true) : firstDown p i (n + 1) = some i := by simp [firstDown, h]
theorem firstDown_no {p : Int → Bool} {i : Int} {n : Nat} (h : p i = false) : firstDown p i (n + 1) = firstDown p (i - 1) n := by simp [firstDown, h]
/-- What a search returns: the number and no error, or 0 and 'not found'. -/
def ffR : Option Int → Int × Int
  | some x => (x, 0)
  | none => (0, 4)
def gripP (l a s g : Int) : Int → Bool := fun f => decide (g ≤ grip l a s f)
def travP (l a t f v : Int) : Int → Bool := fun g => decide (travel l a t f g ≤ v)
def forceR (l a t s g : Int) : Int × Int := if isBrk l a t s = true then (if inR g 0 100000 = true then ffR (firstUp (gripP l a s g) 0 1001) else (0, 2)) else (0, 1)
def gapR (l a t s f v : Int) : Int × Int := if isBrk l a t s = true then (if inR f 0 1000 = true then (if inR v 0 1000000 = true then ffR (firstDown (travP l a t f v) 5000 5001) else (0, 2)) else (0, 2)) else (0, 1)
theorem forceR_end {l a t s g : Int} {o : Option Int} {x y : Int} (hB : isBrk l a t s = true) (hG : inR g 0 100000 = true) (h : firstUp (gripP l a s g) 0 1001 = o) (hx : ffR o = (x, y)) :
    Ending.returned (.tuple #[.int .i64 x, .int .i64 y]) = .returned (.tuple #[.int .i64 (forceR l a t s g).1, .int .i64 (forceR l a t s g).2]) := by
  unfold forceR; rw [if_pos hB, if_pos hG, h, hx]
theorem gapR_end {l a t s f v : Int} {o : Option Int} {x y : Int} (hB : isBrk l a t s = true) (hF : inR f 0 1000 = true) (hG : inR v 0 1000000 = true) (h : firstDown (travP l a t f v) 5000 5001 = o) (hx : ffR o = (x, y)) :
    Ending.returned (.tuple #[.int .i64 x, .int .i64 y]) = .returned (.tuple #[.int .i64 (gapR l a t s f v).1, .int .i64 (gapR l a t s f v).2]) := by
  unfold gapR; rw [if_pos hB, if_pos hF, if_pos hG, h, hx]
theorem nat_down {n : Int} (h0 : 0 ≤ n) (h1 : n < 1001) : (1001 - n).toNat = (1001 - (n + 1)).toNat + 1 := by omega
theorem nat_up {n : Int} (h0 : 0 ≤ n) : (n + 1).toNat = n.toNat + 1 := by omega

set_option maxHeartbeats 800000 in
theorem ForceFor_any (l a t s g : Int) (w : World) :
    Calls Try.prog 24 #[.agg #[.int .i64 l, .int .i64 a, .int .i64 t, .int .i64 s], .int .i64 g] w fun e w' => e = .returned (.tuple #[.int .i64 (forceR l a t s g).1, .int .i64 (forceR l a t s g).2]) ∧ Below w.heap.size w w' := by
  cases hB : isBrk l a t s
  · skip
    go_enter Try.func24, Try.ntmps24
    go_wp2_with (first | (go_at_call 16; (with_reducible refine (IsBrake_any _ _ _ _ _).mono ?_); rintro e w' ⟨rfl, hb⟩; obtain ⟨hc, hf⟩ := bcell hb; have hz := hb.size; (try simp only [World.size_alloc, World.size_drew] at hz); (try have hz0 : w.heap.size < w'.heap.size := by omega); (try have hz1 : w.heap.size + 1 < w'.heap.size := by omega)) | (go_at_call 52; (with_reducible refine (isGrip_any _ _).mono ?_); rintro e w' ⟨rfl, rfl⟩))
    go_ret2
    exact ⟨by simp [forceR, hB], (by repeat (first | (with_reducible assumption) | (with_reducible exact Below.refl _ _) | (with_reducible refine Below.drew ?_) | (with_reducible refine blw_al ?_ _) | (with_reducible refine blw_stp (by with_reducible assumption) ?_) | (with_reducible refine blw_set ?_ (by dsimp only; omega) _)))⟩
  obtain ⟨h1, h2, h5, h6, h7, h8, h9, h10⟩ := isBrk_bd hB
  cases hG : inR g 0 100000
  · skip
    go_enter Try.func24, Try.ntmps24
    go_wp2_with (first | (go_at_call 16; (with_reducible refine (IsBrake_any _ _ _ _ _).mono ?_); rintro e w' ⟨rfl, hb⟩; obtain ⟨hc, hf⟩ := bcell hb; have hz := hb.size; (try simp only [World.size_alloc, World.size_drew] at hz); (try have hz0 : w.heap.size < w'.heap.size := by omega); (try have hz1 : w.heap.size + 1 < w'.heap.size := by omega)) | (go_at_call 52; (with_reducible refine (isGrip_any _ _).mono ?_); rintro e w' ⟨rfl, rfl⟩))
    go_ret2
    exact ⟨by simp [forceR, hB, hG], (by repeat (first | (with_reducible assumption) | (with_reducible exact Below.refl _ _) | (with_reducible refine Below.drew ?_) | (with_reducible refine blw_al ?_ _) | (with_reducible refine blw_stp (by with_reducible assumption) ?_) | (with_reducible refine blw_set ?_ (by dsimp only; omega) _)))⟩
  · skip
    go_enter Try.func24, Try.ntmps24
    go_wp2_with (first | (go_at_call 16; (with_reducible refine (IsBrake_any _ _ _ _ _).mono ?_); rintro e w' ⟨rfl, hb⟩; obtain ⟨hc, hf⟩ := bcell hb; have hz := hb.size; (try simp only [World.size_alloc, World.size_drew] at hz); (try have hz0 : w.heap.size < w'.heap.size := by omega); (try have hz1 : w.heap.size + 1 < w'.heap.size := by omega)) | (go_at_call 52; (with_reducible refine (isGrip_any _ _).mono ?_); rintro e w' ⟨rfl, rfl⟩))
    go_loopw [6] (fun i wr => ∃ n : Int, 0 ≤ n ∧ n ≤ 1001 ∧ i = .int .i64 n ∧ Below w.heap.size w wr ∧ wr.cell? ⟨w.heap.size, 0, none⟩ = some (.int .i64 l) ∧ wr.cell? ⟨w.heap.size, 1, none⟩ = some (.int .i64 a) ∧ wr.cell? ⟨w.heap.size, 2, none⟩ = some (.int .i64 t) ∧ wr.cell? ⟨w.heap.size, 3, none⟩ = some (.int .i64 s) ∧ Hid (firstUp (gripP l a s g) 0 1001 = firstUp (gripP l a s g) n (1001 - n).toNat)) (fun i _ => (1001 - intOf i).toNat)
    case atStart => exact ⟨0, by omega, by omega, rfl, (by repeat (first | (with_reducible assumption) | (with_reducible exact Below.refl _ _) | (with_reducible refine Below.drew ?_) | (with_reducible refine blw_al ?_ _) | (with_reducible refine blw_stp (by with_reducible assumption) ?_) | (with_reducible refine blw_set ?_ (by dsimp only; omega) _))), by simp [*, go_sem], by simp [*, go_sem], by simp [*, go_sem], by simp [*, go_sem], rfl⟩
    case round =>
      obtain ⟨n, h3, h3', rfl, hbw, c0, c1, c2, c3, hrec⟩ := hrel
      have hsz := World.block_lt_of_cell? wr _ c0
      simp only at hsz
      by_cases hlt : n < 1001
      · by_cases hg : g ≤ grip l a s n
        · go_wp2_with (first | (go_at_call 48; (with_reducible refine (gripOf_any _ _ _ _ _ _ h1 h2 h3 (by omega) h5 h6 h9 h10).mono ?_); rintro e w' ⟨rfl, hb⟩; obtain ⟨hc, hf⟩ := bcell hb; have hz := hb.size; (try simp only [World.size_alloc, World.size_drew] at hz); (try have hz0 : w.heap.size < w'.heap.size := by omega); (try have hz1 : w.heap.size + 1 < w'.heap.size := by omega)))
          go_ret2
          exact ⟨forceR_end (o := some n) hB hG (hrec.out.trans (by rw [nat_down h3 hlt]; exact firstUp_yes (by simp [gripP, hg]))) rfl, (by repeat (first | (with_reducible assumption) | (with_reducible exact Below.refl _ _) | (with_reducible refine Below.drew ?_) | (with_reducible refine blw_al ?_ _) | (with_reducible refine blw_stp (by with_reducible assumption) ?_) | (with_reducible refine blw_set ?_ (by dsimp only; omega) _)))⟩
        · go_wp2_with (first | (go_at_call 48; (with_reducible refine (gripOf_any _ _ _ _ _ _ h1 h2 h3 (by omega) h5 h6 h9 h10).mono ?_); rintro e w' ⟨rfl, hb⟩; obtain ⟨hc, hf⟩ := bcell hb; have hz := hb.size; (try simp only [World.size_alloc, World.size_drew] at hz); (try have hz0 : w.heap.size < w'.heap.size := by omega); (try have hz1 : w.heap.size + 1 < w'.heap.size := by omega)))
          go_roundw
          case rel => exact ⟨n + 1, by omega, by omega, rfl, (by repeat (first | (with_reducible assumption) | (with_reducible exact Below.refl _ _) | (with_reducible refine Below.drew ?_) | (with_reducible refine blw_al ?_ _) | (with_reducible refine blw_stp (by with_reducible assumption) ?_) | (with_reducible refine blw_set ?_ (by dsimp only; omega) _))), by simp [*], by simp [*], by simp [*], by simp [*], hrec.out.trans (by rw [nat_down h3 hlt]; exact firstUp_no (by simp [gripP, hg]))⟩
          case measure => simp [intOf]; omega
      · obtain rfl : n = 1001 := by omega
        go_wp2
        go_ret2
        exact ⟨forceR_end hB hG (hrec.out.trans rfl) rfl, (by repeat (first | (with_reducible assumption) | (with_reducible exact Below.refl _ _) | (with_reducible refine Below.drew ?_) | (with_reducible refine blw_al ?_ _) | (with_reducible refine blw_stp (by with_reducible assumption) ?_) | (with_reducible refine blw_set ?_ (by dsimp only; omega) _)))⟩

set_option maxHeartbeats 800000 in
theorem sForceFor_any (l a t s g : Int) (w : World) :
    Calls Try.prog 23 #[.agg #[.int .i64 l, .int .i64 a, .int .i64 t, .int .i64 s], .int .i64 g] w fun e w' => e = .returned (.tuple #[.int .i64 (forceR l a t s g).1, .int .i64 (forceR l a t s g).2]) ∧ Below w.heap.size w w' := by
  cases hB : isBrk l a t s
  · skip
    have hk : code13 l a t s 0 0 = 1 := by simp [code13, hB, inR00]
    go_enter Try.func23, Try.ntmps23
    go_wp2_with (first | (go_at_call 43; (with_reducible refine (l13Code_any _ _ _ _ _ _ _).mono ?_); rintro e w' ⟨rfl, hb⟩; obtain ⟨hc, hf⟩ := bcell hb; have hz := hb.size; (try simp only [World.size_alloc, World.size_drew] at hz); (try have hz0 : w.heap.size < w'.heap.size := by omega); (try have hz1 : w.heap.size + 1 < w'.heap.size := by omega)) | (go_at_call 41; (with_reducible refine (l01In_any _ _ _ _).mono ?_); rintro e w' ⟨rfl, rfl⟩))
    go_ret2
    exact ⟨by simp [forceR, hB], (by repeat (first | (with_reducible assumption) | (with_reducible exact Below.refl _ _) | (with_reducible refine Below.drew ?_) | (with_reducible refine blw_al ?_ _) | (with_reducible refine blw_stp (by with_reducible assumption) ?_) | (with_reducible refine blw_set ?_ (by dsimp only; omega) _)))⟩
  obtain ⟨h1, h2, h5, h6, h7, h8, h9, h10⟩ := isBrk_bd hB
  cases hG : inR g 0 100000
  · skip
    have hk : code13 l a t s 0 0 = 0 := by simp [code13, hB, inR00]
    go_enter Try.func23, Try.ntmps23
    go_wp2_with (first | (go_at_call 43; (with_reducible refine (l13Code_any _ _ _ _ _ _ _).mono ?_); rintro e w' ⟨rfl, hb⟩; obtain ⟨hc, hf⟩ := bcell hb; have hz := hb.size; (try simp only [World.size_alloc, World.size_drew] at hz); (try have hz0 : w.heap.size < w'.heap.size := by omega); (try have hz1 : w.heap.size + 1 < w'.heap.size := by omega)) | (go_at_call 41; (with_reducible refine (l01In_any _ _ _ _).mono ?_); rintro e w' ⟨rfl, rfl⟩))
    go_ret2
    exact ⟨by simp [forceR, hB, hG], (by repeat (first | (with_reducible assumption) | (with_reducible exact Below.refl _ _) | (with_reducible refine Below.drew ?_) | (with_reducible refine blw_al ?_ _) | (with_reducible refine blw_stp (by with_reducible assumption) ?_) | (with_reducible refine blw_set ?_ (by dsimp only; omega) _)))⟩
  · skip
    have hk : code13 l a t s 0 0 = 0 := by simp [code13, hB, inR00]
    go_enter Try.func23, Try.ntmps23
    go_wp2_with (first | (go_at_call 43; (with_reducible refine (l13Code_any _ _ _ _ _ _ _).mono ?_); rintro e w' ⟨rfl, hb⟩; obtain ⟨hc, hf⟩ := bcell hb; have hz := hb.size; (try simp only [World.size_alloc, World.size_drew] at hz); (try have hz0 : w.heap.size < w'.heap.size := by omega); (try have hz1 : w.heap.size + 1 < w'.heap.size := by omega)) | (go_at_call 41; (with_reducible refine (l01In_any _ _ _ _).mono ?_); rintro e w' ⟨rfl, rfl⟩))
    go_loopw [7] (fun i wr => ∃ n : Int, 0 ≤ n ∧ n ≤ 1001 ∧ i = .int .i64 n ∧ Below w.heap.size w wr ∧ wr.cell? ⟨w.heap.size, 0, none⟩ = some (.int .i64 l) ∧ wr.cell? ⟨w.heap.size, 1, none⟩ = some (.int .i64 a) ∧ wr.cell? ⟨w.heap.size, 2, none⟩ = some (.int .i64 t) ∧ wr.cell? ⟨w.heap.size, 3, none⟩ = some (.int .i64 s) ∧ Hid (firstUp (gripP l a s g) 0 1001 = firstUp (gripP l a s g) n (1001 - n).toNat)) (fun i _ => (1001 - intOf i).toNat)
    case atStart => exact ⟨0, by omega, by omega, rfl, (by repeat (first | (with_reducible assumption) | (with_reducible exact Below.refl _ _) | (with_reducible refine Below.drew ?_) | (with_reducible refine blw_al ?_ _) | (with_reducible refine blw_stp (by with_reducible assumption) ?_) | (with_reducible refine blw_set ?_ (by dsimp only; omega) _))), by simp [*, go_sem], by simp [*, go_sem], by simp [*, go_sem], by simp [*, go_sem], rfl⟩
    case round =>
      obtain ⟨n, h3, h3', rfl, hbw, c0, c1, c2, c3, hrec⟩ := hrel
      have hsz := World.block_lt_of_cell? wr _ c0
      simp only at hsz
      by_cases hlt : n < 1001
      · by_cases hg : g ≤ grip l a s n
        · go_wp2_with (first | (go_at_call 47; (with_reducible refine (l13Grip_any _ _ _ _ _ _ h1 h2 h3 (by omega) h5 h6 h9 h10).mono ?_); rintro e w' ⟨rfl, hb⟩; obtain ⟨hc, hf⟩ := bcell hb; have hz := hb.size; (try simp only [World.size_alloc, World.size_drew] at hz); (try have hz0 : w.heap.size < w'.heap.size := by omega); (try have hz1 : w.heap.size + 1 < w'.heap.size := by omega)))
          go_ret2
          exact ⟨forceR_end (o := some n) hB hG (hrec.out.trans (by rw [nat_down h3 hlt]; exact firstUp_yes (by simp [gripP, hg]))) rfl, (by repeat (first | (with_reducible assumption) | (with_reducible exact Below.refl _ _) | (with_reducible refine Below.drew ?_) | (with_reducible refine blw_al ?_ _) | (with_reducible refine blw_stp (by with_reducible assumption) ?_) | (with_reducible refine blw_set ?_ (by dsimp only; omega) _)))⟩
        · go_wp2_with (first | (go_at_call 47; (with_reducible refine (l13Grip_any _ _ _ _ _ _ h1 h2 h3 (by omega) h5 h6 h9 h10).mono ?_); rintro e w' ⟨rfl, hb⟩; obtain ⟨hc, hf⟩ := bcell hb; have hz := hb.size; (try simp only [World.size_alloc, World.size_drew] at hz); (try have hz0 : w.heap.size < w'.heap.size := by omega); (try have hz1 : w.heap.size + 1 < w'.heap.size := by omega)))
          go_roundw
          case rel => exact ⟨n + 1, by omega, by omega, rfl, (by repeat (first | (with_reducible assumption) | (with_reducible exact Below.refl _ _) | (with_reducible refine Below.drew ?_) | (with_reducible refine blw_al ?_ _) | (with_reducible refine blw_stp (by with_reducible assumption) ?_) | (with_reducible refine blw_set ?_ (by dsimp only; omega) _))), by simp [*], by simp [*], by simp [*], by simp [*], hrec.out.trans (by rw [nat_down h3 hlt]; exact firstUp_no (by simp [gripP, hg]))⟩
          case measure => simp [intOf]; omega
      · obtain rfl : n = 1001 := by omega
        go_wp2
        go_ret2
        exact ⟨forceR_end hB hG (hrec.out.trans rfl) rfl, (by repeat (first | (with_reducible assumption) | (with_reducible exact Below.refl _ _) | (with_reducible refine Below.drew ?_) | (with_reducible refine blw_al ?_ _) | (with_reducible refine blw_stp (by with_reducible assumption) ?_) | (with_reducible refine blw_set ?_ (by dsimp only; omega) _)))⟩

set_option maxHeartbeats 800000 in
theorem GapFor_any (l a t s f v : Int) (w : World) :
    Calls Try.prog 32 #[.agg #[.int .i64 l, .int .i64 a, .int .i64 t, .int .i64 s], .int .i64 f, .int .i64 v] w fun e w' => e = .returned (.tuple #[.int .i64 (gapR l a t s f v).1, .int .i64 (gapR l a t s f v).2]) ∧ Below w.heap.size w w' := by
  cases hB : isBrk l a t s
  · skip
    go_enter Try.func32, Try.ntmps32
    go_wp2_with (first | (go_at_call 16; (with_reducible refine (IsBrake_any _ _ _ _ _).mono ?_); rintro e w' ⟨rfl, hb⟩; obtain ⟨hc, hf⟩ := bcell hb; have hz := hb.size; (try simp only [World.size_alloc, World.size_drew] at hz); (try have hz0 : w.heap.size < w'.heap.size := by omega); (try have hz1 : w.heap.size + 1 < w'.heap.size := by omega)) | (go_at_call 45; (with_reducible refine (isForce_any _ _).mono ?_); rintro e w' ⟨rfl, rfl⟩) | (go_at_call 55; (with_reducible refine (isTravel_any _ _).mono ?_); rintro e w' ⟨rfl, rfl⟩))
    go_ret2
    exact ⟨by simp [gapR, hB], (by repeat (first | (with_reducible assumption) | (with_reducible exact Below.refl _ _) | (with_reducible refine Below.drew ?_) | (with_reducible refine blw_al ?_ _) | (with_reducible refine blw_stp (by with_reducible assumption) ?_) | (with_reducible refine blw_set ?_ (by dsimp only; omega) _)))⟩
  obtain ⟨h1, h2, h5, h6, h7, h8, h9, h10⟩ := isBrk_bd hB
  cases hF : inR f 0 1000
  · skip
    go_enter Try.func32, Try.ntmps32
    go_wp2_with (first | (go_at_call 16; (with_reducible refine (IsBrake_any _ _ _ _ _).mono ?_); rintro e w' ⟨rfl, hb⟩; obtain ⟨hc, hf⟩ := bcell hb; have hz := hb.size; (try simp only [World.size_alloc, World.size_drew] at hz); (try have hz0 : w.heap.size < w'.heap.size := by omega); (try have hz1 : w.heap.size + 1 < w'.heap.size := by omega)) | (go_at_call 45; (with_reducible refine (isForce_any _ _).mono ?_); rintro e w' ⟨rfl, rfl⟩) | (go_at_call 55; (with_reducible refine (isTravel_any _ _).mono ?_); rintro e w' ⟨rfl, rfl⟩))
    go_ret2
    exact ⟨by simp [gapR, hB, hF], (by repeat (first | (with_reducible assumption) | (with_reducible exact Below.refl _ _) | (with_reducible refine Below.drew ?_) | (with_reducible refine blw_al ?_ _) | (with_reducible refine blw_stp (by with_reducible assumption) ?_) | (with_reducible refine blw_set ?_ (by dsimp only; omega) _)))⟩
  obtain ⟨h3, h4⟩ := inR_iff.1 hF
  cases hG : inR v 0 1000000
  · skip
    go_enter Try.func32, Try.ntmps32
    go_wp2_with (first | (go_at_call 16; (with_reducible refine (IsBrake_any _ _ _ _ _).mono ?_); rintro e w' ⟨rfl, hb⟩; obtain ⟨hc, hf⟩ := bcell hb; have hz := hb.size; (try simp only [World.size_alloc, World.size_drew] at hz); (try have hz0 : w.heap.size < w'.heap.size := by omega); (try have hz1 : w.heap.size + 1 < w'.heap.size := by omega)) | (go_at_call 45; (with_reducible refine (isForce_any _ _).mono ?_); rintro e w' ⟨rfl, rfl⟩) | (go_at_call 55; (with_reducible refine (isTravel_any _ _).mono ?_); rintro e w' ⟨rfl, rfl⟩))
    go_ret2
    exact ⟨by simp [gapR, hB, hF, hG], (by repeat (first | (with_reducible assumption) | (with_reducible exact Below.refl _ _) | (with_reducible refine Below.drew ?_) | (with_reducible refine blw_al ?_ _) | (with_reducible refine blw_stp (by with_reducible assumption) ?_) | (with_reducible refine blw_set ?_ (by dsimp only; omega) _)))⟩
  · skip
    go_enter Try.func32, Try.ntmps32
    go_wp2_with (first | (go_at_call 16; (with_reducible refine (IsBrake_any _ _ _ _ _).mono ?_); rintro e w' ⟨rfl, hb⟩; obtain ⟨hc, hf⟩ := bcell hb; have hz := hb.size; (try simp only [World.size_alloc, World.size_drew] at hz); (try have hz0 : w.heap.size < w'.heap.size := by omega); (try have hz1 : w.heap.size + 1 < w'.heap.size := by omega)) | (go_at_call 45; (with_reducible refine (isForce_any _ _).mono ?_); rintro e w' ⟨rfl, rfl⟩) | (go_at_call 55; (with_reducible refine (isTravel_any _ _).mono ?_); rintro e w' ⟨rfl, rfl⟩))
    go_loopw [8] (fun i wr => ∃ n : Int, -1 ≤ n ∧ n ≤ 5000 ∧ i = .int .i64 n ∧ Below w.heap.size w wr ∧ wr.cell? ⟨w.heap.size, 0, none⟩ = some (.int .i64 l) ∧ wr.cell? ⟨w.heap.size, 1, none⟩ = some (.int .i64 a) ∧ wr.cell? ⟨w.heap.size, 2, none⟩ = some (.int .i64 t) ∧ wr.cell? ⟨w.heap.size, 3, none⟩ = some (.int .i64 s) ∧ Hid (firstDown (travP l a t f v) 5000 5001 = firstDown (travP l a t f v) n (n + 1).toNat)) (fun i _ => (1 + intOf i).toNat)
    case atStart => exact ⟨5000, by omega, by omega, rfl, (by repeat (first | (with_reducible assumption) | (with_reducible exact Below.refl _ _) | (with_reducible refine Below.drew ?_) | (with_reducible refine blw_al ?_ _) | (with_reducible refine blw_stp (by with_reducible assumption) ?_) | (with_reducible refine blw_set ?_ (by dsimp only; omega) _))), by simp [*, go_sem], by simp [*, go_sem], by simp [*, go_sem], by simp [*, go_sem], rfl⟩
    case round =>
      obtain ⟨n, n0, n1, rfl, hbw, c0, c1, c2, c3, hrec⟩ := hrel
      have hsz := World.block_lt_of_cell? wr _ c0
      simp only at hsz
      by_cases hlt : 0 ≤ n
      · by_cases hg : travel l a t f n ≤ v
        · go_wp2_with (first | (go_at_call 54; (with_reducible refine (travelOf_any _ _ _ _ _ _ _ h1 h2 h3 h4 h5 h6 h7 h8 (by omega) (by omega)).mono ?_); rintro e w' ⟨rfl, hb⟩; obtain ⟨hc, hf⟩ := bcell hb; have hz := hb.size; (try simp only [World.size_alloc, World.size_drew] at hz); (try have hz0 : w.heap.size < w'.heap.size := by omega); (try have hz1 : w.heap.size + 1 < w'.heap.size := by omega)))
          go_ret2
          exact ⟨gapR_end (o := some n) hB hF hG (hrec.out.trans (by rw [nat_up hlt]; exact firstDown_yes (by simp [travP, hg]))) rfl, (by repeat (first | (with_reducible assumption) | (with_reducible exact Below.refl _ _) | (with_reducible refine Below.drew ?_) | (with_reducible refine blw_al ?_ _) | (with_reducible refine blw_stp (by with_reducible assumption) ?_) | (with_reducible refine blw_set ?_ (by dsimp only; omega) _)))⟩
        · go_wp2_with (first | (go_at_call 54; (with_reducible refine (travelOf_any _ _ _ _ _ _ _ h1 h2 h3 h4 h5 h6 h7 h8 (by omega) (by omega)).mono ?_); rintro e w' ⟨rfl, hb⟩; obtain ⟨hc, hf⟩ := bcell hb; have hz := hb.size; (try simp only [World.size_alloc, World.size_drew] at hz); (try have hz0 : w.heap.size < w'.heap.size := by omega); (try have hz1 : w.heap.size + 1 < w'.heap.size := by omega)))
          go_roundw
          case rel => exact ⟨n - 1, by omega, by omega, rfl, (by repeat (first | (with_reducible assumption) | (with_reducible exact Below.refl _ _) | (with_reducible refine Below.drew ?_) | (with_reducible refine blw_al ?_ _) | (with_reducible refine blw_stp (by with_reducible assumption) ?_) | (with_reducible refine blw_set ?_ (by dsimp only; omega) _))), by simp [*], by simp [*], by simp [*], by simp [*], hrec.out.trans (by rw [nat_up hlt, show n - 1 + 1 = n by omega]; exact firstDown_no (by simp [travP, hg]))⟩
          case measure => simp [intOf]; omega
      · obtain rfl : n = -1 := by omega
        go_wp2
        go_ret2
        exact ⟨gapR_end hB hF hG (hrec.out.trans rfl) rfl, (by repeat (first | (with_reducible assumption) | (with_reducible exact Below.refl _ _) | (with_reducible refine Below.drew ?_) | (with_reducible refine blw_al ?_ _) | (with_reducible refine blw_stp (by with_reducible assumption) ?_) | (with_reducible refine blw_set ?_ (by dsimp only; omega) _)))⟩

set_option maxHeartbeats 800000 in
theorem sGapFor_any (l a t s f v : Int) (w : World) :
    Calls Try.prog 31 #[.agg #[.int .i64 l, .int .i64 a, .int .i64 t, .int .i64 s], .int .i64 f, .int .i64 v] w fun e w' => e = .returned (.tuple #[.int .i64 (gapR l a t s f v).1, .int .i64 (gapR l a t s f v).2]) ∧ Below w.heap.size w w' := by
  cases hB : isBrk l a t s
  · skip
    have hk : code13 l a t s f 0 = 1 := by simp [code13, hB, inR00]
    go_enter Try.func31, Try.ntmps31
    go_wp2_with (first | (go_at_call 43; (with_reducible refine (l13Code_any _ _ _ _ _ _ _).mono ?_); rintro e w' ⟨rfl, hb⟩; obtain ⟨hc, hf⟩ := bcell hb; have hz := hb.size; (try simp only [World.size_alloc, World.size_drew] at hz); (try have hz0 : w.heap.size < w'.heap.size := by omega); (try have hz1 : w.heap.size + 1 < w'.heap.size := by omega)) | (go_at_call 41; (with_reducible refine (l01In_any _ _ _ _).mono ?_); rintro e w' ⟨rfl, rfl⟩))
    go_ret2
    exact ⟨by simp [gapR, hB], (by repeat (first | (with_reducible assumption) | (with_reducible exact Below.refl _ _) | (with_reducible refine Below.drew ?_) | (with_reducible refine blw_al ?_ _) | (with_reducible refine blw_stp (by with_reducible assumption) ?_) | (with_reducible refine blw_set ?_ (by dsimp only; omega) _)))⟩
  obtain ⟨h1, h2, h5, h6, h7, h8, h9, h10⟩ := isBrk_bd hB
  cases hF : inR f 0 1000
  · skip
    have hk : code13 l a t s f 0 = 2 := by simp [code13, hB, hF, inR00]
    go_enter Try.func31, Try.ntmps31
    go_wp2_with (first | (go_at_call 43; (with_reducible refine (l13Code_any _ _ _ _ _ _ _).mono ?_); rintro e w' ⟨rfl, hb⟩; obtain ⟨hc, hf⟩ := bcell hb; have hz := hb.size; (try simp only [World.size_alloc, World.size_drew] at hz); (try have hz0 : w.heap.size < w'.heap.size := by omega); (try have hz1 : w.heap.size + 1 < w'.heap.size := by omega)) | (go_at_call 41; (with_reducible refine (l01In_any _ _ _ _).mono ?_); rintro e w' ⟨rfl, rfl⟩))
    go_ret2
    exact ⟨by simp [gapR, hB, hF], (by repeat (first | (with_reducible assumption) | (with_reducible exact Below.refl _ _) | (with_reducible refine Below.drew ?_) | (with_reducible refine blw_al ?_ _) | (with_reducible refine blw_stp (by with_reducible assumption) ?_) | (with_reducible refine blw_set ?_ (by dsimp only; omega) _)))⟩
  obtain ⟨h3, h4⟩ := inR_iff.1 hF
  cases hG : inR v 0 1000000
  · skip
    have hk : code13 l a t s f 0 = 0 := by simp [code13, hB, hF, inR00]
    go_enter Try.func31, Try.ntmps31
    go_wp2_with (first | (go_at_call 43; (with_reducible refine (l13Code_any _ _ _ _ _ _ _).mono ?_); rintro e w' ⟨rfl, hb⟩; obtain ⟨hc, hf⟩ := bcell hb; have hz := hb.size; (try simp only [World.size_alloc, World.size_drew] at hz); (try have hz0 : w.heap.size < w'.heap.size := by omega); (try have hz1 : w.heap.size + 1 < w'.heap.size := by omega)) | (go_at_call 41; (with_reducible refine (l01In_any _ _ _ _).mono ?_); rintro e w' ⟨rfl, rfl⟩))
    go_ret2
    exact ⟨by simp [gapR, hB, hF, hG], (by repeat (first | (with_reducible assumption) | (with_reducible exact Below.refl _ _) | (with_reducible refine Below.drew ?_) | (with_reducible refine blw_al ?_ _) | (with_reducible refine blw_stp (by with_reducible assumption) ?_) | (with_reducible refine blw_set ?_ (by dsimp only; omega) _)))⟩
  · skip
    have hk : code13 l a t s f 0 = 0 := by simp [code13, hB, hF, inR00]
    go_enter Try.func31, Try.ntmps31
    go_wp2_with (first | (go_at_call 43; (with_reducible refine (l13Code_any _ _ _ _ _ _ _).mono ?_); rintro e w' ⟨rfl, hb⟩; obtain ⟨hc, hf⟩ := bcell hb; have hz := hb.size; (try simp only [World.size_alloc, World.size_drew] at hz); (try have hz0 : w.heap.size < w'.heap.size := by omega); (try have hz1 : w.heap.size + 1 < w'.heap.size := by omega)) | (go_at_call 41; (with_reducible refine (l01In_any _ _ _ _).mono ?_); rintro e w' ⟨rfl, rfl⟩))
    go_loopw [9] (fun i wr => ∃ n : Int, -1 ≤ n ∧ n ≤ 5000 ∧ i = .int .i64 n ∧ Below w.heap.size w wr ∧ wr.cell? ⟨w.heap.size, 0, none⟩ = some (.int .i64 l) ∧ wr.cell? ⟨w.heap.size, 1, none⟩ = some (.int .i64 a) ∧ wr.cell? ⟨w.heap.size, 2, none⟩ = some (.int .i64 t) ∧ wr.cell? ⟨w.heap.size, 3, none⟩ = some (.int .i64 s) ∧ Hid (firstDown (travP l a t f v) 5000 5001 = firstDown (travP l a t f v) n (n + 1).toNat)) (fun i _ => (1 + intOf i).toNat)
    case atStart => exact ⟨5000, by omega, by omega, rfl, (by repeat (first | (with_reducible assumption) | (with_reducible exact Below.refl _ _) | (with_reducible refine Below.drew ?_) | (with_reducible refine blw_al ?_ _) | (with_reducible refine blw_stp (by with_reducible assumption) ?_) | (with_reducible refine blw_set ?_ (by dsimp only; omega) _))), by simp [*, go_sem], by simp [*, go_sem], by simp [*, go_sem], by simp [*, go_sem], rfl⟩
    case round =>
      obtain ⟨n, n0, n1, rfl, hbw, c0, c1, c2, c3, hrec⟩ := hrel
      have hsz := World.block_lt_of_cell? wr _ c0
      simp only at hsz
      by_cases hlt : 0 ≤ n
      · by_cases hg : travel l a t f n ≤ v
        · go_wp2_with (first | (go_at_call 53; (with_reducible refine (l13Travel_any _ _ _ _ _ _ _ h1 h2 h3 h4 h5 h6 h7 h8 (by omega) (by omega)).mono ?_); rintro e w' ⟨rfl, hb⟩; obtain ⟨hc, hf⟩ := bcell hb; have hz := hb.size; (try simp only [World.size_alloc, World.size_drew] at hz); (try have hz0 : w.heap.size < w'.heap.size := by omega); (try have hz1 : w.heap.size + 1 < w'.heap.size := by omega)))
          go_ret2
          exact ⟨gapR_end (o := some n) hB hF hG (hrec.out.trans (by rw [nat_up hlt]; exact firstDown_yes (by simp [travP, hg]))) rfl, (by repeat (first | (with_reducible assumption) | (with_reducible exact Below.refl _ _) | (with_reducible refine Below.drew ?_) | (with_reducible refine blw_al ?_ _) | (with_reducible refine blw_stp (by with_reducible assumption) ?_) | (with_reducible refine blw_set ?_ (by dsimp only; omega) _)))⟩
        · go_wp2_with (first | (go_at_call 53; (with_reducible refine (l13Travel_any _ _ _ _ _ _ _ h1 h2 h3 h4 h5 h6 h7 h8 (by omega) (by omega)).mono ?_); rintro e w' ⟨rfl, hb⟩; obtain ⟨hc, hf⟩ := bcell hb; have hz := hb.size; (try simp only [World.size_alloc, World.size_drew] at hz); (try have hz0 : w.heap.size < w'.heap.size := by omega); (try have hz1 : w.heap.size + 1 < w'.heap.size := by omega)))
          go_roundw
          case rel => exact ⟨n - 1, by omega, by omega, rfl, (by repeat (first | (with_reducible assumption) | (with_reducible exact Below.refl _ _) | (with_reducible refine Below.drew ?_) | (with_reducible refine blw_al ?_ _) | (with_reducible refine blw_stp (by with_reducible assumption) ?_) | (with_reducible refine blw_set ?_ (by dsimp only; omega) _))), by simp [*], by simp [*], by simp [*], by simp [*], hrec.out.trans (by rw [nat_up hlt, show n - 1 + 1 = n by omega]; exact firstDown_no (by simp [travP, hg]))⟩
          case measure => simp [intOf]; omega
      · obtain rfl : n = -1 := by omega
        go_wp2
        go_ret2
        exact ⟨gapR_end hB hF hG (hrec.out.trans rfl) rfl, (by repeat (first | (with_reducible assumption) | (with_reducible exact Below.refl _ _) | (with_reducible refine Below.drew ?_) | (with_reducible refine blw_al ?_ _) | (with_reducible refine blw_stp (by with_reducible assumption) ?_) | (with_reducible refine blw_set ?_ (by dsimp only; omega) _)))⟩

end Go.Proofs.Ytfgokehoanlobaa
