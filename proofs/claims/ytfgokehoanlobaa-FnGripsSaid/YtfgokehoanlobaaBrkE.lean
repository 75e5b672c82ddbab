/- Contracts of StopsWithin, TurnsOfBarrel and CompareBrakes, of the program and of the reference. -/
import Derived.Test.YtfgokehoanlobaaBrkD
set_option linter.unusedSimpArgs false
set_option linter.unusedVariables false
namespace Go.Proofs.Ytfgokehoanlobaa
open Go.RowKit

def stopsR (l a t s f g v q : Int) : Bool × Int := if isBrk l a t s = true then (if inR f 0 1000 = true then (if inR g 0 5000 = true then (if inR v 0 1000000 = true then (if inR q 0 100000 = true then (decide (travel l a t f g ≤ v) && decide (q ≤ grip l a s f), 0) else (false, 2)) else (false, 2)) else (false, 2)) else (false, 2)) else (false, 1)
def turnsR (l a t s g v : Int) : Int × Int := if isBrk l a t s = true then (if inR g 0 5000 = true then (if inR v 0 5000 = true then (if g ≤ v then (0, 0) else (cdiv (g - v) (25000 / a), 0)) else (0, 2)) else (0, 2)) else (0, 1)
theorem cdiv_zero {b : Int} (h : 1 ≤ b) : cdiv 0 b = 0 := by
  unfold cdiv
  rw [Int.zero_add]
  exact Int.ediv_eq_zero_of_lt (by omega) (by omega)
theorem turn_bd {a : Int} (h1 : 100 ≤ a) (h2 : a ≤ 1000) : 25 ≤ 25000 / a ∧ 25000 / a ≤ 250 := by
  have h : 0 < a := by omega
  constructor
  · exact (Int.le_ediv_iff_mul_le h).2 (by omega)
  · have := (Int.ediv_lt_iff_lt_mul (a := 25000) (b := 251) h).2 (by omega)
    omega

set_option maxHeartbeats 800000 in
theorem StopsWithin_any (l a t s f g v q : Int) (w : World) :
    Calls Try.prog 30 #[.agg #[.int .i64 l, .int .i64 a, .int .i64 t, .int .i64 s], .int .i64 f, .int .i64 g, .int .i64 v, .int .i64 q] w fun e w' => e = .returned (.tuple #[.bool (stopsR l a t s f g v q).1, .int .i64 (stopsR l a t s f g v q).2]) ∧ Below w.heap.size w w' := by
  cases hB : isBrk l a t s
  · skip
    go_enter Try.func30, Try.ntmps30
    go_wp2_with (first | (go_at_call 16; (with_reducible refine (IsBrake_any _ _ _ _ _).mono ?_); rintro e w' ⟨rfl, hb⟩; obtain ⟨hc, hf⟩ := bcell hb; have hz := hb.size; (try simp only [World.size_alloc, World.size_drew] at hz); (try have hz0 : w.heap.size < w'.heap.size := by omega); (try have hz1 : w.heap.size + 1 < w'.heap.size := by omega)) | (go_at_call 45; (with_reducible refine (isForce_any _ _).mono ?_); rintro e w' ⟨rfl, rfl⟩) | (go_at_call 50; (with_reducible refine (isGap_any _ _).mono ?_); rintro e w' ⟨rfl, rfl⟩) | (go_at_call 55; (with_reducible refine (isTravel_any _ _).mono ?_); rintro e w' ⟨rfl, rfl⟩) | (go_at_call 52; (with_reducible refine (isGrip_any _ _).mono ?_); rintro e w' ⟨rfl, rfl⟩))
    all_goals
      go_ret2
      exact ⟨by simp [stopsR, hB], (by repeat (first | (with_reducible assumption) | (with_reducible exact Below.refl _ _) | (with_reducible refine Below.drew ?_) | (with_reducible refine blw_al ?_ _) | (with_reducible refine blw_stp (by with_reducible assumption) ?_) | (with_reducible refine blw_set ?_ (by dsimp only; omega) _)))⟩
  obtain ⟨h1, h2, h5, h6, h7, h8, h9, h10⟩ := isBrk_bd hB
  cases hF : inR f 0 1000
  · skip
    go_enter Try.func30, Try.ntmps30
    go_wp2_with (first | (go_at_call 16; (with_reducible refine (IsBrake_any _ _ _ _ _).mono ?_); rintro e w' ⟨rfl, hb⟩; obtain ⟨hc, hf⟩ := bcell hb; have hz := hb.size; (try simp only [World.size_alloc, World.size_drew] at hz); (try have hz0 : w.heap.size < w'.heap.size := by omega); (try have hz1 : w.heap.size + 1 < w'.heap.size := by omega)) | (go_at_call 45; (with_reducible refine (isForce_any _ _).mono ?_); rintro e w' ⟨rfl, rfl⟩) | (go_at_call 50; (with_reducible refine (isGap_any _ _).mono ?_); rintro e w' ⟨rfl, rfl⟩) | (go_at_call 55; (with_reducible refine (isTravel_any _ _).mono ?_); rintro e w' ⟨rfl, rfl⟩) | (go_at_call 52; (with_reducible refine (isGrip_any _ _).mono ?_); rintro e w' ⟨rfl, rfl⟩))
    all_goals
      go_ret2
      exact ⟨by simp [stopsR, hB, hF], (by repeat (first | (with_reducible assumption) | (with_reducible exact Below.refl _ _) | (with_reducible refine Below.drew ?_) | (with_reducible refine blw_al ?_ _) | (with_reducible refine blw_stp (by with_reducible assumption) ?_) | (with_reducible refine blw_set ?_ (by dsimp only; omega) _)))⟩
  obtain ⟨h3, h4⟩ := inR_iff.1 hF
  cases hG : inR g 0 5000
  · skip
    go_enter Try.func30, Try.ntmps30
    go_wp2_with (first | (go_at_call 16; (with_reducible refine (IsBrake_any _ _ _ _ _).mono ?_); rintro e w' ⟨rfl, hb⟩; obtain ⟨hc, hf⟩ := bcell hb; have hz := hb.size; (try simp only [World.size_alloc, World.size_drew] at hz); (try have hz0 : w.heap.size < w'.heap.size := by omega); (try have hz1 : w.heap.size + 1 < w'.heap.size := by omega)) | (go_at_call 45; (with_reducible refine (isForce_any _ _).mono ?_); rintro e w' ⟨rfl, rfl⟩) | (go_at_call 50; (with_reducible refine (isGap_any _ _).mono ?_); rintro e w' ⟨rfl, rfl⟩) | (go_at_call 55; (with_reducible refine (isTravel_any _ _).mono ?_); rintro e w' ⟨rfl, rfl⟩) | (go_at_call 52; (with_reducible refine (isGrip_any _ _).mono ?_); rintro e w' ⟨rfl, rfl⟩))
    all_goals
      go_ret2
      exact ⟨by simp [stopsR, hB, hF, hG], (by repeat (first | (with_reducible assumption) | (with_reducible exact Below.refl _ _) | (with_reducible refine Below.drew ?_) | (with_reducible refine blw_al ?_ _) | (with_reducible refine blw_stp (by with_reducible assumption) ?_) | (with_reducible refine blw_set ?_ (by dsimp only; omega) _)))⟩
  obtain ⟨g1, g2⟩ := inR_iff.1 hG
  cases hV : inR v 0 1000000
  · skip
    go_enter Try.func30, Try.ntmps30
    go_wp2_with (first | (go_at_call 16; (with_reducible refine (IsBrake_any _ _ _ _ _).mono ?_); rintro e w' ⟨rfl, hb⟩; obtain ⟨hc, hf⟩ := bcell hb; have hz := hb.size; (try simp only [World.size_alloc, World.size_drew] at hz); (try have hz0 : w.heap.size < w'.heap.size := by omega); (try have hz1 : w.heap.size + 1 < w'.heap.size := by omega)) | (go_at_call 45; (with_reducible refine (isForce_any _ _).mono ?_); rintro e w' ⟨rfl, rfl⟩) | (go_at_call 50; (with_reducible refine (isGap_any _ _).mono ?_); rintro e w' ⟨rfl, rfl⟩) | (go_at_call 55; (with_reducible refine (isTravel_any _ _).mono ?_); rintro e w' ⟨rfl, rfl⟩) | (go_at_call 52; (with_reducible refine (isGrip_any _ _).mono ?_); rintro e w' ⟨rfl, rfl⟩))
    all_goals
      go_ret2
      exact ⟨by simp [stopsR, hB, hF, hG, hV], (by repeat (first | (with_reducible assumption) | (with_reducible exact Below.refl _ _) | (with_reducible refine Below.drew ?_) | (with_reducible refine blw_al ?_ _) | (with_reducible refine blw_stp (by with_reducible assumption) ?_) | (with_reducible refine blw_set ?_ (by dsimp only; omega) _)))⟩
  cases hQ : inR q 0 100000
  · skip
    go_enter Try.func30, Try.ntmps30
    go_wp2_with (first | (go_at_call 16; (with_reducible refine (IsBrake_any _ _ _ _ _).mono ?_); rintro e w' ⟨rfl, hb⟩; obtain ⟨hc, hf⟩ := bcell hb; have hz := hb.size; (try simp only [World.size_alloc, World.size_drew] at hz); (try have hz0 : w.heap.size < w'.heap.size := by omega); (try have hz1 : w.heap.size + 1 < w'.heap.size := by omega)) | (go_at_call 45; (with_reducible refine (isForce_any _ _).mono ?_); rintro e w' ⟨rfl, rfl⟩) | (go_at_call 50; (with_reducible refine (isGap_any _ _).mono ?_); rintro e w' ⟨rfl, rfl⟩) | (go_at_call 55; (with_reducible refine (isTravel_any _ _).mono ?_); rintro e w' ⟨rfl, rfl⟩) | (go_at_call 52; (with_reducible refine (isGrip_any _ _).mono ?_); rintro e w' ⟨rfl, rfl⟩))
    all_goals
      go_ret2
      exact ⟨by simp [stopsR, hB, hF, hG, hV, hQ], (by repeat (first | (with_reducible assumption) | (with_reducible exact Below.refl _ _) | (with_reducible refine Below.drew ?_) | (with_reducible refine blw_al ?_ _) | (with_reducible refine blw_stp (by with_reducible assumption) ?_) | (with_reducible refine blw_set ?_ (by dsimp only; omega) _)))⟩
  by_cases ht : travel l a t f g ≤ v
  · by_cases hg : q ≤ grip l a s f
    · skip
      go_enter Try.func30, Try.ntmps30
      go_wp2_with (first | (go_at_call 16; (with_reducible refine (IsBrake_any _ _ _ _ _).mono ?_); rintro e w' ⟨rfl, hb⟩; obtain ⟨hc, hf⟩ := bcell hb; have hz := hb.size; (try simp only [World.size_alloc, World.size_drew] at hz); (try have hz0 : w.heap.size < w'.heap.size := by omega); (try have hz1 : w.heap.size + 1 < w'.heap.size := by omega)) | (go_at_call 45; (with_reducible refine (isForce_any _ _).mono ?_); rintro e w' ⟨rfl, rfl⟩) | (go_at_call 50; (with_reducible refine (isGap_any _ _).mono ?_); rintro e w' ⟨rfl, rfl⟩) | (go_at_call 55; (with_reducible refine (isTravel_any _ _).mono ?_); rintro e w' ⟨rfl, rfl⟩) | (go_at_call 52; (with_reducible refine (isGrip_any _ _).mono ?_); rintro e w' ⟨rfl, rfl⟩) | (go_at_call 54; (with_reducible refine (travelOf_any _ _ _ _ _ _ _ h1 h2 h3 h4 h5 h6 h7 h8 g1 g2).mono ?_); rintro e w' ⟨rfl, hb⟩; obtain ⟨hc, hf⟩ := bcell hb; have hz := hb.size; (try simp only [World.size_alloc, World.size_drew] at hz); (try have hz0 : w.heap.size < w'.heap.size := by omega); (try have hz1 : w.heap.size + 1 < w'.heap.size := by omega)) | (go_at_call 48; (with_reducible refine (gripOf_any _ _ _ _ _ _ h1 h2 h3 h4 h5 h6 h9 h10).mono ?_); rintro e w' ⟨rfl, hb⟩; obtain ⟨hc, hf⟩ := bcell hb; have hz := hb.size; (try simp only [World.size_alloc, World.size_drew] at hz); (try have hz0 : w.heap.size < w'.heap.size := by omega); (try have hz1 : w.heap.size + 1 < w'.heap.size := by omega)))
      all_goals
        go_ret2
        exact ⟨by simp [stopsR, hB, hF, hG, hV, hQ, ht, hg], (by repeat (first | (with_reducible assumption) | (with_reducible exact Below.refl _ _) | (with_reducible refine Below.drew ?_) | (with_reducible refine blw_al ?_ _) | (with_reducible refine blw_stp (by with_reducible assumption) ?_) | (with_reducible refine blw_set ?_ (by dsimp only; omega) _)))⟩
    · skip
      go_enter Try.func30, Try.ntmps30
      go_wp2_with (first | (go_at_call 16; (with_reducible refine (IsBrake_any _ _ _ _ _).mono ?_); rintro e w' ⟨rfl, hb⟩; obtain ⟨hc, hf⟩ := bcell hb; have hz := hb.size; (try simp only [World.size_alloc, World.size_drew] at hz); (try have hz0 : w.heap.size < w'.heap.size := by omega); (try have hz1 : w.heap.size + 1 < w'.heap.size := by omega)) | (go_at_call 45; (with_reducible refine (isForce_any _ _).mono ?_); rintro e w' ⟨rfl, rfl⟩) | (go_at_call 50; (with_reducible refine (isGap_any _ _).mono ?_); rintro e w' ⟨rfl, rfl⟩) | (go_at_call 55; (with_reducible refine (isTravel_any _ _).mono ?_); rintro e w' ⟨rfl, rfl⟩) | (go_at_call 52; (with_reducible refine (isGrip_any _ _).mono ?_); rintro e w' ⟨rfl, rfl⟩) | (go_at_call 54; (with_reducible refine (travelOf_any _ _ _ _ _ _ _ h1 h2 h3 h4 h5 h6 h7 h8 g1 g2).mono ?_); rintro e w' ⟨rfl, hb⟩; obtain ⟨hc, hf⟩ := bcell hb; have hz := hb.size; (try simp only [World.size_alloc, World.size_drew] at hz); (try have hz0 : w.heap.size < w'.heap.size := by omega); (try have hz1 : w.heap.size + 1 < w'.heap.size := by omega)) | (go_at_call 48; (with_reducible refine (gripOf_any _ _ _ _ _ _ h1 h2 h3 h4 h5 h6 h9 h10).mono ?_); rintro e w' ⟨rfl, hb⟩; obtain ⟨hc, hf⟩ := bcell hb; have hz := hb.size; (try simp only [World.size_alloc, World.size_drew] at hz); (try have hz0 : w.heap.size < w'.heap.size := by omega); (try have hz1 : w.heap.size + 1 < w'.heap.size := by omega)))
      all_goals
        go_ret2
        exact ⟨by simp [stopsR, hB, hF, hG, hV, hQ, ht, hg], (by repeat (first | (with_reducible assumption) | (with_reducible exact Below.refl _ _) | (with_reducible refine Below.drew ?_) | (with_reducible refine blw_al ?_ _) | (with_reducible refine blw_stp (by with_reducible assumption) ?_) | (with_reducible refine blw_set ?_ (by dsimp only; omega) _)))⟩
  · skip
    go_enter Try.func30, Try.ntmps30
    go_wp2_with (first | (go_at_call 16; (with_reducible refine (IsBrake_any _ _ _ _ _).mono ?_); rintro e w' ⟨rfl, hb⟩; obtain ⟨hc, hf⟩ := bcell hb; have hz := hb.size; (try simp only [World.size_alloc, World.size_drew] at hz); (try have hz0 : w.heap.size < w'.heap.size := by omega); (try have hz1 : w.heap.size + 1 < w'.heap.size := by omega)) | (go_at_call 45; (with_reducible refine (isForce_any _ _).mono ?_); rintro e w' ⟨rfl, rfl⟩) | (go_at_call 50; (with_reducible refine (isGap_any _ _).mono ?_); rintro e w' ⟨rfl, rfl⟩) | (go_at_call 55; (with_reducible refine (isTravel_any _ _).mono ?_); rintro e w' ⟨rfl, rfl⟩) | (go_at_call 52; (with_reducible refine (isGrip_any _ _).mono ?_); rintro e w' ⟨rfl, rfl⟩) | (go_at_call 54; (with_reducible refine (travelOf_any _ _ _ _ _ _ _ h1 h2 h3 h4 h5 h6 h7 h8 g1 g2).mono ?_); rintro e w' ⟨rfl, hb⟩; obtain ⟨hc, hf⟩ := bcell hb; have hz := hb.size; (try simp only [World.size_alloc, World.size_drew] at hz); (try have hz0 : w.heap.size < w'.heap.size := by omega); (try have hz1 : w.heap.size + 1 < w'.heap.size := by omega)) | (go_at_call 48; (with_reducible refine (gripOf_any _ _ _ _ _ _ h1 h2 h3 h4 h5 h6 h9 h10).mono ?_); rintro e w' ⟨rfl, hb⟩; obtain ⟨hc, hf⟩ := bcell hb; have hz := hb.size; (try simp only [World.size_alloc, World.size_drew] at hz); (try have hz0 : w.heap.size < w'.heap.size := by omega); (try have hz1 : w.heap.size + 1 < w'.heap.size := by omega)))
    all_goals
      go_ret2
      exact ⟨by simp [stopsR, hB, hF, hG, hV, hQ, show ¬ travel l a t f g ≤ v by omega], (by repeat (first | (with_reducible assumption) | (with_reducible exact Below.refl _ _) | (with_reducible refine Below.drew ?_) | (with_reducible refine blw_al ?_ _) | (with_reducible refine blw_stp (by with_reducible assumption) ?_) | (with_reducible refine blw_set ?_ (by dsimp only; omega) _)))⟩

set_option maxHeartbeats 800000 in
theorem sStopsWithin_any (l a t s f g v q : Int) (w : World) :
    Calls Try.prog 29 #[.agg #[.int .i64 l, .int .i64 a, .int .i64 t, .int .i64 s], .int .i64 f, .int .i64 g, .int .i64 v, .int .i64 q] w fun e w' => e = .returned (.tuple #[.bool (stopsR l a t s f g v q).1, .int .i64 (stopsR l a t s f g v q).2]) ∧ Below w.heap.size w w' := by
  cases hB : isBrk l a t s
  · skip
    have hk : code13 l a t s f g = 1 := by simp [code13, hB]
    go_enter Try.func29, Try.ntmps29
    go_wp2_with (first | (go_at_call 43; (with_reducible refine (l13Code_any _ _ _ _ _ _ _).mono ?_); rintro e w' ⟨rfl, hb⟩; obtain ⟨hc, hf⟩ := bcell hb; have hz := hb.size; (try simp only [World.size_alloc, World.size_drew] at hz); (try have hz0 : w.heap.size < w'.heap.size := by omega); (try have hz1 : w.heap.size + 1 < w'.heap.size := by omega)) | (go_at_call 41; (with_reducible refine (l01In_any _ _ _ _).mono ?_); rintro e w' ⟨rfl, rfl⟩))
    all_goals
      go_ret2
      exact ⟨by simp [stopsR, hB], (by repeat (first | (with_reducible assumption) | (with_reducible exact Below.refl _ _) | (with_reducible refine Below.drew ?_) | (with_reducible refine blw_al ?_ _) | (with_reducible refine blw_stp (by with_reducible assumption) ?_) | (with_reducible refine blw_set ?_ (by dsimp only; omega) _)))⟩
  obtain ⟨h1, h2, h5, h6, h7, h8, h9, h10⟩ := isBrk_bd hB
  cases hF : inR f 0 1000
  · skip
    have hk : code13 l a t s f g = 2 := by simp [code13, hB, hF]
    go_enter Try.func29, Try.ntmps29
    go_wp2_with (first | (go_at_call 43; (with_reducible refine (l13Code_any _ _ _ _ _ _ _).mono ?_); rintro e w' ⟨rfl, hb⟩; obtain ⟨hc, hf⟩ := bcell hb; have hz := hb.size; (try simp only [World.size_alloc, World.size_drew] at hz); (try have hz0 : w.heap.size < w'.heap.size := by omega); (try have hz1 : w.heap.size + 1 < w'.heap.size := by omega)) | (go_at_call 41; (with_reducible refine (l01In_any _ _ _ _).mono ?_); rintro e w' ⟨rfl, rfl⟩))
    all_goals
      go_ret2
      exact ⟨by simp [stopsR, hB, hF], (by repeat (first | (with_reducible assumption) | (with_reducible exact Below.refl _ _) | (with_reducible refine Below.drew ?_) | (with_reducible refine blw_al ?_ _) | (with_reducible refine blw_stp (by with_reducible assumption) ?_) | (with_reducible refine blw_set ?_ (by dsimp only; omega) _)))⟩
  obtain ⟨h3, h4⟩ := inR_iff.1 hF
  cases hG : inR g 0 5000
  · skip
    have hk : code13 l a t s f g = 2 := by simp [code13, hB, hF, hG]
    go_enter Try.func29, Try.ntmps29
    go_wp2_with (first | (go_at_call 43; (with_reducible refine (l13Code_any _ _ _ _ _ _ _).mono ?_); rintro e w' ⟨rfl, hb⟩; obtain ⟨hc, hf⟩ := bcell hb; have hz := hb.size; (try simp only [World.size_alloc, World.size_drew] at hz); (try have hz0 : w.heap.size < w'.heap.size := by omega); (try have hz1 : w.heap.size + 1 < w'.heap.size := by omega)) | (go_at_call 41; (with_reducible refine (l01In_any _ _ _ _).mono ?_); rintro e w' ⟨rfl, rfl⟩))
    all_goals
      go_ret2
      exact ⟨by simp [stopsR, hB, hF, hG], (by repeat (first | (with_reducible assumption) | (with_reducible exact Below.refl _ _) | (with_reducible refine Below.drew ?_) | (with_reducible refine blw_al ?_ _) | (with_reducible refine blw_stp (by with_reducible assumption) ?_) | (with_reducible refine blw_set ?_ (by dsimp only; omega) _)))⟩
  obtain ⟨g1, g2⟩ := inR_iff.1 hG
  cases hV : inR v 0 1000000
  · skip
    have hk : code13 l a t s f g = 0 := by simp [code13, hB, hF, hG]
    go_enter Try.func29, Try.ntmps29
    go_wp2_with (first | (go_at_call 43; (with_reducible refine (l13Code_any _ _ _ _ _ _ _).mono ?_); rintro e w' ⟨rfl, hb⟩; obtain ⟨hc, hf⟩ := bcell hb; have hz := hb.size; (try simp only [World.size_alloc, World.size_drew] at hz); (try have hz0 : w.heap.size < w'.heap.size := by omega); (try have hz1 : w.heap.size + 1 < w'.heap.size := by omega)) | (go_at_call 41; (with_reducible refine (l01In_any _ _ _ _).mono ?_); rintro e w' ⟨rfl, rfl⟩))
    all_goals
      go_ret2
      exact ⟨by simp [stopsR, hB, hF, hG, hV], (by repeat (first | (with_reducible assumption) | (with_reducible exact Below.refl _ _) | (with_reducible refine Below.drew ?_) | (with_reducible refine blw_al ?_ _) | (with_reducible refine blw_stp (by with_reducible assumption) ?_) | (with_reducible refine blw_set ?_ (by dsimp only; omega) _)))⟩
  cases hQ : inR q 0 100000
  · skip
    have hk : code13 l a t s f g = 0 := by simp [code13, hB, hF, hG]
    go_enter Try.func29, Try.ntmps29
    go_wp2_with (first | (go_at_call 43; (with_reducible refine (l13Code_any _ _ _ _ _ _ _).mono ?_); rintro e w' ⟨rfl, hb⟩; obtain ⟨hc, hf⟩ := bcell hb; have hz := hb.size; (try simp only [World.size_alloc, World.size_drew] at hz); (try have hz0 : w.heap.size < w'.heap.size := by omega); (try have hz1 : w.heap.size + 1 < w'.heap.size := by omega)) | (go_at_call 41; (with_reducible refine (l01In_any _ _ _ _).mono ?_); rintro e w' ⟨rfl, rfl⟩))
    all_goals
      go_ret2
      exact ⟨by simp [stopsR, hB, hF, hG, hV, hQ], (by repeat (first | (with_reducible assumption) | (with_reducible exact Below.refl _ _) | (with_reducible refine Below.drew ?_) | (with_reducible refine blw_al ?_ _) | (with_reducible refine blw_stp (by with_reducible assumption) ?_) | (with_reducible refine blw_set ?_ (by dsimp only; omega) _)))⟩
  by_cases ht : travel l a t f g ≤ v
  · by_cases hg : q ≤ grip l a s f
    · skip
      have hk : code13 l a t s f g = 0 := by simp [code13, hB, hF, hG]
      go_enter Try.func29, Try.ntmps29
      go_wp2_with (first | (go_at_call 43; (with_reducible refine (l13Code_any _ _ _ _ _ _ _).mono ?_); rintro e w' ⟨rfl, hb⟩; obtain ⟨hc, hf⟩ := bcell hb; have hz := hb.size; (try simp only [World.size_alloc, World.size_drew] at hz); (try have hz0 : w.heap.size < w'.heap.size := by omega); (try have hz1 : w.heap.size + 1 < w'.heap.size := by omega)) | (go_at_call 41; (with_reducible refine (l01In_any _ _ _ _).mono ?_); rintro e w' ⟨rfl, rfl⟩) | (go_at_call 53; (with_reducible refine (l13Travel_any _ _ _ _ _ _ _ h1 h2 h3 h4 h5 h6 h7 h8 g1 g2).mono ?_); rintro e w' ⟨rfl, hb⟩; obtain ⟨hc, hf⟩ := bcell hb; have hz := hb.size; (try simp only [World.size_alloc, World.size_drew] at hz); (try have hz0 : w.heap.size < w'.heap.size := by omega); (try have hz1 : w.heap.size + 1 < w'.heap.size := by omega)) | (go_at_call 47; (with_reducible refine (l13Grip_any _ _ _ _ _ _ h1 h2 h3 h4 h5 h6 h9 h10).mono ?_); rintro e w' ⟨rfl, hb⟩; obtain ⟨hc, hf⟩ := bcell hb; have hz := hb.size; (try simp only [World.size_alloc, World.size_drew] at hz); (try have hz0 : w.heap.size < w'.heap.size := by omega); (try have hz1 : w.heap.size + 1 < w'.heap.size := by omega)))
      all_goals
        go_ret2
        exact ⟨by simp [stopsR, hB, hF, hG, hV, hQ, ht, hg], (by repeat (first | (with_reducible assumption) | (with_reducible exact Below.refl _ _) | (with_reducible refine Below.drew ?_) | (with_reducible refine blw_al ?_ _) | (with_reducible refine blw_stp (by with_reducible assumption) ?_) | (with_reducible refine blw_set ?_ (by dsimp only; omega) _)))⟩
    · skip
      have hk : code13 l a t s f g = 0 := by simp [code13, hB, hF, hG]
      go_enter Try.func29, Try.ntmps29
      go_wp2_with (first | (go_at_call 43; (with_reducible refine (l13Code_any _ _ _ _ _ _ _).mono ?_); rintro e w' ⟨rfl, hb⟩; obtain ⟨hc, hf⟩ := bcell hb; have hz := hb.size; (try simp only [World.size_alloc, World.size_drew] at hz); (try have hz0 : w.heap.size < w'.heap.size := by omega); (try have hz1 : w.heap.size + 1 < w'.heap.size := by omega)) | (go_at_call 41; (with_reducible refine (l01In_any _ _ _ _).mono ?_); rintro e w' ⟨rfl, rfl⟩) | (go_at_call 53; (with_reducible refine (l13Travel_any _ _ _ _ _ _ _ h1 h2 h3 h4 h5 h6 h7 h8 g1 g2).mono ?_); rintro e w' ⟨rfl, hb⟩; obtain ⟨hc, hf⟩ := bcell hb; have hz := hb.size; (try simp only [World.size_alloc, World.size_drew] at hz); (try have hz0 : w.heap.size < w'.heap.size := by omega); (try have hz1 : w.heap.size + 1 < w'.heap.size := by omega)) | (go_at_call 47; (with_reducible refine (l13Grip_any _ _ _ _ _ _ h1 h2 h3 h4 h5 h6 h9 h10).mono ?_); rintro e w' ⟨rfl, hb⟩; obtain ⟨hc, hf⟩ := bcell hb; have hz := hb.size; (try simp only [World.size_alloc, World.size_drew] at hz); (try have hz0 : w.heap.size < w'.heap.size := by omega); (try have hz1 : w.heap.size + 1 < w'.heap.size := by omega)))
      all_goals
        go_ret2
        exact ⟨by simp [stopsR, hB, hF, hG, hV, hQ, ht, hg], (by repeat (first | (with_reducible assumption) | (with_reducible exact Below.refl _ _) | (with_reducible refine Below.drew ?_) | (with_reducible refine blw_al ?_ _) | (with_reducible refine blw_stp (by with_reducible assumption) ?_) | (with_reducible refine blw_set ?_ (by dsimp only; omega) _)))⟩
  · skip
    have hk : code13 l a t s f g = 0 := by simp [code13, hB, hF, hG]
    go_enter Try.func29, Try.ntmps29
    go_wp2_with (first | (go_at_call 43; (with_reducible refine (l13Code_any _ _ _ _ _ _ _).mono ?_); rintro e w' ⟨rfl, hb⟩; obtain ⟨hc, hf⟩ := bcell hb; have hz := hb.size; (try simp only [World.size_alloc, World.size_drew] at hz); (try have hz0 : w.heap.size < w'.heap.size := by omega); (try have hz1 : w.heap.size + 1 < w'.heap.size := by omega)) | (go_at_call 41; (with_reducible refine (l01In_any _ _ _ _).mono ?_); rintro e w' ⟨rfl, rfl⟩) | (go_at_call 53; (with_reducible refine (l13Travel_any _ _ _ _ _ _ _ h1 h2 h3 h4 h5 h6 h7 h8 g1 g2).mono ?_); rintro e w' ⟨rfl, hb⟩; obtain ⟨hc, hf⟩ := bcell hb; have hz := hb.size; (try simp only [World.size_alloc, World.size_drew] at hz); (try have hz0 : w.heap.size < w'.heap.size := by omega); (try have hz1 : w.heap.size + 1 < w'.heap.size := by omega)) | (go_at_call 47; (with_reducible refine (l13Grip_any _ _ _ _ _ _ h1 h2 h3 h4 h5 h6 h9 h10).mono ?_); rintro e w' ⟨rfl, hb⟩; obtain ⟨hc, hf⟩ := bcell hb; have hz := hb.size; (try simp only [World.size_alloc, World.size_drew] at hz); (try have hz0 : w.heap.size < w'.heap.size := by omega); (try have hz1 : w.heap.size + 1 < w'.heap.size := by omega)))
    all_goals
      go_ret2
      exact ⟨by simp [stopsR, hB, hF, hG, hV, hQ, show ¬ travel l a t f g ≤ v by omega], (by repeat (first | (with_reducible assumption) | (with_reducible exact Below.refl _ _) | (with_reducible refine Below.drew ?_) | (with_reducible refine blw_al ?_ _) | (with_reducible refine blw_stp (by with_reducible assumption) ?_) | (with_reducible refine blw_set ?_ (by dsimp only; omega) _)))⟩

set_option maxHeartbeats 800000 in
theorem TurnsOfBarrel_any (l a t s g v : Int) (w : World) :
    Calls Try.prog 22 #[.agg #[.int .i64 l, .int .i64 a, .int .i64 t, .int .i64 s], .int .i64 g, .int .i64 v] w fun e w' => e = .returned (.tuple #[.int .i64 (turnsR l a t s g v).1, .int .i64 (turnsR l a t s g v).2]) ∧ Below w.heap.size w w' := by
  cases hB : isBrk l a t s
  · skip
    go_enter Try.func22, Try.ntmps22
    go_wp2_with (first | (go_at_call 16; (with_reducible refine (IsBrake_any _ _ _ _ _).mono ?_); rintro e w' ⟨rfl, hb⟩; obtain ⟨hc, hf⟩ := bcell hb; have hz := hb.size; (try simp only [World.size_alloc, World.size_drew] at hz); (try have hz0 : w.heap.size < w'.heap.size := by omega); (try have hz1 : w.heap.size + 1 < w'.heap.size := by omega)) | (go_at_call 50; (with_reducible refine (isGap_any _ _).mono ?_); rintro e w' ⟨rfl, rfl⟩))
    all_goals
      go_ret2
      exact ⟨by simp [turnsR, hB], (by repeat (first | (with_reducible assumption) | (with_reducible exact Below.refl _ _) | (with_reducible refine Below.drew ?_) | (with_reducible refine blw_al ?_ _) | (with_reducible refine blw_stp (by with_reducible assumption) ?_) | (with_reducible refine blw_set ?_ (by dsimp only; omega) _)))⟩
  obtain ⟨h1, h2, h5, h6, h7, h8, h9, h10⟩ := isBrk_bd hB
  cases hG : inR g 0 5000
  · skip
    go_enter Try.func22, Try.ntmps22
    go_wp2_with (first | (go_at_call 16; (with_reducible refine (IsBrake_any _ _ _ _ _).mono ?_); rintro e w' ⟨rfl, hb⟩; obtain ⟨hc, hf⟩ := bcell hb; have hz := hb.size; (try simp only [World.size_alloc, World.size_drew] at hz); (try have hz0 : w.heap.size < w'.heap.size := by omega); (try have hz1 : w.heap.size + 1 < w'.heap.size := by omega)) | (go_at_call 50; (with_reducible refine (isGap_any _ _).mono ?_); rintro e w' ⟨rfl, rfl⟩))
    all_goals
      go_ret2
      exact ⟨by simp [turnsR, hB, hG], (by repeat (first | (with_reducible assumption) | (with_reducible exact Below.refl _ _) | (with_reducible refine Below.drew ?_) | (with_reducible refine blw_al ?_ _) | (with_reducible refine blw_stp (by with_reducible assumption) ?_) | (with_reducible refine blw_set ?_ (by dsimp only; omega) _)))⟩
  obtain ⟨g1, g2⟩ := inR_iff.1 hG
  cases hV : inR v 0 5000
  · skip
    go_enter Try.func22, Try.ntmps22
    go_wp2_with (first | (go_at_call 16; (with_reducible refine (IsBrake_any _ _ _ _ _).mono ?_); rintro e w' ⟨rfl, hb⟩; obtain ⟨hc, hf⟩ := bcell hb; have hz := hb.size; (try simp only [World.size_alloc, World.size_drew] at hz); (try have hz0 : w.heap.size < w'.heap.size := by omega); (try have hz1 : w.heap.size + 1 < w'.heap.size := by omega)) | (go_at_call 50; (with_reducible refine (isGap_any _ _).mono ?_); rintro e w' ⟨rfl, rfl⟩))
    all_goals
      go_ret2
      exact ⟨by simp [turnsR, hB, hG, hV], (by repeat (first | (with_reducible assumption) | (with_reducible exact Below.refl _ _) | (with_reducible refine Below.drew ?_) | (with_reducible refine blw_al ?_ _) | (with_reducible refine blw_stp (by with_reducible assumption) ?_) | (with_reducible refine blw_set ?_ (by dsimp only; omega) _)))⟩
  obtain ⟨v1, v2⟩ := inR_iff.1 hV
  obtain ⟨t1, t2⟩ := turn_bd h5 h6
  by_cases hgv : g ≤ v
  · skip
    go_enter Try.func22, Try.ntmps22
    go_wp2_with (first | (go_at_call 16; (with_reducible refine (IsBrake_any _ _ _ _ _).mono ?_); rintro e w' ⟨rfl, hb⟩; obtain ⟨hc, hf⟩ := bcell hb; have hz := hb.size; (try simp only [World.size_alloc, World.size_drew] at hz); (try have hz0 : w.heap.size < w'.heap.size := by omega); (try have hz1 : w.heap.size + 1 < w'.heap.size := by omega)) | (go_at_call 50; (with_reducible refine (isGap_any _ _).mono ?_); rintro e w' ⟨rfl, rfl⟩) | (go_at_call 51; (with_reducible refine (ceilDiv_any _ _ _ (by omega) (by omega) (by omega) (by omega)).mono ?_); rintro e w' ⟨rfl, rfl⟩))
    all_goals
      go_ret2
      exact ⟨by simp [turnsR, hB, hG, hV, hgv], (by repeat (first | (with_reducible assumption) | (with_reducible exact Below.refl _ _) | (with_reducible refine Below.drew ?_) | (with_reducible refine blw_al ?_ _) | (with_reducible refine blw_stp (by with_reducible assumption) ?_) | (with_reducible refine blw_set ?_ (by dsimp only; omega) _)))⟩
  · skip
    go_enter Try.func22, Try.ntmps22
    go_wp2_with (first | (go_at_call 16; (with_reducible refine (IsBrake_any _ _ _ _ _).mono ?_); rintro e w' ⟨rfl, hb⟩; obtain ⟨hc, hf⟩ := bcell hb; have hz := hb.size; (try simp only [World.size_alloc, World.size_drew] at hz); (try have hz0 : w.heap.size < w'.heap.size := by omega); (try have hz1 : w.heap.size + 1 < w'.heap.size := by omega)) | (go_at_call 50; (with_reducible refine (isGap_any _ _).mono ?_); rintro e w' ⟨rfl, rfl⟩) | (go_at_call 51; (with_reducible refine (ceilDiv_any _ _ _ (by omega) (by omega) (by omega) (by omega)).mono ?_); rintro e w' ⟨rfl, rfl⟩))
    all_goals
      go_ret2
      exact ⟨by simp [turnsR, hB, hG, hV, show ¬ g ≤ v by omega], (by repeat (first | (with_reducible assumption) | (with_reducible exact Below.refl _ _) | (with_reducible refine Below.drew ?_) | (with_reducible refine blw_al ?_ _) | (with_reducible refine blw_stp (by with_reducible assumption) ?_) | (with_reducible refine blw_set ?_ (by dsimp only; omega) _)))⟩

set_option maxHeartbeats 800000 in
theorem sTurnsOfBarrel_any (l a t s g v : Int) (w : World) :
    Calls Try.prog 21 #[.agg #[.int .i64 l, .int .i64 a, .int .i64 t, .int .i64 s], .int .i64 g, .int .i64 v] w fun e w' => e = .returned (.tuple #[.int .i64 (turnsR l a t s g v).1, .int .i64 (turnsR l a t s g v).2]) ∧ Below w.heap.size w w' := by
  cases hB : isBrk l a t s
  · skip
    have hk : code13 l a t s 0 g = 1 := by simp [code13, hB, inR00]
    have hk2 : code13 l a t s 0 v = 1 := by simp [code13, hB, inR00]
    go_enter Try.func21, Try.ntmps21
    go_wp2_with (first | (go_at_call 43; (with_reducible refine (l13Code_any _ _ _ _ _ _ _).mono ?_); rintro e w' ⟨rfl, hb⟩; obtain ⟨hc, hf⟩ := bcell hb; have hz := hb.size; (try simp only [World.size_alloc, World.size_drew] at hz); (try have hz0 : w.heap.size < w'.heap.size := by omega); (try have hz1 : w.heap.size + 1 < w'.heap.size := by omega)))
    all_goals
      go_ret2
      exact ⟨by simp [turnsR, hB], (by repeat (first | (with_reducible assumption) | (with_reducible exact Below.refl _ _) | (with_reducible refine Below.drew ?_) | (with_reducible refine blw_al ?_ _) | (with_reducible refine blw_stp (by with_reducible assumption) ?_) | (with_reducible refine blw_set ?_ (by dsimp only; omega) _)))⟩
  obtain ⟨h1, h2, h5, h6, h7, h8, h9, h10⟩ := isBrk_bd hB
  cases hG : inR g 0 5000
  · skip
    have hk : code13 l a t s 0 g = 2 := by simp [code13, hB, hG, inR00]
    go_enter Try.func21, Try.ntmps21
    go_wp2_with (first | (go_at_call 43; (with_reducible refine (l13Code_any _ _ _ _ _ _ _).mono ?_); rintro e w' ⟨rfl, hb⟩; obtain ⟨hc, hf⟩ := bcell hb; have hz := hb.size; (try simp only [World.size_alloc, World.size_drew] at hz); (try have hz0 : w.heap.size < w'.heap.size := by omega); (try have hz1 : w.heap.size + 1 < w'.heap.size := by omega)))
    all_goals
      go_ret2
      exact ⟨by simp [turnsR, hB, hG], (by repeat (first | (with_reducible assumption) | (with_reducible exact Below.refl _ _) | (with_reducible refine Below.drew ?_) | (with_reducible refine blw_al ?_ _) | (with_reducible refine blw_stp (by with_reducible assumption) ?_) | (with_reducible refine blw_set ?_ (by dsimp only; omega) _)))⟩
  obtain ⟨g1, g2⟩ := inR_iff.1 hG
  cases hV : inR v 0 5000
  · skip
    have hk : code13 l a t s 0 g = 0 := by simp [code13, hB, hG, hV, inR00]
    have hk2 : code13 l a t s 0 v = 2 := by simp [code13, hB, hG, hV, inR00]
    go_enter Try.func21, Try.ntmps21
    go_wp2_with (first | (go_at_call 43; (with_reducible refine (l13Code_any _ _ _ _ _ _ _).mono ?_); rintro e w' ⟨rfl, hb⟩; obtain ⟨hc, hf⟩ := bcell hb; have hz := hb.size; (try simp only [World.size_alloc, World.size_drew] at hz); (try have hz0 : w.heap.size < w'.heap.size := by omega); (try have hz1 : w.heap.size + 1 < w'.heap.size := by omega)))
    all_goals
      go_ret2
      exact ⟨by simp [turnsR, hB, hG, hV], (by repeat (first | (with_reducible assumption) | (with_reducible exact Below.refl _ _) | (with_reducible refine Below.drew ?_) | (with_reducible refine blw_al ?_ _) | (with_reducible refine blw_stp (by with_reducible assumption) ?_) | (with_reducible refine blw_set ?_ (by dsimp only; omega) _)))⟩
  obtain ⟨v1, v2⟩ := inR_iff.1 hV
  obtain ⟨t1, t2⟩ := turn_bd h5 h6
  by_cases hgv : g ≤ v
  · skip
    have hk : code13 l a t s 0 g = 0 := by simp [code13, hB, hG, hV, inR00]
    have hk2 : code13 l a t s 0 v = 0 := by simp [code13, hB, hG, hV, inR00]
    go_enter Try.func21, Try.ntmps21
    go_wp2_with (first | (go_at_call 43; (with_reducible refine (l13Code_any _ _ _ _ _ _ _).mono ?_); rintro e w' ⟨rfl, hb⟩; obtain ⟨hc, hf⟩ := bcell hb; have hz := hb.size; (try simp only [World.size_alloc, World.size_drew] at hz); (try have hz0 : w.heap.size < w'.heap.size := by omega); (try have hz1 : w.heap.size + 1 < w'.heap.size := by omega)) | (go_at_call 49; (with_reducible refine (l01Ceil_any _ _ _ (by omega) (by omega) (by omega) (by omega)).mono ?_); rintro e w' ⟨rfl, rfl⟩))
    all_goals
      go_ret2
      exact ⟨by simp [turnsR, hB, hG, hV, hgv, cdiv_zero (show 1 ≤ 25000 / a by omega)], (by repeat (first | (with_reducible assumption) | (with_reducible exact Below.refl _ _) | (with_reducible refine Below.drew ?_) | (with_reducible refine blw_al ?_ _) | (with_reducible refine blw_stp (by with_reducible assumption) ?_) | (with_reducible refine blw_set ?_ (by dsimp only; omega) _)))⟩
  · skip
    have hk : code13 l a t s 0 g = 0 := by simp [code13, hB, hG, hV, inR00]
    have hk2 : code13 l a t s 0 v = 0 := by simp [code13, hB, hG, hV, inR00]
    go_enter Try.func21, Try.ntmps21
    go_wp2_with (first | (go_at_call 43; (with_reducible refine (l13Code_any _ _ _ _ _ _ _).mono ?_); rintro e w' ⟨rfl, hb⟩; obtain ⟨hc, hf⟩ := bcell hb; have hz := hb.size; (try simp only [World.size_alloc, World.size_drew] at hz); (try have hz0 : w.heap.size < w'.heap.size := by omega); (try have hz1 : w.heap.size + 1 < w'.heap.size := by omega)) | (go_at_call 49; (with_reducible refine (l01Ceil_any _ _ _ (by omega) (by omega) (by omega) (by omega)).mono ?_); rintro e w' ⟨rfl, rfl⟩))
    all_goals
      go_ret2
      exact ⟨by simp [turnsR, hB, hG, hV, show ¬ g ≤ v by omega], (by repeat (first | (with_reducible assumption) | (with_reducible exact Below.refl _ _) | (with_reducible refine Below.drew ?_) | (with_reducible refine blw_al ?_ _) | (with_reducible refine blw_stp (by with_reducible assumption) ?_) | (with_reducible refine blw_set ?_ (by dsimp only; omega) _)))⟩

def cmp3 (x y : Int) : Int := if x < y then -1 else if y < x then 1 else 0
def compR (l a t s l' a' t' s' f : Int) : Int × Int := if isBrk l a t s = true then (if isBrk l' a' t' s' = true then (if inR f 0 1000 = true then (cmp3 (grip l a s f) (grip l' a' s' f), 0) else (0, 2)) else (0, 1)) else (0, 1)
theorem compR_end {l a t s l' a' t' s' f c : Int} (hB : isBrk l a t s = true) (hC : isBrk l' a' t' s' = true) (hF : inR f 0 1000 = true) (h : cmp3 (grip l a s f) (grip l' a' s' f) = c) :
    Ending.returned (.tuple #[.int .i64 c, .int .i64 0]) = .returned (.tuple #[.int .i64 (compR l a t s l' a' t' s' f).1, .int .i64 (compR l a t s l' a' t' s' f).2]) := by
  unfold compR; rw [if_pos hB, if_pos hC, if_pos hF, h]
theorem keep8 {w w1 w2 : World} {b : Nat} {x0 x1 x2 x3 y0 y1 y2 y3 : Value} (hb : Below w2.heap.size w2 w1)
    (h : w2.cell? ⟨b, 0, none⟩ = some x0 ∧ w2.cell? ⟨b, 1, none⟩ = some x1 ∧ w2.cell? ⟨b, 2, none⟩ = some x2 ∧ w2.cell? ⟨b, 3, none⟩ = some x3 ∧ w2.cell? ⟨b + 1, 0, none⟩ = some y0 ∧ w2.cell? ⟨b + 1, 1, none⟩ = some y1 ∧ w2.cell? ⟨b + 1, 2, none⟩ = some y2 ∧ w2.cell? ⟨b + 1, 3, none⟩ = some y3 ∧ Below w.heap.size w w2) :
    w1.cell? ⟨b, 0, none⟩ = some x0 ∧ w1.cell? ⟨b, 1, none⟩ = some x1 ∧ w1.cell? ⟨b, 2, none⟩ = some x2 ∧ w1.cell? ⟨b, 3, none⟩ = some x3 ∧ w1.cell? ⟨b + 1, 0, none⟩ = some y0 ∧ w1.cell? ⟨b + 1, 1, none⟩ = some y1 ∧ w1.cell? ⟨b + 1, 2, none⟩ = some y2 ∧ w1.cell? ⟨b + 1, 3, none⟩ = some y3 ∧ Below w.heap.size w w1 := by
  obtain ⟨h0, h1, h2, h3, g0, g1, g2, g3, h4⟩ := h
  have hlt := World.block_lt_of_cell? w2 _ h0
  have hlt' := World.block_lt_of_cell? w2 _ g0
  have e : ∀ o, w1.cell? ⟨b, o, none⟩ = w2.cell? ⟨b, o, none⟩ := fun o => hb.cell (p := ⟨b, o, none⟩) hlt
  have e' : ∀ o, w1.cell? ⟨b + 1, o, none⟩ = w2.cell? ⟨b + 1, o, none⟩ := fun o => hb.cell (p := ⟨b + 1, o, none⟩) hlt'
  exact ⟨(e 0).trans h0, (e 1).trans h1, (e 2).trans h2, (e 3).trans h3, (e' 0).trans g0, (e' 1).trans g1, (e' 2).trans g2, (e' 3).trans g3, h4.trans (hb.mono h4.size)⟩

set_option maxHeartbeats 800000 in
theorem CompareBrakes_any (l a t s l' a' t' s' f : Int) (w : World) :
    Calls Try.prog 28 #[.agg #[.int .i64 l, .int .i64 a, .int .i64 t, .int .i64 s], .agg #[.int .i64 l', .int .i64 a', .int .i64 t', .int .i64 s'], .int .i64 f] w fun e w' => e = .returned (.tuple #[.int .i64 (compR l a t s l' a' t' s' f).1, .int .i64 (compR l a t s l' a' t' s' f).2]) ∧ Below w.heap.size w w' := by
  cases hB : isBrk l a t s
  · skip
    go_enter Try.func28, Try.ntmps28
    go_wp2_with (first | (go_at_call 16; (with_reducible refine (IsBrake_any _ _ _ _ _).mono ?_); rintro e w' ⟨rfl, hb⟩; obtain ⟨hc, hf⟩ := bcell hb; have hz := hb.size; (try simp only [World.size_alloc, World.size_drew] at hz); (try have hz0 : w.heap.size < w'.heap.size := by omega); (try have hz1 : w.heap.size + 1 < w'.heap.size := by omega)) | (go_at_call 45; (with_reducible refine (isForce_any _ _).mono ?_); rintro e w' ⟨rfl, rfl⟩))
    go_ret2
    exact ⟨by simp [compR, hB], (by repeat (first | (with_reducible assumption) | (with_reducible exact Below.refl _ _) | (with_reducible refine Below.drew ?_) | (with_reducible refine blw_al ?_ _) | (with_reducible refine blw_stp (by with_reducible assumption) ?_) | (with_reducible refine blw_set ?_ (by dsimp only; omega) _)))⟩
  obtain ⟨h1, h2, h5, h6, h7, h8, h9, h10⟩ := isBrk_bd hB
  cases hC : isBrk l' a' t' s'
  · skip
    go_enter Try.func28, Try.ntmps28
    go_wp2_with (first | (go_at_call 16; (with_reducible refine (IsBrake_any _ _ _ _ _).mono ?_); rintro e w' ⟨rfl, hb⟩; obtain ⟨hc, hf⟩ := bcell hb; have hz := hb.size; (try simp only [World.size_alloc, World.size_drew] at hz); (try have hz0 : w.heap.size < w'.heap.size := by omega); (try have hz1 : w.heap.size + 1 < w'.heap.size := by omega)) | (go_at_call 45; (with_reducible refine (isForce_any _ _).mono ?_); rintro e w' ⟨rfl, rfl⟩))
    go_ret2
    exact ⟨by simp [compR, hB, hC], (by repeat (first | (with_reducible assumption) | (with_reducible exact Below.refl _ _) | (with_reducible refine Below.drew ?_) | (with_reducible refine blw_al ?_ _) | (with_reducible refine blw_stp (by with_reducible assumption) ?_) | (with_reducible refine blw_set ?_ (by dsimp only; omega) _)))⟩
  obtain ⟨k1, k2, k5, k6, k7, k8, k9, k10⟩ := isBrk_bd hC
  cases hF : inR f 0 1000
  · skip
    go_enter Try.func28, Try.ntmps28
    go_wp2_with (first | (go_at_call 16; (with_reducible refine (IsBrake_any _ _ _ _ _).mono ?_); rintro e w' ⟨rfl, hb⟩; obtain ⟨hc, hf⟩ := bcell hb; have hz := hb.size; (try simp only [World.size_alloc, World.size_drew] at hz); (try have hz0 : w.heap.size < w'.heap.size := by omega); (try have hz1 : w.heap.size + 1 < w'.heap.size := by omega)) | (go_at_call 45; (with_reducible refine (isForce_any _ _).mono ?_); rintro e w' ⟨rfl, rfl⟩))
    go_ret2
    exact ⟨by simp [compR, hB, hC, hF], (by repeat (first | (with_reducible assumption) | (with_reducible exact Below.refl _ _) | (with_reducible refine Below.drew ?_) | (with_reducible refine blw_al ?_ _) | (with_reducible refine blw_stp (by with_reducible assumption) ?_) | (with_reducible refine blw_set ?_ (by dsimp only; omega) _)))⟩
  · obtain ⟨h3, h4⟩ := inR_iff.1 hF
    go_enter Try.func28, Try.ntmps28
    go_wp2_with (first | (go_at_call 16; (with_reducible refine (IsBrake_any _ _ _ _ _).mono ?_); rintro e w' ⟨rfl, hb⟩; obtain ⟨hc, hf⟩ := bcell hb; have hz := hb.size; (try simp only [World.size_alloc, World.size_drew] at hz); (try have hz0 : w.heap.size < w'.heap.size := by omega); (try have hz1 : w.heap.size + 1 < w'.heap.size := by omega)) | (go_at_call 45; (with_reducible refine (isForce_any _ _).mono ?_); rintro e w' ⟨rfl, rfl⟩))
    go_region_held3 (fun w' => w'.cell? ⟨w.heap.size, 0, none⟩ = some (.int .i64 l) ∧ w'.cell? ⟨w.heap.size, 1, none⟩ = some (.int .i64 a) ∧ w'.cell? ⟨w.heap.size, 2, none⟩ = some (.int .i64 t) ∧ w'.cell? ⟨w.heap.size, 3, none⟩ = some (.int .i64 s) ∧ w'.cell? ⟨w.heap.size + 1, 0, none⟩ = some (.int .i64 l') ∧ w'.cell? ⟨w.heap.size + 1, 1, none⟩ = some (.int .i64 a') ∧ w'.cell? ⟨w.heap.size + 1, 2, none⟩ = some (.int .i64 t') ∧ w'.cell? ⟨w.heap.size + 1, 3, none⟩ = some (.int .i64 s') ∧ Below w.heap.size w w')
      (first | exact ⟨by simp [*, go_sem], by simp [*, go_sem], by simp [*, go_sem], by simp [*, go_sem], by simp [*, go_sem], by simp [*, go_sem], by simp [*, go_sem], by simp [*, go_sem], (by repeat (first | (with_reducible assumption) | (with_reducible exact Below.refl _ _) | (with_reducible refine Below.drew ?_) | (with_reducible refine blw_al ?_ _) | (with_reducible refine blw_stp (by with_reducible assumption) ?_) | (with_reducible refine blw_set ?_ (by dsimp only; omega) _)))⟩ | exact keep8 (by assumption) (by assumption) | assumption)
      (first | (go_at_call 48; (with_reducible refine (gripOf_any _ _ _ _ _ _ (by omega) (by omega) (by omega) (by omega) (by omega) (by omega) (by omega) (by omega)).mono ?_); rintro e w' ⟨rfl, hb⟩))
    all_goals
      rename_i hH
      obtain ⟨-, -, -, -, -, -, -, -, hBw⟩ := hH
      go_wp2
    all_goals
      go_ret2
      exact ⟨compR_end hB hC hF (by unfold cmp3; (repeat' split) <;> omega), by assumption⟩

set_option maxHeartbeats 800000 in
theorem sCompareBrakes_any (l a t s l' a' t' s' f : Int) (w : World) :
    Calls Try.prog 27 #[.agg #[.int .i64 l, .int .i64 a, .int .i64 t, .int .i64 s], .agg #[.int .i64 l', .int .i64 a', .int .i64 t', .int .i64 s'], .int .i64 f] w fun e w' => e = .returned (.tuple #[.int .i64 (compR l a t s l' a' t' s' f).1, .int .i64 (compR l a t s l' a' t' s' f).2]) ∧ Below w.heap.size w w' := by
  cases hB : isBrk l a t s
  · cases hC : isBrk l' a' t' s'
    · skip
      go_enter Try.func27, Try.ntmps27
      go_wp2_with (first | (go_at_call 14; (with_reducible refine (sIsBrake_any _ _ _ _ _).mono ?_); rintro e w' ⟨rfl, hb⟩; obtain ⟨hc, hf⟩ := bcell hb; have hz := hb.size; (try simp only [World.size_alloc, World.size_drew] at hz); (try have hz0 : w.heap.size < w'.heap.size := by omega); (try have hz1 : w.heap.size + 1 < w'.heap.size := by omega)) | (go_at_call 43; (with_reducible refine (l13Code_any _ _ _ _ _ _ _).mono ?_); rintro e w' ⟨rfl, hb⟩; obtain ⟨hc, hf⟩ := bcell hb; have hz := hb.size; (try simp only [World.size_alloc, World.size_drew] at hz); (try have hz0 : w.heap.size < w'.heap.size := by omega); (try have hz1 : w.heap.size + 1 < w'.heap.size := by omega)))
      go_ret2
      exact ⟨by simp [compR, hB], (by repeat (first | (with_reducible assumption) | (with_reducible exact Below.refl _ _) | (with_reducible refine Below.drew ?_) | (with_reducible refine blw_al ?_ _) | (with_reducible refine blw_stp (by with_reducible assumption) ?_) | (with_reducible refine blw_set ?_ (by dsimp only; omega) _)))⟩
    · skip
      have hk : code13 l a t s f 0 = 1 := by simp [code13, hB, inR00]
      go_enter Try.func27, Try.ntmps27
      go_wp2_with (first | (go_at_call 14; (with_reducible refine (sIsBrake_any _ _ _ _ _).mono ?_); rintro e w' ⟨rfl, hb⟩; obtain ⟨hc, hf⟩ := bcell hb; have hz := hb.size; (try simp only [World.size_alloc, World.size_drew] at hz); (try have hz0 : w.heap.size < w'.heap.size := by omega); (try have hz1 : w.heap.size + 1 < w'.heap.size := by omega)) | (go_at_call 43; (with_reducible refine (l13Code_any _ _ _ _ _ _ _).mono ?_); rintro e w' ⟨rfl, hb⟩; obtain ⟨hc, hf⟩ := bcell hb; have hz := hb.size; (try simp only [World.size_alloc, World.size_drew] at hz); (try have hz0 : w.heap.size < w'.heap.size := by omega); (try have hz1 : w.heap.size + 1 < w'.heap.size := by omega)))
      go_ret2
      exact ⟨by simp [compR, hB, hC], (by repeat (first | (with_reducible assumption) | (with_reducible exact Below.refl _ _) | (with_reducible refine Below.drew ?_) | (with_reducible refine blw_al ?_ _) | (with_reducible refine blw_stp (by with_reducible assumption) ?_) | (with_reducible refine blw_set ?_ (by dsimp only; omega) _)))⟩
  obtain ⟨h1, h2, h5, h6, h7, h8, h9, h10⟩ := isBrk_bd hB
  cases hC : isBrk l' a' t' s'
  · skip
    go_enter Try.func27, Try.ntmps27
    go_wp2_with (first | (go_at_call 14; (with_reducible refine (sIsBrake_any _ _ _ _ _).mono ?_); rintro e w' ⟨rfl, hb⟩; obtain ⟨hc, hf⟩ := bcell hb; have hz := hb.size; (try simp only [World.size_alloc, World.size_drew] at hz); (try have hz0 : w.heap.size < w'.heap.size := by omega); (try have hz1 : w.heap.size + 1 < w'.heap.size := by omega)) | (go_at_call 43; (with_reducible refine (l13Code_any _ _ _ _ _ _ _).mono ?_); rintro e w' ⟨rfl, hb⟩; obtain ⟨hc, hf⟩ := bcell hb; have hz := hb.size; (try simp only [World.size_alloc, World.size_drew] at hz); (try have hz0 : w.heap.size < w'.heap.size := by omega); (try have hz1 : w.heap.size + 1 < w'.heap.size := by omega)))
    go_ret2
    exact ⟨by simp [compR, hB, hC], (by repeat (first | (with_reducible assumption) | (with_reducible exact Below.refl _ _) | (with_reducible refine Below.drew ?_) | (with_reducible refine blw_al ?_ _) | (with_reducible refine blw_stp (by with_reducible assumption) ?_) | (with_reducible refine blw_set ?_ (by dsimp only; omega) _)))⟩
  obtain ⟨k1, k2, k5, k6, k7, k8, k9, k10⟩ := isBrk_bd hC
  cases hF : inR f 0 1000
  · skip
    have hk : code13 l a t s f 0 = 2 := by simp [code13, hB, hF, inR00]
    go_enter Try.func27, Try.ntmps27
    go_wp2_with (first | (go_at_call 14; (with_reducible refine (sIsBrake_any _ _ _ _ _).mono ?_); rintro e w' ⟨rfl, hb⟩; obtain ⟨hc, hf⟩ := bcell hb; have hz := hb.size; (try simp only [World.size_alloc, World.size_drew] at hz); (try have hz0 : w.heap.size < w'.heap.size := by omega); (try have hz1 : w.heap.size + 1 < w'.heap.size := by omega)) | (go_at_call 43; (with_reducible refine (l13Code_any _ _ _ _ _ _ _).mono ?_); rintro e w' ⟨rfl, hb⟩; obtain ⟨hc, hf⟩ := bcell hb; have hz := hb.size; (try simp only [World.size_alloc, World.size_drew] at hz); (try have hz0 : w.heap.size < w'.heap.size := by omega); (try have hz1 : w.heap.size + 1 < w'.heap.size := by omega)))
    go_ret2
    exact ⟨by simp [compR, hB, hC, hF], (by repeat (first | (with_reducible assumption) | (with_reducible exact Below.refl _ _) | (with_reducible refine Below.drew ?_) | (with_reducible refine blw_al ?_ _) | (with_reducible refine blw_stp (by with_reducible assumption) ?_) | (with_reducible refine blw_set ?_ (by dsimp only; omega) _)))⟩
  · obtain ⟨h3, h4⟩ := inR_iff.1 hF
    have hk : code13 l a t s f 0 = 0 := by simp [code13, hB, hF, inR00]
    go_enter Try.func27, Try.ntmps27
    go_wp2_with (first | (go_at_call 14; (with_reducible refine (sIsBrake_any _ _ _ _ _).mono ?_); rintro e w' ⟨rfl, hb⟩; obtain ⟨hc, hf⟩ := bcell hb; have hz := hb.size; (try simp only [World.size_alloc, World.size_drew] at hz); (try have hz0 : w.heap.size < w'.heap.size := by omega); (try have hz1 : w.heap.size + 1 < w'.heap.size := by omega)) | (go_at_call 43; (with_reducible refine (l13Code_any _ _ _ _ _ _ _).mono ?_); rintro e w' ⟨rfl, hb⟩; obtain ⟨hc, hf⟩ := bcell hb; have hz := hb.size; (try simp only [World.size_alloc, World.size_drew] at hz); (try have hz0 : w.heap.size < w'.heap.size := by omega); (try have hz1 : w.heap.size + 1 < w'.heap.size := by omega)))
    go_region_held3 (fun w' => w'.cell? ⟨w.heap.size, 0, none⟩ = some (.int .i64 l) ∧ w'.cell? ⟨w.heap.size, 1, none⟩ = some (.int .i64 a) ∧ w'.cell? ⟨w.heap.size, 2, none⟩ = some (.int .i64 t) ∧ w'.cell? ⟨w.heap.size, 3, none⟩ = some (.int .i64 s) ∧ w'.cell? ⟨w.heap.size + 1, 0, none⟩ = some (.int .i64 l') ∧ w'.cell? ⟨w.heap.size + 1, 1, none⟩ = some (.int .i64 a') ∧ w'.cell? ⟨w.heap.size + 1, 2, none⟩ = some (.int .i64 t') ∧ w'.cell? ⟨w.heap.size + 1, 3, none⟩ = some (.int .i64 s') ∧ Below w.heap.size w w')
      (first | exact ⟨by simp [*, go_sem], by simp [*, go_sem], by simp [*, go_sem], by simp [*, go_sem], by simp [*, go_sem], by simp [*, go_sem], by simp [*, go_sem], by simp [*, go_sem], (by repeat (first | (with_reducible assumption) | (with_reducible exact Below.refl _ _) | (with_reducible refine Below.drew ?_) | (with_reducible refine blw_al ?_ _) | (with_reducible refine blw_stp (by with_reducible assumption) ?_) | (with_reducible refine blw_set ?_ (by dsimp only; omega) _)))⟩ | exact keep8 (by assumption) (by assumption) | assumption)
      (first | (go_at_call 47; (with_reducible refine (l13Grip_any _ _ _ _ _ _ (by omega) (by omega) (by omega) (by omega) (by omega) (by omega) (by omega) (by omega)).mono ?_); rintro e w' ⟨rfl, hb⟩))
    all_goals
      rename_i hH
      obtain ⟨-, -, -, -, -, -, -, -, hBw⟩ := hH
      go_wp2
    all_goals
      go_ret2
      exact ⟨compR_end hB hC hF (by unfold cmp3; (repeat' split) <;> omega), by assumption⟩

end Go.Proofs.Ytfgokehoanlobaa
