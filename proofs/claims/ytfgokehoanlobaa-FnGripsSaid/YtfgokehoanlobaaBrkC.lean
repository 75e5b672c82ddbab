/- Contracts of the exported functions on brakes, of the program and of the reference: each returns the same Lean function of its arguments. -/
import Derived.Test.YtfgokehoanlobaaBrkB
set_option linter.unusedSimpArgs false
set_option linter.unusedVariables false
namespace Go.Proofs.Ytfgokehoanlobaa
open Go.RowKit

def code13 (l a t s f g : Int) : Int := if isBrk l a t s = true then (if inR f 0 1000 = true then (if inR g 0 5000 = true then 0 else 2) else 2) else 1
def pullR (l a t s f : Int) : Int × Int := if isBrk l a t s = true then (if inR f 0 1000 = true then (pull l f, 0) else (0, 2)) else (0, 1)
def gripR (l a t s f : Int) : Int × Int := if isBrk l a t s = true then (if inR f 0 1000 = true then (grip l a s f, 0) else (0, 2)) else (0, 1)
def travelR (l a t s f g : Int) : Int × Int := if isBrk l a t s = true then (if inR f 0 1000 = true then (if inR g 0 5000 = true then (travel l a t f g, 0) else (0, 2)) else (0, 2)) else (0, 1)
theorem inR00 {h : Int} (hh : 0 ≤ h) : inR 0 0 h = true := inR_iff.2 ⟨by omega, hh⟩

set_option maxHeartbeats 800000 in
theorem l13Code_any (l a t s f g : Int) (w : World) :
    Calls Try.prog 43 #[.agg #[.int .i64 l, .int .i64 a, .int .i64 t, .int .i64 s], .int .i64 f, .int .i64 g] w fun e w' => e = .returned (.int .i64 (code13 l a t s f g)) ∧ Below w.heap.size w w' := by
  cases hB : isBrk l a t s
  · go_enter Try.func43, Try.ntmps43
    go_wp2_with (first | (go_at_call 14; (with_reducible refine (sIsBrake_any _ _ _ _ _).mono ?_); rintro e w' ⟨rfl, hb⟩; obtain ⟨hc, hf⟩ := bcell hb; have hz := hb.size; (try simp only [World.size_alloc, World.size_drew] at hz); (try have hz0 : w.heap.size < w'.heap.size := by omega); (try have hz1 : w.heap.size + 1 < w'.heap.size := by omega)) | (go_at_call 41; (with_reducible refine (l01In_any _ _ _ _).mono ?_); rintro e w' ⟨rfl, rfl⟩))
    go_ret
    exact ⟨ret_int (by simp [code13, hB]), (by repeat (first | (with_reducible assumption) | (with_reducible exact Below.refl _ _) | (with_reducible refine Below.drew ?_) | (with_reducible refine blw_al ?_ _) | (with_reducible refine blw_stp (by with_reducible assumption) ?_) | (with_reducible refine blw_set ?_ (by dsimp only; omega) _)))⟩
  cases hF : inR f 0 1000
  · go_enter Try.func43, Try.ntmps43
    go_wp2_with (first | (go_at_call 14; (with_reducible refine (sIsBrake_any _ _ _ _ _).mono ?_); rintro e w' ⟨rfl, hb⟩; obtain ⟨hc, hf⟩ := bcell hb; have hz := hb.size; (try simp only [World.size_alloc, World.size_drew] at hz); (try have hz0 : w.heap.size < w'.heap.size := by omega); (try have hz1 : w.heap.size + 1 < w'.heap.size := by omega)) | (go_at_call 41; (with_reducible refine (l01In_any _ _ _ _).mono ?_); rintro e w' ⟨rfl, rfl⟩))
    go_ret
    exact ⟨ret_int (by simp [code13, hB, hF]), (by repeat (first | (with_reducible assumption) | (with_reducible exact Below.refl _ _) | (with_reducible refine Below.drew ?_) | (with_reducible refine blw_al ?_ _) | (with_reducible refine blw_stp (by with_reducible assumption) ?_) | (with_reducible refine blw_set ?_ (by dsimp only; omega) _)))⟩
  cases hG : inR g 0 5000
  · go_enter Try.func43, Try.ntmps43
    go_wp2_with (first | (go_at_call 14; (with_reducible refine (sIsBrake_any _ _ _ _ _).mono ?_); rintro e w' ⟨rfl, hb⟩; obtain ⟨hc, hf⟩ := bcell hb; have hz := hb.size; (try simp only [World.size_alloc, World.size_drew] at hz); (try have hz0 : w.heap.size < w'.heap.size := by omega); (try have hz1 : w.heap.size + 1 < w'.heap.size := by omega)) | (go_at_call 41; (with_reducible refine (l01In_any _ _ _ _).mono ?_); rintro e w' ⟨rfl, rfl⟩))
    go_ret
    exact ⟨ret_int (by simp [code13, hB, hF, hG]), (by repeat (first | (with_reducible assumption) | (with_reducible exact Below.refl _ _) | (with_reducible refine Below.drew ?_) | (with_reducible refine blw_al ?_ _) | (with_reducible refine blw_stp (by with_reducible assumption) ?_) | (with_reducible refine blw_set ?_ (by dsimp only; omega) _)))⟩
  · go_enter Try.func43, Try.ntmps43
    go_wp2_with (first | (go_at_call 14; (with_reducible refine (sIsBrake_any _ _ _ _ _).mono ?_); rintro e w' ⟨rfl, hb⟩; obtain ⟨hc, hf⟩ := bcell hb; have hz := hb.size; (try simp only [World.size_alloc, World.size_drew] at hz); (try have hz0 : w.heap.size < w'.heap.size := by omega); (try have hz1 : w.heap.size + 1 < w'.heap.size := by omega)) | (go_at_call 41; (with_reducible refine (l01In_any _ _ _ _).mono ?_); rintro e w' ⟨rfl, rfl⟩))
    go_ret
    exact ⟨ret_int (by simp [code13, hB, hF, hG]), (by repeat (first | (with_reducible assumption) | (with_reducible exact Below.refl _ _) | (with_reducible refine Below.drew ?_) | (with_reducible refine blw_al ?_ _) | (with_reducible refine blw_stp (by with_reducible assumption) ?_) | (with_reducible refine blw_set ?_ (by dsimp only; omega) _)))⟩

set_option maxHeartbeats 800000 in
theorem PullOf_any (l a t s f : Int) (w : World) :
    Calls Try.prog 18 #[.agg #[.int .i64 l, .int .i64 a, .int .i64 t, .int .i64 s], .int .i64 f] w fun e w' => e = .returned (.tuple #[.int .i64 (pullR l a t s f).1, .int .i64 (pullR l a t s f).2]) ∧ Below w.heap.size w w' := by
  cases hB : isBrk l a t s
  · skip
    go_enter Try.func18, Try.ntmps18
    go_wp2_with (first | (go_at_call 16; (with_reducible refine (IsBrake_any _ _ _ _ _).mono ?_); rintro e w' ⟨rfl, hb⟩; obtain ⟨hc, hf⟩ := bcell hb; have hz := hb.size; (try simp only [World.size_alloc, World.size_drew] at hz); (try have hz0 : w.heap.size < w'.heap.size := by omega); (try have hz1 : w.heap.size + 1 < w'.heap.size := by omega)) | (go_at_call 45; (with_reducible refine (isForce_any _ _).mono ?_); rintro e w' ⟨rfl, rfl⟩))
    go_ret2
    exact ⟨by simp [pullR, hB], (by repeat (first | (with_reducible assumption) | (with_reducible exact Below.refl _ _) | (with_reducible refine Below.drew ?_) | (with_reducible refine blw_al ?_ _) | (with_reducible refine blw_stp (by with_reducible assumption) ?_) | (with_reducible refine blw_set ?_ (by dsimp only; omega) _)))⟩
  obtain ⟨h1, h2, h5, h6, h7, h8, h9, h10⟩ := isBrk_bd hB
  cases hF : inR f 0 1000
  · skip
    go_enter Try.func18, Try.ntmps18
    go_wp2_with (first | (go_at_call 16; (with_reducible refine (IsBrake_any _ _ _ _ _).mono ?_); rintro e w' ⟨rfl, hb⟩; obtain ⟨hc, hf⟩ := bcell hb; have hz := hb.size; (try simp only [World.size_alloc, World.size_drew] at hz); (try have hz0 : w.heap.size < w'.heap.size := by omega); (try have hz1 : w.heap.size + 1 < w'.heap.size := by omega)) | (go_at_call 45; (with_reducible refine (isForce_any _ _).mono ?_); rintro e w' ⟨rfl, rfl⟩))
    go_ret2
    exact ⟨by simp [pullR, hB, hF], (by repeat (first | (with_reducible assumption) | (with_reducible exact Below.refl _ _) | (with_reducible refine Below.drew ?_) | (with_reducible refine blw_al ?_ _) | (with_reducible refine blw_stp (by with_reducible assumption) ?_) | (with_reducible refine blw_set ?_ (by dsimp only; omega) _)))⟩
  · obtain ⟨h3, h4⟩ := inR_iff.1 hF
    go_enter Try.func18, Try.ntmps18
    go_wp2_with (first | (go_at_call 16; (with_reducible refine (IsBrake_any _ _ _ _ _).mono ?_); rintro e w' ⟨rfl, hb⟩; obtain ⟨hc, hf⟩ := bcell hb; have hz := hb.size; (try simp only [World.size_alloc, World.size_drew] at hz); (try have hz0 : w.heap.size < w'.heap.size := by omega); (try have hz1 : w.heap.size + 1 < w'.heap.size := by omega)) | (go_at_call 45; (with_reducible refine (isForce_any _ _).mono ?_); rintro e w' ⟨rfl, rfl⟩) | (go_at_call 46; (with_reducible refine (pullOf_any _ _ _ _ _ _ h1 h2 h3 h4).mono ?_); rintro e w' ⟨rfl, hb⟩; obtain ⟨hc, hf⟩ := bcell hb; have hz := hb.size; (try simp only [World.size_alloc, World.size_drew] at hz); (try have hz0 : w.heap.size < w'.heap.size := by omega); (try have hz1 : w.heap.size + 1 < w'.heap.size := by omega)))
    go_ret2
    exact ⟨by simp [pullR, hB, hF], (by repeat (first | (with_reducible assumption) | (with_reducible exact Below.refl _ _) | (with_reducible refine Below.drew ?_) | (with_reducible refine blw_al ?_ _) | (with_reducible refine blw_stp (by with_reducible assumption) ?_) | (with_reducible refine blw_set ?_ (by dsimp only; omega) _)))⟩

set_option maxHeartbeats 800000 in
theorem sPullOf_any (l a t s f : Int) (w : World) :
    Calls Try.prog 17 #[.agg #[.int .i64 l, .int .i64 a, .int .i64 t, .int .i64 s], .int .i64 f] w fun e w' => e = .returned (.tuple #[.int .i64 (pullR l a t s f).1, .int .i64 (pullR l a t s f).2]) ∧ Below w.heap.size w w' := by
  cases hB : isBrk l a t s
  · skip
    have hk : code13 l a t s f 0 = 1 := by simp [code13, hB, inR00]
    go_enter Try.func17, Try.ntmps17
    go_wp2_with (first | (go_at_call 43; (with_reducible refine (l13Code_any _ _ _ _ _ _ _).mono ?_); rintro e w' ⟨rfl, hb⟩; obtain ⟨hc, hf⟩ := bcell hb; have hz := hb.size; (try simp only [World.size_alloc, World.size_drew] at hz); (try have hz0 : w.heap.size < w'.heap.size := by omega); (try have hz1 : w.heap.size + 1 < w'.heap.size := by omega)))
    go_ret2
    exact ⟨by simp [pullR, hB], (by repeat (first | (with_reducible assumption) | (with_reducible exact Below.refl _ _) | (with_reducible refine Below.drew ?_) | (with_reducible refine blw_al ?_ _) | (with_reducible refine blw_stp (by with_reducible assumption) ?_) | (with_reducible refine blw_set ?_ (by dsimp only; omega) _)))⟩
  obtain ⟨h1, h2, h5, h6, h7, h8, h9, h10⟩ := isBrk_bd hB
  cases hF : inR f 0 1000
  · skip
    have hk : code13 l a t s f 0 = 2 := by simp [code13, hB, hF, inR00]
    go_enter Try.func17, Try.ntmps17
    go_wp2_with (first | (go_at_call 43; (with_reducible refine (l13Code_any _ _ _ _ _ _ _).mono ?_); rintro e w' ⟨rfl, hb⟩; obtain ⟨hc, hf⟩ := bcell hb; have hz := hb.size; (try simp only [World.size_alloc, World.size_drew] at hz); (try have hz0 : w.heap.size < w'.heap.size := by omega); (try have hz1 : w.heap.size + 1 < w'.heap.size := by omega)))
    go_ret2
    exact ⟨by simp [pullR, hB, hF], (by repeat (first | (with_reducible assumption) | (with_reducible exact Below.refl _ _) | (with_reducible refine Below.drew ?_) | (with_reducible refine blw_al ?_ _) | (with_reducible refine blw_stp (by with_reducible assumption) ?_) | (with_reducible refine blw_set ?_ (by dsimp only; omega) _)))⟩
  · obtain ⟨h3, h4⟩ := inR_iff.1 hF
    have hk : code13 l a t s f 0 = 0 := by simp [code13, hB, hF, inR00]
    go_enter Try.func17, Try.ntmps17
    go_wp2_with (first | (go_at_call 43; (with_reducible refine (l13Code_any _ _ _ _ _ _ _).mono ?_); rintro e w' ⟨rfl, hb⟩; obtain ⟨hc, hf⟩ := bcell hb; have hz := hb.size; (try simp only [World.size_alloc, World.size_drew] at hz); (try have hz0 : w.heap.size < w'.heap.size := by omega); (try have hz1 : w.heap.size + 1 < w'.heap.size := by omega)) | (go_at_call 44; (with_reducible refine (l13Pull_any _ _ _ _ _ _ h1 h2 h3 h4).mono ?_); rintro e w' ⟨rfl, hb⟩; obtain ⟨hc, hf⟩ := bcell hb; have hz := hb.size; (try simp only [World.size_alloc, World.size_drew] at hz); (try have hz0 : w.heap.size < w'.heap.size := by omega); (try have hz1 : w.heap.size + 1 < w'.heap.size := by omega)))
    go_ret2
    exact ⟨by simp [pullR, hB, hF], (by repeat (first | (with_reducible assumption) | (with_reducible exact Below.refl _ _) | (with_reducible refine Below.drew ?_) | (with_reducible refine blw_al ?_ _) | (with_reducible refine blw_stp (by with_reducible assumption) ?_) | (with_reducible refine blw_set ?_ (by dsimp only; omega) _)))⟩

set_option maxHeartbeats 800000 in
theorem GripOf_any (l a t s f : Int) (w : World) :
    Calls Try.prog 20 #[.agg #[.int .i64 l, .int .i64 a, .int .i64 t, .int .i64 s], .int .i64 f] w fun e w' => e = .returned (.tuple #[.int .i64 (gripR l a t s f).1, .int .i64 (gripR l a t s f).2]) ∧ Below w.heap.size w w' := by
  cases hB : isBrk l a t s
  · skip
    go_enter Try.func20, Try.ntmps20
    go_wp2_with (first | (go_at_call 16; (with_reducible refine (IsBrake_any _ _ _ _ _).mono ?_); rintro e w' ⟨rfl, hb⟩; obtain ⟨hc, hf⟩ := bcell hb; have hz := hb.size; (try simp only [World.size_alloc, World.size_drew] at hz); (try have hz0 : w.heap.size < w'.heap.size := by omega); (try have hz1 : w.heap.size + 1 < w'.heap.size := by omega)) | (go_at_call 45; (with_reducible refine (isForce_any _ _).mono ?_); rintro e w' ⟨rfl, rfl⟩))
    go_ret2
    exact ⟨by simp [gripR, hB], (by repeat (first | (with_reducible assumption) | (with_reducible exact Below.refl _ _) | (with_reducible refine Below.drew ?_) | (with_reducible refine blw_al ?_ _) | (with_reducible refine blw_stp (by with_reducible assumption) ?_) | (with_reducible refine blw_set ?_ (by dsimp only; omega) _)))⟩
  obtain ⟨h1, h2, h5, h6, h7, h8, h9, h10⟩ := isBrk_bd hB
  cases hF : inR f 0 1000
  · skip
    go_enter Try.func20, Try.ntmps20
    go_wp2_with (first | (go_at_call 16; (with_reducible refine (IsBrake_any _ _ _ _ _).mono ?_); rintro e w' ⟨rfl, hb⟩; obtain ⟨hc, hf⟩ := bcell hb; have hz := hb.size; (try simp only [World.size_alloc, World.size_drew] at hz); (try have hz0 : w.heap.size < w'.heap.size := by omega); (try have hz1 : w.heap.size + 1 < w'.heap.size := by omega)) | (go_at_call 45; (with_reducible refine (isForce_any _ _).mono ?_); rintro e w' ⟨rfl, rfl⟩))
    go_ret2
    exact ⟨by simp [gripR, hB, hF], (by repeat (first | (with_reducible assumption) | (with_reducible exact Below.refl _ _) | (with_reducible refine Below.drew ?_) | (with_reducible refine blw_al ?_ _) | (with_reducible refine blw_stp (by with_reducible assumption) ?_) | (with_reducible refine blw_set ?_ (by dsimp only; omega) _)))⟩
  · obtain ⟨h3, h4⟩ := inR_iff.1 hF
    go_enter Try.func20, Try.ntmps20
    go_wp2_with (first | (go_at_call 16; (with_reducible refine (IsBrake_any _ _ _ _ _).mono ?_); rintro e w' ⟨rfl, hb⟩; obtain ⟨hc, hf⟩ := bcell hb; have hz := hb.size; (try simp only [World.size_alloc, World.size_drew] at hz); (try have hz0 : w.heap.size < w'.heap.size := by omega); (try have hz1 : w.heap.size + 1 < w'.heap.size := by omega)) | (go_at_call 45; (with_reducible refine (isForce_any _ _).mono ?_); rintro e w' ⟨rfl, rfl⟩) | (go_at_call 48; (with_reducible refine (gripOf_any _ _ _ _ _ _ h1 h2 h3 h4 h5 h6 h9 h10).mono ?_); rintro e w' ⟨rfl, hb⟩; obtain ⟨hc, hf⟩ := bcell hb; have hz := hb.size; (try simp only [World.size_alloc, World.size_drew] at hz); (try have hz0 : w.heap.size < w'.heap.size := by omega); (try have hz1 : w.heap.size + 1 < w'.heap.size := by omega)))
    go_ret2
    exact ⟨by simp [gripR, hB, hF], (by repeat (first | (with_reducible assumption) | (with_reducible exact Below.refl _ _) | (with_reducible refine Below.drew ?_) | (with_reducible refine blw_al ?_ _) | (with_reducible refine blw_stp (by with_reducible assumption) ?_) | (with_reducible refine blw_set ?_ (by dsimp only; omega) _)))⟩

set_option maxHeartbeats 800000 in
theorem sGripOf_any (l a t s f : Int) (w : World) :
    Calls Try.prog 19 #[.agg #[.int .i64 l, .int .i64 a, .int .i64 t, .int .i64 s], .int .i64 f] w fun e w' => e = .returned (.tuple #[.int .i64 (gripR l a t s f).1, .int .i64 (gripR l a t s f).2]) ∧ Below w.heap.size w w' := by
  cases hB : isBrk l a t s
  · skip
    have hk : code13 l a t s f 0 = 1 := by simp [code13, hB, inR00]
    go_enter Try.func19, Try.ntmps19
    go_wp2_with (first | (go_at_call 43; (with_reducible refine (l13Code_any _ _ _ _ _ _ _).mono ?_); rintro e w' ⟨rfl, hb⟩; obtain ⟨hc, hf⟩ := bcell hb; have hz := hb.size; (try simp only [World.size_alloc, World.size_drew] at hz); (try have hz0 : w.heap.size < w'.heap.size := by omega); (try have hz1 : w.heap.size + 1 < w'.heap.size := by omega)))
    go_ret2
    exact ⟨by simp [gripR, hB], (by repeat (first | (with_reducible assumption) | (with_reducible exact Below.refl _ _) | (with_reducible refine Below.drew ?_) | (with_reducible refine blw_al ?_ _) | (with_reducible refine blw_stp (by with_reducible assumption) ?_) | (with_reducible refine blw_set ?_ (by dsimp only; omega) _)))⟩
  obtain ⟨h1, h2, h5, h6, h7, h8, h9, h10⟩ := isBrk_bd hB
  cases hF : inR f 0 1000
  · skip
    have hk : code13 l a t s f 0 = 2 := by simp [code13, hB, hF, inR00]
    go_enter Try.func19, Try.ntmps19
    go_wp2_with (first | (go_at_call 43; (with_reducible refine (l13Code_any _ _ _ _ _ _ _).mono ?_); rintro e w' ⟨rfl, hb⟩; obtain ⟨hc, hf⟩ := bcell hb; have hz := hb.size; (try simp only [World.size_alloc, World.size_drew] at hz); (try have hz0 : w.heap.size < w'.heap.size := by omega); (try have hz1 : w.heap.size + 1 < w'.heap.size := by omega)))
    go_ret2
    exact ⟨by simp [gripR, hB, hF], (by repeat (first | (with_reducible assumption) | (with_reducible exact Below.refl _ _) | (with_reducible refine Below.drew ?_) | (with_reducible refine blw_al ?_ _) | (with_reducible refine blw_stp (by with_reducible assumption) ?_) | (with_reducible refine blw_set ?_ (by dsimp only; omega) _)))⟩
  · obtain ⟨h3, h4⟩ := inR_iff.1 hF
    have hk : code13 l a t s f 0 = 0 := by simp [code13, hB, hF, inR00]
    go_enter Try.func19, Try.ntmps19
    go_wp2_with (first | (go_at_call 43; (with_reducible refine (l13Code_any _ _ _ _ _ _ _).mono ?_); rintro e w' ⟨rfl, hb⟩; obtain ⟨hc, hf⟩ := bcell hb; have hz := hb.size; (try simp only [World.size_alloc, World.size_drew] at hz); (try have hz0 : w.heap.size < w'.heap.size := by omega); (try have hz1 : w.heap.size + 1 < w'.heap.size := by omega)) | (go_at_call 47; (with_reducible refine (l13Grip_any _ _ _ _ _ _ h1 h2 h3 h4 h5 h6 h9 h10).mono ?_); rintro e w' ⟨rfl, hb⟩; obtain ⟨hc, hf⟩ := bcell hb; have hz := hb.size; (try simp only [World.size_alloc, World.size_drew] at hz); (try have hz0 : w.heap.size < w'.heap.size := by omega); (try have hz1 : w.heap.size + 1 < w'.heap.size := by omega)))
    go_ret2
    exact ⟨by simp [gripR, hB, hF], (by repeat (first | (with_reducible assumption) | (with_reducible exact Below.refl _ _) | (with_reducible refine Below.drew ?_) | (with_reducible refine blw_al ?_ _) | (with_reducible refine blw_stp (by with_reducible assumption) ?_) | (with_reducible refine blw_set ?_ (by dsimp only; omega) _)))⟩

set_option maxHeartbeats 800000 in
theorem TravelOf_any (l a t s f g : Int) (w : World) :
    Calls Try.prog 26 #[.agg #[.int .i64 l, .int .i64 a, .int .i64 t, .int .i64 s], .int .i64 f, .int .i64 g] w fun e w' => e = .returned (.tuple #[.int .i64 (travelR l a t s f g).1, .int .i64 (travelR l a t s f g).2]) ∧ Below w.heap.size w w' := by
  cases hB : isBrk l a t s
  · skip
    go_enter Try.func26, Try.ntmps26
    go_wp2_with (first | (go_at_call 16; (with_reducible refine (IsBrake_any _ _ _ _ _).mono ?_); rintro e w' ⟨rfl, hb⟩; obtain ⟨hc, hf⟩ := bcell hb; have hz := hb.size; (try simp only [World.size_alloc, World.size_drew] at hz); (try have hz0 : w.heap.size < w'.heap.size := by omega); (try have hz1 : w.heap.size + 1 < w'.heap.size := by omega)) | (go_at_call 45; (with_reducible refine (isForce_any _ _).mono ?_); rintro e w' ⟨rfl, rfl⟩) | (go_at_call 50; (with_reducible refine (isGap_any _ _).mono ?_); rintro e w' ⟨rfl, rfl⟩))
    go_ret2
    exact ⟨by simp [travelR, hB], (by repeat (first | (with_reducible assumption) | (with_reducible exact Below.refl _ _) | (with_reducible refine Below.drew ?_) | (with_reducible refine blw_al ?_ _) | (with_reducible refine blw_stp (by with_reducible assumption) ?_) | (with_reducible refine blw_set ?_ (by dsimp only; omega) _)))⟩
  obtain ⟨h1, h2, h5, h6, h7, h8, h9, h10⟩ := isBrk_bd hB
  cases hF : inR f 0 1000
  · skip
    go_enter Try.func26, Try.ntmps26
    go_wp2_with (first | (go_at_call 16; (with_reducible refine (IsBrake_any _ _ _ _ _).mono ?_); rintro e w' ⟨rfl, hb⟩; obtain ⟨hc, hf⟩ := bcell hb; have hz := hb.size; (try simp only [World.size_alloc, World.size_drew] at hz); (try have hz0 : w.heap.size < w'.heap.size := by omega); (try have hz1 : w.heap.size + 1 < w'.heap.size := by omega)) | (go_at_call 45; (with_reducible refine (isForce_any _ _).mono ?_); rintro e w' ⟨rfl, rfl⟩) | (go_at_call 50; (with_reducible refine (isGap_any _ _).mono ?_); rintro e w' ⟨rfl, rfl⟩))
    go_ret2
    exact ⟨by simp [travelR, hB, hF], (by repeat (first | (with_reducible assumption) | (with_reducible exact Below.refl _ _) | (with_reducible refine Below.drew ?_) | (with_reducible refine blw_al ?_ _) | (with_reducible refine blw_stp (by with_reducible assumption) ?_) | (with_reducible refine blw_set ?_ (by dsimp only; omega) _)))⟩
  obtain ⟨h3, h4⟩ := inR_iff.1 hF
  cases hG : inR g 0 5000
  · skip
    go_enter Try.func26, Try.ntmps26
    go_wp2_with (first | (go_at_call 16; (with_reducible refine (IsBrake_any _ _ _ _ _).mono ?_); rintro e w' ⟨rfl, hb⟩; obtain ⟨hc, hf⟩ := bcell hb; have hz := hb.size; (try simp only [World.size_alloc, World.size_drew] at hz); (try have hz0 : w.heap.size < w'.heap.size := by omega); (try have hz1 : w.heap.size + 1 < w'.heap.size := by omega)) | (go_at_call 45; (with_reducible refine (isForce_any _ _).mono ?_); rintro e w' ⟨rfl, rfl⟩) | (go_at_call 50; (with_reducible refine (isGap_any _ _).mono ?_); rintro e w' ⟨rfl, rfl⟩))
    go_ret2
    exact ⟨by simp [travelR, hB, hF, hG], (by repeat (first | (with_reducible assumption) | (with_reducible exact Below.refl _ _) | (with_reducible refine Below.drew ?_) | (with_reducible refine blw_al ?_ _) | (with_reducible refine blw_stp (by with_reducible assumption) ?_) | (with_reducible refine blw_set ?_ (by dsimp only; omega) _)))⟩
  · obtain ⟨g1, g2⟩ := inR_iff.1 hG
    go_enter Try.func26, Try.ntmps26
    go_wp2_with (first | (go_at_call 16; (with_reducible refine (IsBrake_any _ _ _ _ _).mono ?_); rintro e w' ⟨rfl, hb⟩; obtain ⟨hc, hf⟩ := bcell hb; have hz := hb.size; (try simp only [World.size_alloc, World.size_drew] at hz); (try have hz0 : w.heap.size < w'.heap.size := by omega); (try have hz1 : w.heap.size + 1 < w'.heap.size := by omega)) | (go_at_call 45; (with_reducible refine (isForce_any _ _).mono ?_); rintro e w' ⟨rfl, rfl⟩) | (go_at_call 50; (with_reducible refine (isGap_any _ _).mono ?_); rintro e w' ⟨rfl, rfl⟩) | (go_at_call 54; (with_reducible refine (travelOf_any _ _ _ _ _ _ _ h1 h2 h3 h4 h5 h6 h7 h8 g1 g2).mono ?_); rintro e w' ⟨rfl, hb⟩; obtain ⟨hc, hf⟩ := bcell hb; have hz := hb.size; (try simp only [World.size_alloc, World.size_drew] at hz); (try have hz0 : w.heap.size < w'.heap.size := by omega); (try have hz1 : w.heap.size + 1 < w'.heap.size := by omega)))
    go_ret2
    exact ⟨by simp [travelR, hB, hF, hG], (by repeat (first | (with_reducible assumption) | (with_reducible exact Below.refl _ _) | (with_reducible refine Below.drew ?_) | (with_reducible refine blw_al ?_ _) | (with_reducible refine blw_stp (by with_reducible assumption) ?_) | (with_reducible refine blw_set ?_ (by dsimp only; omega) _)))⟩

set_option maxHeartbeats 800000 in
theorem sTravelOf_any (l a t s f g : Int) (w : World) :
    Calls Try.prog 25 #[.agg #[.int .i64 l, .int .i64 a, .int .i64 t, .int .i64 s], .int .i64 f, .int .i64 g] w fun e w' => e = .returned (.tuple #[.int .i64 (travelR l a t s f g).1, .int .i64 (travelR l a t s f g).2]) ∧ Below w.heap.size w w' := by
  cases hB : isBrk l a t s
  · skip
    have hk : code13 l a t s f g = 1 := by simp [code13, hB]
    go_enter Try.func25, Try.ntmps25
    go_wp2_with (first | (go_at_call 43; (with_reducible refine (l13Code_any _ _ _ _ _ _ _).mono ?_); rintro e w' ⟨rfl, hb⟩; obtain ⟨hc, hf⟩ := bcell hb; have hz := hb.size; (try simp only [World.size_alloc, World.size_drew] at hz); (try have hz0 : w.heap.size < w'.heap.size := by omega); (try have hz1 : w.heap.size + 1 < w'.heap.size := by omega)))
    go_ret2
    exact ⟨by simp [travelR, hB], (by repeat (first | (with_reducible assumption) | (with_reducible exact Below.refl _ _) | (with_reducible refine Below.drew ?_) | (with_reducible refine blw_al ?_ _) | (with_reducible refine blw_stp (by with_reducible assumption) ?_) | (with_reducible refine blw_set ?_ (by dsimp only; omega) _)))⟩
  obtain ⟨h1, h2, h5, h6, h7, h8, h9, h10⟩ := isBrk_bd hB
  cases hF : inR f 0 1000
  · skip
    have hk : code13 l a t s f g = 2 := by simp [code13, hB, hF]
    go_enter Try.func25, Try.ntmps25
    go_wp2_with (first | (go_at_call 43; (with_reducible refine (l13Code_any _ _ _ _ _ _ _).mono ?_); rintro e w' ⟨rfl, hb⟩; obtain ⟨hc, hf⟩ := bcell hb; have hz := hb.size; (try simp only [World.size_alloc, World.size_drew] at hz); (try have hz0 : w.heap.size < w'.heap.size := by omega); (try have hz1 : w.heap.size + 1 < w'.heap.size := by omega)))
    go_ret2
    exact ⟨by simp [travelR, hB, hF], (by repeat (first | (with_reducible assumption) | (with_reducible exact Below.refl _ _) | (with_reducible refine Below.drew ?_) | (with_reducible refine blw_al ?_ _) | (with_reducible refine blw_stp (by with_reducible assumption) ?_) | (with_reducible refine blw_set ?_ (by dsimp only; omega) _)))⟩
  obtain ⟨h3, h4⟩ := inR_iff.1 hF
  cases hG : inR g 0 5000
  · skip
    have hk : code13 l a t s f g = 2 := by simp [code13, hB, hF, hG]
    go_enter Try.func25, Try.ntmps25
    go_wp2_with (first | (go_at_call 43; (with_reducible refine (l13Code_any _ _ _ _ _ _ _).mono ?_); rintro e w' ⟨rfl, hb⟩; obtain ⟨hc, hf⟩ := bcell hb; have hz := hb.size; (try simp only [World.size_alloc, World.size_drew] at hz); (try have hz0 : w.heap.size < w'.heap.size := by omega); (try have hz1 : w.heap.size + 1 < w'.heap.size := by omega)))
    go_ret2
    exact ⟨by simp [travelR, hB, hF, hG], (by repeat (first | (with_reducible assumption) | (with_reducible exact Below.refl _ _) | (with_reducible refine Below.drew ?_) | (with_reducible refine blw_al ?_ _) | (with_reducible refine blw_stp (by with_reducible assumption) ?_) | (with_reducible refine blw_set ?_ (by dsimp only; omega) _)))⟩
  · obtain ⟨g1, g2⟩ := inR_iff.1 hG
    have hk : code13 l a t s f g = 0 := by simp [code13, hB, hF, hG]
    go_enter Try.func25, Try.ntmps25
    go_wp2_with (first | (go_at_call 43; (with_reducible refine (l13Code_any _ _ _ _ _ _ _).mono ?_); rintro e w' ⟨rfl, hb⟩; obtain ⟨hc, hf⟩ := bcell hb; have hz := hb.size; (try simp only [World.size_alloc, World.size_drew] at hz); (try have hz0 : w.heap.size < w'.heap.size := by omega); (try have hz1 : w.heap.size + 1 < w'.heap.size := by omega)) | (go_at_call 53; (with_reducible refine (l13Travel_any _ _ _ _ _ _ _ h1 h2 h3 h4 h5 h6 h7 h8 g1 g2).mono ?_); rintro e w' ⟨rfl, hb⟩; obtain ⟨hc, hf⟩ := bcell hb; have hz := hb.size; (try simp only [World.size_alloc, World.size_drew] at hz); (try have hz0 : w.heap.size < w'.heap.size := by omega); (try have hz1 : w.heap.size + 1 < w'.heap.size := by omega)))
    go_ret2
    exact ⟨by simp [travelR, hB, hF, hG], (by repeat (first | (with_reducible assumption) | (with_reducible exact Below.refl _ _) | (with_reducible refine Below.drew ?_) | (with_reducible refine blw_al ?_ _) | (with_reducible refine blw_stp (by with_reducible assumption) ?_) | (with_reducible refine blw_set ?_ (by dsimp only; omega) _)))⟩

end Go.Proofs.Ytfgokehoanlobaa
