/- Contracts of grip and travel, of the program and of the reference. -/
import Derived.Test.YtfgokehoanlobaaBrkA
namespace Go.Proofs.Ytfgokehoanlobaa
open Go.RowKit

theorem grip_bd {l a f : Int} (h1 : 100 ≤ l) (h2 : l ≤ 1000) (h3 : 0 ≤ f) (h4 : f ≤ 1000) (h5 : 100 ≤ a) (h6 : a ≤ 1000) : 0 ≤ pull l f * a ∧ pull l f * a ≤ 10000000 := by
  have := pull_bd h1 h2 h3 h4
  exact mul_bd 10000000 this.1 this.2 (by omega) h6 (by decide)

/-- The four cells of a brake in block b. -/
theorem keep4 {w w1 w2 : World} {b : Nat} {x0 x1 x2 x3 : Value} (hb : Below w2.heap.size w2 w1)
    (h : w2.cell? ⟨b, 0, none⟩ = some x0 ∧ w2.cell? ⟨b, 1, none⟩ = some x1 ∧ w2.cell? ⟨b, 2, none⟩ = some x2 ∧ w2.cell? ⟨b, 3, none⟩ = some x3 ∧ Below w.heap.size w w2) :
    w1.cell? ⟨b, 0, none⟩ = some x0 ∧ w1.cell? ⟨b, 1, none⟩ = some x1 ∧ w1.cell? ⟨b, 2, none⟩ = some x2 ∧ w1.cell? ⟨b, 3, none⟩ = some x3 ∧ Below w.heap.size w w1 := by
  obtain ⟨h0, h1, h2, h3, h4⟩ := h
  have hlt := World.block_lt_of_cell? w2 _ h0
  have e : ∀ o, w1.cell? ⟨b, o, none⟩ = w2.cell? ⟨b, o, none⟩ := fun o => hb.cell (p := ⟨b, o, none⟩) hlt
  exact ⟨(e 0).trans h0, (e 1).trans h1, (e 2).trans h2, (e 3).trans h3, h4.trans (hb.mono h4.size)⟩
/-- The same at the beginning, behind the box and a draw. -/
theorem keep4_start {w : World} {x0 x1 x2 x3 : Value} {ty : TypeId} :
    ((w.alloc (.cells #[x0, x1, x2, x3] ty)).drew).cell? ⟨w.heap.size, 0, none⟩ = some x0 ∧ ((w.alloc (.cells #[x0, x1, x2, x3] ty)).drew).cell? ⟨w.heap.size, 1, none⟩ = some x1 ∧ ((w.alloc (.cells #[x0, x1, x2, x3] ty)).drew).cell? ⟨w.heap.size, 2, none⟩ = some x2 ∧ ((w.alloc (.cells #[x0, x1, x2, x3] ty)).drew).cell? ⟨w.heap.size, 3, none⟩ = some x3 ∧ Below w.heap.size w ((w.alloc (.cells #[x0, x1, x2, x3] ty)).drew) := by
  refine ⟨by simp [go_sem], by simp [go_sem], by simp [go_sem], by simp [go_sem], ?_⟩
  go_grown

theorem travel_bd1 {l f t : Int} (h1 : 100 ≤ l) (h2 : l ≤ 1000) (h3 : 0 ≤ f) (h4 : f ≤ 1000) (h5 : 0 ≤ t) (h6 : t ≤ 2000) : 0 ≤ pull l f * t ∧ pull l f * t ≤ 20000000 := by
  have := pull_bd h1 h2 h3 h4
  exact mul_bd 20000000 this.1 this.2 h5 h6 (by decide)

set_option maxHeartbeats 800000 in
theorem gripOf_any (l a t s f : Int) (w : World) (h1 : 100 ≤ l) (h2 : l ≤ 1000) (h3 : 0 ≤ f) (h4 : f ≤ 1000) (h5 : 100 ≤ a) (h6 : a ≤ 1000) (h7 : 0 ≤ s) (h8 : s ≤ 200) :
    Calls Try.prog 48 #[.agg #[.int .i64 l, .int .i64 a, .int .i64 t, .int .i64 s], .int .i64 f] w fun e w' => e = .returned (.int .i64 (grip l a s f)) ∧ Below w.heap.size w w' := by
  obtain ⟨b1, b2⟩ := grip_bd h1 h2 h3 h4 h5 h6
  have k1 : IntKind.i64.wrap (pull l f * a) = pull l f * a := IntWalk.i64_in _ (by omega)
  have k2 : (pull l f * a).tdiv 100 = pull l f * a / 100 := Int.tdiv_eq_ediv_of_nonneg b1
  have k3 : IntKind.i64.wrap (pull l f * a / 100) = pull l f * a / 100 := IntWalk.i64_in _ (by omega)
  have k4 : IntKind.i64.wrap (pull l f * a / 100 - s) = pull l f * a / 100 - s := IntWalk.i64_in _ (by omega)
  go_enter Try.func48, Try.ntmps48
  go_wp2_with fail
  go_region_held3 (fun w' => w'.cell? ⟨w.heap.size, 0, none⟩ = some (.int .i64 l) ∧ w'.cell? ⟨w.heap.size, 1, none⟩ = some (.int .i64 a) ∧ w'.cell? ⟨w.heap.size, 2, none⟩ = some (.int .i64 t) ∧ w'.cell? ⟨w.heap.size, 3, none⟩ = some (.int .i64 s) ∧ Below w.heap.size w w')
    (first | exact keep4_start | exact keep4 (by assumption) (by assumption) | assumption)
    (first | (go_at_call 46; refine (pullOf_any l a t s f _ h1 h2 h3 h4).mono ?_; rintro e w' ⟨rfl, hb⟩))
  all_goals
    rename_i hH
    obtain ⟨-, -, -, -, hB⟩ := hH
    go_wp2
  all_goals
    go_ret
    exact ⟨ret_int (by unfold grip; omega), by assumption⟩

set_option maxHeartbeats 800000 in
theorem l13Grip_any (l a t s f : Int) (w : World) (h1 : 100 ≤ l) (h2 : l ≤ 1000) (h3 : 0 ≤ f) (h4 : f ≤ 1000) (h5 : 100 ≤ a) (h6 : a ≤ 1000) (h7 : 0 ≤ s) (h8 : s ≤ 200) :
    Calls Try.prog 47 #[.agg #[.int .i64 l, .int .i64 a, .int .i64 t, .int .i64 s], .int .i64 f] w fun e w' => e = .returned (.int .i64 (grip l a s f)) ∧ Below w.heap.size w w' := by
  obtain ⟨b1, b2⟩ := grip_bd h1 h2 h3 h4 h5 h6
  have k1 : IntKind.i64.wrap (pull l f * a) = pull l f * a := IntWalk.i64_in _ (by omega)
  have k2 : (pull l f * a).tdiv 100 = pull l f * a / 100 := Int.tdiv_eq_ediv_of_nonneg b1
  have k3 : IntKind.i64.wrap (pull l f * a / 100) = pull l f * a / 100 := IntWalk.i64_in _ (by omega)
  have k4 : IntKind.i64.wrap (pull l f * a / 100 - s) = pull l f * a / 100 - s := IntWalk.i64_in _ (by omega)
  go_enter Try.func47, Try.ntmps47
  go_wp2_with fail
  go_region_held3 (fun w' => w'.cell? ⟨w.heap.size, 0, none⟩ = some (.int .i64 l) ∧ w'.cell? ⟨w.heap.size, 1, none⟩ = some (.int .i64 a) ∧ w'.cell? ⟨w.heap.size, 2, none⟩ = some (.int .i64 t) ∧ w'.cell? ⟨w.heap.size, 3, none⟩ = some (.int .i64 s) ∧ Below w.heap.size w w')
    (first | exact keep4_start | exact keep4 (by assumption) (by assumption) | assumption)
    (first | (go_at_call 44; refine (l13Pull_any l a t s f _ h1 h2 h3 h4).mono ?_; rintro e w' ⟨rfl, hb⟩))
  all_goals
    rename_i hH
    obtain ⟨-, -, -, -, hB⟩ := hH
    go_wp2
  all_goals
    go_ret
    exact ⟨ret_int (by unfold grip; omega), by assumption⟩

set_option maxHeartbeats 800000 in
theorem travelOf_any (l a t s f g : Int) (w : World) (h1 : 100 ≤ l) (h2 : l ≤ 1000) (h3 : 0 ≤ f) (h4 : f ≤ 1000) (h5 : 100 ≤ a) (h6 : a ≤ 1000) (h7 : 0 ≤ t) (h8 : t ≤ 2000) (h9 : 0 ≤ g) (h10 : g ≤ 5000) :
    Calls Try.prog 54 #[.agg #[.int .i64 l, .int .i64 a, .int .i64 t, .int .i64 s], .int .i64 f, .int .i64 g] w fun e w' => e = .returned (.int .i64 (travel l a t f g)) ∧ Below w.heap.size w w' := by
  obtain ⟨b1, b2⟩ := mul_bd 5000000 h9 h10 (by omega : 0 ≤ a) h6 (by decide)
  obtain ⟨b3, b4⟩ := travel_bd1 h1 h2 h3 h4 h7 h8
  obtain ⟨b5, b6⟩ := cdiv_bd 50000 b1 b2 (by decide : (0:Int) < 100) (by decide)
  obtain ⟨b7, b8⟩ := cdiv_bd 20000 b3 b4 (by decide : (0:Int) < 1000) (by decide)
  obtain ⟨b9, b10⟩ := mul_bd 70000000 (by omega : 0 ≤ cdiv (g * a) 100 + cdiv (pull l f * t) 1000) (by omega : _ ≤ (70000 : Int)) (by omega : 0 ≤ l) h2 (by decide)
  have k1 : IntKind.i64.wrap (g * a) = g * a := IntWalk.i64_in _ (by omega)
  have k2 : IntKind.i64.wrap (pull l f * t) = pull l f * t := IntWalk.i64_in _ (by omega)
  have k3 : IntKind.i64.wrap (cdiv (g * a) 100 + cdiv (pull l f * t) 1000) = cdiv (g * a) 100 + cdiv (pull l f * t) 1000 := IntWalk.i64_in _ (by omega)
  have k4 : IntKind.i64.wrap ((cdiv (g * a) 100 + cdiv (pull l f * t) 1000) * l) = (cdiv (g * a) 100 + cdiv (pull l f * t) 1000) * l := IntWalk.i64_in _ (by omega)
  go_enter Try.func54, Try.ntmps54
  go_wp2_with fail
  go_region_held3 (fun w' => w'.cell? ⟨w.heap.size, 0, none⟩ = some (.int .i64 l) ∧ w'.cell? ⟨w.heap.size, 1, none⟩ = some (.int .i64 a) ∧ w'.cell? ⟨w.heap.size, 2, none⟩ = some (.int .i64 t) ∧ w'.cell? ⟨w.heap.size, 3, none⟩ = some (.int .i64 s) ∧ Below w.heap.size w w')
    (first | exact keep4_start | exact keep4 (by assumption) (by assumption) | assumption)
    (first | (go_at_call 46; refine (pullOf_any l a t s f _ h1 h2 h3 h4).mono ?_; rintro e w' ⟨rfl, hb⟩) | (go_at_call 51; refine (ceilDiv_any _ _ _ (by omega) (by omega) (by omega) (by omega)).mono ?_; rintro e w' ⟨rfl, rfl⟩))
  all_goals
    rename_i hH
    obtain ⟨-, -, -, -, hB⟩ := hH
    go_wp2
  all_goals
    go_ret
    exact ⟨ret_int (by unfold travel; rfl), by assumption⟩

set_option maxHeartbeats 800000 in
theorem l13Travel_any (l a t s f g : Int) (w : World) (h1 : 100 ≤ l) (h2 : l ≤ 1000) (h3 : 0 ≤ f) (h4 : f ≤ 1000) (h5 : 100 ≤ a) (h6 : a ≤ 1000) (h7 : 0 ≤ t) (h8 : t ≤ 2000) (h9 : 0 ≤ g) (h10 : g ≤ 5000) :
    Calls Try.prog 53 #[.agg #[.int .i64 l, .int .i64 a, .int .i64 t, .int .i64 s], .int .i64 f, .int .i64 g] w fun e w' => e = .returned (.int .i64 (travel l a t f g)) ∧ Below w.heap.size w w' := by
  obtain ⟨b1, b2⟩ := mul_bd 5000000 h9 h10 (by omega : 0 ≤ a) h6 (by decide)
  obtain ⟨b3, b4⟩ := travel_bd1 h1 h2 h3 h4 h7 h8
  obtain ⟨b5, b6⟩ := cdiv_bd 50000 b1 b2 (by decide : (0:Int) < 100) (by decide)
  obtain ⟨b7, b8⟩ := cdiv_bd 20000 b3 b4 (by decide : (0:Int) < 1000) (by decide)
  obtain ⟨b9, b10⟩ := mul_bd 70000000 (by omega : 0 ≤ cdiv (g * a) 100 + cdiv (pull l f * t) 1000) (by omega : _ ≤ (70000 : Int)) (by omega : 0 ≤ l) h2 (by decide)
  have k1 : IntKind.i64.wrap (g * a) = g * a := IntWalk.i64_in _ (by omega)
  have k2 : IntKind.i64.wrap (pull l f * t) = pull l f * t := IntWalk.i64_in _ (by omega)
  have k3 : IntKind.i64.wrap (cdiv (g * a) 100 + cdiv (pull l f * t) 1000) = cdiv (g * a) 100 + cdiv (pull l f * t) 1000 := IntWalk.i64_in _ (by omega)
  have k4 : IntKind.i64.wrap ((cdiv (g * a) 100 + cdiv (pull l f * t) 1000) * l) = (cdiv (g * a) 100 + cdiv (pull l f * t) 1000) * l := IntWalk.i64_in _ (by omega)
  go_enter Try.func53, Try.ntmps53
  go_wp2_with fail
  go_region_held3 (fun w' => w'.cell? ⟨w.heap.size, 0, none⟩ = some (.int .i64 l) ∧ w'.cell? ⟨w.heap.size, 1, none⟩ = some (.int .i64 a) ∧ w'.cell? ⟨w.heap.size, 2, none⟩ = some (.int .i64 t) ∧ w'.cell? ⟨w.heap.size, 3, none⟩ = some (.int .i64 s) ∧ Below w.heap.size w w')
    (first | exact keep4_start | exact keep4 (by assumption) (by assumption) | assumption)
    (first | (go_at_call 44; refine (l13Pull_any l a t s f _ h1 h2 h3 h4).mono ?_; rintro e w' ⟨rfl, hb⟩) | (go_at_call 49; refine (l01Ceil_any _ _ _ (by omega) (by omega) (by omega) (by omega)).mono ?_; rintro e w' ⟨rfl, rfl⟩))
  all_goals
    rename_i hH
    obtain ⟨hc0, -, -, -, hB⟩ := hH
    go_wp2_with (go_at_call 49; refine (l01Ceil_any _ _ _ (by omega) (by omega) (by omega) (by omega)).mono ?_; rintro e w' ⟨rfl, rfl⟩)
  all_goals
    go_ret
    exact ⟨ret_int (by unfold travel; rfl), by assumption⟩

end Go.Proofs.Ytfgokehoanlobaa
