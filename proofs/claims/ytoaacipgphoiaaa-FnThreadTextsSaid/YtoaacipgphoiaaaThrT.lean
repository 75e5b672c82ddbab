/- Contracts of threadText, l14Text, ThreadText, of the program and of the reference; the walk of the exact law on ThreadText. -/
import Derived.Test.YtoaacipgphoiaaaThrB
import Derived.Test.YtoaacipgphoiaaaMea
set_option linter.unusedSimpArgs false
set_option linter.unusedVariables false
namespace Go.Proofs.Ytoaacipgphoiaaa
open Go.RowKit

theorem keep4 {w w1 w2 : World} {b : Nat} {x0 x1 x2 x3 : Value} (hb : Below w2.heap.size w2 w1)
    (h : w2.cell? ⟨b, 0, none⟩ = some x0 ∧ w2.cell? ⟨b, 1, none⟩ = some x1 ∧ w2.cell? ⟨b, 2, none⟩ = some x2 ∧ w2.cell? ⟨b, 3, none⟩ = some x3 ∧ Below w.heap.size w w2) :
    w1.cell? ⟨b, 0, none⟩ = some x0 ∧ w1.cell? ⟨b, 1, none⟩ = some x1 ∧ w1.cell? ⟨b, 2, none⟩ = some x2 ∧ w1.cell? ⟨b, 3, none⟩ = some x3 ∧ Below w.heap.size w w1 := by
  obtain ⟨h0, h1, h2, h3, h4⟩ := h
  have hlt := World.block_lt_of_cell? w2 _ h0
  have e : ∀ o, w1.cell? ⟨b, o, none⟩ = w2.cell? ⟨b, o, none⟩ := fun o => hb.cell (p := ⟨b, o, none⟩) hlt
  exact ⟨(e 0).trans h0, (e 1).trans h1, (e 2).trans h2, (e 3).trans h3, h4.trans (hb.mono h4.size)⟩
/-- The text of a thread. -/
def thrL (d p : Int) (lf inn : Bool) : List UInt8 := measN d.toNat ++ ([120] ++ (decL p.toNat ++ ([if lf = true then 108 else 114] ++ [if inn = true then 105 else 111])))
theorem thrL_app {d p : Int} {lf inn : Bool} {X Y : ByteArray} (hx : X = txt [if lf = true then 108 else 114]) (hy : Y = txt [if inn = true then 105 else 111]) :
    (((txt (measN d.toNat) ++ (ByteArray.mk #[120])) ++ txt (decL p.toNat)) ++ X) ++ Y = txt (thrL d p lf inn) := by
  subst hx hy
  have e : (ByteArray.mk #[120]) = txt [120] := rfl
  rw [e]
  simp only [txt_app, thrL, List.append_assoc]
def thrR (d p : Int) (lf inn : Bool) : ByteArray × Int := if isThr d p = true then (txt (thrL d p lf inn), 0) else (⟨#[]⟩, 1)

set_option maxHeartbeats 800000 in
theorem threadText_any (d p : Int) (lf inn : Bool) (w : World) (h1 : 10 ≤ d) (h2 : d ≤ 1000) (h3 : 20 ≤ p) (h4 : p ≤ 500) :
    Calls Try.prog 49 #[.agg #[.int .i64 d, .int .i64 p, .bool lf, .bool inn]] w fun e w' => e = .returned (.string (txt (thrL d p lf inn))) ∧ Below w.heap.size w w' := by
  have HF := Lib.hid (fun (X Y : ByteArray) hx hy => thrL_app (d := d) (p := p) (lf := lf) (inn := inn) (X := X) (Y := Y) hx hy)
  have M1 := Lib.hid (fun (w : World) => measure_any d w (by omega) (by omega))
  have M2 := Lib.hid (fun (w : World) => decimal_i p w (by omega) (by omega))
  rw [measL_pos (show 0 ≤ d by omega)] at M1
  have s1 := measN_size (x := d) (by omega) (by omega)
  have s2 := decL_size (x := p) (by omega) (by omega)
  generalize txt (measN d.toNat) = D1 at *
  generalize txt (decL p.toNat) = D2 at *
  have a1 := fun (w : World) => run_string_add_sum (P := Try.prog) w D1 (ByteArray.mk #[120]) (by have e : (ByteArray.mk #[120]).size = 1 := rfl; omega)
  have a2 := fun (w : World) => run_string_add_sum (P := Try.prog) w (D1 ++ (ByteArray.mk #[120])) D2 (by have e : (ByteArray.mk #[120]).size = 1 := rfl; rw [ByteArray.size_append]; omega)
  have a3 := fun (x : UInt8) (w : World) => run_string_add_sum (P := Try.prog) w ((D1 ++ (ByteArray.mk #[120])) ++ D2) (ByteArray.mk #[x]) (by have e : (ByteArray.mk #[120]).size = 1 := rfl; have e2 : (ByteArray.mk #[x]).size = 1 := rfl; rw [ByteArray.size_append, ByteArray.size_append]; omega)
  have a4 := fun (x y : UInt8) (w : World) => run_string_add_sum (P := Try.prog) w (((D1 ++ (ByteArray.mk #[120])) ++ D2) ++ (ByteArray.mk #[x])) (ByteArray.mk #[y]) (by have e : (ByteArray.mk #[120]).size = 1 := rfl; have e2 : (ByteArray.mk #[x]).size = 1 := rfl; have e3 : (ByteArray.mk #[y]).size = 1 := rfl; rw [ByteArray.size_append, ByteArray.size_append, ByteArray.size_append]; omega)
  cases lf <;> cases inn
  · go_enter Try.func49, Try.ntmps49
    go_wp2_with fail
    go_region_held3 (fun w' => w'.cell? ⟨w.heap.size, 0, none⟩ = some (.int .i64 d) ∧ w'.cell? ⟨w.heap.size, 1, none⟩ = some (.int .i64 p) ∧ w'.cell? ⟨w.heap.size, 2, none⟩ = some (.bool false) ∧ w'.cell? ⟨w.heap.size, 3, none⟩ = some (.bool false) ∧ Below w.heap.size w w')
      (first | exact ⟨by simp [go_sem], by simp [go_sem], by simp [go_sem], by simp [go_sem], (by repeat (first | (with_reducible assumption) | (with_reducible exact Below.refl _ _) | (with_reducible refine Below.drew ?_) | (with_reducible refine blw_al ?_ _) | (with_reducible refine blw_stp (by with_reducible assumption) ?_) | (with_reducible refine blw_set ?_ (by dsimp only; omega) _)))⟩ | exact keep4 (by assumption) (by assumption) | assumption)
      (first | (go_at_call 68; (with_reducible refine (M1.out _).mono ?_); rintro e w' ⟨rfl, hb⟩) | (go_at_call 69; (with_reducible refine (M2.out _).mono ?_); rintro e w' ⟨rfl, hb⟩))
    all_goals
      rename_i hH
      obtain ⟨c0, c1, c2, c3, hBw⟩ := hH
      clear M1 M2
      go_wp2
      go_ret
      exact ⟨ret_str (HF.out _ _ rfl rfl), hBw⟩
  · go_enter Try.func49, Try.ntmps49
    go_wp2_with fail
    go_region_held3 (fun w' => w'.cell? ⟨w.heap.size, 0, none⟩ = some (.int .i64 d) ∧ w'.cell? ⟨w.heap.size, 1, none⟩ = some (.int .i64 p) ∧ w'.cell? ⟨w.heap.size, 2, none⟩ = some (.bool false) ∧ w'.cell? ⟨w.heap.size, 3, none⟩ = some (.bool true) ∧ Below w.heap.size w w')
      (first | exact ⟨by simp [go_sem], by simp [go_sem], by simp [go_sem], by simp [go_sem], (by repeat (first | (with_reducible assumption) | (with_reducible exact Below.refl _ _) | (with_reducible refine Below.drew ?_) | (with_reducible refine blw_al ?_ _) | (with_reducible refine blw_stp (by with_reducible assumption) ?_) | (with_reducible refine blw_set ?_ (by dsimp only; omega) _)))⟩ | exact keep4 (by assumption) (by assumption) | assumption)
      (first | (go_at_call 68; (with_reducible refine (M1.out _).mono ?_); rintro e w' ⟨rfl, hb⟩) | (go_at_call 69; (with_reducible refine (M2.out _).mono ?_); rintro e w' ⟨rfl, hb⟩))
    all_goals
      rename_i hH
      obtain ⟨c0, c1, c2, c3, hBw⟩ := hH
      clear M1 M2
      go_wp2
      go_ret
      exact ⟨ret_str (HF.out _ _ rfl rfl), hBw⟩
  · go_enter Try.func49, Try.ntmps49
    go_wp2_with fail
    go_region_held3 (fun w' => w'.cell? ⟨w.heap.size, 0, none⟩ = some (.int .i64 d) ∧ w'.cell? ⟨w.heap.size, 1, none⟩ = some (.int .i64 p) ∧ w'.cell? ⟨w.heap.size, 2, none⟩ = some (.bool true) ∧ w'.cell? ⟨w.heap.size, 3, none⟩ = some (.bool false) ∧ Below w.heap.size w w')
      (first | exact ⟨by simp [go_sem], by simp [go_sem], by simp [go_sem], by simp [go_sem], (by repeat (first | (with_reducible assumption) | (with_reducible exact Below.refl _ _) | (with_reducible refine Below.drew ?_) | (with_reducible refine blw_al ?_ _) | (with_reducible refine blw_stp (by with_reducible assumption) ?_) | (with_reducible refine blw_set ?_ (by dsimp only; omega) _)))⟩ | exact keep4 (by assumption) (by assumption) | assumption)
      (first | (go_at_call 68; (with_reducible refine (M1.out _).mono ?_); rintro e w' ⟨rfl, hb⟩) | (go_at_call 69; (with_reducible refine (M2.out _).mono ?_); rintro e w' ⟨rfl, hb⟩))
    all_goals
      rename_i hH
      obtain ⟨c0, c1, c2, c3, hBw⟩ := hH
      clear M1 M2
      go_wp2
      go_ret
      exact ⟨ret_str (HF.out _ _ rfl rfl), hBw⟩
  · go_enter Try.func49, Try.ntmps49
    go_wp2_with fail
    go_region_held3 (fun w' => w'.cell? ⟨w.heap.size, 0, none⟩ = some (.int .i64 d) ∧ w'.cell? ⟨w.heap.size, 1, none⟩ = some (.int .i64 p) ∧ w'.cell? ⟨w.heap.size, 2, none⟩ = some (.bool true) ∧ w'.cell? ⟨w.heap.size, 3, none⟩ = some (.bool true) ∧ Below w.heap.size w w')
      (first | exact ⟨by simp [go_sem], by simp [go_sem], by simp [go_sem], by simp [go_sem], (by repeat (first | (with_reducible assumption) | (with_reducible exact Below.refl _ _) | (with_reducible refine Below.drew ?_) | (with_reducible refine blw_al ?_ _) | (with_reducible refine blw_stp (by with_reducible assumption) ?_) | (with_reducible refine blw_set ?_ (by dsimp only; omega) _)))⟩ | exact keep4 (by assumption) (by assumption) | assumption)
      (first | (go_at_call 68; (with_reducible refine (M1.out _).mono ?_); rintro e w' ⟨rfl, hb⟩) | (go_at_call 69; (with_reducible refine (M2.out _).mono ?_); rintro e w' ⟨rfl, hb⟩))
    all_goals
      rename_i hH
      obtain ⟨c0, c1, c2, c3, hBw⟩ := hH
      clear M1 M2
      go_wp2
      go_ret
      exact ⟨ret_str (HF.out _ _ rfl rfl), hBw⟩

set_option maxHeartbeats 800000 in
theorem l14Text_any (d p : Int) (lf inn : Bool) (w : World) (h1 : 10 ≤ d) (h2 : d ≤ 1000) (h3 : 20 ≤ p) (h4 : p ≤ 500) :
    Calls Try.prog 48 #[.agg #[.int .i64 d, .int .i64 p, .bool lf, .bool inn]] w fun e w' => e = .returned (.string (txt (thrL d p lf inn))) ∧ Below w.heap.size w w' := by
  have HF := Lib.hid (fun (X Y : ByteArray) hx hy => thrL_app (d := d) (p := p) (lf := lf) (inn := inn) (X := X) (Y := Y) hx hy)
  have M1 := Lib.hid (fun (w : World) => l01Measure_pos d w (by omega) (by omega))
  have M2 := Lib.hid (fun (w : World) => l01Dec_i p w (by omega) (by omega))
  have s1 := measN_size (x := d) (by omega) (by omega)
  have s2 := decL_size (x := p) (by omega) (by omega)
  generalize txt (measN d.toNat) = D1 at *
  generalize txt (decL p.toNat) = D2 at *
  have a1 := fun (w : World) => run_string_add_sum (P := Try.prog) w D1 (ByteArray.mk #[120]) (by have e : (ByteArray.mk #[120]).size = 1 := rfl; omega)
  have a2 := fun (w : World) => run_string_add_sum (P := Try.prog) w (D1 ++ (ByteArray.mk #[120])) D2 (by have e : (ByteArray.mk #[120]).size = 1 := rfl; rw [ByteArray.size_append]; omega)
  have a3 := fun (x : UInt8) (w : World) => run_string_add_sum (P := Try.prog) w ((D1 ++ (ByteArray.mk #[120])) ++ D2) (ByteArray.mk #[x]) (by have e : (ByteArray.mk #[120]).size = 1 := rfl; have e2 : (ByteArray.mk #[x]).size = 1 := rfl; rw [ByteArray.size_append, ByteArray.size_append]; omega)
  have a4 := fun (x y : UInt8) (w : World) => run_string_add_sum (P := Try.prog) w (((D1 ++ (ByteArray.mk #[120])) ++ D2) ++ (ByteArray.mk #[x])) (ByteArray.mk #[y]) (by have e : (ByteArray.mk #[120]).size = 1 := rfl; have e2 : (ByteArray.mk #[x]).size = 1 := rfl; have e3 : (ByteArray.mk #[y]).size = 1 := rfl; rw [ByteArray.size_append, ByteArray.size_append, ByteArray.size_append]; omega)
  cases lf <;> cases inn
  · go_enter Try.func48, Try.ntmps48
    go_wp2_with fail
    go_region_held3 (fun w' => w'.cell? ⟨w.heap.size, 0, none⟩ = some (.int .i64 d) ∧ w'.cell? ⟨w.heap.size, 1, none⟩ = some (.int .i64 p) ∧ w'.cell? ⟨w.heap.size, 2, none⟩ = some (.bool false) ∧ w'.cell? ⟨w.heap.size, 3, none⟩ = some (.bool false) ∧ Below w.heap.size w w')
      (first | exact ⟨by simp [go_sem], by simp [go_sem], by simp [go_sem], by simp [go_sem], (by repeat (first | (with_reducible assumption) | (with_reducible exact Below.refl _ _) | (with_reducible refine Below.drew ?_) | (with_reducible refine blw_al ?_ _) | (with_reducible refine blw_stp (by with_reducible assumption) ?_) | (with_reducible refine blw_set ?_ (by dsimp only; omega) _)))⟩ | exact keep4 (by assumption) (by assumption) | assumption)
      (first | (go_at_call 66; (with_reducible refine (M1.out _).mono ?_); rintro e w' ⟨rfl, hb⟩) | (go_at_call 67; (with_reducible refine (M2.out _).mono ?_); rintro e w' ⟨rfl, hb⟩))
    all_goals
      rename_i hH
      obtain ⟨c0, c1, c2, c3, hBw⟩ := hH
      clear M1 M2
      go_wp2
      go_ret
      exact ⟨ret_str (HF.out _ _ rfl rfl), hBw⟩
  · go_enter Try.func48, Try.ntmps48
    go_wp2_with fail
    go_region_held3 (fun w' => w'.cell? ⟨w.heap.size, 0, none⟩ = some (.int .i64 d) ∧ w'.cell? ⟨w.heap.size, 1, none⟩ = some (.int .i64 p) ∧ w'.cell? ⟨w.heap.size, 2, none⟩ = some (.bool false) ∧ w'.cell? ⟨w.heap.size, 3, none⟩ = some (.bool true) ∧ Below w.heap.size w w')
      (first | exact ⟨by simp [go_sem], by simp [go_sem], by simp [go_sem], by simp [go_sem], (by repeat (first | (with_reducible assumption) | (with_reducible exact Below.refl _ _) | (with_reducible refine Below.drew ?_) | (with_reducible refine blw_al ?_ _) | (with_reducible refine blw_stp (by with_reducible assumption) ?_) | (with_reducible refine blw_set ?_ (by dsimp only; omega) _)))⟩ | exact keep4 (by assumption) (by assumption) | assumption)
      (first | (go_at_call 66; (with_reducible refine (M1.out _).mono ?_); rintro e w' ⟨rfl, hb⟩) | (go_at_call 67; (with_reducible refine (M2.out _).mono ?_); rintro e w' ⟨rfl, hb⟩))
    all_goals
      rename_i hH
      obtain ⟨c0, c1, c2, c3, hBw⟩ := hH
      clear M1 M2
      go_wp2
      go_ret
      exact ⟨ret_str (HF.out _ _ rfl rfl), hBw⟩
  · go_enter Try.func48, Try.ntmps48
    go_wp2_with fail
    go_region_held3 (fun w' => w'.cell? ⟨w.heap.size, 0, none⟩ = some (.int .i64 d) ∧ w'.cell? ⟨w.heap.size, 1, none⟩ = some (.int .i64 p) ∧ w'.cell? ⟨w.heap.size, 2, none⟩ = some (.bool true) ∧ w'.cell? ⟨w.heap.size, 3, none⟩ = some (.bool false) ∧ Below w.heap.size w w')
      (first | exact ⟨by simp [go_sem], by simp [go_sem], by simp [go_sem], by simp [go_sem], (by repeat (first | (with_reducible assumption) | (with_reducible exact Below.refl _ _) | (with_reducible refine Below.drew ?_) | (with_reducible refine blw_al ?_ _) | (with_reducible refine blw_stp (by with_reducible assumption) ?_) | (with_reducible refine blw_set ?_ (by dsimp only; omega) _)))⟩ | exact keep4 (by assumption) (by assumption) | assumption)
      (first | (go_at_call 66; (with_reducible refine (M1.out _).mono ?_); rintro e w' ⟨rfl, hb⟩) | (go_at_call 67; (with_reducible refine (M2.out _).mono ?_); rintro e w' ⟨rfl, hb⟩))
    all_goals
      rename_i hH
      obtain ⟨c0, c1, c2, c3, hBw⟩ := hH
      clear M1 M2
      go_wp2
      go_ret
      exact ⟨ret_str (HF.out _ _ rfl rfl), hBw⟩
  · go_enter Try.func48, Try.ntmps48
    go_wp2_with fail
    go_region_held3 (fun w' => w'.cell? ⟨w.heap.size, 0, none⟩ = some (.int .i64 d) ∧ w'.cell? ⟨w.heap.size, 1, none⟩ = some (.int .i64 p) ∧ w'.cell? ⟨w.heap.size, 2, none⟩ = some (.bool true) ∧ w'.cell? ⟨w.heap.size, 3, none⟩ = some (.bool true) ∧ Below w.heap.size w w')
      (first | exact ⟨by simp [go_sem], by simp [go_sem], by simp [go_sem], by simp [go_sem], (by repeat (first | (with_reducible assumption) | (with_reducible exact Below.refl _ _) | (with_reducible refine Below.drew ?_) | (with_reducible refine blw_al ?_ _) | (with_reducible refine blw_stp (by with_reducible assumption) ?_) | (with_reducible refine blw_set ?_ (by dsimp only; omega) _)))⟩ | exact keep4 (by assumption) (by assumption) | assumption)
      (first | (go_at_call 66; (with_reducible refine (M1.out _).mono ?_); rintro e w' ⟨rfl, hb⟩) | (go_at_call 67; (with_reducible refine (M2.out _).mono ?_); rintro e w' ⟨rfl, hb⟩))
    all_goals
      rename_i hH
      obtain ⟨c0, c1, c2, c3, hBw⟩ := hH
      clear M1 M2
      go_wp2
      go_ret
      exact ⟨ret_str (HF.out _ _ rfl rfl), hBw⟩

set_option maxHeartbeats 800000 in
theorem ThreadText_any (d p : Int) (lf inn : Bool) (w : World) :
    Calls Try.prog 26 #[.agg #[.int .i64 d, .int .i64 p, .bool lf, .bool inn]] w fun e w' => e = .returned (.tuple #[.string (thrR d p lf inn).1, .int .i64 (thrR d p lf inn).2]) ∧ Below w.heap.size w w' := by
  cases hT : isThr d p
  · go_enter Try.func26, Try.ntmps26
    go_wp2_with (first | (go_at_call 15; (with_reducible refine (IsThread_any _ _ _ _ _).mono ?_); rintro e w' ⟨rfl, hb⟩; obtain ⟨hc, hf⟩ := bcell hb; have hz := hb.size; (try simp only [World.size_alloc, World.size_drew] at hz); (try have hz0 : w.heap.size < w'.heap.size := by omega); (try have hz1 : w.heap.size + 1 < w'.heap.size := by omega)) | (go_at_call 49; (with_reducible refine (threadText_any _ _ _ _ _ (by omega) (by omega) (by omega) (by omega)).mono ?_); rintro e w' ⟨rfl, hb⟩; obtain ⟨hc, hf⟩ := bcell hb; have hz := hb.size; (try simp only [World.size_alloc, World.size_drew] at hz); (try have hz0 : w.heap.size < w'.heap.size := by omega); (try have hz1 : w.heap.size + 1 < w'.heap.size := by omega)))
    go_ret2
    exact ⟨by simp [thrR, hT], (by repeat (first | (with_reducible assumption) | (with_reducible exact Below.refl _ _) | (with_reducible refine Below.drew ?_) | (with_reducible refine blw_al ?_ _) | (with_reducible refine blw_stp (by with_reducible assumption) ?_) | (with_reducible refine blw_set ?_ (by dsimp only; omega) _)))⟩
  · obtain ⟨t1, t2, t3, t4⟩ := isThr_bd hT
    go_enter Try.func26, Try.ntmps26
    go_wp2_with (first | (go_at_call 15; (with_reducible refine (IsThread_any _ _ _ _ _).mono ?_); rintro e w' ⟨rfl, hb⟩; obtain ⟨hc, hf⟩ := bcell hb; have hz := hb.size; (try simp only [World.size_alloc, World.size_drew] at hz); (try have hz0 : w.heap.size < w'.heap.size := by omega); (try have hz1 : w.heap.size + 1 < w'.heap.size := by omega)) | (go_at_call 49; (with_reducible refine (threadText_any _ _ _ _ _ (by omega) (by omega) (by omega) (by omega)).mono ?_); rintro e w' ⟨rfl, hb⟩; obtain ⟨hc, hf⟩ := bcell hb; have hz := hb.size; (try simp only [World.size_alloc, World.size_drew] at hz); (try have hz0 : w.heap.size < w'.heap.size := by omega); (try have hz1 : w.heap.size + 1 < w'.heap.size := by omega)))
    go_ret2
    exact ⟨by simp [thrR, hT], (by repeat (first | (with_reducible assumption) | (with_reducible exact Below.refl _ _) | (with_reducible refine Below.drew ?_) | (with_reducible refine blw_al ?_ _) | (with_reducible refine blw_stp (by with_reducible assumption) ?_) | (with_reducible refine blw_set ?_ (by dsimp only; omega) _)))⟩

set_option maxHeartbeats 800000 in
theorem sThreadText_any (d p : Int) (lf inn : Bool) (w : World) :
    Calls Try.prog 25 #[.agg #[.int .i64 d, .int .i64 p, .bool lf, .bool inn]] w fun e w' => e = .returned (.tuple #[.string (thrR d p lf inn).1, .int .i64 (thrR d p lf inn).2]) ∧ Below w.heap.size w w' := by
  cases hT : isThr d p
  · go_enter Try.func25, Try.ntmps25
    go_wp2_with (first | (go_at_call 13; (with_reducible refine (sIsThread_any _ _ _ _ _).mono ?_); rintro e w' ⟨rfl, hb⟩; obtain ⟨hc, hf⟩ := bcell hb; have hz := hb.size; (try simp only [World.size_alloc, World.size_drew] at hz); (try have hz0 : w.heap.size < w'.heap.size := by omega); (try have hz1 : w.heap.size + 1 < w'.heap.size := by omega)) | (go_at_call 48; (with_reducible refine (l14Text_any _ _ _ _ _ (by omega) (by omega) (by omega) (by omega)).mono ?_); rintro e w' ⟨rfl, hb⟩; obtain ⟨hc, hf⟩ := bcell hb; have hz := hb.size; (try simp only [World.size_alloc, World.size_drew] at hz); (try have hz0 : w.heap.size < w'.heap.size := by omega); (try have hz1 : w.heap.size + 1 < w'.heap.size := by omega)))
    go_ret2
    exact ⟨by simp [thrR, hT], (by repeat (first | (with_reducible assumption) | (with_reducible exact Below.refl _ _) | (with_reducible refine Below.drew ?_) | (with_reducible refine blw_al ?_ _) | (with_reducible refine blw_stp (by with_reducible assumption) ?_) | (with_reducible refine blw_set ?_ (by dsimp only; omega) _)))⟩
  · obtain ⟨t1, t2, t3, t4⟩ := isThr_bd hT
    go_enter Try.func25, Try.ntmps25
    go_wp2_with (first | (go_at_call 13; (with_reducible refine (sIsThread_any _ _ _ _ _).mono ?_); rintro e w' ⟨rfl, hb⟩; obtain ⟨hc, hf⟩ := bcell hb; have hz := hb.size; (try simp only [World.size_alloc, World.size_drew] at hz); (try have hz0 : w.heap.size < w'.heap.size := by omega); (try have hz1 : w.heap.size + 1 < w'.heap.size := by omega)) | (go_at_call 48; (with_reducible refine (l14Text_any _ _ _ _ _ (by omega) (by omega) (by omega) (by omega)).mono ?_); rintro e w' ⟨rfl, hb⟩; obtain ⟨hc, hf⟩ := bcell hb; have hz := hb.size; (try simp only [World.size_alloc, World.size_drew] at hz); (try have hz0 : w.heap.size < w'.heap.size := by omega); (try have hz1 : w.heap.size + 1 < w'.heap.size := by omega)))
    go_ret2
    exact ⟨by simp [thrR, hT], (by repeat (first | (with_reducible assumption) | (with_reducible exact Below.refl _ _) | (with_reducible refine Below.drew ?_) | (with_reducible refine blw_al ?_ _) | (with_reducible refine blw_stp (by with_reducible assumption) ?_) | (with_reducible refine blw_set ?_ (by dsimp only; omega) _)))⟩

set_option maxHeartbeats 800000 in
theorem FnExactThreadText_walk (d : Int) (p : Int) (lf : Bool) (inn : Bool) (w : World) :
    Calls Try.prog 8 #[.agg #[.int .i64 d, .int .i64 p, .bool lf, .bool inn]] w fun e w' => e = .returned (.bool true) ∧ Below w.heap.size w w' := by
  go_enter Try.func8, Try.ntmps8
  go_wp2_with (first | (go_at_call 14; (with_reducible refine (toThread_any _ _ _ _ _).mono ?_); rintro e w' ⟨rfl, hb⟩; obtain ⟨hc, hf⟩ := bcell hb; have hz := hb.size; (try simp only [World.size_alloc, World.size_drew] at hz); (try have hz0 : w.heap.size < w'.heap.size := by omega); (try have hz1 : w.heap.size + 1 < w'.heap.size := by omega)) | (go_at_call 26; (with_reducible refine (ThreadText_any _ _ _ _ _).mono ?_); rintro e w' ⟨rfl, hb⟩; obtain ⟨hc, hf⟩ := bcell hb; have hz := hb.size; (try simp only [World.size_alloc, World.size_drew] at hz); (try have hz0 : w.heap.size < w'.heap.size := by omega); (try have hz1 : w.heap.size + 1 < w'.heap.size := by omega)) | (go_at_call 25; (with_reducible refine (sThreadText_any _ _ _ _ _).mono ?_); rintro e w' ⟨rfl, hb⟩; obtain ⟨hc, hf⟩ := bcell hb; have hz := hb.size; (try simp only [World.size_alloc, World.size_drew] at hz); (try have hz0 : w.heap.size < w'.heap.size := by omega); (try have hz1 : w.heap.size + 1 < w'.heap.size := by omega)))
  go_ret
  exact ⟨rfl, (by repeat (first | (with_reducible assumption) | (with_reducible exact Below.refl _ _) | (with_reducible refine Below.drew ?_) | (with_reducible refine blw_al ?_ _) | (with_reducible refine blw_stp (by with_reducible assumption) ?_) | (with_reducible refine blw_set ?_ (by dsimp only; omega) _)))⟩

end Go.Proofs.Ytoaacipgphoiaaa
