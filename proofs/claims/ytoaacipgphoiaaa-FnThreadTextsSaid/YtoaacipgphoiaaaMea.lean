/- Contracts of measure and l01Measure: both write the same text. -/
import Derived.Test.YtoaacipgphoiaaaDec
set_option linter.unusedSimpArgs false
set_option linter.unusedVariables false
namespace Go.Proofs.Ytoaacipgphoiaaa
open Go.RowKit

/-- The text of a measure of at least 0. -/
def measN (n : Nat) : List UInt8 := decL (n / 10) ++ ([46] ++ decL (n % 10))
def measL (x : Int) : List UInt8 := if x < 0 then [45] ++ measN (-x).toNat else measN x.toNat
theorem measN_app {x : Int} (h0 : 0 ≤ x) : (txt (decL (x / 10).toNat) ++ (ByteArray.mk #[46])) ++ txt (decL (x % 10).toNat) = txt (measN x.toNat) := by
  have e : (ByteArray.mk #[46]) = txt [46] := rfl
  rw [e, txt_app, txt_app]
  unfold measN
  have e1 : (x / 10).toNat = x.toNat / 10 := by omega
  have e2 : (x % 10).toNat = x.toNat % 10 := by omega
  rw [e1, e2, List.append_assoc]
theorem txt_nil_app (T : ByteArray) : (ByteArray.mk #[]) ++ T = T := by
  have : T = txt T.data.toList := by unfold txt; simp
  rw [this]
  exact txt_app [] _
theorem measN_app2 {x : Int} (h0 : 0 ≤ x) : (((ByteArray.mk #[]) ++ txt (decL (x / 10).toNat)) ++ (ByteArray.mk #[46])) ++ txt (decL (x % 10).toNat) = txt (measN x.toNat) := by
  rw [txt_nil_app]; exact measN_app h0
theorem measN_app3 {x : Int} (h0 : 0 ≤ x) : (((ByteArray.mk #[45]) ++ txt (decL (x / 10).toNat)) ++ (ByteArray.mk #[46])) ++ txt (decL (x % 10).toNat) = txt ([45] ++ measN x.toNat) := by
  have e : (ByteArray.mk #[45]) = txt [45] := rfl
  rw [← txt_app [45] (measN x.toNat), ← measN_app h0, e]
  have e2 : (ByteArray.mk #[46]) = txt [46] := rfl
  rw [e2]
  simp only [txt_app, List.append_assoc]
theorem measL_pos {x : Int} (h : 0 ≤ x) : measL x = measN x.toNat := by unfold measL; rw [if_neg (by omega)]
theorem measL_neg {x : Int} (h : x < 0) : measL x = [45] ++ measN (-x).toNat := by unfold measL; rw [if_pos h]
theorem measN_size {x : Int} (h0 : 0 ≤ x) (h1 : x ≤ 20000000000000) : (txt (measN x.toNat)).size ≤ 4000000000010 := by
  rw [txt_size]
  unfold measN
  have h2 := decL_len (x.toNat / 10) (x.toNat / 10) (Nat.le_refl _)
  have h3 := decL_len (x.toNat % 10) (x.toNat % 10) (Nat.le_refl _)
  simp only [List.length_append, List.length_cons, List.length_nil]
  omega

set_option maxHeartbeats 800000 in
theorem measure_any (x : Int) (w : World) (h0 : -1000000000000 ≤ x) (h1 : x ≤ 1000000000000) :
    Calls Try.prog 68 #[.int .i64 x] w fun e w' => e = .returned (.string (txt (measL x))) ∧ Below w.heap.size w w' := by
  by_cases hx : x < 0
  · obtain ⟨y, rfl⟩ : ∃ y, x = -y := ⟨-x, by omega⟩
    have HF := Lib.hid (measN_app3 (x := y) (by omega))
    have HL : Hid (measL (-y) = [45] ++ measN y.toNat) := by
      show _ = _
      rw [measL_neg hx, Int.neg_neg]
    have h2 : 0 ≤ y := by omega
    have h3 : -y < 0 := by omega
    have hs1 := decL_size (x := y / 10) (by omega) (by omega)
    have hs2 := decL_size (x := y % 10) (by omega) (by omega)
    have m1 := fun w => decimal_i (y / 10) w (by omega) (by omega)
    have m2 := fun w => decimal_i (y % 10) w (by omega) (by omega)
    generalize txt (decL (y / 10).toNat) = D1 at *
    generalize txt (decL (y % 10).toNat) = D2 at *
    have M1 := Lib.hid m1
    have M2 := Lib.hid m2
    clear m1 m2
    go_enter Try.func68, Try.ntmps68
    go_wp2_with fail
    (with_reducible refine (M1.out _).mono ?_)
    rintro e w1 ⟨rfl, hb1⟩
    go_wp2_with fail
    (with_reducible refine (M2.out _).mono ?_)
    rintro e w2 ⟨rfl, hb2⟩
    go_wp2
    go_ret
    exact ⟨ret_str (by rw [HL.out]; exact HF.out), (by repeat (first | (with_reducible assumption) | (with_reducible exact Below.refl _ _) | (with_reducible refine Below.drew ?_) | (with_reducible refine blw_al ?_ _) | (with_reducible refine blw_stp (by with_reducible assumption) ?_) | (with_reducible refine blw_set ?_ (by dsimp only; omega) _)))⟩
  · have HF := Lib.hid (measN_app2 (x := x) (by omega))
    have HL := Lib.hid (measL_pos (x := x) (by omega))
    have h2 : 0 ≤ x := by omega
    have hs1 := decL_size (x := x / 10) (by omega) (by omega)
    have hs2 := decL_size (x := x % 10) (by omega) (by omega)
    have m1 := fun w => decimal_i (x / 10) w (by omega) (by omega)
    have m2 := fun w => decimal_i (x % 10) w (by omega) (by omega)
    generalize txt (decL (x / 10).toNat) = D1 at *
    generalize txt (decL (x % 10).toNat) = D2 at *
    have M1 := Lib.hid m1
    have M2 := Lib.hid m2
    clear m1 m2
    go_enter Try.func68, Try.ntmps68
    go_wp2_with fail
    (with_reducible refine (M1.out _).mono ?_)
    rintro e w1 ⟨rfl, hb1⟩
    go_wp2_with fail
    (with_reducible refine (M2.out _).mono ?_)
    rintro e w2 ⟨rfl, hb2⟩
    go_wp2
    go_ret
    exact ⟨ret_str (by rw [HL.out]; exact HF.out), (by repeat (first | (with_reducible assumption) | (with_reducible exact Below.refl _ _) | (with_reducible refine Below.drew ?_) | (with_reducible refine blw_al ?_ _) | (with_reducible refine blw_stp (by with_reducible assumption) ?_) | (with_reducible refine blw_set ?_ (by dsimp only; omega) _)))⟩
set_option maxHeartbeats 800000 in
theorem l01Measure_pos (x : Int) (w : World) (h0 : 0 ≤ x) (h1 : x ≤ 1000000000000) :
    Calls Try.prog 66 #[.int .i64 x] w fun e w' => e = .returned (.string (txt (measN x.toNat))) ∧ Below w.heap.size w w' := by
  have HF := Lib.hid (measN_app (x := x) (by omega))
  have hs1 := decL_size (x := x / 10) (by omega) (by omega)
  have hs2 := decL_size (x := x % 10) (by omega) (by omega)
  have m1 := fun w => l01Dec_i (x / 10) w (by omega) (by omega)
  have m2 := fun w => l01Dec_i (x % 10) w (by omega) (by omega)
  generalize txt (decL (x / 10).toNat) = D1 at *
  generalize txt (decL (x % 10).toNat) = D2 at *
  have M1 := Lib.hid m1
  have M2 := Lib.hid m2
  clear m1 m2
  go_enter Try.func66, Try.ntmps66
  go_wp2_with fail
  (with_reducible refine (M1.out _).mono ?_)
  rintro e w1 ⟨rfl, hb1⟩
  go_wp2_with fail
  (with_reducible refine (M2.out _).mono ?_)
  rintro e w2 ⟨rfl, hb2⟩
  go_wp2
  go_ret
  exact ⟨ret_str HF.out, (by repeat (first | (with_reducible assumption) | (with_reducible exact Below.refl _ _) | (with_reducible refine Below.drew ?_) | (with_reducible refine blw_al ?_ _) | (with_reducible refine blw_stp (by with_reducible assumption) ?_) | (with_reducible refine blw_set ?_ (by dsimp only; omega) _)))⟩
set_option maxHeartbeats 800000 in
theorem l01Measure_any (x : Int) (w : World) (h0 : -1000000000000 ≤ x) (h1 : x ≤ 1000000000000) :
    Calls Try.prog 66 #[.int .i64 x] w fun e w' => e = .returned (.string (txt (measL x))) ∧ Below w.heap.size w w' := by
  by_cases hx : x < 0
  · have HL := Lib.hid (measL_neg hx)
    have HA := Lib.hid (txt_app [45] (measN (-x).toNat))
    have hs := measN_size (x := -x) (by omega) (by omega)
    have m1 := Lib.hid (fun w => l01Measure_pos (-x) w (by omega) (by omega))
    generalize txt (measN (-x).toNat) = D1 at *
    go_enter Try.func66, Try.ntmps66
    go_wp2_with fail
    (with_reducible refine (m1.out _).mono ?_)
    rintro e w1 ⟨rfl, hb1⟩
    go_wp2
    go_ret
    exact ⟨ret_str (by rw [HL.out]; exact HA.out), (by repeat (first | (with_reducible assumption) | (with_reducible exact Below.refl _ _) | (with_reducible refine Below.drew ?_) | (with_reducible refine blw_al ?_ _) | (with_reducible refine blw_stp (by with_reducible assumption) ?_) | (with_reducible refine blw_set ?_ (by dsimp only; omega) _)))⟩
  · rw [measL_pos (by omega)]
    exact l01Measure_pos x w (by omega) h1

end Go.Proofs.Ytoaacipgphoiaaa
