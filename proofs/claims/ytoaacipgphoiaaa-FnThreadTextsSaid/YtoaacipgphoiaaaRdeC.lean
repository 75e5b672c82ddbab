/- Contracts of readMeasure and ReadMeasure: the measure of a text is read. -/
import Derived.Test.YtoaacipgphoiaaaRdeA
set_option linter.unusedSimpArgs false
set_option linter.unusedVariables false
namespace Go.Proofs.Ytoaacipgphoiaaa
open Go.RowKit

theorem blw_drewNR {B : Nat} {a w : World} (h : Below B a w) (n : Nat) : Below B a (w.drewN n) := ⟨h.os, h.tape, h.output, h.size, h.block⟩
theorem meas_text {s : ByteArray} {m n : Nat} (hm : s.size = m + 2) (e : s = txt (measN n)) : s.extract 0 m = txt (decL (n / 10)) ∧ s.extract (m + 1) s.size = txt (decL (n % 10)) ∧ s.data.toList[m]? = some 46 := by
  obtain ⟨a1, a2, a3, a4⟩ := meas_parts n
  have hd : s.data.toList = measN n := by rw [e, txt_data]
  have hl : (measN n).length = m + 2 := by rw [← hd]; simpa using hm
  rw [hl] at a2 a3 a4
  refine ⟨?_, ?_, ?_⟩
  · rw [extract_txt, hd, List.drop_zero]
    exact congrArg txt a2
  · rw [extract_txt, hd, List.take_of_length_le (by omega)]
    exact congrArg txt a3
  · rw [hd]
    exact a4
theorem meas_size {s : ByteArray} {n : Nat} (e : s = txt (measN n)) : 3 ≤ s.size := by
  obtain ⟨a1, -⟩ := meas_parts n
  have := dec_pos (n / 10)
  rw [e, txt_size]
  omega
theorem meas_first {s : ByteArray} {n : Nat} (e : s = txt (measN n)) (h0 : 0 < s.size) : isDig s[0] = true := by
  have h := byte_at h0
  have hd : s.data.toList = measN n := by rw [e, txt_data]
  rw [hd] at h
  unfold measN at h
  rw [List.getElem?_append_left (dec_pos _)] at h
  exact dec_mem (List.mem_of_getElem? h)
theorem meas_digits {s D : ByteArray} {m n : Nat} (hm : s.size = m + 2) (hD : s.extract 0 m ++ s.extract (m + 1) s.size = D) (h : 10 ≤ n) (e : s = txt (measN n)) : D = txt (decL n) := by
  obtain ⟨a, b, _⟩ := meas_text hm e
  rw [← hD, a, b, txt_app, meas_dec h]
/-- What is known of a measure that was read. -/
def RMea (s : ByteArray) (x : Int) (ok : Bool) : Prop := -1000000000000 ≤ x ∧ x ≤ 1000000000000 ∧ ∀ n : Nat, 10 ≤ n → n ≤ 1000 → s = txt (measN n) → x = n ∧ ok = true
def RMeaI (s : ByteArray) (e : Ending) : Prop := ∃ (x : Int) (ok : Bool), e = .returned (.tuple #[.int .i64 x, .bool ok]) ∧ RMea s x ok
def RMeaS (s : ByteArray) (e : Ending) : Prop := ∃ (x c : Int), e = .returned (.tuple #[.int .i64 x, .int .i64 c]) ∧ RMea s x (decide (c = 0))
def NoMea (s : ByteArray) : Prop := ∀ n : Nat, 10 ≤ n → n ≤ 1000 → s ≠ txt (measN n)
theorem RMeaI.no {s : ByteArray} (h : NoMea s) : RMeaI s (.returned (.tuple #[.int .i64 0, .bool false])) := ⟨0, false, rfl, by decide, by decide, fun n h1 h2 e => absurd e (h n h1 h2)⟩
theorem RMeaS.no {s : ByteArray} (h : NoMea s) : RMeaS s (.returned (.tuple #[.int .i64 0, .int .i64 6])) := ⟨0, 6, rfl, by decide, by decide, fun n h1 h2 e => absurd e (h n h1 h2)⟩
theorem nomea_small {s : ByteArray} (h : s.size < 3) : NoMea s := fun n h1 h2 e => by have := meas_size e; omega
theorem nomea_dot {s : ByteArray} {m : Nat} (hm : s.size = m + 2) (hlt : m < s.size) (h : ¬ ((s[m].toNat : Nat) : Int) = 46) : NoMea s := fun n h1 h2 e => by
  obtain ⟨-, -, a⟩ := meas_text hm e
  rw [byte_at hlt] at a
  injection a with a
  apply h
  rw [a]
  rfl
theorem nomea_sign {s : ByteArray} (h0 : 0 < s.size) (h : ((s[0].toNat : Nat) : Int) = 45) : NoMea s := fun n h1 h2 e => by
  have := meas_first e h0
  rw [isDig_lo (by omega)] at this
  cases this
theorem nomea_neq {s : ByteArray} {x y : Int} (hx : ∀ n : Nat, 10 ≤ n → n ≤ 1000 → s = txt (measN n) → x = n) (hy : x = y) (h : ((txt (measL y)).toList == s.toList) = false) : NoMea s := fun n h1 h2 e => by
  have a := hx n h1 h2 e
  rw [← hy, a, measL_pos (by omega), Int.toNat_natCast, ← e] at h
  simp at h
theorem RVal.dec {s : ByteArray} {e : Ending} (h : RVal s e) : ∃ (x : Int) (ok : Bool), e = .returned (.tuple #[.int .i64 x, .bool ok]) ∧ 0 ≤ x ∧ x < 10000000000000 ∧ ∀ n : Nat, n < 1000000000000 → s = txt (decL n) → x = n ∧ ok = true := by
  obtain ⟨x, ok, h1, h2, h3, h4⟩ := h
  refine ⟨x, ok, h1, h2, h3, fun n hn he => ?_⟩
  obtain ⟨s1, s2⟩ := dt_size hn he
  have hd : s.data.toList = decL n := by rw [he, txt_data]
  obtain ⟨a, b⟩ := h4 s1 (by omega) (by rw [hd]; exact dec_dig n n (Nat.le_refl _))
  rw [hd, valL_dec n n (Nat.le_refl _)] at a b
  rw [Int.toNat_natCast, ← he] at b
  exact ⟨a, by rw [b]; simp⟩
set_option maxHeartbeats 800000 in
theorem isValue_any (n : Int) (w : World) : Calls Try.prog 71 #[.int .i64 n] w fun e w' => e = .returned (.bool (inR n (-1000000000000) 1000000000000)) ∧ w = w' := by
  go_enter Try.func71, Try.ntmps71
  go_wp2_with (go_at_call 46; (with_reducible refine (within_any _ _ _ _).mono ?_); rintro e w' ⟨rfl, rfl⟩)
  go_ret
  exact ⟨rfl, rfl⟩
set_option maxHeartbeats 800000 in
theorem l01Is_any (n : Int) (w : World) : Calls Try.prog 70 #[.int .i64 n] w fun e w' => e = .returned (.bool (inR n (-1000000000000) 1000000000000)) ∧ w = w' := by
  go_enter Try.func70, Try.ntmps70
  go_wp2_with (go_at_call 40; (with_reducible refine (l01In_any _ _ _ _).mono ?_); rintro e w' ⟨rfl, rfl⟩)
  go_ret
  exact ⟨rfl, rfl⟩
set_option maxHeartbeats 3200000 in
theorem readMeasure_any (s : ByteArray) (w : World) (hs : s.size ≤ 1048576) :
    Calls Try.prog 56 #[.string s] w fun e w' => RMeaI s e ∧ Below w.heap.size w w' := by
  by_cases h3 : s.size < 3
  · have hd : decide ((s.size : Int) < 3) = true := decide_eq_true (by omega)
    have HN := Lib.hid (nomea_small h3)
    clear h3
    go_enter Try.func56, Try.ntmps56
    go_wp2
    go_ret2
    exact ⟨RMeaI.no HN.out, Below.refl _ _⟩
  obtain ⟨m, hm⟩ : ∃ m, s.size = m + 2 := ⟨s.size - 2, by omega⟩
  have h1 : 1 ≤ m := by omega
  have hd : decide ((s.size : Int) < 3) = false := decide_eq_false (by omega)
  have hmlt : m < s.size := by omega
  have hmlt' : (m : Int) < s.size := by omega
  have hm0 : (0 : Int) ≤ (m : Int) := by omega
  have e1 : (s.size : Int) - 2 = (m : Int) := by omega
  have e2 : (s.size : Int) - 1 = ((m + 1 : Nat) : Int) := by omega
  clear h3
  by_cases hdot : ((s[m].toNat : Nat) : Int) = 46
  · have hdq : (((s[m].toNat : Nat) : Int) != 46) = false := by rw [bne_eq_false_iff_eq]; exact hdot
    clear hdot
    obtain ⟨D, hD⟩ : ∃ D, s.extract 0 m ++ s.extract (m + 1) s.size = D := ⟨_, rfl⟩
    have HD : Hid (∀ n : Nat, 10 ≤ n → n ≤ 1000 → s = txt (measN n) → D = txt (decL n)) := fun n h1 h2 e => meas_digits hm hD h1 e
    obtain ⟨A, hA⟩ : ∃ A, s.extract 0 m = A := ⟨_, rfl⟩
    obtain ⟨B, hB⟩ : ∃ B, s.extract (m + 1) s.size = B := ⟨_, rfl⟩
    have hAs : A.size = m := by rw [← hA, ByteArray.size_extract]; omega
    have hBs : B.size = 1 := by rw [← hB, ByteArray.size_extract]; omega
    rw [hA, hB] at hD
    have hDs : D.size = m + 1 := by rw [← hD, ByteArray.size_append]; omega
    have hsum := fun (W : World) => run_string_add_sum (P := Try.prog) W A B (by omega)
    rw [hD] at hsum
    rw [hm] at hB
    clear hAs hBs
    have hD0 : 0 < D.size := by omega
    have hD0' : (0 : Int) < (D.size : Int) := by omega
    by_cases hsg : ((D[0].toNat : Nat) : Int) = 45
    · have HS : Hid (NoMea s) := fun n h1 h2 e => dt_notdig hD0 (isDig_lo (by omega)) n (by omega) (by omega) (HD.out n h1 h2 e)
      have hsq : (((D[0].toNat : Nat) : Int) == 45) = true := by rw [beq_iff_eq]; exact hsg
      clear hsg
      obtain ⟨T, hT⟩ : ∃ T, D.extract 1 D.size = T := ⟨_, rfl⟩
      have hTs : T.size = m := by rw [← hT, ByteArray.size_extract]; omega
      rw [hDs] at hT
      go_enter Try.func56, Try.ntmps56
      go_wp2
      go_quiet (fail)
      go_wp2
      clear hsum hA hB hD hT
      go_loopw [4] (fun tv wr => ∃ t : ByteArray, tv = .string t ∧ 1 ≤ t.size ∧ t.size ≤ 1048576 ∧ Below w.heap.size w wr ∧ Hid (∀ n : Nat, 10 ≤ n → n ≤ 1000 → s = txt (measN n) → t = txt (decL n))) (fun tv _ => match tv with | .string t => t.size | _ => 0)
      case atStart => exact ⟨T, rfl, by omega, by omega, (by first | exact Below.refl _ _ | exact blw_drewNR (Below.refl _ _) _), fun n h1 h2 e => absurd e (HS.out n h1 h2)⟩
      case round =>
        obtain ⟨t, rfl, ht1, ht2, hbw, HT⟩ := hrel
        have ht0 : 0 < t.size := by omega
        by_cases hz : (((t[0]'ht0).toNat : Nat) : Int) = 48 ∧ 1 < t.size
        · obtain ⟨hz, hz2⟩ := hz
          have HTN : Hid (NoMea s) := fun n h1 h2 e => dt_head (by omega) (HT.out n h1 h2 e) ht0 (u8_eqI (c := 48) (by decide) hz)
          have hzq : ((((t[0]'ht0).toNat : Nat) : Int) == 48) = true := by rw [beq_iff_eq]; exact hz
          have hz3 : decide ((1 : Int) < (t.size : Int)) = true := decide_eq_true (by omega)
          clear hz
          obtain ⟨u, hu⟩ : ∃ u, t.extract 1 t.size = u := ⟨_, rfl⟩
          have hus : u.size + 1 = t.size := by rw [← hu, ByteArray.size_extract]; omega
          go_wp2
          clear hu
          go_roundw
          case rel => exact ⟨u, rfl, by omega, by omega, hbw, fun n h1 h2 e => absurd e (HTN.out n h1 h2)⟩
          case measure => simp; omega
        · have HZ : Hid True := trivial
          by_cases hz2 : 1 < t.size
          · have hzq : ((((t[0]'ht0).toNat : Nat) : Int) == 48) = false := by
              rw [beq_eq_false_iff_ne]
              intro e
              exact hz ⟨e, hz2⟩
            have hz3 : decide ((1 : Int) < (t.size : Int)) = true := decide_eq_true (by omega)
            clear hz
            go_wp2_with fail
            (with_reducible refine (readDecimal_any t _ (by omega)).mono ?_)
            rintro e w2 ⟨⟨x, ok, rfl, lo, hi, hx⟩, hb2⟩
            have HX : Hid (∀ n : Nat, 10 ≤ n → n ≤ 1000 → s = txt (measN n) → x = n) := fun n h1 h2 e => (hx n (by omega) (by omega) (HT.out n h1 h2 e)).1
            have HX2 : Hid (∀ n : Nat, 10 ≤ n → n ≤ 1000 → s = txt (measN n) → ok = true) := fun n h1 h2 e => (hx n (by omega) (by omega) (HT.out n h1 h2 e)).2
            have T2 : Below w.heap.size w w2 := hbw.trans (hb2.mono hbw.size)
            clear hx
            cases ok
            · have HN : Hid (NoMea s) := fun n h1 h2 e => by have := HX2.out n h1 h2 e; cases this
              clear HX2
              go_wp2
              go_ret2
              exact ⟨RMeaI.no HN.out, T2⟩
            clear HX2
            by_cases hneg : x < 0
            · have HN : Hid (NoMea s) := fun n h1 h2 e => by have := HX.out n h1 h2 e; omega
              have hd5 : decide (x < 0) = true := decide_eq_true hneg
              go_wp2
              go_ret2
              exact ⟨RMeaI.no HN.out, T2⟩
            have hd5 : decide (x < 0) = false := decide_eq_false hneg
            cases hR : inR x (-1000000000000) 1000000000000
            · have HN : Hid (NoMea s) := fun n h1 h2 e => by
                have := HX.out n h1 h2 e
                rw [inR_iff.2 (by omega)] at hR
                cases hR
              have HR := Lib.hid hR
              clear hR
              go_wp2_with fail
              (with_reducible refine (isValue_any _ _).mono ?_)
              rintro e w3 ⟨rfl, rfl⟩
              rw [HR.out]
              go_wp2
              go_ret2
              exact ⟨RMeaI.no HN.out, T2⟩
            have hin := inR_iff.1 hR
            have HR := Lib.hid hR
            clear hR
            go_wp2_with fail
            (with_reducible refine (isValue_any _ _).mono ?_)
            rintro e w3 ⟨rfl, rfl⟩
            rw [HR.out]
            have hw9 : IntKind.i64.wrap (-x) = -x := IntWalk.i64_in _ (by omega)
            go_wp2_with fail
            (with_reducible refine (measure_any (-x) _ (by omega) (by omega)).mono ?_)
            rintro e w4 ⟨rfl, hb4⟩
            have T4 : Below w.heap.size w w4 := T2.trans (hb4.mono T2.size)
            cases hq : ((txt (measL (-x))).toList == s.toList)
            · have HN : Hid (NoMea s) := HS.out
              generalize txt (measL (-x)) = TT at *
              go_wp2
              go_ret2
              exact ⟨RMeaI.no HN.out, T4⟩
            · have HE : Hid (RMea s (-x) true) := ⟨by omega, by omega, fun n h1 h2 e => absurd e (HS.out n h1 h2)⟩
              generalize txt (measL (-x)) = TT at *
              go_wp2
              go_ret2
              exact ⟨⟨_, _, rfl, HE.out⟩, T4⟩
          · have hz3 : decide ((1 : Int) < (t.size : Int)) = false := decide_eq_false (by omega)
            clear hz
            go_wp2_with fail
            (with_reducible refine (readDecimal_any t _ (by omega)).mono ?_)
            rintro e w2 ⟨⟨x, ok, rfl, lo, hi, hx⟩, hb2⟩
            have HX : Hid (∀ n : Nat, 10 ≤ n → n ≤ 1000 → s = txt (measN n) → x = n) := fun n h1 h2 e => (hx n (by omega) (by omega) (HT.out n h1 h2 e)).1
            have HX2 : Hid (∀ n : Nat, 10 ≤ n → n ≤ 1000 → s = txt (measN n) → ok = true) := fun n h1 h2 e => (hx n (by omega) (by omega) (HT.out n h1 h2 e)).2
            have T2 : Below w.heap.size w w2 := hbw.trans (hb2.mono hbw.size)
            clear hx
            cases ok
            · have HN : Hid (NoMea s) := fun n h1 h2 e => by have := HX2.out n h1 h2 e; cases this
              clear HX2
              go_wp2
              go_ret2
              exact ⟨RMeaI.no HN.out, T2⟩
            clear HX2
            by_cases hneg : x < 0
            · have HN : Hid (NoMea s) := fun n h1 h2 e => by have := HX.out n h1 h2 e; omega
              have hd5 : decide (x < 0) = true := decide_eq_true hneg
              go_wp2
              go_ret2
              exact ⟨RMeaI.no HN.out, T2⟩
            have hd5 : decide (x < 0) = false := decide_eq_false hneg
            cases hR : inR x (-1000000000000) 1000000000000
            · have HN : Hid (NoMea s) := fun n h1 h2 e => by
                have := HX.out n h1 h2 e
                rw [inR_iff.2 (by omega)] at hR
                cases hR
              have HR := Lib.hid hR
              clear hR
              go_wp2_with fail
              (with_reducible refine (isValue_any _ _).mono ?_)
              rintro e w3 ⟨rfl, rfl⟩
              rw [HR.out]
              go_wp2
              go_ret2
              exact ⟨RMeaI.no HN.out, T2⟩
            have hin := inR_iff.1 hR
            have HR := Lib.hid hR
            clear hR
            go_wp2_with fail
            (with_reducible refine (isValue_any _ _).mono ?_)
            rintro e w3 ⟨rfl, rfl⟩
            rw [HR.out]
            have hw9 : IntKind.i64.wrap (-x) = -x := IntWalk.i64_in _ (by omega)
            go_wp2_with fail
            (with_reducible refine (measure_any (-x) _ (by omega) (by omega)).mono ?_)
            rintro e w4 ⟨rfl, hb4⟩
            have T4 : Below w.heap.size w w4 := T2.trans (hb4.mono T2.size)
            cases hq : ((txt (measL (-x))).toList == s.toList)
            · have HN : Hid (NoMea s) := HS.out
              generalize txt (measL (-x)) = TT at *
              go_wp2
              go_ret2
              exact ⟨RMeaI.no HN.out, T4⟩
            · have HE : Hid (RMea s (-x) true) := ⟨by omega, by omega, fun n h1 h2 e => absurd e (HS.out n h1 h2)⟩
              generalize txt (measL (-x)) = TT at *
              go_wp2
              go_ret2
              exact ⟨⟨_, _, rfl, HE.out⟩, T4⟩
    · have hsq : (((D[0].toNat : Nat) : Int) == 45) = false := by rw [beq_eq_false_iff_ne]; exact hsg
      clear hsg
      go_enter Try.func56, Try.ntmps56
      go_wp2
      go_quiet (fail)
      go_wp2
      clear hsum hA hB hD
      go_loopw [4] (fun tv wr => ∃ t : ByteArray, tv = .string t ∧ 1 ≤ t.size ∧ t.size ≤ 1048576 ∧ Below w.heap.size w wr ∧ Hid (∀ n : Nat, 10 ≤ n → n ≤ 1000 → s = txt (measN n) → t = txt (decL n))) (fun tv _ => match tv with | .string t => t.size | _ => 0)
      case atStart => exact ⟨D, rfl, by omega, by omega, (by first | exact Below.refl _ _ | exact blw_drewNR (Below.refl _ _) _), HD.out⟩
      case round =>
        obtain ⟨t, rfl, ht1, ht2, hbw, HT⟩ := hrel
        have ht0 : 0 < t.size := by omega
        by_cases hz : (((t[0]'ht0).toNat : Nat) : Int) = 48 ∧ 1 < t.size
        · obtain ⟨hz, hz2⟩ := hz
          have HTN : Hid (NoMea s) := fun n h1 h2 e => dt_head (by omega) (HT.out n h1 h2 e) ht0 (u8_eqI (c := 48) (by decide) hz)
          have hzq : ((((t[0]'ht0).toNat : Nat) : Int) == 48) = true := by rw [beq_iff_eq]; exact hz
          have hz3 : decide ((1 : Int) < (t.size : Int)) = true := decide_eq_true (by omega)
          clear hz
          obtain ⟨u, hu⟩ : ∃ u, t.extract 1 t.size = u := ⟨_, rfl⟩
          have hus : u.size + 1 = t.size := by rw [← hu, ByteArray.size_extract]; omega
          go_wp2
          clear hu
          go_roundw
          case rel => exact ⟨u, rfl, by omega, by omega, hbw, fun n h1 h2 e => absurd e (HTN.out n h1 h2)⟩
          case measure => simp; omega
        · have HZ : Hid True := trivial
          by_cases hz2 : 1 < t.size
          · have hzq : ((((t[0]'ht0).toNat : Nat) : Int) == 48) = false := by
              rw [beq_eq_false_iff_ne]
              intro e
              exact hz ⟨e, hz2⟩
            have hz3 : decide ((1 : Int) < (t.size : Int)) = true := decide_eq_true (by omega)
            clear hz
            go_wp2_with fail
            (with_reducible refine (readDecimal_any t _ (by omega)).mono ?_)
            rintro e w2 ⟨⟨x, ok, rfl, lo, hi, hx⟩, hb2⟩
            have HX : Hid (∀ n : Nat, 10 ≤ n → n ≤ 1000 → s = txt (measN n) → x = n) := fun n h1 h2 e => (hx n (by omega) (by omega) (HT.out n h1 h2 e)).1
            have HX2 : Hid (∀ n : Nat, 10 ≤ n → n ≤ 1000 → s = txt (measN n) → ok = true) := fun n h1 h2 e => (hx n (by omega) (by omega) (HT.out n h1 h2 e)).2
            have T2 : Below w.heap.size w w2 := hbw.trans (hb2.mono hbw.size)
            clear hx
            cases ok
            · have HN : Hid (NoMea s) := fun n h1 h2 e => by have := HX2.out n h1 h2 e; cases this
              clear HX2
              go_wp2
              go_ret2
              exact ⟨RMeaI.no HN.out, T2⟩
            clear HX2
            by_cases hneg : x < 0
            · have HN : Hid (NoMea s) := fun n h1 h2 e => by have := HX.out n h1 h2 e; omega
              have hd5 : decide (x < 0) = true := decide_eq_true hneg
              go_wp2
              go_ret2
              exact ⟨RMeaI.no HN.out, T2⟩
            have hd5 : decide (x < 0) = false := decide_eq_false hneg
            cases hR : inR x (-1000000000000) 1000000000000
            · have HN : Hid (NoMea s) := fun n h1 h2 e => by
                have := HX.out n h1 h2 e
                rw [inR_iff.2 (by omega)] at hR
                cases hR
              have HR := Lib.hid hR
              clear hR
              go_wp2_with fail
              (with_reducible refine (isValue_any _ _).mono ?_)
              rintro e w3 ⟨rfl, rfl⟩
              rw [HR.out]
              go_wp2
              go_ret2
              exact ⟨RMeaI.no HN.out, T2⟩
            have hin := inR_iff.1 hR
            have HR := Lib.hid hR
            clear hR
            go_wp2_with fail
            (with_reducible refine (isValue_any _ _).mono ?_)
            rintro e w3 ⟨rfl, rfl⟩
            rw [HR.out]
            have hw9 : IntKind.i64.wrap (-x) = -x := IntWalk.i64_in _ (by omega)
            go_wp2_with fail
            (with_reducible refine (measure_any x _ (by omega) (by omega)).mono ?_)
            rintro e w4 ⟨rfl, hb4⟩
            have T4 : Below w.heap.size w w4 := T2.trans (hb4.mono T2.size)
            cases hq : ((txt (measL x)).toList == s.toList)
            · have HN : Hid (NoMea s) := nomea_neq HX.out rfl hq
              generalize txt (measL x) = TT at *
              go_wp2
              go_ret2
              exact ⟨RMeaI.no HN.out, T4⟩
            · have HE : Hid (RMea s x true) := ⟨by omega, by omega, fun n h1 h2 e => ⟨HX.out n h1 h2 e, rfl⟩⟩
              generalize txt (measL x) = TT at *
              go_wp2
              go_ret2
              exact ⟨⟨_, _, rfl, HE.out⟩, T4⟩
          · have hz3 : decide ((1 : Int) < (t.size : Int)) = false := decide_eq_false (by omega)
            clear hz
            go_wp2_with fail
            (with_reducible refine (readDecimal_any t _ (by omega)).mono ?_)
            rintro e w2 ⟨⟨x, ok, rfl, lo, hi, hx⟩, hb2⟩
            have HX : Hid (∀ n : Nat, 10 ≤ n → n ≤ 1000 → s = txt (measN n) → x = n) := fun n h1 h2 e => (hx n (by omega) (by omega) (HT.out n h1 h2 e)).1
            have HX2 : Hid (∀ n : Nat, 10 ≤ n → n ≤ 1000 → s = txt (measN n) → ok = true) := fun n h1 h2 e => (hx n (by omega) (by omega) (HT.out n h1 h2 e)).2
            have T2 : Below w.heap.size w w2 := hbw.trans (hb2.mono hbw.size)
            clear hx
            cases ok
            · have HN : Hid (NoMea s) := fun n h1 h2 e => by have := HX2.out n h1 h2 e; cases this
              clear HX2
              go_wp2
              go_ret2
              exact ⟨RMeaI.no HN.out, T2⟩
            clear HX2
            by_cases hneg : x < 0
            · have HN : Hid (NoMea s) := fun n h1 h2 e => by have := HX.out n h1 h2 e; omega
              have hd5 : decide (x < 0) = true := decide_eq_true hneg
              go_wp2
              go_ret2
              exact ⟨RMeaI.no HN.out, T2⟩
            have hd5 : decide (x < 0) = false := decide_eq_false hneg
            cases hR : inR x (-1000000000000) 1000000000000
            · have HN : Hid (NoMea s) := fun n h1 h2 e => by
                have := HX.out n h1 h2 e
                rw [inR_iff.2 (by omega)] at hR
                cases hR
              have HR := Lib.hid hR
              clear hR
              go_wp2_with fail
              (with_reducible refine (isValue_any _ _).mono ?_)
              rintro e w3 ⟨rfl, rfl⟩
              rw [HR.out]
              go_wp2
              go_ret2
              exact ⟨RMeaI.no HN.out, T2⟩
            have hin := inR_iff.1 hR
            have HR := Lib.hid hR
            clear hR
            go_wp2_with fail
            (with_reducible refine (isValue_any _ _).mono ?_)
            rintro e w3 ⟨rfl, rfl⟩
            rw [HR.out]
            have hw9 : IntKind.i64.wrap (-x) = -x := IntWalk.i64_in _ (by omega)
            go_wp2_with fail
            (with_reducible refine (measure_any x _ (by omega) (by omega)).mono ?_)
            rintro e w4 ⟨rfl, hb4⟩
            have T4 : Below w.heap.size w w4 := T2.trans (hb4.mono T2.size)
            cases hq : ((txt (measL x)).toList == s.toList)
            · have HN : Hid (NoMea s) := nomea_neq HX.out rfl hq
              generalize txt (measL x) = TT at *
              go_wp2
              go_ret2
              exact ⟨RMeaI.no HN.out, T4⟩
            · have HE : Hid (RMea s x true) := ⟨by omega, by omega, fun n h1 h2 e => ⟨HX.out n h1 h2 e, rfl⟩⟩
              generalize txt (measL x) = TT at *
              go_wp2
              go_ret2
              exact ⟨⟨_, _, rfl, HE.out⟩, T4⟩
  · have HN := Lib.hid (nomea_dot hm hmlt hdot)
    have hdq : (((s[m].toNat : Nat) : Int) != 46) = true := by rw [bne_iff_ne]; exact hdot
    clear hdot
    go_enter Try.func56, Try.ntmps56
    go_wp2
    go_ret2
    exact ⟨RMeaI.no HN.out, Below.refl _ _⟩
set_option maxHeartbeats 3200000 in
theorem sReadMeasure_any (s : ByteArray) (w : World) (hs : s.size ≤ 1048576) :
    Calls Try.prog 53 #[.string s] w fun e w' => RMeaS s e ∧ Below w.heap.size w w' := by
  by_cases h3 : s.size < 3
  · have hd : decide ((s.size : Int) - 2 < 1) = true := decide_eq_true (by omega)
    have hd2 : (s.size : Int) < 3 := by omega
    have hd3 : (s.size : Int) - 2 < 1 := by omega
    have HN := Lib.hid (nomea_small h3)
    clear h3
    go_enter Try.func53, Try.ntmps53
    go_wp2
    go_ret2
    exact ⟨RMeaS.no HN.out, Below.refl _ _⟩
  obtain ⟨m, hm⟩ : ∃ m, s.size = m + 2 := ⟨s.size - 2, by omega⟩
  have h1 : 1 ≤ m := by omega
  have hd : decide ((m : Int) < 1) = false := decide_eq_false (by omega)
  have hmlt : m < s.size := by omega
  have hmlt' : (m : Int) < s.size := by omega
  have hm0 : (0 : Int) ≤ (m : Int) := by omega
  have hm1 : (1 : Int) ≤ (m : Int) := by omega
  have hkw : IntKind.i64.wrap ((m : Int) + 1) = (m : Int) + 1 := IntWalk.i64_in _ (by omega)
  have h0 : 0 < s.size := by omega
  clear h3
  by_cases hdot : ((s[m].toNat : Nat) : Int) = 46
  · have hdq : (((s[m].toNat : Nat) : Int) != 46) = false := by rw [bne_eq_false_iff_eq]; exact hdot
    clear hdot
    obtain ⟨B, hB⟩ : ∃ B, s.extract (m + 1) s.size = B := ⟨_, rfl⟩
    have hBs : B.size = 1 := by rw [← hB, ByteArray.size_extract]; omega
    have HBx : Hid (∀ n : Nat, 10 ≤ n → n ≤ 1000 → s = txt (measN n) → B = txt (decL (n % 10))) := fun n h1 h2 e => by rw [← hB]; exact (meas_text hm e).2.1
    rw [hm] at hB
    by_cases hsg : ((s[0].toNat : Nat) : Int) = 45
    · have HS := Lib.hid (nomea_sign h0 hsg)
      have hsq : (((s[0].toNat : Nat) : Int) == 45) = true := by rw [beq_iff_eq]; exact hsg
      clear hsg
      obtain ⟨A, hA⟩ : ∃ A, s.extract 1 m = A := ⟨_, rfl⟩
      have hAs : A.size + 1 = m := by rw [← hA, ByteArray.size_extract]; omega
      go_enter Try.func53, Try.ntmps53
      go_wp2_with fail
      (with_reducible refine (l01Value_any A _ (by omega)).mono ?_)
      rintro e w1 ⟨hv1, hb1⟩
      obtain ⟨a, ok, rfl, a0, a1, ha⟩ := hv1.dec
      clear hv1
      have T1 : Below w.heap.size w w1 := hb1
      have HA2 : Hid (NoMea s) := HS.out
      clear ha
      go_wp2_with fail
      (with_reducible refine (l01Value_any B _ (by omega)).mono ?_)
      rintro e w2 ⟨hv2, hb2⟩
      obtain ⟨b, good, rfl, b0, b1, hbx⟩ := hv2.dec
      clear hv2
      have T2 : Below w.heap.size w w2 := T1.trans (hb2.mono T1.size)
      have HB : Hid (∀ n : Nat, 10 ≤ n → n ≤ 1000 → s = txt (measN n) → b = (n % 10 : Nat)) := fun n h1 h2 e => (hbx _ (by omega) (HBx.out n h1 h2 e)).1
      have HB2 : Hid (∀ n : Nat, 10 ≤ n → n ≤ 1000 → s = txt (measN n) → good = true) := fun n h1 h2 e => (hbx _ (by omega) (HBx.out n h1 h2 e)).2
      clear hbx
      have hw1 : IntKind.i64.wrap (10 * a) = 10 * a := IntWalk.i64_in _ (by omega)
      have hw2 : IntKind.i64.wrap (10 * a + b) = 10 * a + b := IntWalk.i64_in _ (by omega)
      have hw3 : IntKind.i64.wrap (-(10 * a + b)) = -(10 * a + b) := IntWalk.i64_in _ (by omega)
      cases ok
      · have HN : Hid (NoMea s) := HS.out
        clear HA2 HB2
        go_wp2
        go_ret2
        exact ⟨RMeaS.no HN.out, T2⟩
      clear HA2
      cases good
      · have HN : Hid (NoMea s) := fun n h1 h2 e => by have := HB2.out n h1 h2 e; cases this
        clear HB2
        go_wp2
        go_ret2
        exact ⟨RMeaS.no HN.out, T2⟩
      clear HB2
      cases hR : inR (-(10 * a + b)) (-1000000000000) 1000000000000
      · have HN : Hid (NoMea s) := HS.out
        have HR := Lib.hid hR
        clear hR
        go_wp2_with fail
        (with_reducible refine (l01Is_any _ _).mono ?_)
        rintro e w3 ⟨rfl, rfl⟩
        rw [HR.out]
        go_wp2
        go_ret2
        exact ⟨RMeaS.no HN.out, T2⟩
      have hin := inR_iff.1 hR
      have HR := Lib.hid hR
      clear hR
      go_wp2_with fail
      (with_reducible refine (l01Is_any _ _).mono ?_)
      rintro e w3 ⟨rfl, rfl⟩
      rw [HR.out]
      go_wp2_with fail
      (with_reducible refine (l01Measure_any (-(10 * a + b)) _ (by omega) (by omega)).mono ?_)
      rintro e w4 ⟨rfl, hb4⟩
      have T4 : Below w.heap.size w w4 := T2.trans (hb4.mono T2.size)
      cases hq : ((txt (measL (-(10 * a + b)))).toList == s.toList)
      · have HN : Hid (NoMea s) := HS.out
        generalize txt (measL (-(10 * a + b))) = TT at *
        go_wp2
        go_ret2
        exact ⟨RMeaS.no HN.out, T4⟩
      · have HE : Hid (RMea s (-(10 * a + b)) (decide ((0 : Int) = 0))) := ⟨by omega, by omega, fun n h1 h2 e => absurd e (HS.out n h1 h2)⟩
        generalize txt (measL (-(10 * a + b))) = TT at *
        go_wp2
        go_ret2
        exact ⟨⟨_, _, rfl, HE.out⟩, T4⟩
    · have hsq : (((s[0].toNat : Nat) : Int) == 45) = false := by rw [beq_eq_false_iff_ne]; exact hsg
      clear hsg
      obtain ⟨A, hA⟩ : ∃ A, s.extract 0 m = A := ⟨_, rfl⟩
      have hAs : A.size = m := by rw [← hA, ByteArray.size_extract]; omega
      have HAx : Hid (∀ n : Nat, 10 ≤ n → n ≤ 1000 → s = txt (measN n) → A = txt (decL (n / 10))) := fun n h1 h2 e => by rw [← hA]; exact (meas_text hm e).1
      go_enter Try.func53, Try.ntmps53
      go_wp2_with fail
      (with_reducible refine (l01Value_any A _ (by omega)).mono ?_)
      rintro e w1 ⟨hv1, hb1⟩
      obtain ⟨a, ok, rfl, a0, a1, ha⟩ := hv1.dec
      clear hv1
      have T1 : Below w.heap.size w w1 := hb1
      have HA : Hid (∀ n : Nat, 10 ≤ n → n ≤ 1000 → s = txt (measN n) → a = (n / 10 : Nat)) := fun n h1 h2 e => (ha _ (by omega) (HAx.out n h1 h2 e)).1
      have HA2 : Hid (∀ n : Nat, 10 ≤ n → n ≤ 1000 → s = txt (measN n) → ok = true) := fun n h1 h2 e => (ha _ (by omega) (HAx.out n h1 h2 e)).2
      clear ha
      go_wp2_with fail
      (with_reducible refine (l01Value_any B _ (by omega)).mono ?_)
      rintro e w2 ⟨hv2, hb2⟩
      obtain ⟨b, good, rfl, b0, b1, hbx⟩ := hv2.dec
      clear hv2
      have T2 : Below w.heap.size w w2 := T1.trans (hb2.mono T1.size)
      have HB : Hid (∀ n : Nat, 10 ≤ n → n ≤ 1000 → s = txt (measN n) → b = (n % 10 : Nat)) := fun n h1 h2 e => (hbx _ (by omega) (HBx.out n h1 h2 e)).1
      have HB2 : Hid (∀ n : Nat, 10 ≤ n → n ≤ 1000 → s = txt (measN n) → good = true) := fun n h1 h2 e => (hbx _ (by omega) (HBx.out n h1 h2 e)).2
      clear hbx
      have hw1 : IntKind.i64.wrap (10 * a) = 10 * a := IntWalk.i64_in _ (by omega)
      have hw2 : IntKind.i64.wrap (10 * a + b) = 10 * a + b := IntWalk.i64_in _ (by omega)
      have hw3 : IntKind.i64.wrap (-(10 * a + b)) = -(10 * a + b) := IntWalk.i64_in _ (by omega)
      cases ok
      · have HN : Hid (NoMea s) := fun n h1 h2 e => by have := HA2.out n h1 h2 e; cases this
        clear HA2 HB2
        go_wp2
        go_ret2
        exact ⟨RMeaS.no HN.out, T2⟩
      clear HA2
      cases good
      · have HN : Hid (NoMea s) := fun n h1 h2 e => by have := HB2.out n h1 h2 e; cases this
        clear HB2
        go_wp2
        go_ret2
        exact ⟨RMeaS.no HN.out, T2⟩
      clear HB2
      cases hR : inR (10 * a + b) (-1000000000000) 1000000000000
      · have HN : Hid (NoMea s) := fun n h1 h2 e => by
          have q1 := HA.out n h1 h2 e
          have q2 := HB.out n h1 h2 e
          rw [inR_iff.2 (by omega)] at hR
          cases hR
        have HR := Lib.hid hR
        clear hR
        go_wp2_with fail
        (with_reducible refine (l01Is_any _ _).mono ?_)
        rintro e w3 ⟨rfl, rfl⟩
        rw [HR.out]
        go_wp2
        go_ret2
        exact ⟨RMeaS.no HN.out, T2⟩
      have hin := inR_iff.1 hR
      have HR := Lib.hid hR
      clear hR
      go_wp2_with fail
      (with_reducible refine (l01Is_any _ _).mono ?_)
      rintro e w3 ⟨rfl, rfl⟩
      rw [HR.out]
      go_wp2_with fail
      (with_reducible refine (l01Measure_any (10 * a + b) _ (by omega) (by omega)).mono ?_)
      rintro e w4 ⟨rfl, hb4⟩
      have T4 : Below w.heap.size w w4 := T2.trans (hb4.mono T2.size)
      cases hq : ((txt (measL (10 * a + b))).toList == s.toList)
      · have HN : Hid (NoMea s) := nomea_neq (x := 10 * a + b) (fun n h1 h2 e => by have q1 := HA.out n h1 h2 e; have q2 := HB.out n h1 h2 e; omega) rfl hq
        generalize txt (measL (10 * a + b)) = TT at *
        go_wp2
        go_ret2
        exact ⟨RMeaS.no HN.out, T4⟩
      · have HE : Hid (RMea s (10 * a + b) (decide ((0 : Int) = 0))) := ⟨by omega, by omega, fun n h1 h2 e => ⟨by have q1 := HA.out n h1 h2 e; have q2 := HB.out n h1 h2 e; omega, rfl⟩⟩
        generalize txt (measL (10 * a + b)) = TT at *
        go_wp2
        go_ret2
        exact ⟨⟨_, _, rfl, HE.out⟩, T4⟩
  · have HN := Lib.hid (nomea_dot hm hmlt hdot)
    have hdq : (((s[m].toNat : Nat) : Int) != 46) = true := by rw [bne_iff_ne]; exact hdot
    clear hdot
    go_enter Try.func53, Try.ntmps53
    go_wp2
    go_ret2
    exact ⟨RMeaS.no HN.out, Below.refl _ _⟩
end Go.Proofs.Ytoaacipgphoiaaa
