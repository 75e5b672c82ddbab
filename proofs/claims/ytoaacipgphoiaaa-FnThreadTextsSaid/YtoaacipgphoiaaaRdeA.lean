/- Contract of readDecimal: the number of a text of digits is read. -/
import Derived.Test.YtoaacipgphoiaaaRdtP
import Derived.WalkSpells
set_option linter.unusedSimpArgs false
set_option linter.unusedVariables false
namespace Go.Proofs.Ytoaacipgphoiaaa
open Go.RowKit

/-- What readDecimal's ending is known to be. -/
def RDec (s : ByteArray) (e : Ending) : Prop := ∃ (x : Int) (ok : Bool), e = .returned (.tuple #[.int .i64 x, .bool ok]) ∧ -1000000000000000000 < x ∧ x < 1000000000000000000 ∧ ∀ n : Nat, 1 ≤ n → n < 1000000000000 → s = txt (decL n) → x = n ∧ ok = true
theorem RDec.no {s : ByteArray} (h : ∀ n : Nat, 1 ≤ n → n < 1000000000000 → s ≠ txt (decL n)) : RDec s (.returned (.tuple #[.int .i64 0, .bool false])) :=
  ⟨0, false, rfl, by decide, by decide, fun n h1 h2 e => absurd e (h n h1 h2)⟩
theorem dt_size {s : ByteArray} {n : Nat} (h2 : n < 1000000000000) (e : s = txt (decL n)) : 1 ≤ s.size ∧ s.size ≤ 12 := by
  rw [e, txt_size]
  exact ⟨dec_pos n, dec_short 11 n (by omega)⟩
theorem dt_at {s : ByteArray} {n k : Nat} (e : s = txt (decL n)) (hk : k < s.size) : isDig s[k] = true := by
  have h := byte_at hk
  have h2 : s.data.toList = decL n := by rw [e, txt_data]
  rw [h2] at h
  exact dec_mem (List.mem_of_getElem? h)
theorem dt_head {s : ByteArray} {n : Nat} (h1 : 1 ≤ n) (e : s = txt (decL n)) (hk : 0 < s.size) : s[0] ≠ 48 := by
  intro h48
  have h := byte_at hk
  have h2 : s.data.toList = decL n := by rw [e, txt_data]
  rw [h2, h48] at h
  exact dec_head n n (Nat.le_refl _) h1 (by rw [List.head?_eq_getElem?]; exact h)
theorem dt_notdig {s : ByteArray} {k : Nat} (hk : k < s.size) (h : isDig s[k] = false) : ∀ n : Nat, 1 ≤ n → n < 1000000000000 → s ≠ txt (decL n) := by
  intro n h1 h2 e
  rw [dt_at e hk] at h
  cases h
theorem u8_eqI {b : UInt8} {c : Nat} (hc : c < 256) (h : ((b.toNat : Nat) : Int) = (c : Int)) : b = UInt8.ofNat c := by
  apply UInt8.toNat_inj.1
  rw [UInt8.toNat_ofNat']
  omega
theorem isDig_of {b : UInt8} (h1 : ¬ ((b.toNat : Nat) : Int) < 48) (h2 : ¬ 57 < ((b.toNat : Nat) : Int)) : isDig b = true := by
  unfold isDig; simp; omega
theorem isDig_lo {b : UInt8} (h1 : ((b.toNat : Nat) : Int) < 48) : isDig b = false := by
  unfold isDig; simp; omega
theorem isDig_hi {b : UInt8} (h1 : 57 < ((b.toNat : Nat) : Int)) : isDig b = false := by
  unfold isDig; simp; omega
set_option maxHeartbeats 1600000 in
theorem readDecimal_any (s : ByteArray) (w : World) (hs : s.size ≤ 1048576) :
    Calls Try.prog 57 #[.string s] w fun e w' => RDec s e ∧ Below w.heap.size w w' := by
  by_cases h0 : s.size = 0
  · have hz : ((s.size : Int) == 0) = true := by rw [beq_iff_eq]; omega
    have hz2 : decide ((0 : Int) < (s.size : Int)) = false := decide_eq_false (by omega)
    have HN : Hid (∀ n : Nat, 1 ≤ n → n < 1000000000000 → s ≠ txt (decL n)) := fun n h1 h2 e => by have := dt_size h2 e; omega
    clear h0
    go_enter Try.func57, Try.ntmps57
    go_wp2
    go_ret2
    exact ⟨RDec.no HN.out, Below.refl _ _⟩
  have hz : ((s.size : Int) == 0) = false := by rw [beq_eq_false_iff_ne]; omega
  have hpos : 0 < s.size := by omega
  have hpos' : (0 : Int) < (s.size : Int) := by omega
  clear h0
  by_cases hdash : ((s[0].toNat : Nat) : Int) = 45
  · -- a sign
    have HD : Hid (∀ n : Nat, 1 ≤ n → n < 1000000000000 → s ≠ txt (decL n)) := dt_notdig hpos (isDig_lo (by omega))
    have hds : (((s[0].toNat : Nat) : Int) == 45) = true := by rw [beq_iff_eq]; exact hdash
    clear hdash
    obtain ⟨t, ht⟩ : ∃ t, s.extract 1 s.size = t := ⟨_, rfl⟩
    have hts : t.size + 1 = s.size := by rw [← ht, ByteArray.size_extract]; omega
    by_cases h1 : t.size = 0
    · have hy : ((t.size : Int) == 0) = true := by rw [beq_iff_eq]; omega
      clear h1
      go_enter Try.func57, Try.ntmps57
      go_wp2
      go_ret2
      exact ⟨RDec.no HD.out, Below.refl _ _⟩
    have hy : ((t.size : Int) == 0) = false := by rw [beq_eq_false_iff_ne]; omega
    have ht0 : 0 < t.size := by omega
    have ht0' : (0 : Int) < (t.size : Int) := by omega
    clear h1
    by_cases h18 : 18 < t.size
    · have hy2 : decide ((18 : Int) < (t.size : Int)) = true := decide_eq_true (by omega)
      go_enter Try.func57, Try.ntmps57
      go_wp2
      go_ret2
      exact ⟨RDec.no HD.out, Below.refl _ _⟩
    have hy2 : decide ((18 : Int) < (t.size : Int)) = false := decide_eq_false (by omega)
    by_cases h48 : ((t[0].toNat : Nat) : Int) = 48
    · have hy3 : (((t[0].toNat : Nat) : Int) == 48) = true := by rw [beq_iff_eq]; exact h48
      have hy4 : decide ((1 : Int) < (s.size : Int)) = true := decide_eq_true (by omega)
      clear h48
      go_enter Try.func57, Try.ntmps57
      go_wp2
      all_goals
        go_ret2
        exact ⟨RDec.no HD.out, Below.refl _ _⟩
    have hy3 : (((t[0].toNat : Nat) : Int) == 48) = false := by rw [beq_eq_false_iff_ne]; exact h48
    clear h48
    have hneg : decide ((t.size : Int) < (s.size : Int)) = true := decide_eq_true (by omega)
    go_enter Try.func57, Try.ntmps57
    go_wp2
    clear ht
    go_loopw [5, 6] (fun nv iv wr => ∃ k : Nat, k ≤ t.size ∧ iv = .int .i64 k ∧ nv = .int .i64 (valL (t.data.toList.take k)) ∧ Below w.heap.size w wr ∧ Hid ((t.data.toList.take k).all isDig = true)) (fun _ iv _ => t.size - (intOf iv).toNat)
    case atStart => exact ⟨0, Nat.zero_le _, rfl, rfl, Below.refl _ _, rfl⟩
    case round =>
      obtain ⟨k, hk, rfl, rfl, hbw, hall⟩ := hrel
      by_cases hlt : k < t.size
      · have HT := Lib.hid (take_bytes hlt)
        have hlt' : (k : Int) < (t.size : Int) := by omega
        have hk0 : (0 : Int) ≤ (k : Int) := by omega
        obtain ⟨v0, v1⟩ := valL_bd k (t.data.toList.take k) (by simp; omega) hall.out
        have hp : (10 : Int) ^ k ≤ 100000000000000000 := by
          have e : (10 : Int) ^ k = ((10 ^ k : Nat) : Int) := by simp
          rw [e]
          exact Int.ofNat_le.2 (Nat.le_trans (Nat.pow_le_pow_right (by decide) (show k ≤ 17 by omega)) (by decide))
        have v2 : valL (t.data.toList.take k) < 100000000000000000 := Int.lt_of_lt_of_le v1 hp
        have HV := Lib.hid (valL_app (t.data.toList.take k) t[k])
        clear v1 hp
        generalize valL (t.data.toList.take k) = nv at *
        have hb0 : 0 ≤ ((t[k].toNat : Nat) : Int) := by omega
        have hb1 : ((t[k].toNat : Nat) : Int) < 256 := by have := t[k].toNat_lt; omega
        have HNo : Hid (isDig t[k] = false → ∀ n : Nat, 1 ≤ n → n < 1000000000000 → s ≠ txt (decL n)) := fun _ => HD.out
        by_cases d1 : ((t[k].toNat : Nat) : Int) < 48
        · have hd3 : decide (((t[k].toNat : Nat) : Int) < 48) = true := by simpa using d1
          have HQ := Lib.hid (isDig_lo d1)
          go_wp2
          go_ret2
          exact ⟨RDec.no (HNo.out HQ.out), hbw⟩
        have hd3 : decide (((t[k].toNat : Nat) : Int) < 48) = false := by simpa using d1
        by_cases d2 : 57 < ((t[k].toNat : Nat) : Int)
        · have hd4 : decide (57 < ((t[k].toNat : Nat) : Int)) = true := by simpa using d2
          have HQ := Lib.hid (isDig_hi d2)
          go_wp2
          go_ret2
          exact ⟨RDec.no (HNo.out HQ.out), hbw⟩
        have hd4 : decide (57 < ((t[k].toNat : Nat) : Int)) = false := by simpa using d2
        have HQ := Lib.hid (isDig_of d1 d2)
        have hw1 : IntKind.u8.wrap (((t[k].toNat : Nat) : Int) - 48) = ((t[k].toNat : Nat) : Int) - 48 := by simp [IntKind.wrap, IntKind.bits, IntKind.signed]; omega
        have hw2 : IntKind.i64.wrap (((t[k].toNat : Nat) : Int) - 48) = ((t[k].toNat : Nat) : Int) - 48 := IntWalk.i64_in _ (by omega)
        have hw3 : IntKind.i64.wrap (10 * nv) = 10 * nv := IntWalk.i64_in _ (by omega)
        have hw4 : IntKind.i64.wrap (10 * nv + (((t[k].toNat : Nat) : Int) - 48)) = 10 * nv + (((t[k].toNat : Nat) : Int) - 48) := IntWalk.i64_in _ (by omega)
        go_wp2
        go_roundw
        case rel => exact ⟨k + 1, by omega, by go_num, by rw [HT.out, HV.out], hbw, by show _ = _; rw [HT.out, List.all_append, hall.out]; simp [HQ.out]⟩
        case measure => simp [intOf]; omega
      · obtain rfl : k = t.size := by omega
        have hft : t.data.toList.take t.size = t.data.toList := List.take_of_length_le (by simp)
        rw [hft] at hall ⊢
        obtain ⟨v0, v1⟩ := valL_bd t.size t.data.toList (by simp) hall.out
        have hp : (10 : Int) ^ t.size ≤ 1000000000000000000 := by
          have e : (10 : Int) ^ t.size = ((10 ^ t.size : Nat) : Int) := by simp
          rw [e]
          exact Int.ofNat_le.2 (Nat.le_trans (Nat.pow_le_pow_right (by decide) (show t.size ≤ 18 by omega)) (by decide))
        have v2 : valL t.data.toList < 1000000000000000000 := Int.lt_of_lt_of_le v1 hp
        clear v1 hp hft
        have HE : Hid (∀ x : Int, x = -valL t.data.toList → RDec s (.returned (.tuple #[.int .i64 x, .bool true]))) := fun x hx => ⟨x, true, rfl, by omega, by omega, fun n h1 h2 e => absurd e (HD.out n h1 h2)⟩
        generalize valL t.data.toList = nv at *
        have hw5 : IntKind.i64.wrap (-nv) = -nv := IntWalk.i64_in _ (by omega)
        go_wp2
        go_ret2
        exact ⟨HE.out _ rfl, hbw⟩
  have hds : (((s[0].toNat : Nat) : Int) == 45) = false := by rw [beq_eq_false_iff_ne]; exact hdash
  clear hdash
  by_cases h18 : 18 < s.size
  · have hy2 : decide ((18 : Int) < (s.size : Int)) = true := decide_eq_true (by omega)
    have HD : Hid (∀ n : Nat, 1 ≤ n → n < 1000000000000 → s ≠ txt (decL n)) := fun n h1 h2 e => by have := dt_size h2 e; omega
    go_enter Try.func57, Try.ntmps57
    go_wp2
    go_ret2
    exact ⟨RDec.no HD.out, Below.refl _ _⟩
  have hy2 : decide ((18 : Int) < (s.size : Int)) = false := decide_eq_false (by omega)
  have hnn : decide ((s.size : Int) < (s.size : Int)) = false := by simp
  by_cases h48 : ((s[0].toNat : Nat) : Int) = 48
  · have HD : Hid (∀ n : Nat, 1 ≤ n → n < 1000000000000 → s ≠ txt (decL n)) := fun n h1 h2 e => dt_head h1 e hpos (u8_eqI (c := 48) (by decide) h48)
    have hy3 : (((s[0].toNat : Nat) : Int) == 48) = true := by rw [beq_iff_eq]; exact h48
    by_cases h1 : s.size = 1
    · have hy4 : decide ((1 : Int) < (s.size : Int)) = false := decide_eq_false (by omega)
      have hv : Hid (∀ x : Int, -10 < x → x < 10 → RDec s (.returned (.tuple #[.int .i64 x, .bool true]))) := fun x hx hx2 => ⟨x, true, rfl, by omega, by omega, fun n h1 h2 e => absurd e (HD.out n h1 h2)⟩
      obtain ⟨t, ht⟩ : ∃ t, t = s := ⟨s, rfl⟩
      subst ht
      have hle18 : t.size ≤ 18 := by omega
      clear h1 h48 h18 hv
      go_enter Try.func57, Try.ntmps57
      go_wp2
      go_loopw [5, 6] (fun nv iv wr => ∃ k : Nat, k ≤ t.size ∧ iv = .int .i64 k ∧ nv = .int .i64 (valL (t.data.toList.take k)) ∧ Below w.heap.size w wr ∧ Hid ((t.data.toList.take k).all isDig = true)) (fun _ iv _ => t.size - (intOf iv).toNat)
      case atStart => exact ⟨0, Nat.zero_le _, rfl, rfl, Below.refl _ _, rfl⟩
      case round =>
        obtain ⟨k, hk, rfl, rfl, hbw, hall⟩ := hrel
        by_cases hlt : k < t.size
        · have HT := Lib.hid (take_bytes hlt)
          have hlt' : (k : Int) < (t.size : Int) := by omega
          have hk0 : (0 : Int) ≤ (k : Int) := by omega
          obtain ⟨v0, v1⟩ := valL_bd k (t.data.toList.take k) (by simp; omega) hall.out
          have hp : (10 : Int) ^ k ≤ 100000000000000000 := by
            have e : (10 : Int) ^ k = ((10 ^ k : Nat) : Int) := by simp
            rw [e]
            exact Int.ofNat_le.2 (Nat.le_trans (Nat.pow_le_pow_right (by decide) (show k ≤ 17 by omega)) (by decide))
          have v2 : valL (t.data.toList.take k) < 100000000000000000 := Int.lt_of_lt_of_le v1 hp
          have HV := Lib.hid (valL_app (t.data.toList.take k) t[k])
          clear v1 hp
          generalize valL (t.data.toList.take k) = nv at *
          have hb0 : 0 ≤ ((t[k].toNat : Nat) : Int) := by omega
          have hb1 : ((t[k].toNat : Nat) : Int) < 256 := by have := t[k].toNat_lt; omega
          have HNo : Hid (isDig t[k] = false → ∀ n : Nat, 1 ≤ n → n < 1000000000000 → t ≠ txt (decL n)) := fun _ => HD.out
          by_cases d1 : ((t[k].toNat : Nat) : Int) < 48
          · have hd3 : decide (((t[k].toNat : Nat) : Int) < 48) = true := by simpa using d1
            have HQ := Lib.hid (isDig_lo d1)
            go_wp2
            go_ret2
            exact ⟨RDec.no (HNo.out HQ.out), hbw⟩
          have hd3 : decide (((t[k].toNat : Nat) : Int) < 48) = false := by simpa using d1
          by_cases d2 : 57 < ((t[k].toNat : Nat) : Int)
          · have hd4 : decide (57 < ((t[k].toNat : Nat) : Int)) = true := by simpa using d2
            have HQ := Lib.hid (isDig_hi d2)
            go_wp2
            go_ret2
            exact ⟨RDec.no (HNo.out HQ.out), hbw⟩
          have hd4 : decide (57 < ((t[k].toNat : Nat) : Int)) = false := by simpa using d2
          have HQ := Lib.hid (isDig_of d1 d2)
          have hw1 : IntKind.u8.wrap (((t[k].toNat : Nat) : Int) - 48) = ((t[k].toNat : Nat) : Int) - 48 := by simp [IntKind.wrap, IntKind.bits, IntKind.signed]; omega
          have hw2 : IntKind.i64.wrap (((t[k].toNat : Nat) : Int) - 48) = ((t[k].toNat : Nat) : Int) - 48 := IntWalk.i64_in _ (by omega)
          have hw3 : IntKind.i64.wrap (10 * nv) = 10 * nv := IntWalk.i64_in _ (by omega)
          have hw4 : IntKind.i64.wrap (10 * nv + (((t[k].toNat : Nat) : Int) - 48)) = 10 * nv + (((t[k].toNat : Nat) : Int) - 48) := IntWalk.i64_in _ (by omega)
          go_wp2
          go_roundw
          case rel => exact ⟨k + 1, by omega, by go_num, by rw [HT.out, HV.out], hbw, by show _ = _; rw [HT.out, List.all_append, hall.out]; simp [HQ.out]⟩
          case measure => simp [intOf]; omega
        · obtain rfl : k = t.size := by omega
          have hft : t.data.toList.take t.size = t.data.toList := List.take_of_length_le (by simp)
          rw [hft] at hall ⊢
          obtain ⟨v0, v1⟩ := valL_bd t.size t.data.toList (by simp) hall.out
          have hp : (10 : Int) ^ t.size ≤ 1000000000000000000 := by
            have e : (10 : Int) ^ t.size = ((10 ^ t.size : Nat) : Int) := by simp
            rw [e]
            exact Int.ofNat_le.2 (Nat.le_trans (Nat.pow_le_pow_right (by decide) (show t.size ≤ 18 by omega)) (by decide))
          have v2 : valL t.data.toList < 1000000000000000000 := Int.lt_of_lt_of_le v1 hp
          clear v1 hp hft
          have HE : Hid (∀ x : Int, x = valL t.data.toList → RDec t (.returned (.tuple #[.int .i64 x, .bool true]))) := fun x hx => ⟨x, true, rfl, by omega, by omega, fun n h1 h2 e => absurd e (HD.out n h1 h2)⟩
          generalize valL t.data.toList = nv at *
          have hw5 : IntKind.i64.wrap (-nv) = -nv := IntWalk.i64_in _ (by omega)
          go_wp2
          go_ret2
          exact ⟨HE.out _ rfl, hbw⟩
    · have hy4 : decide ((1 : Int) < (s.size : Int)) = true := decide_eq_true (by omega)
      clear h1 h48
      go_enter Try.func57, Try.ntmps57
      go_wp2
      go_ret2
      exact ⟨RDec.no HD.out, Below.refl _ _⟩
  have hy3 : (((s[0].toNat : Nat) : Int) == 48) = false := by rw [beq_eq_false_iff_ne]; exact h48
  clear h48
  obtain ⟨t, ht⟩ : ∃ t, t = s := ⟨s, rfl⟩
  subst ht
  go_enter Try.func57, Try.ntmps57
  go_wp2
  go_loopw [5, 6] (fun nv iv wr => ∃ k : Nat, k ≤ t.size ∧ iv = .int .i64 k ∧ nv = .int .i64 (valL (t.data.toList.take k)) ∧ Below w.heap.size w wr ∧ Hid ((t.data.toList.take k).all isDig = true)) (fun _ iv _ => t.size - (intOf iv).toNat)
  case atStart => exact ⟨0, Nat.zero_le _, rfl, rfl, Below.refl _ _, rfl⟩
  case round =>
    obtain ⟨k, hk, rfl, rfl, hbw, hall⟩ := hrel
    by_cases hlt : k < t.size
    · have HT := Lib.hid (take_bytes hlt)
      have hlt' : (k : Int) < (t.size : Int) := by omega
      have hk0 : (0 : Int) ≤ (k : Int) := by omega
      obtain ⟨v0, v1⟩ := valL_bd k (t.data.toList.take k) (by simp; omega) hall.out
      have hp : (10 : Int) ^ k ≤ 100000000000000000 := by
        have e : (10 : Int) ^ k = ((10 ^ k : Nat) : Int) := by simp
        rw [e]
        exact Int.ofNat_le.2 (Nat.le_trans (Nat.pow_le_pow_right (by decide) (show k ≤ 17 by omega)) (by decide))
      have v2 : valL (t.data.toList.take k) < 100000000000000000 := Int.lt_of_lt_of_le v1 hp
      have HV := Lib.hid (valL_app (t.data.toList.take k) t[k])
      clear v1 hp
      generalize valL (t.data.toList.take k) = nv at *
      have hb0 : 0 ≤ ((t[k].toNat : Nat) : Int) := by omega
      have hb1 : ((t[k].toNat : Nat) : Int) < 256 := by have := t[k].toNat_lt; omega
      have HNo : Hid (isDig t[k] = false → ∀ n : Nat, 1 ≤ n → n < 1000000000000 → t ≠ txt (decL n)) := fun hq => dt_notdig hlt hq
      by_cases d1 : ((t[k].toNat : Nat) : Int) < 48
      · have hd3 : decide (((t[k].toNat : Nat) : Int) < 48) = true := by simpa using d1
        have HQ := Lib.hid (isDig_lo d1)
        go_wp2
        go_ret2
        exact ⟨RDec.no (HNo.out HQ.out), hbw⟩
      have hd3 : decide (((t[k].toNat : Nat) : Int) < 48) = false := by simpa using d1
      by_cases d2 : 57 < ((t[k].toNat : Nat) : Int)
      · have hd4 : decide (57 < ((t[k].toNat : Nat) : Int)) = true := by simpa using d2
        have HQ := Lib.hid (isDig_hi d2)
        go_wp2
        go_ret2
        exact ⟨RDec.no (HNo.out HQ.out), hbw⟩
      have hd4 : decide (57 < ((t[k].toNat : Nat) : Int)) = false := by simpa using d2
      have HQ := Lib.hid (isDig_of d1 d2)
      have hw1 : IntKind.u8.wrap (((t[k].toNat : Nat) : Int) - 48) = ((t[k].toNat : Nat) : Int) - 48 := by simp [IntKind.wrap, IntKind.bits, IntKind.signed]; omega
      have hw2 : IntKind.i64.wrap (((t[k].toNat : Nat) : Int) - 48) = ((t[k].toNat : Nat) : Int) - 48 := IntWalk.i64_in _ (by omega)
      have hw3 : IntKind.i64.wrap (10 * nv) = 10 * nv := IntWalk.i64_in _ (by omega)
      have hw4 : IntKind.i64.wrap (10 * nv + (((t[k].toNat : Nat) : Int) - 48)) = 10 * nv + (((t[k].toNat : Nat) : Int) - 48) := IntWalk.i64_in _ (by omega)
      go_wp2
      go_roundw
      case rel => exact ⟨k + 1, by omega, by go_num, by rw [HT.out, HV.out], hbw, by show _ = _; rw [HT.out, List.all_append, hall.out]; simp [HQ.out]⟩
      case measure => simp [intOf]; omega
    · obtain rfl : k = t.size := by omega
      have hft : t.data.toList.take t.size = t.data.toList := List.take_of_length_le (by simp)
      rw [hft] at hall ⊢
      obtain ⟨v0, v1⟩ := valL_bd t.size t.data.toList (by simp) hall.out
      have hp : (10 : Int) ^ t.size ≤ 1000000000000000000 := by
        have e : (10 : Int) ^ t.size = ((10 ^ t.size : Nat) : Int) := by simp
        rw [e]
        exact Int.ofNat_le.2 (Nat.le_trans (Nat.pow_le_pow_right (by decide) (show t.size ≤ 18 by omega)) (by decide))
      have v2 : valL t.data.toList < 1000000000000000000 := Int.lt_of_lt_of_le v1 hp
      clear v1 hp hft
      have HE : Hid (∀ x : Int, x = valL t.data.toList → RDec t (.returned (.tuple #[.int .i64 x, .bool true]))) := fun x hx => ⟨x, true, rfl, by omega, by omega, fun n _ _ e => ⟨by rw [hx, e, txt_data, valL_dec n n (Nat.le_refl _)], rfl⟩⟩
      generalize valL t.data.toList = nv at *
      have hw5 : IntKind.i64.wrap (-nv) = -nv := IntWalk.i64_in _ (by omega)
      go_wp2
      go_ret2
      exact ⟨HE.out _ rfl, hbw⟩
end Go.Proofs.Ytoaacipgphoiaaa
