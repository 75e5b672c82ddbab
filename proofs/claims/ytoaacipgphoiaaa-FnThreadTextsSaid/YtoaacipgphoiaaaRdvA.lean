/- Contract of l01Value: a number is read from its text. -/
import Derived.Test.YtoaacipgphoiaaaDec
set_option linter.unusedSimpArgs false
set_option linter.unusedVariables false
namespace Go.Proofs.Ytoaacipgphoiaaa
open Go.RowKit

def isDig (b : UInt8) : Bool := decide (48 ≤ b.toNat) && decide (b.toNat ≤ 57)
/-- The value of digits. -/
def valL (l : List UInt8) : Int := l.foldl (fun n b => 10 * n + ((b.toNat : Int) - 48)) 0
theorem valL_app (l : List UInt8) (b : UInt8) : valL (l ++ [b]) = 10 * valL l + ((b.toNat : Int) - 48) := by simp [valL]
theorem take_bytes {s : ByteArray} {k : Nat} (h : k < s.size) : s.data.toList.take (k + 1) = s.data.toList.take k ++ [s[k]] := by
  rw [List.take_succ_eq_append_getElem (by simpa using h)]; rfl
theorem valL_bd : ∀ (n : Nat) (l : List UInt8), l.length = n → l.all isDig = true → 0 ≤ valL l ∧ valL l < (10 : Int) ^ n := by
  intro n
  induction n with
  | zero => intro l h _; rw [List.length_eq_zero_iff.1 h]; simp [valL]
  | succ n ih =>
    intro l h ha
    have hne : l ≠ [] := by intro e; rw [e] at h; simp at h
    obtain ⟨l', b, rfl⟩ : ∃ l' b, l = l' ++ [b] := ⟨l.dropLast, l.getLast hne, (List.dropLast_concat_getLast hne).symm⟩
    simp only [List.length_append, List.length_singleton] at h
    simp only [List.all_append, List.all_cons, List.all_nil, Bool.and_true, Bool.and_eq_true] at ha
    obtain ⟨h1, h2⟩ := ih l' (by omega) ha.1
    have hb := ha.2
    unfold isDig at hb
    simp only [Bool.and_eq_true, decide_eq_true_eq] at hb
    rw [valL_app, Int.pow_succ]
    omega
/-- What l01Value's ending is known to be. -/
def RVal (s : ByteArray) (e : Ending) : Prop := ∃ (x : Int) (ok : Bool), e = .returned (.tuple #[.int .i64 x, .bool ok]) ∧ 0 ≤ x ∧ x < 10000000000000 ∧ (1 ≤ s.size → s.size ≤ 13 → s.data.toList.all isDig = true → x = valL s.data.toList ∧ ok = ((txt (decL (valL s.data.toList).toNat)).toList == s.toList))
set_option maxHeartbeats 1600000 in
theorem l01Value_any (s : ByteArray) (w : World) (hs : s.size ≤ 1048576) :
    Calls Try.prog 54 #[.string s] w fun e w' => RVal s e ∧ Below w.heap.size w w' := by
  by_cases h1 : s.size < 1
  · have hd : decide ((s.size : Int) < 1) = true := by simp; omega
    go_enter Try.func54, Try.ntmps54
    go_wp2
    go_ret2
    exact ⟨⟨_, _, rfl, by decide, by decide, fun a => by omega⟩, Below.refl _ _⟩
  have hd1 : decide ((s.size : Int) < 1) = false := by simp; omega
  by_cases h2 : 13 < s.size
  · have hd : decide ((13 : Int) < (s.size : Int)) = true := by simp; omega
    go_enter Try.func54, Try.ntmps54
    go_wp2
    go_ret2
    exact ⟨⟨_, _, rfl, by decide, by decide, fun _ b => by omega⟩, Below.refl _ _⟩
  have hd2 : decide ((13 : Int) < (s.size : Int)) = false := by simp; omega
  go_enter Try.func54, Try.ntmps54
  go_wp2
  go_loopw [4, 5] (fun nv iv wr => ∃ k : Nat, k ≤ s.size ∧ iv = .int .i64 k ∧ nv = .int .i64 (valL (s.data.toList.take k)) ∧ Below w.heap.size w wr ∧ Hid ((s.data.toList.take k).all isDig = true)) (fun _ iv _ => s.size - (intOf iv).toNat)
  case atStart => exact ⟨0, Nat.zero_le _, rfl, rfl, Below.refl _ _, rfl⟩
  case round =>
    obtain ⟨k, hk, rfl, rfl, hbw, hall⟩ := hrel
    by_cases hlt : k < s.size
    · have HT := Lib.hid (take_bytes hlt)
      have hlt' : (k : Int) < (s.size : Int) := by omega
      have hk0 : (0 : Int) ≤ (k : Int) := by omega
      obtain ⟨v0, v1⟩ := valL_bd k (s.data.toList.take k) (by simp; omega) hall.out
      have hp : (10 : Int) ^ k ≤ 10000000000000 := by
        have e : (10 : Int) ^ k = ((10 ^ k : Nat) : Int) := by simp
        rw [e]
        exact Int.ofNat_le.2 (Nat.le_trans (Nat.pow_le_pow_right (by decide) (show k ≤ 13 by omega)) (by decide))
      have v2 : valL (s.data.toList.take k) < 10000000000000 := Int.lt_of_lt_of_le v1 hp
      have HV := Lib.hid (valL_app (s.data.toList.take k) s[k])
      clear v1 hp
      generalize valL (s.data.toList.take k) = nv at *
      have hb0 : 0 ≤ ((s[k].toNat : Nat) : Int) := by omega
      have hb1 : ((s[k].toNat : Nat) : Int) < 256 := by have := s[k].toNat_lt; omega
      have HNo : Hid (isDig s[k] = false → s.data.toList.all isDig = false) := by
        show _ → _
        intro hq
        rw [List.all_eq_false]
        exact ⟨s[k], by simp; exact Array.getElem_mem (by simpa using hlt), by simp [hq]⟩
      by_cases d1 : ((s[k].toNat : Nat) : Int) < 48
      · have hd3 : decide (((s[k].toNat : Nat) : Int) < 48) = true := by simpa using d1
        have hq : isDig s[k] = false := by unfold isDig; simp; omega
        go_wp2
        go_ret2
        refine ⟨⟨0, false, rfl, by decide, by decide, fun _ _ e => ?_⟩, hbw⟩
        rw [HNo.out hq] at e
        cases e
      have hd3 : decide (((s[k].toNat : Nat) : Int) < 48) = false := by simpa using d1
      by_cases d2 : 57 < ((s[k].toNat : Nat) : Int)
      · have hd4 : decide (57 < ((s[k].toNat : Nat) : Int)) = true := by simpa using d2
        have hq : isDig s[k] = false := by unfold isDig; simp; omega
        go_wp2
        go_ret2
        refine ⟨⟨0, false, rfl, by decide, by decide, fun _ _ e => ?_⟩, hbw⟩
        rw [HNo.out hq] at e
        cases e
      have hd4 : decide (57 < ((s[k].toNat : Nat) : Int)) = false := by simpa using d2
      have hq : isDig s[k] = true := by unfold isDig; simp; omega
      have hw1 : IntKind.u8.wrap (((s[k].toNat : Nat) : Int) - 48) = ((s[k].toNat : Nat) : Int) - 48 := by simp [IntKind.wrap, IntKind.bits, IntKind.signed]; omega
      have hw2 : IntKind.i64.wrap (((s[k].toNat : Nat) : Int) - 48) = ((s[k].toNat : Nat) : Int) - 48 := IntWalk.i64_in _ (by omega)
      have hw3 : IntKind.i64.wrap (10 * nv) = 10 * nv := IntWalk.i64_in _ (by omega)
      have hw4 : IntKind.i64.wrap (10 * nv + (((s[k].toNat : Nat) : Int) - 48)) = 10 * nv + (((s[k].toNat : Nat) : Int) - 48) := IntWalk.i64_in _ (by omega)
      go_wp2
      go_roundw
      case rel => exact ⟨k + 1, by omega, by go_num, by rw [HT.out, HV.out], hbw, by show _ = _; rw [HT.out, List.all_append, hall.out]; simp [hq]⟩
      case measure => simp [intOf]; omega
    · obtain rfl : k = s.size := by omega
      have hft : s.data.toList.take s.size = s.data.toList := List.take_of_length_le (by simp)
      rw [hft] at hall ⊢
      obtain ⟨v0, v1⟩ := valL_bd s.size s.data.toList (by simp) hall.out
      have hp : (10 : Int) ^ s.size ≤ 10000000000000 := by
        have e : (10 : Int) ^ s.size = ((10 ^ s.size : Nat) : Int) := by simp
        rw [e]
        exact Int.ofNat_le.2 (Nat.le_trans (Nat.pow_le_pow_right (by decide) (show s.size ≤ 13 by omega)) (by decide))
      have v2 : valL s.data.toList < 10000000000000 := Int.lt_of_lt_of_le v1 hp
      clear v1 hp
      go_wp2_with fail
      (with_reducible refine (l01Dec_i _ _ v0 (by omega)).mono ?_)
      rintro e w2 ⟨rfl, hb2⟩
      go_wp2
      go_ret2
      exact ⟨⟨_, _, rfl, v0, v2, fun _ _ _ => ⟨rfl, rfl⟩⟩, hbw.trans (hb2.mono hbw.size)⟩
end Go.Proofs.Ytoaacipgphoiaaa
