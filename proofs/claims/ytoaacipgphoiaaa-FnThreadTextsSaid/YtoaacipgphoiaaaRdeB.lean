/- Contracts of splitAt and l01Split at the byte x: the list of the parts. -/
import Derived.Test.YtoaacipgphoiaaaRdtP
import Derived.Test.YtoaacipgphoiaaaVecT
import Derived.WalkSpells
set_option linter.unusedSimpArgs false
set_option linter.unusedVariables false
namespace Go.Proofs.Ytoaacipgphoiaaa
open Go.RowKit

def strV (l : List UInt8) : Value := .string (txt l)
theorem strV_one (L : List (List UInt8)) : ∀ z ∈ L.map strV, z.oneCell' = true := by
  intro z hz
  rw [List.mem_map] at hz
  obtain ⟨x, _, rfl⟩ := hz
  rfl
def partsL (s : ByteArray) : List (List UInt8) := splitL 120 s.data.toList []
/-- A result that is a slice of strings of the call's own. -/
def RetT (w : World) (L : List (List UInt8)) (e : Ending) (w' : World) : Prop := ∃ v, e = .returned v ∧ OwV w' w.heap.size v (L.map strV) ∧ Below w.heap.size w w'
theorem cur_app {s : ByteArray} {f k : Nat} (hf : f ≤ k) (hk : k < s.size) : (s.data.toList.take (k + 1)).drop f = (s.data.toList.take k).drop f ++ [s[k]] := by
  rw [take_bytes hk, List.drop_append_of_le_length (by simp; omega)]
theorem cur_nil {s : ByteArray} {k : Nat} : (s.data.toList.take k).drop k = [] := by
  apply List.drop_eq_nil_of_le
  simp
  omega
theorem rest_cons {s : ByteArray} {k : Nat} (hk : k < s.size) : s.data.toList.drop k = s[k] :: s.data.toList.drop (k + 1) := by
  rw [List.drop_eq_getElem_cons (by simpa using hk)]; rfl
theorem split_hit {s : ByteArray} {f k : Nat} {P : List (List UInt8)} (hk : k < s.size) (hb : ((s[k].toNat : Nat) : Int) = 120) (h : partsL s = P ++ splitL 120 (s.data.toList.drop k) ((s.data.toList.take k).drop f)) :
    partsL s = (P ++ [(s.data.toList.take k).drop f]) ++ splitL 120 (s.data.toList.drop (k + 1)) ((s.data.toList.take (k + 1)).drop (k + 1)) := by
  have hq : s[k] = 120 := by
    apply UInt8.toNat_inj.1
    have : (120 : UInt8).toNat = 120 := rfl
    omega
  rw [h, rest_cons hk, splitL, if_pos hq, cur_nil]
  simp
theorem split_miss {s : ByteArray} {f k : Nat} {P : List (List UInt8)} (hf : f ≤ k) (hk : k < s.size) (hb : ¬ ((s[k].toNat : Nat) : Int) = 120) (h : partsL s = P ++ splitL 120 (s.data.toList.drop k) ((s.data.toList.take k).drop f)) :
    partsL s = P ++ splitL 120 (s.data.toList.drop (k + 1)) ((s.data.toList.take (k + 1)).drop f) := by
  have hq : s[k] ≠ 120 := by
    intro e
    apply hb
    rw [e]
    rfl
  rw [h, rest_cons hk, splitL, if_neg hq, cur_app hf hk]
theorem split_end {s : ByteArray} {f : Nat} {P : List (List UInt8)} (h : partsL s = P ++ splitL 120 (s.data.toList.drop s.size) ((s.data.toList.take s.size).drop f)) : partsL s = P ++ [(s.data.toList.take s.size).drop f] := by
  rw [h, List.drop_eq_nil_of_le (by simp)]
  rfl
theorem app_str {w : World} {B : Nat} {v : Value} {P : List (List UInt8)} {s : ByteArray} {f k : Nat} (h : OwV w B v (P.map strV ++ [.string (s.extract f k)])) : OwV w B v ((P ++ [(s.data.toList.take k).drop f]).map strV) := by
  rw [extract_txt] at h
  rw [List.map_append]
  exact h
set_option maxHeartbeats 1600000 in
theorem splitAt_any (s : ByteArray) (w : World) (hs : s.size ≤ 1048576) :
    Calls Try.prog 55 #[.string s, .int .u8 120] w (RetT w (partsL s)) := by
  go_enter Try.func55, Try.ntmps55
  go_wp2
  go_loopw [5, 6, 7] (fun ov fv iv wr => ∃ (k f : Nat) (P : List (List UInt8)), f ≤ k ∧ k ≤ s.size ∧ P.length ≤ k ∧ iv = .int .i64 k ∧ fv = .int .i64 f ∧ Below w.heap.size w wr ∧ Hid (OwV wr w.heap.size ov (P.map strV)) ∧ Hid (partsL s = P ++ splitL 120 (s.data.toList.drop k) ((s.data.toList.take k).drop f))) (fun _ _ iv _ => s.size - (intOf iv).toNat)
  case atStart => exact ⟨0, 0, [], Nat.le_refl _, Nat.zero_le _, Nat.le_refl _, rfl, rfl, Below.refl _ _, OwV.nil _ _, rfl⟩
  case round =>
    obtain ⟨k, f, P, hfk, hk, hP, rfl, rfl, hbw, HO, hsp⟩ := hrel
    have hsz := hbw.size
    have hf0 : (0 : Int) ≤ (f : Int) := by omega
    have hk0 : (0 : Int) ≤ (k : Int) := by omega
    have hfk' : (f : Int) ≤ (k : Int) := by omega
    by_cases hlt : k < s.size
    · have hlt' : (k : Int) < (s.size : Int) := by omega
      by_cases hb : ((s[k].toNat : Nat) : Int) = 120
      · have HS := Lib.hid (split_hit hlt hb hsp.out)
        have hbq : (((s[k].toNat : Nat) : Int) == 120) = true := by rw [beq_iff_eq]; exact hb
        clear hb
        go_wp2_with (at_builtin; refine wpList_appV _ rfl _ _ rfl w.heap.size _ _ (P.map strV) [.string (s.extract f k)] rfl rfl (HO.out.alloc _) (RdV.oneN _ _ rfl) (by intro z hz; simp at hz; subst hz; rfl) (by simp; omega) (by simp; omega) ?_; intro v' w1 hown hgrow hblk)
        have HO1 := Lib.hid (app_str hown)
        have HB1 := Lib.hid (OwV.grown (HO.out.alloc _) (hbw.alloc hsz _) (by simp; omega) hgrow)
        clear hown hgrow hblk
        go_wp2
        go_roundw
        case rel => exact ⟨k + 1, k + 1, P ++ [(s.data.toList.take k).drop f], Nat.le_refl _, by omega, by rw [List.length_append, List.length_singleton]; omega, by go_num, by go_num, HB1.out, HO1, HS⟩
        case measure => simp [intOf]; omega
      · have HS := Lib.hid (split_miss hfk hlt hb hsp.out)
        have hbq : (((s[k].toNat : Nat) : Int) == 120) = false := by rw [beq_eq_false_iff_ne]; exact hb
        clear hb
        go_wp2
        go_roundw
        case rel => exact ⟨k + 1, f, P, by omega, by omega, by omega, by go_num, rfl, hbw, HO, HS⟩
        case measure => simp [intOf]; omega
    · obtain rfl : k = s.size := by omega
      have HS := Lib.hid (split_end hsp.out)
      clear hlt
      go_wp2_with (at_builtin; refine wpList_appV _ rfl _ _ rfl w.heap.size _ _ (P.map strV) [.string (s.extract f s.size)] rfl rfl (HO.out.alloc _) (RdV.oneN _ _ rfl) (by intro z hz; simp at hz; subst hz; rfl) (by simp; omega) (by simp; omega) ?_; intro v' w1 hown hgrow hblk)
      have HO1 := Lib.hid (app_str hown)
      have HB1 := Lib.hid (OwV.grown (HO.out.alloc _) (hbw.alloc hsz _) (by simp; omega) hgrow)
      clear hown hgrow hblk
      go_ret
      exact ⟨_, rfl, by rw [HS.out]; exact HO1.out, HB1.out⟩
set_option maxHeartbeats 1600000 in
theorem l01Split_any (s : ByteArray) (w : World) (hs : s.size ≤ 1048576) :
    Calls Try.prog 52 #[.string s, .int .u8 120] w (RetT w (partsL s)) := by
  go_enter Try.func52, Try.ntmps52
  go_wp2
  go_loopw [5, 6, 7] (fun ov fv iv wr => ∃ (k f : Nat) (P : List (List UInt8)), k ≤ s.size + 1 ∧ f ≤ s.size + 1 ∧ P.length ≤ k ∧ iv = .int .i64 k ∧ fv = .int .i64 f ∧ Below w.heap.size w wr ∧ Hid (OwV wr w.heap.size ov (P.map strV)) ∧ Hid ((f ≤ k ∧ k ≤ s.size ∧ partsL s = P ++ splitL 120 (s.data.toList.drop k) ((s.data.toList.take k).drop f)) ∨ (k = s.size + 1 ∧ partsL s = P))) (fun _ _ iv _ => s.size + 1 - (intOf iv).toNat)
  case atStart => exact ⟨0, 0, [], Nat.zero_le _, Nat.zero_le _, Nat.le_refl _, rfl, rfl, (Below.refl _ _).alloc (Nat.le_refl _) _, OwV.lit0N _ rfl (Nat.le_refl _), Or.inl ⟨Nat.le_refl _, Nat.zero_le _, rfl⟩⟩
  case round =>
    obtain ⟨k, f, P, hk, hf, hP, rfl, rfl, hbw, HO, hsp⟩ := hrel
    have hsz := hbw.size
    have hf0 : (0 : Int) ≤ (f : Int) := by omega
    have hk0 : (0 : Int) ≤ (k : Int) := by omega
    rcases hsp.out with ⟨hfk, hks, hsp1⟩ | ⟨hks, hsp1⟩
    · have HSP := Lib.hid hsp1
      clear hsp1 hsp
      have hfk' : (f : Int) ≤ (k : Int) := by omega
      have hle : decide ((k : Int) ≤ (s.size : Int)) = true := by simp; omega
      by_cases hlt : k < s.size
      · have hlt' : (k : Int) < (s.size : Int) := by omega
        have hne : ((k : Int) == (s.size : Int)) = false := by rw [beq_eq_false_iff_ne]; omega
        by_cases hb : ((s[k].toNat : Nat) : Int) = 120
        · have HS := Lib.hid (split_hit hlt hb HSP.out)
          have hbq : (((s[k].toNat : Nat) : Int) == 120) = true := by rw [beq_iff_eq]; exact hb
          clear hb
          go_wp2_with (at_builtin; refine wpList_appV _ rfl _ _ rfl w.heap.size _ _ (P.map strV) [.string (s.extract f k)] rfl rfl (HO.out.alloc _) (RdV.oneN _ _ rfl) (by intro z hz; simp at hz; subst hz; rfl) (by simp; omega) (by simp; omega) ?_; intro v' w1 hown hgrow hblk)
          have HO1 := Lib.hid (app_str hown)
          have HB1 := Lib.hid (OwV.grown (HO.out.alloc _) (hbw.alloc hsz _) (by simp; omega) hgrow)
          clear hown hgrow hblk
          go_wp2
          go_roundw
          case rel => exact ⟨k + 1, k + 1, P ++ [(s.data.toList.take k).drop f], by omega, by omega, by rw [List.length_append, List.length_singleton]; omega, by go_num, by go_num, HB1.out, HO1, Or.inl ⟨Nat.le_refl _, by omega, HS.out⟩⟩
          case measure => simp [intOf]; omega
        · have HS := Lib.hid (split_miss hfk hlt hb HSP.out)
          have hbq : (((s[k].toNat : Nat) : Int) == 120) = false := by rw [beq_eq_false_iff_ne]; exact hb
          clear hb
          go_wp2
          go_roundw
          case rel => exact ⟨k + 1, f, P, by omega, hf, by omega, by go_num, rfl, hbw, HO, Or.inl ⟨by omega, by omega, HS.out⟩⟩
          case measure => simp [intOf]; omega
      · obtain rfl : k = s.size := by omega
        have HS := Lib.hid (split_end HSP.out)
        clear hlt
        go_wp2_with (at_builtin; refine wpList_appV _ rfl _ _ rfl w.heap.size _ _ (P.map strV) [.string (s.extract f s.size)] rfl rfl (HO.out.alloc _) (RdV.oneN _ _ rfl) (by intro z hz; simp at hz; subst hz; rfl) (by simp; omega) (by simp; omega) ?_; intro v' w1 hown hgrow hblk)
        have HO1 := Lib.hid (app_str hown)
        have HB1 := Lib.hid (OwV.grown (HO.out.alloc _) (hbw.alloc hsz _) (by simp; omega) hgrow)
        clear hown hgrow hblk
        go_wp2
        go_roundw
        case rel => exact ⟨s.size + 1, s.size + 1, P ++ [(s.data.toList.take s.size).drop f], by omega, by omega, by rw [List.length_append, List.length_singleton]; omega, by go_num, by go_num, HB1.out, HO1, Or.inr ⟨rfl, HS.out⟩⟩
        case measure => simp [intOf]
    · have HS := Lib.hid hsp1
      clear hsp1 hsp
      have hgt : decide ((k : Int) ≤ (s.size : Int)) = false := by simp; omega
      have hgt2 : decide (k ≤ s.size) = false := decide_eq_false (by omega)
      have hgt3 : s.size < k := by omega
      clear hks
      go_wp2
      go_ret
      exact ⟨_, rfl, by rw [HS.out]; exact HO.out, hbw⟩
end Go.Proofs.Ytoaacipgphoiaaa
