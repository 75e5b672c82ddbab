/- Contracts of ReadMoves, of the program and of the reference. -/
import Derived.Test.YtalfomdpkljpcaaMovA
set_option linter.unusedSimpArgs false
set_option linter.unusedVariables false
namespace Go.Proofs.Ytalfomdpkljpcaa
open Go.RowKit

/-- The move of a letter, or -1. -/
def movV (b : UInt8) : Int := if b = 100 then 0 else if b = 117 then 1 else if b = 108 then 2 else if b = 114 then 3 else -1
def movOk (b : UInt8) : Bool := decide (0 ≤ movV b)
def rmR (l : List UInt8) : List Int × Int := if l = [45] then ([], 0) else if l.all movOk = true then (if 1 ≤ l.length ∧ l.length ≤ 60 then (l.map movV, 0) else ([], 6)) else ([], 6)
theorem bytes_take {s : ByteArray} {k : Nat} (h : k < s.size) : s.data.toList.take (k + 1) = s.data.toList.take k ++ [s[k]] := by
  rw [List.take_succ_eq_append_getElem (by simpa using h)]; rfl
theorem bytes_len (s : ByteArray) : s.data.toList.length = s.size := by simp
theorem bytes_all_no {p : UInt8 → Bool} {s : ByteArray} {k : Nat} (h : k < s.size) (hp : p s[k] = false) : s.data.toList.all p = false := by
  rw [List.all_eq_false]
  refine ⟨s[k], ?_, by simp [hp]⟩
  have : s[k] = s.data.toList[k]'(by simpa using h) := rfl
  rw [this]
  exact List.getElem_mem _
theorem bytes_all_yes {p : UInt8 → Bool} {s : ByteArray} {k : Nat} (h : k < s.size) (hp : p s[k] = true) (ha : (s.data.toList.take k).all p = true) : (s.data.toList.take (k + 1)).all p = true := by
  rw [bytes_take h, List.all_append, ha]
  simp [hp]
theorem movV_cases (b : UInt8) : (b = 100 ∧ movV b = 0) ∨ (b = 117 ∧ movV b = 1) ∨ (b = 108 ∧ movV b = 2) ∨ (b = 114 ∧ movV b = 3) ∨ (b ≠ 100 ∧ b ≠ 117 ∧ b ≠ 108 ∧ b ≠ 114 ∧ movV b = -1) := by
  unfold movV
  by_cases h1 : b = 100
  · simp [h1]
  by_cases h2 : b = 117
  · simp [h2]
  by_cases h3 : b = 108
  · simp [h3]
  by_cases h4 : b = 114
  · simp [h4]
  simp [h1, h2, h3, h4]
theorem u8_ne {b c : UInt8} (h : b ≠ c) : (((b.toNat : Int)) == (c.toNat : Int)) = false := by
  rw [beq_eq_false_iff_ne]
  intro h'
  exact h (UInt8.toNat_inj.1 (by omega))
theorem dash_toList (s : ByteArray) : (s.toList == [45]) = decide (s.data.toList = [45]) := by
  rw [ByteArray.toList_eq]
  by_cases h : s.data.toList = [45]
  · simp [h]
  · simp [h]
theorem rm_no {l : List UInt8} (h : l ≠ [45]) (ha : l.all movOk = false) : rmR l = ([], 6) := by
  unfold rmR; rw [if_neg h, if_neg (by rw [ha]; simp)]
theorem rm_len {l : List UInt8} (h : l ≠ [45]) (ha : ¬ (1 ≤ l.length ∧ l.length ≤ 60)) : rmR l = ([], 6) := by
  unfold rmR; rw [if_neg h, if_neg ha]; split <;> rfl
theorem rm_yes {l : List UInt8} (h : l ≠ [45]) (ha : l.all movOk = true) (hl : 1 ≤ l.length ∧ l.length ≤ 60) : rmR l = (l.map movV, 0) := by
  unfold rmR; rw [if_neg h, if_pos ha, if_pos hl]

set_option maxHeartbeats 800000 in
theorem sReadMoves_any (s : ByteArray) (w : World) (hs : s.size ≤ 1048576) :
    Calls Try.prog 11 #[.string s] w (RetI w (rmR s.data.toList)) := by
  obtain ⟨i0, hi, hz0, hz1, hz2⟩ := info_parts Try.infoI64
  by_cases hd : s.data.toList = [45]
  · have h1 : (s.toList == [45]) = true := by rw [dash_toList]; simp [hd]
    have HD := Lib.hid hd
    clear hd
    go_enter Try.func11, Try.ntmps11
    go_wp2
    go_ret2
    exact RetI.mk (by rw [HD.out]; rfl) (xs := []) (OwI.lit0 w) ((Below.refl _ _).alloc (Nat.le_refl _) _)
  · have h1 : (s.toList == [45]) = false := by rw [dash_toList]; simp [hd]
    have HD := Lib.hid hd
    clear hd
    go_enter Try.func11, Try.ntmps11
    go_wp2
    go_loopw [4, 5] (fun v i wr => ∃ k : Nat, k ≤ s.size ∧ i = .int .i64 k ∧ Below w.heap.size w wr ∧ Hid (OwI wr w.heap.size v ((s.data.toList.take k).map movV)) ∧ Hid ((s.data.toList.take k).all movOk = true)) (fun _ i _ => s.size - (intOf i).toNat)
    case atStart => exact ⟨0, Nat.zero_le _, rfl, (Below.refl _ _).alloc (Nat.le_refl _) _, OwI.lit0 w, rfl⟩
    case round =>
      obtain ⟨k, hk, rfl, hbw, ho, hall⟩ := hrel
      by_cases hlt : k < s.size
      · have HT := Lib.hid (bytes_take hlt)
        have HY := Lib.hid (fun hp => bytes_all_yes (p := movOk) hlt hp hall.out)
        have HNo := Lib.hid (fun hp => bytes_all_no (p := movOk) hlt hp)
        have hsz := hbw.size
        have hlen : ((s.data.toList.take k).map movV).length ≤ 1048576 := by simp; omega
        generalize hR : (s.data.toList.take k).map movV = R at *
        have HR := Lib.hid hR
        clear hR
        obtain ⟨hb, hv⟩ | ⟨hb, hv⟩ | ⟨hb, hv⟩ | ⟨hb, hv⟩ | ⟨n1, n2, n3, n4, hv⟩ := movV_cases s[k]
        · have hq : ((s[k].toNat : Nat) : Int) = 100 := by rw [hb]; rfl
          have HV := Lib.hid hv
          clear hb hv
          go_wp2_with (at_builtin; refine wpList_append_own _ rfl _ _ 22 rfl w.heap.size 2 i0 (.int .i64 0) 1 8 Try.underlying22 hi hz0 hz1 hz2 rfl (by decide) _ _ _ rfl (World.ownsRow.alloc ho.out _) ⟨wr.heap.size, 0, none⟩ 1 1 [.int .i64 (0)] rfl rfl (cell_one_new _ _ _) (by intro u hu; simp at hu; subst hu; rfl) (by unfold maxLen; omega) (by omega) (by simp; omega) ?_; intro v' w1 hown' hgrow _)
          obtain ⟨ho2, hb2⟩ := OwI.app hbw hsz ho.out hown' hgrow
          have HO2 := Lib.hid ho2
          clear hown' hgrow ho2
          go_wp2
          go_roundw
          case rel => exact ⟨k + 1, by omega, by go_num, hb2, by rw [HT.out, List.map_append, HR.out]; show OwI _ _ _ (R ++ [movV s[k]]); rw [HV.out]; exact HO2.out, HY.out (by unfold movOk; rw [HV.out]; rfl)⟩
          case measure => simp [intOf]; omega
        · have hq : ((s[k].toNat : Nat) : Int) = 117 := by rw [hb]; rfl
          have HV := Lib.hid hv
          clear hb hv
          go_wp2_with (at_builtin; refine wpList_append_own _ rfl _ _ 22 rfl w.heap.size 2 i0 (.int .i64 0) 1 8 Try.underlying22 hi hz0 hz1 hz2 rfl (by decide) _ _ _ rfl (World.ownsRow.alloc ho.out _) ⟨wr.heap.size, 0, none⟩ 1 1 [.int .i64 (1)] rfl rfl (cell_one_new _ _ _) (by intro u hu; simp at hu; subst hu; rfl) (by unfold maxLen; omega) (by omega) (by simp; omega) ?_; intro v' w1 hown' hgrow _)
          obtain ⟨ho2, hb2⟩ := OwI.app hbw hsz ho.out hown' hgrow
          have HO2 := Lib.hid ho2
          clear hown' hgrow ho2
          go_wp2
          go_roundw
          case rel => exact ⟨k + 1, by omega, by go_num, hb2, by rw [HT.out, List.map_append, HR.out]; show OwI _ _ _ (R ++ [movV s[k]]); rw [HV.out]; exact HO2.out, HY.out (by unfold movOk; rw [HV.out]; rfl)⟩
          case measure => simp [intOf]; omega
        · have hq : ((s[k].toNat : Nat) : Int) = 108 := by rw [hb]; rfl
          have HV := Lib.hid hv
          clear hb hv
          go_wp2_with (at_builtin; refine wpList_append_own _ rfl _ _ 22 rfl w.heap.size 2 i0 (.int .i64 0) 1 8 Try.underlying22 hi hz0 hz1 hz2 rfl (by decide) _ _ _ rfl (World.ownsRow.alloc ho.out _) ⟨wr.heap.size, 0, none⟩ 1 1 [.int .i64 (2)] rfl rfl (cell_one_new _ _ _) (by intro u hu; simp at hu; subst hu; rfl) (by unfold maxLen; omega) (by omega) (by simp; omega) ?_; intro v' w1 hown' hgrow _)
          obtain ⟨ho2, hb2⟩ := OwI.app hbw hsz ho.out hown' hgrow
          have HO2 := Lib.hid ho2
          clear hown' hgrow ho2
          go_wp2
          go_roundw
          case rel => exact ⟨k + 1, by omega, by go_num, hb2, by rw [HT.out, List.map_append, HR.out]; show OwI _ _ _ (R ++ [movV s[k]]); rw [HV.out]; exact HO2.out, HY.out (by unfold movOk; rw [HV.out]; rfl)⟩
          case measure => simp [intOf]; omega
        · have hq : ((s[k].toNat : Nat) : Int) = 114 := by rw [hb]; rfl
          have HV := Lib.hid hv
          clear hb hv
          go_wp2_with (at_builtin; refine wpList_append_own _ rfl _ _ 22 rfl w.heap.size 2 i0 (.int .i64 0) 1 8 Try.underlying22 hi hz0 hz1 hz2 rfl (by decide) _ _ _ rfl (World.ownsRow.alloc ho.out _) ⟨wr.heap.size, 0, none⟩ 1 1 [.int .i64 (3)] rfl rfl (cell_one_new _ _ _) (by intro u hu; simp at hu; subst hu; rfl) (by unfold maxLen; omega) (by omega) (by simp; omega) ?_; intro v' w1 hown' hgrow _)
          obtain ⟨ho2, hb2⟩ := OwI.app hbw hsz ho.out hown' hgrow
          have HO2 := Lib.hid ho2
          clear hown' hgrow ho2
          go_wp2
          go_roundw
          case rel => exact ⟨k + 1, by omega, by go_num, hb2, by rw [HT.out, List.map_append, HR.out]; show OwI _ _ _ (R ++ [movV s[k]]); rw [HV.out]; exact HO2.out, HY.out (by unfold movOk; rw [HV.out]; rfl)⟩
          case measure => simp [intOf]; omega
        · have q1 : (((s[k].toNat : Nat) : Int) == 100) = false := u8_ne n1
          have q2 : (((s[k].toNat : Nat) : Int) == 117) = false := u8_ne n2
          have q3 : (((s[k].toNat : Nat) : Int) == 108) = false := u8_ne n3
          have q4 : (((s[k].toNat : Nat) : Int) == 114) = false := u8_ne n4
          have HV := Lib.hid hv
          clear n1 n2 n3 n4 hv
          have HF := Lib.hid (rm_no HD.out (HNo.out (by unfold movOk; rw [HV.out]; rfl)))
          go_wp2
          go_ret2
          exact RetI.mk HF.out (OwI.nil _ _) hbw
      · obtain rfl : k = s.size := by omega
        have hln := bytes_len s
        have hta : s.data.toList.take s.size = s.data.toList := by rw [← hln]; exact List.take_length
        have hA : s.data.toList.all movOk = true := by rw [← hta]; exact hall.out
        rw [hta] at ho
        by_cases hc : 1 ≤ s.size ∧ s.size ≤ 60
        · obtain ⟨hc1, hc2⟩ := hc
          obtain ⟨a, c, rfl, -⟩ := (OwI.rd ho.out).shape
          have hml : (s.data.toList.map movV).length = s.size := by simp
          rw [hml]
          have he0 : ((s.size : Int) == 0) = false := by rw [beq_eq_false_iff_ne]; omega
          have HF := Lib.hid (rm_yes HD.out hA (by rw [hln]; omega))
          have HML := Lib.hid hml
          clear hta hln hA hml
          go_wp2
          go_ret2
          exact RetI.mk HF.out (by have := ho.out; rw [HML.out] at this; exact this) hbw
        · have HF := Lib.hid (rm_len HD.out (by rw [hln]; exact hc))
          obtain ⟨a, c, rfl, -⟩ := (OwI.rd ho.out).shape
          have hml : (s.data.toList.map movV).length = s.size := by simp
          rw [hml]
          clear hta hln hA hml
          by_cases hz : s.size = 0
          · have he0 : ((s.size : Int) == 0) = true := by rw [beq_iff_eq]; omega
            clear hz
            go_wp2
            go_ret2
            exact RetI.mk HF.out (OwI.nil _ _) hbw
          · have he0 : ((s.size : Int) == 0) = false := by rw [beq_eq_false_iff_ne]; omega
            have hgt : 60 < s.size := by omega
            clear hz hc
            go_wp2
            go_ret2
            exact RetI.mk HF.out (OwI.nil _ _) hbw

end Go.Proofs.Ytalfomdpkljpcaa
