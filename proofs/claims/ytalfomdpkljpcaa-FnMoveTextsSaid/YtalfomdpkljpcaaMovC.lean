/- Contract of the program's ReadMoves. -/
import Derived.Test.YtalfomdpkljpcaaMovB
set_option linter.unusedSimpArgs false
set_option linter.unusedVariables false
namespace Go.Proofs.Ytalfomdpkljpcaa
open Go.RowKit

/-- The move found among the first j letters, or -1. -/
def movP (b : UInt8) (j : Int) : Int := if b = 100 then (if 1 ≤ j then 0 else -1) else if b = 117 then (if 2 ≤ j then 1 else -1) else if b = 108 then (if 3 ≤ j then 2 else -1) else if b = 114 then (if 4 ≤ j then 3 else -1) else -1
theorem movP_0 (b : UInt8) : movP b 0 = -1 := by unfold movP; simp
theorem movP_4 (b : UInt8) : movP b 4 = movV b := by unfold movP movV; simp
theorem movP_hit {b c : UInt8} {j : Int} (h : (j = 0 ∧ c = 100) ∨ (j = 1 ∧ c = 117) ∨ (j = 2 ∧ c = 108) ∨ (j = 3 ∧ c = 114)) (hb : b = c) : movP b (j + 1) = j := by
  subst hb
  rcases h with ⟨rfl, rfl⟩ | ⟨rfl, rfl⟩ | ⟨rfl, rfl⟩ | ⟨rfl, rfl⟩ <;> rfl
theorem movP_miss {b c : UInt8} {j : Int} (h : (j = 0 ∧ c = 100) ∨ (j = 1 ∧ c = 117) ∨ (j = 2 ∧ c = 108) ∨ (j = 3 ∧ c = 114)) (hb : b ≠ c) : movP b (j + 1) = movP b j := by
  rcases h with ⟨rfl, rfl⟩ | ⟨rfl, rfl⟩ | ⟨rfl, rfl⟩ | ⟨rfl, rfl⟩ <;> simp [movP, hb]

set_option maxHeartbeats 800000 in
theorem ReadMoves_any (s : ByteArray) (w : World) (hs : s.size ≤ 1048576) :
    Calls Try.prog 12 #[.string s] w (RetI w (rmR s.data.toList)) := by
  obtain ⟨i0, hi, hz0, hz1, hz2⟩ := info_parts Try.infoI64
  have hln := bytes_len s
  by_cases hd : s.data.toList = [45]
  · have h1 : (s.toList == [45]) = true := by rw [dash_toList]; simp [hd]
    have HD := Lib.hid hd
    clear hd hln
    go_enter Try.func12, Try.ntmps12
    go_wp2
    go_ret2
    exact RetI.mk (by rw [HD.out]; rfl) (OwI.nil _ _) (Below.refl _ _)
  have h1 : (s.toList == [45]) = false := by rw [dash_toList]; simp [hd]
  have HD := Lib.hid hd
  clear hd
  by_cases hc : 1 ≤ s.size ∧ s.size ≤ 60
  rotate_left
  · have HF := Lib.hid (rm_len HD.out (by rw [hln]; exact hc))
    clear hln
    by_cases hz : s.size < 1
    · clear hc
      go_enter Try.func12, Try.ntmps12
      go_wp2
      go_ret2
      exact RetI.mk HF.out (OwI.nil _ _) (Below.refl _ _)
    · have hgt : 60 < s.size := by omega
      clear hc
      go_enter Try.func12, Try.ntmps12
      go_wp2
      go_ret2
      exact RetI.mk HF.out (OwI.nil _ _) (Below.refl _ _)
  · obtain ⟨hc1, hc2⟩ := hc
    clear hln
    go_enter Try.func12, Try.ntmps12
    go_wp2
    go_loopw [4, 5] (fun v i wr => ∃ k : Nat, k ≤ s.size ∧ i = .int .i64 k ∧ Below w.heap.size w wr ∧ Hid (OwI wr w.heap.size v ((s.data.toList.take k).map movV)) ∧ Hid ((s.data.toList.take k).all movOk = true)) (fun _ i _ => s.size - (intOf i).toNat)
    case atStart => exact ⟨0, Nat.zero_le _, rfl, Below.refl _ _, OwI.nil _ _, rfl⟩
    case round =>
      obtain ⟨k, hk, rfl, hbw, ho, hall⟩ := hrel
      by_cases hlt : k < s.size
      · have HT := Lib.hid (bytes_take hlt)
        have HY := Lib.hid (fun hp => bytes_all_yes (p := movOk) hlt hp hall.out)
        have HNo := Lib.hid (fun hp => bytes_all_no (p := movOk) hlt hp)
        have hsz := hbw.size
        have hlen : ((s.data.toList.take k).map movV).length ≤ 60 := by simp; omega
        generalize hR : (s.data.toList.take k).map movV = R at *
        have HR := Lib.hid hR
        clear hR
        obtain ⟨wo, rfl⟩ : ∃ wo : World, wo = wr := ⟨_, rfl⟩
        go_wp2
        go_loopw [6, 7] (fun mv m wr => ∃ j : Int, 0 ≤ j ∧ j ≤ 4 ∧ m = .int .i64 j ∧ mv = .int .i64 (movP s[k] j) ∧ Below wo.heap.size wo wr) (fun _ m _ => (4 - intOf m).toNat)
        case atStart => exact ⟨0, by omega, by omega, rfl, by rw [movP_0], Below.refl _ _⟩
        case round =>
          obtain ⟨j, j0, j4, rfl, rfl, hb2⟩ := hrel
          by_cases hj : j < 4
          · have h4 : j = 0 ∨ j = 1 ∨ j = 2 ∨ j = 3 := by omega
            rcases h4 with h | h | h | h
            · obtain rfl : j = 0 := by omega
              by_cases hb : s[k] = 100
              · have hq : ((s[k].toNat : Nat) : Int) = 100 := by rw [hb]; rfl
                have HM := Lib.hid (movP_hit (c := 100) (j := 0) (by simp) hb)
                clear hb
                go_wp2
                go_quiet (fail)
                go_wp2
                go_roundw
                case rel => exact ⟨0 + 1, by omega, by omega, by go_num, by rw [HM.out], (by repeat (first | (with_reducible refine blw_drewN ?_ _) | (with_reducible assumption) | (with_reducible exact Below.refl _ _) | (with_reducible refine Below.drew ?_) | (with_reducible refine blw_al ?_ _) | (with_reducible refine blw_stp (by with_reducible assumption) ?_) | (with_reducible refine blw_set ?_ (by dsimp only; omega) _)))⟩
                case measure => simp [intOf]
              · have hq : (((s[k].toNat : Nat) : Int) == 100) = false := u8_ne hb
                have hq2 : (((s[k].toNat : Nat) : Int) == ((((ByteArray.mk #[100, 117, 108, 114])[0]'(by decide)).toNat : Nat) : Int)) = false := hq
                have HM := Lib.hid (movP_miss (c := 100) (j := 0) (by simp) hb)
                clear hb
                go_wp2
                go_quiet (fail)
                go_wp2
                go_roundw
                case rel => exact ⟨0 + 1, by omega, by omega, by go_num, by rw [HM.out], (by repeat (first | (with_reducible refine blw_drewN ?_ _) | (with_reducible assumption) | (with_reducible exact Below.refl _ _) | (with_reducible refine Below.drew ?_) | (with_reducible refine blw_al ?_ _) | (with_reducible refine blw_stp (by with_reducible assumption) ?_) | (with_reducible refine blw_set ?_ (by dsimp only; omega) _)))⟩
                case measure => simp [intOf]
            · obtain rfl : j = 1 := by omega
              by_cases hb : s[k] = 117
              · have hq : ((s[k].toNat : Nat) : Int) = 117 := by rw [hb]; rfl
                have HM := Lib.hid (movP_hit (c := 117) (j := 1) (by simp) hb)
                clear hb
                go_wp2
                go_quiet (fail)
                go_wp2
                go_roundw
                case rel => exact ⟨1 + 1, by omega, by omega, by go_num, by rw [HM.out], (by repeat (first | (with_reducible refine blw_drewN ?_ _) | (with_reducible assumption) | (with_reducible exact Below.refl _ _) | (with_reducible refine Below.drew ?_) | (with_reducible refine blw_al ?_ _) | (with_reducible refine blw_stp (by with_reducible assumption) ?_) | (with_reducible refine blw_set ?_ (by dsimp only; omega) _)))⟩
                case measure => simp [intOf]
              · have hq : (((s[k].toNat : Nat) : Int) == 117) = false := u8_ne hb
                have hq2 : (((s[k].toNat : Nat) : Int) == ((((ByteArray.mk #[100, 117, 108, 114])[1]'(by decide)).toNat : Nat) : Int)) = false := hq
                have HM := Lib.hid (movP_miss (c := 117) (j := 1) (by simp) hb)
                clear hb
                go_wp2
                go_quiet (fail)
                go_wp2
                go_roundw
                case rel => exact ⟨1 + 1, by omega, by omega, by go_num, by rw [HM.out], (by repeat (first | (with_reducible refine blw_drewN ?_ _) | (with_reducible assumption) | (with_reducible exact Below.refl _ _) | (with_reducible refine Below.drew ?_) | (with_reducible refine blw_al ?_ _) | (with_reducible refine blw_stp (by with_reducible assumption) ?_) | (with_reducible refine blw_set ?_ (by dsimp only; omega) _)))⟩
                case measure => simp [intOf]
            · obtain rfl : j = 2 := by omega
              by_cases hb : s[k] = 108
              · have hq : ((s[k].toNat : Nat) : Int) = 108 := by rw [hb]; rfl
                have HM := Lib.hid (movP_hit (c := 108) (j := 2) (by simp) hb)
                clear hb
                go_wp2
                go_quiet (fail)
                go_wp2
                go_roundw
                case rel => exact ⟨2 + 1, by omega, by omega, by go_num, by rw [HM.out], (by repeat (first | (with_reducible refine blw_drewN ?_ _) | (with_reducible assumption) | (with_reducible exact Below.refl _ _) | (with_reducible refine Below.drew ?_) | (with_reducible refine blw_al ?_ _) | (with_reducible refine blw_stp (by with_reducible assumption) ?_) | (with_reducible refine blw_set ?_ (by dsimp only; omega) _)))⟩
                case measure => simp [intOf]
              · have hq : (((s[k].toNat : Nat) : Int) == 108) = false := u8_ne hb
                have hq2 : (((s[k].toNat : Nat) : Int) == ((((ByteArray.mk #[100, 117, 108, 114])[2]'(by decide)).toNat : Nat) : Int)) = false := hq
                have HM := Lib.hid (movP_miss (c := 108) (j := 2) (by simp) hb)
                clear hb
                go_wp2
                go_quiet (fail)
                go_wp2
                go_roundw
                case rel => exact ⟨2 + 1, by omega, by omega, by go_num, by rw [HM.out], (by repeat (first | (with_reducible refine blw_drewN ?_ _) | (with_reducible assumption) | (with_reducible exact Below.refl _ _) | (with_reducible refine Below.drew ?_) | (with_reducible refine blw_al ?_ _) | (with_reducible refine blw_stp (by with_reducible assumption) ?_) | (with_reducible refine blw_set ?_ (by dsimp only; omega) _)))⟩
                case measure => simp [intOf]
            · obtain rfl : j = 3 := by omega
              by_cases hb : s[k] = 114
              · have hq : ((s[k].toNat : Nat) : Int) = 114 := by rw [hb]; rfl
                have HM := Lib.hid (movP_hit (c := 114) (j := 3) (by simp) hb)
                clear hb
                go_wp2
                go_quiet (fail)
                go_wp2
                go_roundw
                case rel => exact ⟨3 + 1, by omega, by omega, by go_num, by rw [HM.out], (by repeat (first | (with_reducible refine blw_drewN ?_ _) | (with_reducible assumption) | (with_reducible exact Below.refl _ _) | (with_reducible refine Below.drew ?_) | (with_reducible refine blw_al ?_ _) | (with_reducible refine blw_stp (by with_reducible assumption) ?_) | (with_reducible refine blw_set ?_ (by dsimp only; omega) _)))⟩
                case measure => simp [intOf]
              · have hq : (((s[k].toNat : Nat) : Int) == 114) = false := u8_ne hb
                have hq2 : (((s[k].toNat : Nat) : Int) == ((((ByteArray.mk #[100, 117, 108, 114])[3]'(by decide)).toNat : Nat) : Int)) = false := hq
                have HM := Lib.hid (movP_miss (c := 114) (j := 3) (by simp) hb)
                clear hb
                go_wp2
                go_quiet (fail)
                go_wp2
                go_roundw
                case rel => exact ⟨3 + 1, by omega, by omega, by go_num, by rw [HM.out], (by repeat (first | (with_reducible refine blw_drewN ?_ _) | (with_reducible assumption) | (with_reducible exact Below.refl _ _) | (with_reducible refine Below.drew ?_) | (with_reducible refine blw_al ?_ _) | (with_reducible refine blw_stp (by with_reducible assumption) ?_) | (with_reducible refine blw_set ?_ (by dsimp only; omega) _)))⟩
                case measure => simp [intOf]
          · obtain rfl : j = 4 := by omega
            rw [movP_4]
            have hsz2 := hb2.size
            have ho' := Lib.hid (ho.out.below hb2)
            have hbw2 : Below w.heap.size w wr := hbw.trans (hb2.mono hsz)
            obtain ⟨hb, hv⟩ | ⟨hb, hv⟩ | ⟨hb, hv⟩ | ⟨hb, hv⟩ | ⟨n1, n2, n3, n4, hv⟩ := movV_cases s[k]
            · have HV := Lib.hid hv
              rw [hv]
              clear hb hv
              go_wp2_with (at_builtin; refine wpList_append_own _ rfl _ _ 22 rfl w.heap.size 2 i0 (.int .i64 0) 1 8 Try.underlying22 hi hz0 hz1 hz2 rfl (by decide) _ _ _ rfl (World.ownsRow.alloc ho'.out _) ⟨wr.heap.size, 0, none⟩ 1 1 [.int .i64 (0)] rfl rfl (cell_one_new _ _ _) (by intro u hu; simp at hu; subst hu; rfl) (by unfold maxLen; omega) (by omega) (by simp; omega) ?_; intro v' w1 hown' hgrow _)
              obtain ⟨ho2, hb3⟩ := OwI.app hbw2 (by omega) ho'.out hown' hgrow
              have HO2 := Lib.hid ho2
              clear hown' hgrow ho2
              go_wp2
              go_roundw
              case rel => exact ⟨k + 1, by omega, by go_num, hb3, by rw [HT.out, List.map_append, HR.out]; show OwI _ _ _ (R ++ [movV s[k]]); rw [HV.out]; exact HO2.out, HY.out (by unfold movOk; rw [HV.out]; rfl)⟩
              case measure => simp [intOf]; omega
            · have HV := Lib.hid hv
              rw [hv]
              clear hb hv
              go_wp2_with (at_builtin; refine wpList_append_own _ rfl _ _ 22 rfl w.heap.size 2 i0 (.int .i64 0) 1 8 Try.underlying22 hi hz0 hz1 hz2 rfl (by decide) _ _ _ rfl (World.ownsRow.alloc ho'.out _) ⟨wr.heap.size, 0, none⟩ 1 1 [.int .i64 (1)] rfl rfl (cell_one_new _ _ _) (by intro u hu; simp at hu; subst hu; rfl) (by unfold maxLen; omega) (by omega) (by simp; omega) ?_; intro v' w1 hown' hgrow _)
              obtain ⟨ho2, hb3⟩ := OwI.app hbw2 (by omega) ho'.out hown' hgrow
              have HO2 := Lib.hid ho2
              clear hown' hgrow ho2
              go_wp2
              go_roundw
              case rel => exact ⟨k + 1, by omega, by go_num, hb3, by rw [HT.out, List.map_append, HR.out]; show OwI _ _ _ (R ++ [movV s[k]]); rw [HV.out]; exact HO2.out, HY.out (by unfold movOk; rw [HV.out]; rfl)⟩
              case measure => simp [intOf]; omega
            · have HV := Lib.hid hv
              rw [hv]
              clear hb hv
              go_wp2_with (at_builtin; refine wpList_append_own _ rfl _ _ 22 rfl w.heap.size 2 i0 (.int .i64 0) 1 8 Try.underlying22 hi hz0 hz1 hz2 rfl (by decide) _ _ _ rfl (World.ownsRow.alloc ho'.out _) ⟨wr.heap.size, 0, none⟩ 1 1 [.int .i64 (2)] rfl rfl (cell_one_new _ _ _) (by intro u hu; simp at hu; subst hu; rfl) (by unfold maxLen; omega) (by omega) (by simp; omega) ?_; intro v' w1 hown' hgrow _)
              obtain ⟨ho2, hb3⟩ := OwI.app hbw2 (by omega) ho'.out hown' hgrow
              have HO2 := Lib.hid ho2
              clear hown' hgrow ho2
              go_wp2
              go_roundw
              case rel => exact ⟨k + 1, by omega, by go_num, hb3, by rw [HT.out, List.map_append, HR.out]; show OwI _ _ _ (R ++ [movV s[k]]); rw [HV.out]; exact HO2.out, HY.out (by unfold movOk; rw [HV.out]; rfl)⟩
              case measure => simp [intOf]; omega
            · have HV := Lib.hid hv
              rw [hv]
              clear hb hv
              go_wp2_with (at_builtin; refine wpList_append_own _ rfl _ _ 22 rfl w.heap.size 2 i0 (.int .i64 0) 1 8 Try.underlying22 hi hz0 hz1 hz2 rfl (by decide) _ _ _ rfl (World.ownsRow.alloc ho'.out _) ⟨wr.heap.size, 0, none⟩ 1 1 [.int .i64 (3)] rfl rfl (cell_one_new _ _ _) (by intro u hu; simp at hu; subst hu; rfl) (by unfold maxLen; omega) (by omega) (by simp; omega) ?_; intro v' w1 hown' hgrow _)
              obtain ⟨ho2, hb3⟩ := OwI.app hbw2 (by omega) ho'.out hown' hgrow
              have HO2 := Lib.hid ho2
              clear hown' hgrow ho2
              go_wp2
              go_roundw
              case rel => exact ⟨k + 1, by omega, by go_num, hb3, by rw [HT.out, List.map_append, HR.out]; show OwI _ _ _ (R ++ [movV s[k]]); rw [HV.out]; exact HO2.out, HY.out (by unfold movOk; rw [HV.out]; rfl)⟩
              case measure => simp [intOf]; omega
            · have HV := Lib.hid hv
              have HF := Lib.hid (rm_no HD.out (HNo.out (by unfold movOk; rw [hv]; rfl)))
              rw [hv]
              clear n1 n2 n3 n4 hv
              go_wp2
              go_ret2
              exact RetI.mk HF.out (OwI.nil _ _) hbw2
      · obtain rfl : k = s.size := by omega
        have hln := bytes_len s
        have hta : s.data.toList.take s.size = s.data.toList := by rw [← hln]; exact List.take_length
        have hA : s.data.toList.all movOk = true := by rw [← hta]; exact hall.out
        rw [hta] at ho
        have HF := Lib.hid (rm_yes HD.out hA (by rw [hln]; omega))
        clear hta hln hA
        go_wp2
        go_ret2
        exact RetI.mk HF.out ho.out hbw

end Go.Proofs.Ytalfomdpkljpcaa
