/- Contracts of decimal and l01Dec for numbers of at least 0: both write the same digits. -/
import Derived.Test.YtoaacipgphoiaaaNum
import Derived.Test.YtoaacipgphoiaaaTxt
import Derived.Handy
import Derived.Deep.RegionWith
import Derived.Laws.IdiomStrings
set_option linter.unusedSimpArgs false
set_option linter.unusedVariables false
namespace Go.Proofs.Ytoaacipgphoiaaa
open Go.RowKit

/-- The digits of n. -/
def decL (n : Nat) : List UInt8 := if n < 10 then [UInt8.ofNat (48 + n)] else decL (n / 10) ++ [UInt8.ofNat (48 + n % 10)]
termination_by n
decreasing_by omega
theorem decL_small {n : Nat} (h : n < 10) : decL n = [UInt8.ofNat (48 + n)] := by rw [decL]; simp [h]
theorem decL_big {n : Nat} (h : ¬ n < 10) : decL n = decL (n / 10) ++ [UInt8.ofNat (48 + n % 10)] := by rw [decL]; simp [h]
theorem decL_len : ∀ (b n : Nat), n ≤ b → (decL n).length ≤ n + 1 := by
  intro b
  induction b with
  | zero => intro n h; rw [decL_small (by omega)]; simp
  | succ b ih =>
    intro n h
    by_cases hs : n < 10
    · rw [decL_small hs]; simp
    · rw [decL_big hs, List.length_append]
      have := ih (n / 10) (by omega)
      simp only [List.length_cons, List.length_nil]
      omega
/-- One byte, as a text. -/
theorem conv1 (g c : Nat) (x : Int) (h0 : 0 ≤ x) (h1 : x < 256) (W : World) (hc : W.cell? ⟨g, 0, none⟩ = some (.int .u8 x)) :
    (convert 49 9 (.slice (some ⟨g, 0, none⟩) 1 c)).run Try.prog W = .ok (.string (txt [UInt8.ofNat x.toNat])) W := by
  have := run_convert_bytes_back (P := Try.prog) W 49 9 5 ⟨g, 0, none⟩ c [UInt8.ofNat x.toNat] Try.underlying49 Try.underlying5 Try.underlying9 (fun j hj => by
    obtain rfl : j = 0 := by simpa using hj
    have e : (((UInt8.ofNat x.toNat).toNat : Nat) : Int) = x := by
      rw [UInt8.toNat_ofNat']
      omega
    show W.cell? ((⟨g, 0, none⟩ : Addr).add 0) = _
    simp only [List.getElem_cons_zero, e]
    simpa [Addr.add] using hc)
  exact this
/-- One digit, as a text. -/
def digB (n : Nat) : ByteArray := txt [UInt8.ofNat (48 + n % 10)]
theorem digB_size (n : Nat) : (digB n).size ≤ 1 := by unfold digB; rw [txt_size]; simp
theorem conv1d (n g c : Nat) (W : World) (hc : W.cell? ⟨g, 0, none⟩ = some (.int .u8 (48 + (n : Int) % 10))) :
    (convert 49 9 (.slice (some ⟨g, 0, none⟩) 1 c)).run Try.prog W = .ok (.string (digB n)) W := by
  have h := conv1 g c (48 + (n : Int) % 10) (by omega) (by omega) W hc
  rw [h]
  have e : (48 + (n : Int) % 10).toNat = 48 + n % 10 := by omega
  rw [e]
  rfl
theorem dig_app (n : Nat) (T : List UInt8) : digB n ++ txt T = txt ([UInt8.ofNat (48 + n % 10)] ++ T) := txt_app _ _

set_option maxHeartbeats 1600000 in
theorem decimal_any (m : Nat) (w : World) (hm : m ≤ 20000000000000) :
    Calls Try.prog 69 #[.int .i64 (m : Int)] w fun e w' => e = .returned (.string (txt (decL m))) ∧ Below w.heap.size w w' := by
  have HL := Lib.hid (decL_len m m (Nat.le_refl _))
  go_enter Try.func69, Try.ntmps69
  go_wp2
  go_loopw [0, 3] (fun p t wr => ∃ (n : Nat) (T : List UInt8), n ≤ m ∧ p = .int .i64 (n : Int) ∧ t = .string (txt T) ∧ Below w.heap.size w wr ∧ Hid (decL m = decL n ++ T)) (fun p _ _ => (intOf p).toNat)
  case atStart => exact ⟨m, [], Nat.le_refl _, rfl, rfl, Below.refl _ _, by show _ = _; simp⟩
  case round =>
    obtain ⟨n, T, hn, rfl, rfl, hbw, hrec⟩ := hrel
    have hsz := hbw.size
    have hTs : (txt T).size ≤ 20000000000001 := by
      rw [txt_size]
      have h1 := HL.out
      rw [hrec.out, List.length_append] at h1
      omega
    have HTA := Lib.hid (dig_app n T)
    have hds := digB_size n
    have hcv := fun (g c : Nat) (W : World) hc => conv1d n g c W hc
    by_cases hlt : n < 10
    · have HF : Hid (digB n ++ txt T = txt (decL m)) := by
        show _ = _
        have hmod : n % 10 = n := by omega
        rw [HTA.out, hrec.out, decL_small hlt, hmod]
      have hdiv : (n : Int) / 10 = 0 := by omega
      generalize txt T = TT at *
      generalize digB n = D at *
      go_wp2
      go_ret
      exact ⟨ret_str HF.out, (by repeat (first | (with_reducible assumption) | (with_reducible exact Below.refl _ _) | (with_reducible refine Below.drew ?_) | (with_reducible refine blw_al ?_ _) | (with_reducible refine blw_stp (by with_reducible assumption) ?_) | (with_reducible refine blw_set ?_ (by dsimp only; omega) _)))⟩
    · have HF : Hid (digB n ++ txt T = txt ([UInt8.ofNat (48 + n % 10)] ++ T)) := HTA
      have HE : Hid (decL m = decL (n / 10) ++ ([UInt8.ofNat (48 + n % 10)] ++ T)) := by
        show _ = _
        rw [hrec.out, decL_big hlt, List.append_assoc]
      have hdiv : ((n : Int) / 10 == 0) = false := by rw [beq_eq_false_iff_ne]; omega
      generalize hTT : txt T = TT at *
      generalize digB n = D at *
      clear hTT
      go_wp2
      go_roundw
      case rel => exact ⟨n / 10, [UInt8.ofNat (48 + n % 10)] ++ T, by omega, by go_num, by rw [HF.out], (by repeat (first | (with_reducible assumption) | (with_reducible exact Below.refl _ _) | (with_reducible refine Below.drew ?_) | (with_reducible refine blw_al ?_ _) | (with_reducible refine blw_stp (by with_reducible assumption) ?_) | (with_reducible refine blw_set ?_ (by dsimp only; omega) _))), HE⟩
      case measure => simp [intOf]; omega

theorem decimal_i (x : Int) (w : World) (h0 : 0 ≤ x) (h1 : x ≤ 20000000000000) :
    Calls Try.prog 69 #[.int .i64 x] w fun e w' => e = .returned (.string (txt (decL x.toNat))) ∧ Below w.heap.size w w' := by
  obtain ⟨n, rfl⟩ := Int.eq_ofNat_of_zero_le h0
  exact decimal_any n w (by omega)
theorem conv1e (x : Int) (h0 : 0 ≤ x) (h1 : x < 10) (g c : Nat) (W : World) (hc : W.cell? ⟨g, 0, none⟩ = some (.int .u8 (48 + x))) :
    (convert 49 9 (.slice (some ⟨g, 0, none⟩) 1 c)).run Try.prog W = .ok (.string (digB x.toNat)) W := by
  obtain ⟨n, rfl⟩ := Int.eq_ofNat_of_zero_le h0
  have e : (n : Int) % 10 = n := by omega
  exact conv1d n g c W (by rw [e]; exact hc)
theorem conv1f (x : Int) (h0 : 0 ≤ x) (g c : Nat) (W : World) (hc : W.cell? ⟨g, 0, none⟩ = some (.int .u8 (48 + x % 10))) :
    (convert 49 9 (.slice (some ⟨g, 0, none⟩) 1 c)).run Try.prog W = .ok (.string (digB x.toNat)) W := by
  obtain ⟨n, rfl⟩ := Int.eq_ofNat_of_zero_le h0
  exact conv1d n g c W hc
theorem digB_small {x : Int} (h0 : 0 ≤ x) (h : x < 10) : digB x.toNat = txt (decL x.toNat) := by
  unfold digB
  have e : x.toNat % 10 = x.toNat := by omega
  rw [decL_small (by omega), e]
theorem digB_big {x : Int} (h0 : 0 ≤ x) (h : ¬ x < 10) : txt (decL (x / 10).toNat) ++ digB x.toNat = txt (decL x.toNat) := by
  unfold digB
  rw [txt_app, decL_big (n := x.toNat) (by omega)]
  have e : (x / 10).toNat = x.toNat / 10 := by omega
  rw [e]
theorem decL_size {x : Int} (h0 : 0 ≤ x) (h1 : x ≤ 20000000000000) : (txt (decL x.toNat)).size ≤ 20000000000001 := by
  rw [txt_size]
  have := decL_len x.toNat x.toNat (Nat.le_refl _)
  omega

set_option maxHeartbeats 1600000 in
theorem l01Dec_b (b : Nat) : ∀ (x : Int) (w : World), 0 ≤ x → x ≤ b → b ≤ 20000000000000 →
    Calls Try.prog 67 #[.int .i64 x] w fun e w' => e = .returned (.string (txt (decL x.toNat))) ∧ Below w.heap.size w w' := by
  induction b with
  | zero =>
    intro x w h0 h1 _
    have hlt : x < 10 := by omega
    have HF := Lib.hid (digB_small h0 hlt)
    have hcv := fun (g c : Nat) (W : World) hc => conv1e x h0 hlt g c W hc
    generalize digB x.toNat = D at *
    go_enter Try.func67, Try.ntmps67
    go_wp2
    go_ret
    exact ⟨ret_str HF.out, (by repeat (first | (with_reducible assumption) | (with_reducible exact Below.refl _ _) | (with_reducible refine Below.drew ?_) | (with_reducible refine blw_al ?_ _) | (with_reducible refine blw_stp (by with_reducible assumption) ?_) | (with_reducible refine blw_set ?_ (by dsimp only; omega) _)))⟩
  | succ b ih =>
    intro x w h0 h1 h2
    by_cases hlt : x < 10
    · have HF := Lib.hid (digB_small h0 hlt)
      have hcv := fun (g c : Nat) (W : World) hc => conv1e x h0 hlt g c W hc
      generalize digB x.toNat = D at *
      clear ih
      go_enter Try.func67, Try.ntmps67
      go_wp2
      go_ret
      exact ⟨ret_str HF.out, (by repeat (first | (with_reducible assumption) | (with_reducible exact Below.refl _ _) | (with_reducible refine Below.drew ?_) | (with_reducible refine blw_al ?_ _) | (with_reducible refine blw_stp (by with_reducible assumption) ?_) | (with_reducible refine blw_set ?_ (by dsimp only; omega) _)))⟩
    · have HF := Lib.hid (digB_big h0 hlt)
      have hcv := fun (g c : Nat) (W : World) hc => conv1f x h0 g c W hc
      have hds := digB_size x.toNat
      have hs1 := decL_size (x := x / 10) (by omega) (by omega)
      have hT := Lib.hid (fun (ww : World) => ih (x / 10) ww (by omega) (by omega) (by omega))
      generalize txt (decL (x / 10).toNat) = TT at *
      generalize digB x.toNat = D at *
      clear ih
      have k1 : x.tdiv 10 = x / 10 := Int.tdiv_eq_ediv_of_nonneg h0
      have k2 : IntKind.i64.wrap (x / 10) = x / 10 := IntWalk.i64_in _ (by omega)
      have k3 : x.tmod 10 = x % 10 := Int.tmod_eq_emod_of_nonneg h0
      have k4 : IntKind.i64.wrap (48 + x % 10) = 48 + x % 10 := IntWalk.i64_in _ (by omega)
      have k5 : IntKind.u8.wrap (48 + x % 10) = 48 + x % 10 := IntWalk.u8_in _ (by omega)
      have k6 : IntKind.i64.wrap (x % 10) = x % 10 := IntWalk.i64_in _ (by omega)
      go_enter Try.func67, Try.ntmps67
      go_wp2_with fail
      go_region_with ((go_at_call 67; (with_reducible refine (hT.out _).mono ?_); rintro e w' ⟨rfl, hb⟩; obtain ⟨hc, hf⟩ := bcell hb))
      all_goals
        clear hT
        go_wp2
      all_goals
        go_ret
        exact ⟨ret_str HF.out, (by repeat (first | (with_reducible assumption) | (with_reducible exact Below.refl _ _) | (with_reducible refine Below.drew ?_) | (with_reducible refine blw_al ?_ _) | (with_reducible refine blw_stp (by with_reducible assumption) ?_) | (with_reducible refine blw_set ?_ (by dsimp only; omega) _)))⟩
theorem l01Dec_i (x : Int) (w : World) (h0 : 0 ≤ x) (h1 : x ≤ 20000000000000) :
    Calls Try.prog 67 #[.int .i64 x] w fun e w' => e = .returned (.string (txt (decL x.toNat))) ∧ Below w.heap.size w w' :=
  l01Dec_b 20000000000000 x w h0 (by omega) (Nat.le_refl _)

end Go.Proofs.Ytoaacipgphoiaaa
