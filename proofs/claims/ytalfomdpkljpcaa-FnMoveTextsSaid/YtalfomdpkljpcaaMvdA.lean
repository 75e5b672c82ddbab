/- Contract of the draw of moves. -/
import Derived.Test.YtalfomdpkljpcaaDrwS
import Derived.Test.YtalfomdpkljpcaaIntsC
import Derived.OwnWalk
set_option linter.unusedSimpArgs false
set_option linter.unusedVariables false
namespace Go.Proofs.Ytalfomdpkljpcaa
open Go.RowKit

theorem made_zero (n : Nat) : (madeCells (Value.int .i64 0).cells (n * 1)).toList = (List.replicate n (0 : Int)).map (Value.int .i64) := by
  apply List.ext_getElem
  · simp [madeCells]
  · intro i h1 h2
    simp [madeCells, Value.cells, Nat.mod_one]
set_option maxRecDepth 100000 in
set_option maxHeartbeats 1600000 in
theorem Moves11_any (g : Nat) (a : Option Addr) (n c : Nat) (w : World) (h : Src w g a n c) :
    Calls Try.prog 33 #[.pointer (some ⟨g, 0, none⟩)] w fun e w' => ∃ (v : Value) (rs : List Int), e = .returned v ∧ OwI w' w.heap.size v rs ∧ rs.length ≤ 61 ∧ Src w' g a n c ∧ w.grownBy w' (some g) := by
  have S0 := Lib.hid h
  have D0 := World.grownBy.refl w (some g)
  have hgb := h.lt
  clear h
  obtain ⟨i0, hi, hz0, hz1, hz2⟩ := info_parts Try.infoI64
  go_enter Try.func33, Try.ntmps33
  go_wp2_with fail
  generalize hw : w.alloc (.cells #[] 2) = w1
  have S1 : Hid (Src w1 g a n c) := by show Src _ _ _ _ _; rw [← hw]; exact S0.out.alloc _
  have D1 : w.grownBy w1 (some g) := by rw [← hw]; exact drw_alloc D0 _
  have O1 : Hid (OwI w1 w.heap.size (.slice (some ⟨w.heap.size, 0, none⟩) 0 0) []) := by show OwI _ _ _ _; rw [← hw]; exact OwI.lit0 w
  clear hw S0 D0
  go_wp2_with fail
  (with_reducible refine (Next_any g a n c _ _ S1.out).mono ?_)
  rintro e w2 ⟨x2, rfl, ⟨lo2, -, up2⟩, hs2, hg2⟩
  have S2 := Lib.hid hs2
  have D2 := D1.trans hg2
  have O2 : Hid (OwI w2 w.heap.size (.slice (some ⟨w.heap.size, 0, none⟩) 0 0) ([] : List Int)) := O1.out.farLt hg2 (fun q hq => by injection hq with hq; omega)
  clear hg2 hs2 S1 O1
  replace up2 := up2 (by omega)
  obtain ⟨k0, hk0⟩ : ∃ k : Nat, x2 = (k : Int) := ⟨x2.toNat, by omega⟩
  subst hk0
  go_wp2
  go_loopw [3, 4] (fun ov kk wr => ∃ (k : Nat) (ao : Option Addr) (co : Nat) (rs : List Int), kk = .int .i64 k ∧ rs.length + k ≤ 8 ∧ ov = .slice ao rs.length co ∧ w.grownBy wr (some g) ∧ Hid (Src wr g a n c ∧ OwI wr w.heap.size (.slice ao rs.length co) rs)) (fun _ kk _ => (intOf kk).toNat)
  case atStart => exact ⟨k0, _, _, [], rfl, by simp; omega, rfl, D2, ⟨S2.out, O2.out⟩⟩
  case round =>
    clear S2 O2 D2 lo2 up2
    obtain ⟨k, ao, co, rs, rfl, hk, rfl, D0, hso⟩ := hrel
    have S0 := Lib.hid hso.out.1
    have O0 := Lib.hid hso.out.2
    clear hso
    by_cases hpos : 0 < k
    · have hd : decide ((0 : Int) < (k : Int)) = true := by simp; omega
      go_wp2_with fail
      (with_reducible refine (Next_any g a n c _ _ S0.out).mono ?_)
      rintro e w1 ⟨x1, rfl, ⟨lo1, -, up1⟩, hs1, hg1⟩
      have S1 := Lib.hid hs1
      have D1 := D0.trans hg1
      have O1 : Hid (OwI w1 w.heap.size (.slice ao rs.length co) rs) := O0.out.farLt hg1 (fun q hq => by injection hq with hq; omega)
      clear hg1 hs1 S0 O0
      replace up1 := up1 (by omega)
      go_wp2_with (at_builtin; refine wpList_appI _ rfl _ _ rfl w.heap.size _ _ (rs) [x1] rfl rfl ((O1.out.alloc _)) (RdI.one _ _) (by (try simp); omega) (by have := D1.size; (try simp); omega) ?_; intro v2 w2 ho2 hg2)
      have S2 := Lib.hid ((S1.out.alloc _).far hg2 (fun q hq => by have := (World.ownsRow.lt O1.out q hq).1; omega))
      have D2 := drw_far (drw_alloc D1 _) hg2 (fun q hq => (World.ownsRow.lt O1.out q hq).1)
      obtain ⟨ao2, co2, e2, -⟩ := ho2.rd.shape
      have ll2 : (rs ++ [x1]).length = (rs).length + 1 := by simp
      rw [ll2] at e2
      subst e2
      have O2 := Lib.hid ho2
      clear ho2 hg2 O1 S1
      go_wp2
      go_roundw
      case rel => exact ⟨k - 1, _, _, rs ++ [x1], by rw [show ((k - 1 : Nat) : Int) = (k : Int) - 1 by omega], by simp; omega, by rw [ll2], D2, ⟨S2.out, by rw [ll2]; exact O2.out⟩⟩
      case measure => simp [intOf] <;> omega
    · have hd : decide ((0 : Int) < (k : Int)) = false := by simp; omega
      go_wp2_with fail
      (with_reducible refine (Next_any g a n c _ _ S0.out).mono ?_)
      rintro e w1 ⟨x1, rfl, ⟨lo1, -, up1⟩, hs1, hg1⟩
      have S1 := Lib.hid hs1
      have D1 := D0.trans hg1
      have O1 : Hid (OwI w1 w.heap.size (.slice ao rs.length co) rs) := O0.out.farLt hg1 (fun q hq => by injection hq with hq; omega)
      clear hg1 hs1 S0 O0
      replace up1 := up1 (by omega)
      by_cases e0 : x1 = 0
      · subst e0
        have hpl1 := S1.out.lt
        go_wp2_with fail
        (with_reducible refine (Pick_any g a n c _ 2 _ _ (S1.out.alloc _) (heap_alloc_new _ _) rfl (by omega) (by omega) (by simp) (by omega)).mono ?_)
        rintro e w2 ⟨x2, rfl, hs2, hg2⟩
        have S2 := Lib.hid hs2
        have D2 := (drw_alloc D1 _).trans hg2
        have O2 : Hid (OwI w2 w.heap.size (.slice ao rs.length co) rs) := (O1.out.alloc _).farLt hg2 (fun q hq => by injection hq with hq; omega)
        clear hg2 hs2 S1 O1
        go_wp2_with (at_builtin; refine wpList_appI _ rfl _ _ rfl w.heap.size _ _ (rs) [x2] rfl rfl ((O2.out.alloc _)) (RdI.one _ _) (by (try simp); omega) (by have := D2.size; (try simp); omega) ?_; intro v3 w3 ho3 hg3)
        have S3 := Lib.hid ((S2.out.alloc _).far hg3 (fun q hq => by have := (World.ownsRow.lt O2.out q hq).1; omega))
        have D3 := drw_far (drw_alloc D2 _) hg3 (fun q hq => (World.ownsRow.lt O2.out q hq).1)
        obtain ⟨ao3, co3, e3, -⟩ := ho3.rd.shape
        have ll3 : (rs ++ [x2]).length = (rs).length + 1 := by simp
        rw [ll3] at e3
        subst e3
        have O3 := Lib.hid ho3
        clear ho3 hg3 O2 S2
        go_wp2
        go_ret
        exact ⟨_, _, rfl, O3.out, by simp; omega, S3.out, D3⟩
      · by_cases e1 : x1 = 1
        · have n0 : (x1 == 0) = false := by rw [beq_eq_false_iff_ne]; exact e0
          subst e1
          go_wp2_with fail
          (with_reducible refine (Next_any g a n c _ _ S1.out).mono ?_)
          rintro e w2 ⟨x2, rfl, ⟨lo2, -, up2⟩, hs2, hg2⟩
          have S2 := Lib.hid hs2
          have D2 := D1.trans hg2
          have O2 : Hid (OwI w2 w.heap.size (.slice ao rs.length co) rs) := O1.out.farLt hg2 (fun q hq => by injection hq with hq; omega)
          clear hg2 hs2 S1 O1
          replace up2 := up2 (by omega)
          have hx : x2 = 0 ∨ x2 = 1 := by omega
          rcases hx with ex | ex
          · subst ex
            have hDs := D2.size
            go_wp2_with (refine wpList_make_full _ rfl _ _ 22 rfl w.heap.size 2 i0 (.int .i64 0) 1 Try.underlying22 hi hz0 hz1 .i64 .i64 _ _ 60 rfl rfl rfl rfl (by rw [hz2]; omega) (by unfold maxLen; omega) hDs ?_; intro w3 hown hgrow)
            have S3 := Lib.hid (S2.out.far hgrow (fun q hq => by cases hq))
            have D3 := drw_far D2 hgrow (fun q hq => by cases hq)
            rw [made_zero] at hown
            have HO : OwI w3 w.heap.size (.slice (some ⟨w2.heap.size, 0, none⟩) 60 60) (List.replicate 60 0) := hown
            clear hown
            go_wp2
            go_ret
            exact ⟨.slice (some ⟨w2.heap.size, 0, none⟩) 60 60, List.replicate 60 0, rfl, HO, by simp, S3.out, D3⟩
          · subst ex
            have hDs := D2.size
            go_wp2_with (refine wpList_make_full _ rfl _ _ 22 rfl w.heap.size 2 i0 (.int .i64 0) 1 Try.underlying22 hi hz0 hz1 .i64 .i64 _ _ 61 rfl rfl rfl rfl (by rw [hz2]; omega) (by unfold maxLen; omega) hDs ?_; intro w3 hown hgrow)
            have S3 := Lib.hid (S2.out.far hgrow (fun q hq => by cases hq))
            have D3 := drw_far D2 hgrow (fun q hq => by cases hq)
            rw [made_zero] at hown
            have HO : OwI w3 w.heap.size (.slice (some ⟨w2.heap.size, 0, none⟩) 61 61) (List.replicate 61 0) := hown
            clear hown
            go_wp2
            go_ret
            exact ⟨.slice (some ⟨w2.heap.size, 0, none⟩) 61 61, List.replicate 61 0, rfl, HO, by simp, S3.out, D3⟩
        · have n0 : (x1 == 0) = false := by rw [beq_eq_false_iff_ne]; exact e0
          have n1 : (x1 == 1) = false := by rw [beq_eq_false_iff_ne]; exact e1
          go_wp2
          go_ret
          exact ⟨_, rs, rfl, O1.out, by omega, S1.out, D1⟩
end Go.Proofs.Ytalfomdpkljpcaa
