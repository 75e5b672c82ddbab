/- Contracts of the draws of rides. -/
import Derived.Test.YthfpikpknojffaaDrwS
import Derived.Test.YthfpikpknojffaaRidC
import Derived.OwnWalk
set_option linter.unusedSimpArgs false
set_option linter.unusedVariables false
namespace Go.Proofs.Ythfpikpknojffaa
open Go.RowKit

set_option maxRecDepth 100000 in
set_option maxHeartbeats 1600000 in
theorem Good12_any (g : Nat) (a : Option Addr) (n c : Nat) (w : World) (h : Src w g a n c) :
    Calls Try.prog 66 #[.pointer (some ⟨g, 0, none⟩)] w fun e w' => ∃ (v : Value) (rs : List (Int × Int × Bool)), e = .returned v ∧ OwRid w' w.heap.size v rs ∧ rs.length ≤ 9 ∧ Src w' g a n c ∧ w.grownBy w' (some g) := by
  have S0 := Lib.hid h
  have D0 := World.grownBy.refl w (some g)
  have hgb := h.lt
  clear h
  go_enter Try.func66, Try.ntmps66
  go_wp2_with fail
  generalize hw : w.alloc (.cells #[] 35) = w1
  have S1 : Hid (Src w1 g a n c) := by show Src _ _ _ _ _; rw [← hw]; exact S0.out.alloc _
  have D1 : w.grownBy w1 (some g) := by rw [← hw]; exact drw_alloc D0 _
  have O1 : Hid (OwRid w1 w.heap.size (.slice (some ⟨w.heap.size, 0, none⟩) 0 0) []) := by show OwRid _ _ _ _; rw [← hw]; exact OwRid.lit0 w rfl (Nat.le_refl _)
  clear hw S0 D0
  go_wp2_with fail
  (with_reducible refine (Next_any g a n c _ _ S1.out).mono ?_)
  rintro e w2 ⟨x2, rfl, ⟨lo2, -, up2⟩, hs2, hg2⟩
  have S2 := Lib.hid hs2
  have D2 := D1.trans hg2
  have O2 : Hid (OwRid w2 w.heap.size (.slice (some ⟨w.heap.size, 0, none⟩) 0 0) ([] : List (Int × Int × Bool))) := O1.out.farLt hg2 (fun q hq => by injection hq with hq; omega)
  clear hg2 hs2 S1 O1
  replace up2 := up2 (by omega)
  go_wp2_with fail
  (with_reducible refine (Next_any g a n c _ _ S2.out).mono ?_)
  rintro e w3 ⟨x3, rfl, ⟨lo3, -, up3⟩, hs3, hg3⟩
  have S3 := Lib.hid hs3
  have D3 := D2.trans hg3
  have O3 : Hid (OwRid w3 w.heap.size (.slice (some ⟨w.heap.size, 0, none⟩) 0 0) ([] : List (Int × Int × Bool))) := O2.out.farLt hg3 (fun q hq => by injection hq with hq; omega)
  clear hg3 hs3 S2 O2
  replace up3 := up3 (by omega)
  obtain ⟨k0, hk0⟩ : ∃ k : Nat, x3 = (k : Int) := ⟨x3.toNat, by omega⟩
  subst hk0
  go_wp2
  go_loopw [3, 4, 5] (fun ov dv kk wr => ∃ (k : Nat) (day : Int) (ao : Option Addr) (co : Nat) (rs : List (Int × Int × Bool)), kk = .int .i64 k ∧ dv = .int .i64 day ∧ 0 ≤ day ∧ day + 5 * (k : Int) ≤ 200 ∧ rs.length + k ≤ 9 ∧ ov = .slice ao rs.length co ∧ w.grownBy wr (some g) ∧ Hid (Src wr g a n c ∧ OwRid wr w.heap.size (.slice ao rs.length co) rs)) (fun _ _ kk _ => (intOf kk).toNat)
  case atStart => exact ⟨k0, x2, _, _, [], rfl, rfl, lo2, by omega, by simp; omega, rfl, D3, ⟨S3.out, O3.out⟩⟩
  case round =>
    clear S3 O3 D3 lo2 up2 lo3 up3
    obtain ⟨k, day, ao, co, rs, rfl, rfl, hd0, hd1, hk, rfl, D0, hso⟩ := hrel
    have S0 := Lib.hid hso.out.1
    have O0 := Lib.hid hso.out.2
    clear hso
    by_cases hpos : 0 < k
    · have hd : decide ((0 : Int) < (k : Int)) = true := by simp; omega
      go_wp2_with fail
      (with_reducible refine (Next_any g a n c _ _ S0.out).mono ?_)
      rintro e w1 ⟨x1, rfl, ⟨lo1, -, up1⟩, hs1, hg1⟩
      have S1 := Lib.hid hs1
      have D1 := D0.trans hg1
      have O1 : Hid (OwRid w1 w.heap.size (.slice ao rs.length co) rs) := O0.out.farLt hg1 (fun q hq => by injection hq with hq; omega)
      clear hg1 hs1 S0 O0
      replace up1 := up1 (by omega)
      go_wp2_with fail
      (with_reducible refine (Next_any g a n c _ _ S1.out).mono ?_)
      rintro e w2 ⟨x2, rfl, ⟨lo2, -, up2⟩, hs2, hg2⟩
      have S2 := Lib.hid hs2
      have D2 := D1.trans hg2
      have O2 : Hid (OwRid w2 w.heap.size (.slice ao rs.length co) rs) := O1.out.farLt hg2 (fun q hq => by injection hq with hq; omega)
      clear hg2 hs2 S1 O1
      replace up2 := up2 (by omega)
      have hpl2 := S2.out.lt
      go_wp2_with fail
      (with_reducible refine (Pick_any g a n c _ 2 _ _ (S2.out.alloc _) (heap_alloc_new _ _) rfl (by omega) (by omega) (by simp) (by omega)).mono ?_)
      rintro e w3 ⟨x3, rfl, hs3, hg3⟩
      have S3 := Lib.hid hs3
      have D3 := (drw_alloc D2 _).trans hg3
      have O3 : Hid (OwRid w3 w.heap.size (.slice ao rs.length co) rs) := (O2.out.alloc _).farLt hg3 (fun q hq => by injection hq with hq; omega)
      clear hg3 hs3 S2 O2
      go_wp2_with fail
      (with_reducible refine (Next_any g a n c _ _ S3.out).mono ?_)
      rintro e w4 ⟨x4, rfl, ⟨lo4, -, up4⟩, hs4, hg4⟩
      have S4 := Lib.hid hs4
      have D4 := D3.trans hg4
      have O4 : Hid (OwRid w4 w.heap.size (.slice ao rs.length co) rs) := O3.out.farLt hg4 (fun q hq => by injection hq with hq; omega)
      clear hg4 hs4 S3 O3
      replace up4 := up4 (by omega)
      obtain ⟨ty, hty⟩ : ∃ ty, ty = wrap64 (1 + x3) := ⟨_, rfl⟩
      have hty2 := hty.symm
      obtain ⟨bq, hbq⟩ : ∃ bq, bq = (x4 == 0) := ⟨_, rfl⟩
      have hbq2 := hbq.symm
      clear hty hbq
      go_wp2_with (at_builtin; refine wpList_appRid _ rfl _ _ rfl w.heap.size _ _ (rs) [(day, ty, bq)] rfl rfl ((O4.out.alloc _)) (RdRid.one _ (day, ty, bq) rfl) (by (try simp); omega) (by have := D4.size; (try simp); omega) ?_; intro v5 w5 ho5 hg5)
      have S5 := Lib.hid ((S4.out.alloc _).far hg5 (fun q hq => by have := (World.ownsRow.lt O4.out q hq).1; omega))
      have D5 := drw_far (drw_alloc D4 _) hg5 (fun q hq => (World.ownsRow.lt O4.out q hq).1)
      obtain ⟨ao5, co5, e5, -⟩ := ho5.rd.shape
      have ll5 : (rs ++ [(day, ty, bq)]).length = (rs).length + 1 := by simp
      rw [ll5] at e5
      subst e5
      have O5 := Lib.hid ho5
      clear ho5 hg5 O4 S4
      go_wp2_with fail
      (with_reducible refine (Next_any g a n c _ _ S5.out).mono ?_)
      rintro e w6 ⟨x6, rfl, ⟨lo6, -, up6⟩, hs6, hg6⟩
      have S6 := Lib.hid hs6
      have D6 := D5.trans hg6
      have O6 : Hid (OwRid w6 w.heap.size (.slice ao5 ((rs).length + 1) co5) (rs ++ [(day, ty, bq)])) := O5.out.farLt hg6 (fun q hq => by injection hq with hq; omega)
      clear hg6 hs6 S5 O5
      replace up6 := up6 (by omega)
      have hdw : IntKind.i64.wrap (day + x6) = day + x6 := IntWalk.i64_in _ (by omega)
      go_wp2
      go_roundw
      case rel => exact ⟨k - 1, day + x6, _, _, rs ++ [(day, ty, bq)], by rw [show ((k - 1 : Nat) : Int) = (k : Int) - 1 by omega], rfl, by omega, by omega, by simp; omega, by rw [ll5], D6, ⟨S6.out, by rw [ll5]; exact O6.out⟩⟩
      case measure => simp [intOf] <;> omega
    · have hd : decide ((0 : Int) < (k : Int)) = false := by simp; omega
      go_wp2
      go_ret
      exact ⟨_, rs, rfl, O0.out, by omega, S0.out, D0⟩
set_option maxRecDepth 100000 in
set_option maxHeartbeats 1600000 in
theorem Draw12_any (g : Nat) (a : Option Addr) (n c : Nat) (w : World) (h : Src w g a n c) :
    Calls Try.prog 60 #[.pointer (some ⟨g, 0, none⟩)] w fun e w' => ∃ (v : Value) (rs : List (Int × Int × Bool)), e = .returned v ∧ OwRid w' w.heap.size v rs ∧ rs.length ≤ 61 ∧ Src w' g a n c ∧ w.grownBy w' (some g) := by
  have S0 := Lib.hid h
  have D0 := World.grownBy.refl w (some g)
  have hgb := h.lt
  clear h
  go_enter Try.func60, Try.ntmps60
  go_wp2_with fail
  (with_reducible refine (Good12_any g a n c _ S0.out).mono ?_)
  rintro e w1 ⟨v, rs, rfl, ho, hl9, hs1, hg1⟩
  have S1 := Lib.hid hs1
  have D1 := D0.trans hg1
  clear hg1 hs1 S0
  obtain ⟨ao, co, ev, -⟩ := ho.rd.shape
  subst ev
  have O1 : Hid (OwRid w1 w.heap.size (.slice ao rs.length co) rs) := ho
  clear ho
  go_wp2_with fail
  (with_reducible refine (Next_any g a n c _ _ S1.out).mono ?_)
  rintro e w2 ⟨x2, rfl, ⟨lo2, -, up2⟩, hs2, hg2⟩
  have S2 := Lib.hid hs2
  have D2 := D1.trans hg2
  have O2 : Hid (OwRid w2 w.heap.size (.slice ao rs.length co) rs) := O1.out.farLt hg2 (fun q hq => by injection hq with hq; omega)
  clear hg2 hs2 S1 O1
  replace up2 := up2 (by omega)
  by_cases e0 : x2 = 0
  · subst e0
    have hpl2 := S2.out.lt
    go_wp2_with fail
    (with_reducible refine (Pick_any g a n c _ 4 _ _ (S2.out.alloc _) (heap_alloc_new _ _) rfl (by omega) (by omega) (by simp) (by omega)).mono ?_)
    rintro e w3 ⟨x3, rfl, hs3, hg3⟩
    have S3 := Lib.hid hs3
    have D3 := (drw_alloc D2 _).trans hg3
    have O3 : Hid (OwRid w3 w.heap.size (.slice ao rs.length co) rs) := (O2.out.alloc _).farLt hg3 (fun q hq => by injection hq with hq; omega)
    clear hg3 hs3 S2 O2
    have hpl3 := S3.out.lt
    go_wp2_with fail
    (with_reducible refine (Pick_any g a n c _ 4 _ _ (S3.out.alloc _) (heap_alloc_new _ _) rfl (by omega) (by omega) (by simp) (by omega)).mono ?_)
    rintro e w4 ⟨x4, rfl, hs4, hg4⟩
    have S4 := Lib.hid hs4
    have D4 := (drw_alloc D3 _).trans hg4
    have O4 : Hid (OwRid w4 w.heap.size (.slice ao rs.length co) rs) := (O3.out.alloc _).farLt hg4 (fun q hq => by injection hq with hq; omega)
    clear hg4 hs4 S3 O3
    go_wp2_with (at_builtin; refine wpList_appRid _ rfl _ _ rfl w.heap.size _ _ (rs) [(x3, x4, false)] rfl rfl ((O4.out.alloc _)) (RdRid.one _ (x3, x4, false) rfl) (by (try simp); omega) (by have := D4.size; (try simp); omega) ?_; intro v5 w5 ho5 hg5)
    have S5 := Lib.hid ((S4.out.alloc _).far hg5 (fun q hq => by have := (World.ownsRow.lt O4.out q hq).1; omega))
    have D5 := drw_far (drw_alloc D4 _) hg5 (fun q hq => (World.ownsRow.lt O4.out q hq).1)
    obtain ⟨ao5, co5, e5, -⟩ := ho5.rd.shape
    have ll5 : (rs ++ [(x3, x4, false)]).length = (rs).length + 1 := by simp
    rw [ll5] at e5
    subst e5
    have O5 := Lib.hid ho5
    clear ho5 hg5 O4 S4
    go_wp2
    go_ret
    exact ⟨_, _, rfl, O5.out, by simp; omega, S5.out, D5⟩
  · by_cases e1 : x2 = 1
    · have n0 : (x2 == 0) = false := by rw [beq_eq_false_iff_ne]; exact e0
      subst e1
      go_wp2
      go_loopw [3] (fun ov wr => ∃ (ao : Option Addr) (co : Nat) (rs : List (Int × Int × Bool)), rs.length ≤ 61 ∧ ov = .slice ao rs.length co ∧ w.grownBy wr (some g) ∧ Hid (Src wr g a n c ∧ OwRid wr w.heap.size (.slice ao rs.length co) rs)) (fun ov _ => 62 - lenV ov)
      case atStart => exact ⟨ao, co, rs, by omega, rfl, D2, ⟨S2.out, O2.out⟩⟩
      case round =>
        clear S2 O2 D2 hl9
        obtain ⟨ao, co, rs, hk, rfl, D0, hso⟩ := hrel
        have S0 := Lib.hid hso.out.1
        have O0 := Lib.hid hso.out.2
        clear hso
        go_wp2_with fail
        (with_reducible refine (Next_any g a n c _ _ S0.out).mono ?_)
        rintro e w1 ⟨x1, rfl, ⟨lo1, -, up1⟩, hs1, hg1⟩
        have S1 := Lib.hid hs1
        have D1 := D0.trans hg1
        have O1 : Hid (OwRid w1 w.heap.size (.slice ao rs.length co) rs) := O0.out.farLt hg1 (fun q hq => by injection hq with hq; omega)
        clear hg1 hs1 S0 O0
        replace up1 := up1 (by omega)
        have hxw : IntKind.i64.wrap (40 + x1) = 40 + x1 := IntWalk.i64_in _ (by omega)
        by_cases hmore : (rs.length : Int) < 40 + x1
        · have hd : decide ((rs.length : Int) < 40 + x1) = true := by simpa using hmore
          go_wp2_with (at_builtin; refine wpList_appRid _ rfl _ _ rfl w.heap.size _ _ (rs) [(900, 10, false)] rfl rfl ((O1.out.alloc _)) (RdRid.one _ (900, 10, false) rfl) (by (try simp); omega) (by have := D1.size; (try simp); omega) ?_; intro v2 w2 ho2 hg2)
          have S2 := Lib.hid ((S1.out.alloc _).far hg2 (fun q hq => by have := (World.ownsRow.lt O1.out q hq).1; omega))
          have D2 := drw_far (drw_alloc D1 _) hg2 (fun q hq => (World.ownsRow.lt O1.out q hq).1)
          obtain ⟨ao2, co2, e2, -⟩ := ho2.rd.shape
          have ll2 : (rs ++ [(900, 10, false)]).length = (rs).length + 1 := by simp
          rw [ll2] at e2
          subst e2
          have O2 := Lib.hid ho2
          clear ho2 hg2 O1 S1
          go_wp2
          go_roundw
          case rel => exact ⟨_, _, rs ++ [(900, 10, false)], by simp; omega, by rw [ll2], D2, ⟨S2.out, by rw [ll2]; exact O2.out⟩⟩
          case measure => simp [lenV] <;> omega
        · have hd : decide ((rs.length : Int) < 40 + x1) = false := by simpa using hmore
          go_wp2
          go_ret
          exact ⟨_, rs, rfl, O1.out, by omega, S1.out, D1⟩
    · have n0 : (x2 == 0) = false := by rw [beq_eq_false_iff_ne]; exact e0
      have n1 : (x2 == 1) = false := by rw [beq_eq_false_iff_ne]; exact e1
      go_wp2
      go_ret
      exact ⟨_, rs, rfl, O2.out, by omega, S2.out, D2⟩
set_option maxRecDepth 100000 in
set_option maxHeartbeats 800000 in
theorem Life12_any (g : Nat) (a : Option Addr) (n c : Nat) (w : World) (h : Src w g a n c) :
    Calls Try.prog 67 #[.pointer (some ⟨g, 0, none⟩)] w fun e w' => ∃ x : Int, e = .returned (.int .i64 x) ∧ Src w' g a n c ∧ w.grownBy w' (some g) := by
  have S0 := Lib.hid h
  have D0 := World.grownBy.refl w (some g)
  clear h
  go_enter Try.func67, Try.ntmps67
  go_wp2_with fail
  (with_reducible refine (Next_any g a n c _ _ S0.out).mono ?_)
  rintro e w1 ⟨x1, rfl, ⟨l1, -, u1⟩, hs1, hg1⟩
  have S1 := Lib.hid hs1
  have D1 := D0.trans hg1
  clear hs1 hg1 S0
  replace u1 := u1 (by omega)
  go_wp2_with fail
  (with_reducible refine (Next_any g a n c _ _ S1.out).mono ?_)
  rintro e w2 ⟨x2, rfl, ⟨l2, -, u2⟩, hs2, hg2⟩
  have S2 := Lib.hid hs2
  have D2 := D1.trans hg2
  clear hs2 hg2 S1
  replace u2 := u2 (by omega)
  go_wp2_with fail
  (with_reducible refine (Next_any g a n c _ _ S2.out).mono ?_)
  rintro e w3 ⟨x3, rfl, ⟨l3, -, u3⟩, hs3, hg3⟩
  have S3 := Lib.hid hs3
  have D3 := D2.trans hg3
  clear hs3 hg3 S2
  replace u3 := u3 (by omega)
  go_wp2_with fail
  (with_reducible refine (Pick_any g a n c _ 7 _ _ (S3.out.alloc _) (heap_alloc_new _ _) rfl (by omega) (by omega) (by simp) (by have := S3.out.lt; omega)).mono ?_)
  rintro e w4 ⟨x4, rfl, hs4, hg4⟩
  have S4 := Lib.hid hs4
  have D4 := (drw_alloc D3 _).trans hg4
  clear hs4 hg4 S3
  go_wp2
  go_ret
  exact ⟨_, rfl, S4.out, D4⟩

end Go.Proofs.Ythfpikpknojffaa
