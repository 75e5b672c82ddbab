/- Contract of the damage to a text. -/
import Derived.Test.YtoaacipgphoiaaaDrwS
import Derived.Deep.QuietTactic
import Derived.BigQuiet
import Derived.Deep.RegionHeld3
import Derived.Deep.RegionWith
set_option linter.unusedSimpArgs false
set_option linter.unusedVariables false
namespace Go.Proofs.Ytoaacipgphoiaaa
open Go.RowKit

def tabS (x : Int) : ByteArray := (#[⟨#[48]⟩, ⟨#[35]⟩, ⟨#[46]⟩, ⟨#[47]⟩, ⟨#[32]⟩, ⟨#[97]⟩, ⟨#[45]⟩, ⟨#[10]⟩] : Array ByteArray).getD x.toNat ⟨#[48]⟩
theorem tabS_all {x : Int} (lo : 0 ≤ x) (up : x < 8) : (tabS x).size = 1 ∧ (#[.string ⟨#[48]⟩, .string ⟨#[35]⟩, .string ⟨#[46]⟩, .string ⟨#[47]⟩, .string ⟨#[32]⟩, .string ⟨#[97]⟩, .string ⟨#[45]⟩, .string ⟨#[10]⟩] : Array Value)[x.toNat]? = some (.string (tabS x)) := by
  obtain ⟨q, hq⟩ : ∃ q : Nat, x = (q : Int) := ⟨x.toNat, by omega⟩
  subst hq
  have hq : q = 0 ∨ q = 1 ∨ q = 2 ∨ q = 3 ∨ q = 4 ∨ q = 5 ∨ q = 6 ∨ q = 7 := by omega
  rcases hq with rfl | rfl | rfl | rfl | rfl | rfl | rfl | rfl <;> exact ⟨rfl, rfl⟩
theorem tabS_size {x : Int} (lo : 0 ≤ x) (up : x < 8) : (tabS x).size = 1 := (tabS_all lo up).1
theorem tab_at {w W w3 : World} {g : Nat} {x : Int} (hg : (W.alloc (.cells #[.string ⟨#[48]⟩, .string ⟨#[35]⟩, .string ⟨#[46]⟩, .string ⟨#[47]⟩, .string ⟨#[32]⟩, .string ⟨#[97]⟩, .string ⟨#[45]⟩, .string ⟨#[10]⟩] 9)).drew.grownBy w3 (some g)) (hz : w.heap.size ≤ W.heap.size) (hgb : g < w.heap.size) (lo : 0 ≤ x) (up : x < 8) : w3.cell? ⟨W.heap.size, x.toNat, none⟩ = some (.string (tabS x)) := by
  have h1 : (W.alloc (.cells #[.string ⟨#[48]⟩, .string ⟨#[35]⟩, .string ⟨#[46]⟩, .string ⟨#[47]⟩, .string ⟨#[32]⟩, .string ⟨#[97]⟩, .string ⟨#[45]⟩, .string ⟨#[10]⟩] 9)).drew.heap[W.heap.size]? = some (.cells #[.string ⟨#[48]⟩, .string ⟨#[35]⟩, .string ⟨#[46]⟩, .string ⟨#[47]⟩, .string ⟨#[32]⟩, .string ⟨#[97]⟩, .string ⟨#[45]⟩, .string ⟨#[10]⟩] 9 (0, 0)) := heap_alloc_new W _
  have h2 : w3.heap[W.heap.size]? = some (.cells #[.string ⟨#[48]⟩, .string ⟨#[35]⟩, .string ⟨#[46]⟩, .string ⟨#[47]⟩, .string ⟨#[32]⟩, .string ⟨#[97]⟩, .string ⟨#[45]⟩, .string ⟨#[10]⟩] 9 (0, 0)) := by
    rw [← h1]
    exact hg.block _ (by show W.heap.size < (W.alloc _).heap.size; rw [World.size_alloc]; omega) (fun e => by injection e with e; omega)
  exact hk_cell h2 (tabS_all lo up).2
theorem tab_new (W : World) {x : Int} (lo : 0 ≤ x) (up : x < 8) : (W.alloc (.cells #[.string ⟨#[48]⟩, .string ⟨#[35]⟩, .string ⟨#[46]⟩, .string ⟨#[47]⟩, .string ⟨#[32]⟩, .string ⟨#[97]⟩, .string ⟨#[45]⟩, .string ⟨#[10]⟩] 9)).cell? ⟨W.heap.size, x.toNat, none⟩ = some (.string (tabS x)) := hk_cell (heap_alloc_new W _) (tabS_all lo up).2
set_option maxRecDepth 100000 in
set_option maxHeartbeats 1600000 in
theorem Damage01_any (g : Nat) (a : Option Addr) (n c : Nat) (t : ByteArray) (w : World) (h : Src w g a n c) (ht : t.size ≤ 1048575) :
    Calls Try.prog 64 #[.pointer (some ⟨g, 0, none⟩), .string t] w fun e w' => ∃ t' : ByteArray, e = .returned (.string t') ∧ t'.size ≤ t.size + 1 ∧ Src w' g a n c ∧ w.grownBy w' (some g) := by
  have S0 := Lib.hid h
  have D0 := World.grownBy.refl w (some g)
  have hgb := h.lt
  have htw : IntKind.i64.wrap ((t.size : Int) + 1) = (t.size : Int) + 1 := IntWalk.i64_in _ (by omega)
  clear h
  go_enter Try.func64, Try.ntmps64
  go_wp2_with fail
  (with_reducible refine (Next_any g a n c _ _ S0.out).mono ?_)
  rintro e w1 ⟨x1, rfl, hnx1, hs1, hg1⟩
  have S1 := Lib.hid hs1
  have D1 := D0.trans hg1
  clear hg1 hs1 S0
  obtain ⟨lo1, up1⟩ : 0 ≤ x1 ∧ x1 < (t.size : Int) + 1 := by unfold nextR at hnx1; omega
  obtain ⟨k, hk⟩ : ∃ k : Nat, x1 = (k : Int) := ⟨x1.toNat, by omega⟩
  subst hk
  have hkt : k ≤ t.size := by omega
  have hkt' : (k : Int) ≤ (t.size : Int) := by omega
  have hk0 : (0 : Int) ≤ (k : Int) := by omega
  have hsk : (t.extract 0 k).size = k := by simp; omega
  have hsl : ∀ m, (t.extract m t.size).size = t.size - m := by intro m; simp
  go_wp2_with fail
  (with_reducible refine (Next_any g a n c _ _ S1.out).mono ?_)
  rintro e w2 ⟨x2, rfl, ⟨lo2, -, up2⟩, hs2, hg2⟩
  have S2 := Lib.hid hs2
  have D2 := D1.trans hg2
  clear hg2 hs2 S1
  replace up2 := up2 (by omega)
  by_cases e0 : x2 = 0
  · subst e0
    go_wp2
    go_ret
    exact ⟨_, rfl, by (first | (simp; done) | (simp; omega) | (simp [ByteArray.size_append]; omega)), S2.out, D2⟩
  · by_cases e1 : x2 = 1
    · have n0 : (x2 == 0) = false := by rw [beq_eq_false_iff_ne]; exact e0
      subst e1
      have hz2 := D2.size
      have hsum1 := fun (y : ByteArray) (hy : y.size = 1) (W : World) => run_string_add_sum (P := Try.prog) W (t.extract 0 k) y (by rw [hsk, hy]; omega)
      have hsum2 := fun (y : ByteArray) (hy : y.size = 1) (W : World) => run_string_add_sum (P := Try.prog) W (t.extract 0 k ++ y) (t.extract k t.size) (by rw [ByteArray.size_append, hsk, hy, hsl]; omega)
      have HS1 := Lib.hid hsum1
      have HS2 := Lib.hid hsum2
      clear hsum1 hsum2
      go_wp2
      go_region_with (first
        | (go_at_call 62
           (with_reducible refine (Next_any g a n c _ _ (by first | exact (S2.out.alloc _).drew | exact S2.out.drew)).mono ?_)
           rintro e w3 ⟨x3, rfl, hnx3, hs3, hg3⟩
           obtain ⟨lo3, up3⟩ : 0 ≤ x3 ∧ x3 < 8 := by unfold nextR at hnx3; omega
           have hy := tabS_size lo3 up3
           first
             | have hcy := tab_at hg3 hz2 hgb lo3 up3
             | have hcy := tab_new w3 lo3 up3
           have hs1 := HS1.out _ hy
           have hs2 := HS2.out _ hy
           have D3 : w.grownBy w3 (some g) := by first | exact (drw_drew (drw_alloc D2 _)).trans hg3 | exact (drw_drew D2).trans hg3
           have S3 := Lib.hid hs3
           clear hnx3 hs3 hg3)
        | fail)
      all_goals
        go_wp2
        go_ret
        first
          | exact ⟨_, rfl, by rw [ByteArray.size_append, ByteArray.size_append, hsk, hy, hsl]; omega, S3.out, D3⟩
          | exact ⟨_, rfl, by rw [ByteArray.size_append, ByteArray.size_append, hsk, hy, hsl]; omega, S3.out.alloc _, drw_alloc D3 _⟩
    · by_cases e2 : x2 = 2
      · have n0 : (x2 == 0) = false := by rw [beq_eq_false_iff_ne]; exact e0
        have n1 : (x2 == 1) = false := by rw [beq_eq_false_iff_ne]; exact e1
        subst e2
        by_cases hlt : (k : Int) < (t.size : Int)
        · have hd : decide ((k : Int) < (t.size : Int)) = true := by simpa using hlt
          have hkw : IntKind.i64.wrap ((k : Int) + 1) = (k : Int) + 1 := IntWalk.i64_in _ (by omega)
          have hk1 : (k : Int) + 1 ≤ (t.size : Int) := by omega
          have hsum := fun (W : World) => run_string_add_sum (P := Try.prog) W (t.extract 0 k) (t.extract (k + 1) t.size) (by rw [hsk, hsl]; omega)
          go_wp2
          go_quiet (fail)
          go_wp2
          go_ret
          exact ⟨_, rfl, by rw [ByteArray.size_append, hsk, hsl]; omega, S2.out.drewN _, ⟨D2.os, D2.tape, D2.output, D2.size, D2.block⟩⟩
        · have hd : decide ((k : Int) < (t.size : Int)) = false := by simp; omega
          go_wp2
          go_ret
          exact ⟨_, rfl, by (first | (simp; done) | (simp; omega) | (simp [ByteArray.size_append]; omega)), S2.out, D2⟩
      · have n0 : (x2 == 0) = false := by rw [beq_eq_false_iff_ne]; exact e0
        have n1 : (x2 == 1) = false := by rw [beq_eq_false_iff_ne]; exact e1
        have n2 : (x2 == 2) = false := by rw [beq_eq_false_iff_ne]; exact e2
        go_wp2
        go_ret
        exact ⟨_, rfl, by (first | (simp; done) | (simp; omega) | (simp [ByteArray.size_append]; omega)), S2.out, D2⟩
end Go.Proofs.Ytoaacipgphoiaaa
