/- Contract of the draw of a thread's text. -/
import Derived.Test.YtoaacipgphoiaaaThdR
import Derived.Test.YtoaacipgphoiaaaDmgA
import Derived.Test.YtoaacipgphoiaaaRdtP
set_option linter.unusedSimpArgs false
set_option linter.unusedVariables false
namespace Go.Proofs.Ytoaacipgphoiaaa
open Go.RowKit

theorem thr_len {d p : Int} {l i : Bool} (h1 : 10 ≤ d) (h2 : d ≤ 1000) (h3 : 20 ≤ p) (h4 : p ≤ 500) : (txt (thrL d p l i)).size ≤ 30 := by
  rw [txt_size, thr_cut]
  obtain ⟨a1, -⟩ := meas_parts d.toNat
  have b1 := dec_short 11 (d.toNat / 10) (by omega)
  have b2 := dec_short 11 p.toNat (by omega)
  omega
set_option maxRecDepth 100000 in
set_option maxHeartbeats 1600000 in
theorem DrawReadThread_any (a : Option Addr) (n c : Nat) (w : World) (h : RdB w w.heap.size a n) (hn : n ≤ 4096) :
    Calls Try.prog 39 #[.slice a n c] w fun e w' => ∃ t' : ByteArray, e = .returned (.string t') ∧ t'.size ≤ 100 ∧ Below w.heap.size w w' := by
  have HB0 := Lib.hid h
  clear h
  go_enter Try.func39, Try.ntmps39
  go_wp2_with fail
  (with_reducible refine (From_any a n c _ HB0.out hn).mono ?_)
  rintro e w0 ⟨g, rfl, hs0, hgw, hb0⟩
  have hgb := hs0.lt
  have hlt0 := hb0.size
  have S0 := Lib.hid hs0
  clear hs0
  go_wp2_with fail
  (with_reducible refine (Good14_bd g a n c _ S0.out).mono ?_)
  rintro e w1 ⟨d, p, l, i, rfl, ⟨d0, d1, p0, p1⟩, hs1, hg1⟩
  have S1 := Lib.hid hs1
  have T1 : Below w.heap.size w w1 := hb0.grown hg1 (by omega) (fun q hq => by injection hq with hq; omega)
  clear hs1 hg1
  go_wp2_with fail
  (with_reducible refine (l14Text_any d p l i _ d0 d1 p0 p1).mono ?_)
  rintro e w2 ⟨rfl, hb2⟩
  have hts : (txt (thrL d p l i)).size ≤ 30 := thr_len d0 d1 p0 p1
  generalize txt (thrL d p l i) = t at *
  have hz1 := T1.size
  have S2 := Lib.hid (S1.out.below hb2)
  have T2 : Below w.heap.size w w2 := T1.trans (hb2.mono hz1)
  have hz2 := T2.size
  clear S0 S1
  go_wp2_with fail
  (with_reducible refine (Next_any g a n c _ _ S2.out).mono ?_)
  rintro e w3 ⟨x3, rfl, -, hs3, hg3⟩
  have S3 := Lib.hid hs3
  have T3 : Below w.heap.size w w3 := T2.grown hg3 hz2 (fun q hq => by injection hq with hq; omega)
  have hz3 := T3.size
  clear hs3 hg3
  by_cases e3 : x3 = 0
  · subst e3
    go_wp2_with fail
    (with_reducible refine (Damage01_any g a n c _ _ S3.out (by omega)).mono ?_)
    rintro e w4 ⟨t', rfl, hts', hs4, hg4⟩
    have T4 : Below w.heap.size w w4 := T3.grown hg4 hz3 (fun q hq => by injection hq with hq; omega)
    clear hs4 hg4
    go_wp2
    go_ret
    exact ⟨t', rfl, by omega, T4⟩
  · have n3 : (x3 == 0) = false := by rw [beq_eq_false_iff_ne]; exact e3
    go_wp2
    go_ret
    exact ⟨_, rfl, by omega, T3⟩
end Go.Proofs.Ytoaacipgphoiaaa
