/- Contract of the draw of a text of moves that is read. -/
import Derived.Test.YtalfomdpkljpcaaMvdC
import Derived.Test.YtalfomdpkljpcaaMvtP
import Derived.Test.YtalfomdpkljpcaaMovA
set_option linter.unusedSimpArgs false
set_option linter.unusedVariables false
namespace Go.Proofs.Ytalfomdpkljpcaa
open Go.RowKit

theorem movesR_size (xs : List Int) : (movesR xs).1.size ≤ xs.length + 1 := by
  unfold movesR
  split
  · split
    · split
      · simp [ByteArray.size]
      · simp [txt, ByteArray.size]
    · exact Nat.zero_le _
  · exact Nat.zero_le _
theorem sMovesText_r (v : Value) (xs : List Int) (t : ByteArray) (c : Int) (w : World) (hr : RdI w v xs) (hn : xs.length ≤ 1048576) (h : (t, c) = movesR xs) :
    Calls Try.prog 7 #[v] w fun e w' => e = .returned (.tuple #[.string t, .int .i64 c]) ∧ Below w.heap.size w w' := (sMovesText_any v xs w hr hn).mono fun e w' q => by rw [q.1, ← h]; exact ⟨rfl, q.2⟩
theorem MovesText_r (v : Value) (xs : List Int) (t : ByteArray) (c : Int) (w : World) (hr : RdI w v xs) (hn : xs.length ≤ 1048576) (h : (t, c) = movesR xs) :
    Calls Try.prog 9 #[v] w fun e w' => e = .returned (.tuple #[.string t, .int .i64 c]) ∧ Below w.heap.size w w' := (MovesText_any v xs w hr hn).mono fun e w' q => by rw [q.1, ← h]; exact ⟨rfl, q.2⟩
set_option maxRecDepth 100000 in
set_option maxHeartbeats 1600000 in
theorem DrawReadMoves_any (a : Option Addr) (n c : Nat) (w : World) (h : RdB w w.heap.size a n) (hn : n ≤ 4096) :
    Calls Try.prog 17 #[.slice a n c] w fun e w' => ∃ t' : ByteArray, e = .returned (.string t') ∧ t'.size ≤ 100 ∧ Below w.heap.size w w' := by
  have HB0 := Lib.hid h
  clear h
  go_enter Try.func17, Try.ntmps17
  go_wp2_with fail
  (with_reducible refine (From_any a n c _ HB0.out hn).mono ?_)
  rintro e w0 ⟨g, rfl, hs0, hgw, hb0⟩
  have hgb := hs0.lt
  have hlt0 := hb0.size
  have S0 := Lib.hid hs0
  clear hs0
  go_wp2_with fail
  (with_reducible refine (Moves11_any g a n c _ S0.out).mono ?_)
  rintro e w1 ⟨v, rs, rfl, ho, hl61, hs1, hg1⟩
  have S1 := Lib.hid hs1
  have T1 : Below w.heap.size w w1 := hb0.grown hg1 (by omega) (fun q hq => by injection hq with hq; omega)
  have HR := Lib.hid ho.rd
  obtain ⟨⟨t, bad⟩, hT⟩ : ∃ rr__, rr__ = movesR rs := ⟨_, rfl⟩
  have hts : t.size ≤ 62 := by
    have := movesR_size rs
    rw [← hT] at this
    exact Nat.le_trans this (by omega)
  have HT := Lib.hid hT
  clear hs1 hg1 ho hT
  go_wp2_with fail
  (with_reducible refine (sMovesText_r _ _ _ _ _ HR.out (by omega) HT.out).mono ?_)
  rintro e w2 ⟨rfl, hb2⟩
  have hz1 := T1.size
  have S2 := Lib.hid (S1.out.below hb2)
  have T2 : Below w.heap.size w w2 := T1.trans (hb2.mono hz1)
  have hz2 := T2.size
  clear HT HR S0 S1
  by_cases eb : bad = 0
  · subst eb
    go_wp2_with fail
    (with_reducible refine (Next_any g a n c _ _ S2.out).mono ?_)
    rintro e w3 ⟨x3, rfl, -, hs3, hg3⟩
    have S3 := Lib.hid hs3
    have T3 : Below w.heap.size w w3 := T2.grown hg3 hz2 (fun q hq => by injection hq with hq; omega)
    have hz3 := T3.size
    clear hs3 hg3
    by_cases e3 : x3 = 0
    · subst e3
      go_wp2_with fail
      (with_reducible refine (Damage01_any g a n c _ _ S3.out (by first | omega | decide)).mono ?_)
      rintro e w4 ⟨t', rfl, hts', hs4, hg4⟩
      have T4 : Below w.heap.size w w4 := T3.grown hg4 hz3 (fun q hq => by injection hq with hq; omega)
      clear hs4 hg4
      go_wp2
      go_ret
      exact ⟨t', rfl, by first | omega | exact Nat.le_trans hts' (by decide), T4⟩
    · have n3 : (x3 == 0) = false := by rw [beq_eq_false_iff_ne]; exact e3
      go_wp2
      go_ret
      exact ⟨_, rfl, by first | omega | decide, T3⟩
  · have nb : (bad == 0) = false := by rw [beq_eq_false_iff_ne]; exact eb
    go_wp2_with fail
    (with_reducible refine (Next_any g a n c _ _ S2.out).mono ?_)
    rintro e w3 ⟨x3, rfl, -, hs3, hg3⟩
    have S3 := Lib.hid hs3
    have T3 : Below w.heap.size w w3 := T2.grown hg3 hz2 (fun q hq => by injection hq with hq; omega)
    have hz3 := T3.size
    clear hs3 hg3
    by_cases e3 : x3 = 0
    · subst e3
      go_wp2_with fail
      (with_reducible refine (Damage01_any g a n c _ _ S3.out (by first | omega | decide)).mono ?_)
      rintro e w4 ⟨t', rfl, hts', hs4, hg4⟩
      have T4 : Below w.heap.size w w4 := T3.grown hg4 hz3 (fun q hq => by injection hq with hq; omega)
      clear hs4 hg4
      go_wp2
      go_ret
      exact ⟨t', rfl, by first | omega | exact Nat.le_trans hts' (by decide), T4⟩
    · have n3 : (x3 == 0) = false := by rw [beq_eq_false_iff_ne]; exact e3
      go_wp2
      go_ret
      exact ⟨_, rfl, by first | omega | decide, T3⟩
end Go.Proofs.Ytalfomdpkljpcaa
