/- Contract of the draw of a moves' text. -/
import Derived.Test.YtalfomdpkljpcaaMvdA
set_option linter.unusedSimpArgs false
set_option linter.unusedVariables false
namespace Go.Proofs.Ytalfomdpkljpcaa
open Go.RowKit

set_option maxRecDepth 100000 in
set_option maxHeartbeats 1600000 in
theorem DrawMovesText_any (a : Option Addr) (n c : Nat) (w : World) (h : RdB w w.heap.size a n) (hn : n ≤ 4096) :
    Calls Try.prog 16 #[.slice a n c] w fun e w' => ∃ (v : Value) (rs : List Int), e = .returned v ∧ OwI w' w.heap.size v rs ∧ rs.length ≤ 61 ∧ Below w.heap.size w w' := by
  have HB0 := Lib.hid h
  clear h
  go_enter Try.func16, Try.ntmps16
  go_wp2_with fail
  (with_reducible refine (From_any a n c _ HB0.out hn).mono ?_)
  rintro e w0 ⟨g, rfl, hs0, hgw, hb0⟩
  have hgb := hs0.lt
  have hlt0 := hb0.size
  have S0 := Lib.hid hs0
  have D0 := World.grownBy.refl w0 (some g)
  clear hs0
  go_wp2_with fail
  (with_reducible refine (Moves11_any g a n c _ S0.out).mono ?_)
  rintro e w1 ⟨v, rs, rfl, ho, hl61, hs1, hg1⟩
  have S1 := Lib.hid hs1
  have D1 := D0.trans hg1
  clear hg1 hs1 S0
  have HO := Lib.hid (ho.mono hlt0)
  clear ho
  obtain ⟨ao, co, ev, -⟩ := HO.out.rd.shape
  subst ev
  go_wp2
  go_ret
  exact ⟨_, rs, rfl, HO.out, hl61, hb0.grown D1 (by omega) (fun q hq => by injection hq with hq; omega)⟩
end Go.Proofs.Ytalfomdpkljpcaa
