/- Contracts of the source of draws: l01From, l01Next, l01Pick. -/
import Derived.Test.YtfdnhamkkcmnfaaIntsC
import Derived.Handy
import Derived.Laws.Rows
import Derived.Deep.QuietTactic
import Derived.BigQuiet
import Derived.RegionTactic
import Derived.ChangeAlike
import Derived.BigRegion
set_option linter.unusedSimpArgs false
set_option linter.unusedVariables false
namespace Go.Proofs.Ytfdnhamkkcmnfaa
open Go.RowKit

/-- v is a slice of n bytes. -/
def RdB (w : World) (B : Nat) (a : Option Addr) (n : Nat) : Prop := ∀ i, i < n → ∃ b o, a = some ⟨b, o, none⟩ ∧ b < B ∧ ∃ x : Int, w.cell? ⟨b, o + i, none⟩ = some (.int .u8 x) ∧ 0 ≤ x ∧ x ≤ 255
theorem RdB.keep {w w' : World} {B B' : Nat} {a : Option Addr} {n : Nat} (h : RdB w B a n) (hB : B ≤ B') (hk : ∀ p : Addr, p.block < B → w'.cell? p = w.cell? p) : RdB w' B' a n := by
  intro i hi
  obtain ⟨b, o, e, hb, x, hc, h0, h1⟩ := h i hi
  exact ⟨b, o, e, Nat.lt_of_lt_of_le hb hB, x, (hk ⟨b, o + i, none⟩ hb).trans hc, h0, h1⟩
theorem RdB.below {w w' : World} {B : Nat} {a : Option Addr} {n : Nat} (h : RdB w B a n) (hb : Below B w w') : RdB w' B a n := h.keep (Nat.le_refl _) (fun p hp => hb.cell hp)
/-- Block g is a source over the code: its place and its seed are in range. -/
def Src (w : World) (g : Nat) (a : Option Addr) (n c : Nat) : Prop :=
  ∃ (p : Nat) (sd : Int), w.heap[g]? = some (.cells #[.slice a n c, .int .i64 p, .int .i64 sd] 98 (0, 0)) ∧ p ≤ n ∧ 0 ≤ sd ∧ sd < 2147483647 ∧ n ≤ 4096 ∧ RdB w g a n
theorem heap_lt {w : World} {g : Nat} {o : Obj} (h : w.heap[g]? = some o) : g < w.heap.size := by
  rcases Nat.lt_or_ge g w.heap.size with h1 | h1
  · exact h1
  · rw [Array.getElem?_eq_none h1] at h; cases h
theorem Src.lt {w : World} {g : Nat} {a : Option Addr} {n c : Nat} (h : Src w g a n c) : g < w.heap.size := by
  obtain ⟨p, sd, h1, _⟩ := h
  exact heap_lt h1
theorem Src.below {w w' : World} {g : Nat} {a : Option Addr} {n c : Nat} (h : Src w g a n c) (hb : Below w.heap.size w w') : Src w' g a n c := by
  have hl := h.lt
  obtain ⟨p, sd, h1, h2, h3, h4, h5, h6⟩ := h
  exact ⟨p, sd, (hb.block g hl).trans h1, h2, h3, h4, h5, h6.keep (Nat.le_refl _) (fun q hq => hb.cell (by omega))⟩
theorem Src.alloc {w : World} {g : Nat} {a : Option Addr} {n c : Nat} (h : Src w g a n c) (o : Obj) : Src (w.alloc o) g a n c := h.below ((Below.refl _ _).alloc (Nat.le_refl _) o)
theorem Src.drewN {w : World} {g : Nat} {a : Option Addr} {n c : Nat} (h : Src w g a n c) (k : Nat) : Src (w.drewN k) g a n c := h
theorem heap_set {w : World} {g i : Nat} {cs : Array Value} {t : TypeId} {u : Value} (h : w.heap[g]? = some (.cells cs t (0, 0))) : (w.setCell ⟨g, i, none⟩ u).heap[g]? = some (.cells (cs.setIfInBounds i u) t (0, 0)) := by
  simp [World.setCell, Array.getElem?_modify, h]
theorem Src.seed {w : World} {g : Nat} {a : Option Addr} {n c p : Nat} {sd : Int} (h : w.heap[g]? = some (.cells #[.slice a n c, .int .i64 p, .int .i64 sd] 98 (0, 0))) (s : Int) : (w.setCell ⟨g, 2, none⟩ (.int .i64 s)).heap[g]? = some (.cells #[.slice a n c, .int .i64 p, .int .i64 s] 98 (0, 0)) := heap_set h
theorem Src.place {w : World} {g : Nat} {a : Option Addr} {n c p : Nat} {sd : Int} (h : w.heap[g]? = some (.cells #[.slice a n c, .int .i64 p, .int .i64 sd] 98 (0, 0))) (q : Int) : (w.setCell ⟨g, 1, none⟩ (.int .i64 q)).heap[g]? = some (.cells #[.slice a n c, .int .i64 q, .int .i64 sd] 98 (0, 0)) := heap_set h
theorem drw_set {a w : World} {g : Nat} (h : a.grownBy w (some g)) (i : Nat) (u : Value) : a.grownBy (w.setCell ⟨g, i, none⟩ u) (some g) :=
  ⟨h.os, h.tape, h.output, by simpa [World.setCell] using h.size, fun k hk hne => (Below.heap_setCell w ⟨g, i, none⟩ u k (by
    rintro rfl
    exact hne rfl)).trans (h.block k hk hne)⟩
theorem drw_drewN {a w : World} {row : Option Nat} (h : a.grownBy w row) (n : Nat) : a.grownBy (w.drewN n) row := ⟨h.os, h.tape, h.output, h.size, h.block⟩
theorem dblw_drewN {B : Nat} {a w : World} (h : Below B a w) (n : Nat) : Below B a (w.drewN n) := ⟨h.os, h.tape, h.output, h.size, h.block⟩
theorem drw_drew {a w : World} {row : Option Nat} (h : a.grownBy w row) : a.grownBy w.drew row := ⟨h.os, h.tape, h.output, h.size, h.block⟩
theorem drw_below {a w : World} (h : Below a.heap.size a w) (row : Option Nat) : a.grownBy w row := ⟨h.os, h.tape, h.output, h.size, fun i hi _ => h.block i hi⟩
theorem RdB.far {w w' : World} {B g : Nat} {a : Option Addr} {n : Nat} (h : RdB w B a n) (hB : B ≤ g) (hg : w.grownBy w' (some g)) : RdB w' B a n := by
  intro i hi
  obtain ⟨b, o, e, hb, x, hc, h0, h1⟩ := h i hi
  exact ⟨b, o, e, hb, x, hg.cell hc (fun e => by injection e with e; simp only at e; omega), h0, h1⟩
/-- A number that was drawn below m. -/
def nextR (m x : Int) : Prop := 0 ≤ x ∧ (m ≤ 1 → x = 0) ∧ (1 < m → x < m)
theorem nextR_mod {m y : Int} (hm : 1 < m) : nextR m (y % m) := ⟨Int.emod_nonneg _ (by omega), fun h => by omega, fun _ => Int.emod_lt_of_pos _ (by omega)⟩

set_option maxRecDepth 100000 in
set_option maxHeartbeats 800000 in
theorem Next_any (g : Nat) (a : Option Addr) (n c : Nat) (m : Int) (w : World) (h : Src w g a n c) :
    Calls Try.prog 88 #[.pointer (some ⟨g, 0, none⟩), .int .i64 m] w fun e w' => ∃ x : Int, e = .returned (.int .i64 x) ∧ nextR m x ∧ Src w' g a n c ∧ w.grownBy w' (some g) := by
  by_cases hm : m ≤ 1
  · have HS := Lib.hid h
    clear h
    go_enter Try.func88, Try.ntmps88
    go_wp2
    go_ret
    exact ⟨0, rfl, ⟨by omega, fun _ => rfl, fun h => by omega⟩, HS.out, World.grownBy.refl w _⟩
  have hm1 : 1 < m := by omega
  clear hm
  obtain ⟨p, sd, hh, hp, s0, s1, hn, hB⟩ := h
  have c0 : w.cell? ⟨g, 0, none⟩ = some (.slice a n c) := cell_of_row w g 0 _ _ (0, 0) hh
  have c1 : w.cell? ⟨g, 1, none⟩ = some (.int .i64 p) := cell_of_row w g 1 _ _ (0, 0) hh
  have c2 : w.cell? ⟨g, 2, none⟩ = some (.int .i64 sd) := cell_of_row w g 2 _ _ (0, 0) hh
  have f1 : w.frozen? ⟨g, 1, none⟩ = false := by simp [World.frozen?, hh]
  have f2 : w.frozen? ⟨g, 2, none⟩ = false := by simp [World.frozen?, hh]
  obtain ⟨s, hs⟩ : ∃ s, s = (sd * 48271 + 29) % 2147483647 := ⟨_, rfl⟩
  have hs0 : 0 ≤ s := by rw [hs]; exact Int.emod_nonneg _ (by omega)
  have hs1 : s < 2147483647 := by rw [hs]; exact Int.emod_lt_of_pos _ (by omega)
  have HH := Lib.hid hh
  have HB := Lib.hid hB
  have HS := Lib.hid hs
  clear hh hB hs
  by_cases hlt : p < n
  · obtain ⟨b, o, rfl, hbg, x, cx, x0, x1⟩ := HB.out p hlt
    have hne1 : ¬ b = g := by omega
    have hne2 : ¬ g = b := by omega
    have hp0 : (0 : Int) ≤ (p : Int) := by omega
    have hp1 : (p : Int) < (n : Int) := by omega
    have hq1 : ((p : Int) + 1 - 1) = (p : Int) := by omega
    have hq2 : IntKind.i64.wrap ((p : Int) + 1 - 1) = (p : Int) := by rw [IntWalk.i64_in _ (by omega)]; omega
    have hd : decide (p < n) = true := by simpa using hlt
    have hsd0 : 0 ≤ s / 31 := Int.ediv_nonneg hs0 (by omega)
    have hsd1 : s / 31 < 2147483647 := by omega
    by_cases h256 : m ≤ 256
    rotate_left
    · have e256 : decide (m ≤ 256) = false := by simpa using h256
      go_enter Try.func88, Try.ntmps88
      go_wp2
      rw [← HS.out]
      go_quiet (fail)
      go_wp2
      go_quiet (fail)
      go_wp2
      go_ret
      exact ⟨_, rfl, nextR_mod hm1, ⟨p + 1, s, Src.place (Src.seed HH.out s) ((p : Int) + 1), by omega, hs0, hs1, hn, (HB.out.far (Nat.le_refl _) (by repeat (first | (with_reducible exact World.grownBy.refl _ _) | (with_reducible refine drw_drewN ?_ _) | (with_reducible refine drw_set ?_ _ _))))⟩, (by repeat (first | (with_reducible exact World.grownBy.refl _ _) | (with_reducible refine drw_drewN ?_ _) | (with_reducible refine drw_set ?_ _ _)))⟩
    by_cases hpar : ((p : Int) + 1) % 2 = 0
    · have e256 : decide (m ≤ 256) = true := by simpa using h256
      have hpa1 : (((p : Int) + 1) % 2 == 0) = true := by rw [beq_iff_eq]; exact hpar
      have hpa2 : (((p : Int) + 1).tmod 2 == 0) = true := by rw [Int.tmod_eq_emod_of_nonneg (by omega)]; exact hpa1
      go_enter Try.func88, Try.ntmps88
      go_wp2
      rw [← HS.out]
      go_quiet (fail)
      go_wp2
      go_quiet (fail)
      go_wp2
      go_quiet (fail)
      go_wp2
      go_ret
      exact ⟨_, rfl, nextR_mod hm1, ⟨p + 1, s, Src.place (Src.seed HH.out s) ((p : Int) + 1), by omega, hs0, hs1, hn, (HB.out.far (Nat.le_refl _) (by repeat (first | (with_reducible exact World.grownBy.refl _ _) | (with_reducible refine drw_drewN ?_ _) | (with_reducible refine drw_set ?_ _ _))))⟩, (by repeat (first | (with_reducible exact World.grownBy.refl _ _) | (with_reducible refine drw_drewN ?_ _) | (with_reducible refine drw_set ?_ _ _)))⟩
    · have e256 : decide (m ≤ 256) = true := by simpa using h256
      have hpa1 : (((p : Int) + 1) % 2 == 0) = false := by rw [beq_eq_false_iff_ne]; exact hpar
      have hpa2 : (((p : Int) + 1).tmod 2 == 0) = false := by rw [Int.tmod_eq_emod_of_nonneg (by omega)]; exact hpa1
      go_enter Try.func88, Try.ntmps88
      go_wp2
      rw [← HS.out]
      go_quiet (fail)
      go_wp2
      go_quiet (fail)
      go_wp2
      go_ret
      exact ⟨_, rfl, nextR_mod hm1, ⟨p + 1, s, Src.place (Src.seed HH.out s) ((p : Int) + 1), by omega, hs0, hs1, hn, (HB.out.far (Nat.le_refl _) (by repeat (first | (with_reducible exact World.grownBy.refl _ _) | (with_reducible refine drw_drewN ?_ _) | (with_reducible refine drw_set ?_ _ _))))⟩, (by repeat (first | (with_reducible exact World.grownBy.refl _ _) | (with_reducible refine drw_drewN ?_ _) | (with_reducible refine drw_set ?_ _ _)))⟩
  · have hd : decide (p < n) = false := by simpa using hlt
    have hsd0 : 0 ≤ s / 31 := Int.ediv_nonneg hs0 (by omega)
    have hsd1 : s / 31 < 2147483647 := by omega
    go_enter Try.func88, Try.ntmps88
    go_wp2
    rw [← HS.out]
    go_quiet (fail)
    go_wp2
    go_ret
    exact ⟨_, rfl, nextR_mod hm1, ⟨p, s, Src.seed HH.out s, by omega, hs0, hs1, hn, (HB.out.far (Nat.le_refl _) (by repeat (first | (with_reducible exact World.grownBy.refl _ _) | (with_reducible refine drw_drewN ?_ _) | (with_reducible refine drw_set ?_ _ _))))⟩, (by repeat (first | (with_reducible exact World.grownBy.refl _ _) | (with_reducible refine drw_drewN ?_ _) | (with_reducible refine drw_set ?_ _ _)))⟩

set_option maxRecDepth 100000 in
set_option maxHeartbeats 800000 in
theorem From_any (a : Option Addr) (n c : Nat) (w : World) (h : RdB w w.heap.size a n) (hn : n ≤ 4096) :
    Calls Try.prog 86 #[.slice a n c] w fun e w' => ∃ g, e = .returned (.pointer (some ⟨g, 0, none⟩)) ∧ Src w' g a n c ∧ w.heap.size ≤ g ∧ Below w.heap.size w w' := by
  have HB := Lib.hid h
  clear h
  go_enter Try.func86, Try.ntmps86
  go_wp2
  go_loopw [4] (fun i wr => ∃ k : Nat, k ≤ n ∧ i = .int .i64 k ∧ Below w.heap.size w wr ∧ Hid (Src wr w.heap.size a n c)) (fun i _ => n - (intOf i).toNat)
  case atStart => exact ⟨0, Nat.zero_le _, rfl, (Below.refl _ _).alloc (Nat.le_refl _) _, ⟨0, 61043, heap_alloc_new w _, Nat.zero_le _, by omega, by omega, hn, HB.out.keep (Nat.le_refl _) (fun p hp => World.cell?_alloc_lt w _ p hp)⟩⟩
  case round =>
    obtain ⟨k, hk, rfl, hbw, hs⟩ := hrel
    by_cases hlt : k < n
    · by_cases h64 : k < 64
      · obtain ⟨p, sd, hh, hp, s0, s1, -, hB⟩ := hs.out
        obtain ⟨b, o, rfl, hbg, x, cx, x0, x1⟩ := hB k hlt
        have c2 : wr.cell? ⟨w.heap.size, 2, none⟩ = some (.int .i64 sd) := cell_of_row wr w.heap.size 2 _ _ (0, 0) hh
        have f2 : wr.frozen? ⟨w.heap.size, 2, none⟩ = false := by simp [World.frozen?, hh]
        have hd1 : decide (k < n) = true := by simpa using hlt
        have hd2 : decide ((k : Int) < 64) = true := by simp; omega
        have hk0 : (0 : Int) ≤ (k : Int) := by omega
        have hk1 : (k : Int) < (n : Int) := by omega
        have hm0 : 0 ≤ (sd * 83 + x) % 2147483647 := Int.emod_nonneg _ (by omega)
        have hm1 : (sd * 83 + x) % 2147483647 < 2147483647 := Int.emod_lt_of_pos _ (by omega)
        have HH := Lib.hid hh
        have HB2 := Lib.hid hB
        clear hh hB hs
        go_wp2
        go_region
        all_goals
          go_wp2
          go_roundw
          case rel => exact ⟨k + 1, by omega, by go_num, (by repeat (first | (with_reducible refine dblw_drewN ?_ _) | (with_reducible assumption) | (with_reducible exact Below.refl _ _) | (with_reducible refine Below.drew ?_) | (with_reducible refine blw_al ?_ _) | (with_reducible refine blw_stp (by with_reducible assumption) ?_) | (with_reducible refine blw_set ?_ (by dsimp only; omega) _))), ⟨p, (sd * 83 + x) % 2147483647, Src.seed HH.out _, hp, hm0, hm1, hn, HB2.out.far (Nat.le_refl _) (by repeat (first | (with_reducible refine drw_drew ?_) | (with_reducible exact World.grownBy.refl _ _) | (with_reducible refine drw_drewN ?_ _) | (with_reducible refine drw_set ?_ _ _)))⟩⟩
          case measure => simp [intOf] <;> omega
      · have hd1 : decide (k < n) = true := by simpa using hlt
        have hd2 : decide ((k : Int) < 64) = false := by simp; omega
        go_wp2
        go_ret
        exact ⟨_, rfl, hs.out, Nat.le_refl _, hbw⟩
    · have hd1 : decide (k < n) = false := by simpa using hlt
      go_wp2
      go_ret
      exact ⟨_, rfl, hs.out, Nat.le_refl _, hbw⟩

set_option maxRecDepth 100000 in
set_option maxHeartbeats 800000 in
theorem Pick_any (g : Nat) (a : Option Addr) (n c b k : Nat) (cs : Array Value) (w : World) (h : Src w g a n c) (hc : w.heap[b]? = some (.cells cs 2 (0, 0))) (hk : cs.size = k) (hk1 : 0 < k) (hk2 : k ≤ 100) (hall : ∀ v ∈ cs.toList, ∃ z, v = Value.int .i64 z) (hbg : b ≠ g) :
    Calls Try.prog 109 #[.pointer (some ⟨g, 0, none⟩), .slice (some ⟨b, 0, none⟩) k k] w fun e w' => ∃ x : Int, e = .returned (.int .i64 x) ∧ Src w' g a n c ∧ w.grownBy w' (some g) := by
  have HS := Lib.hid h
  have HC := Lib.hid hc
  have HA := Lib.hid hall
  have HK := Lib.hid hk
  clear h hc hall hk
  have hbl : b < w.heap.size := heap_lt HC.out
  go_enter Try.func109, Try.ntmps109
  go_wp2_with fail
  (with_reducible refine (Next_any g a n c _ _ HS.out).mono ?_)
  rintro e w1 ⟨x, rfl, ⟨x0, x1, x2⟩, hs, hg⟩
  have hxk : x < (k : Int) := by
    by_cases h1 : 1 < (k : Int)
    · exact x2 h1
    · have := x1 (by omega); omega
  have hb1 : w1.heap[b]? = some (.cells cs 2 (0, 0)) := (hg.block b hbl (fun e => hbg (by injection e))).trans HC.out
  have hxn : x.toNat < cs.size := by have := HK.out; omega
  obtain ⟨z, hz⟩ := HA.out cs[x.toNat] (by simp)
  have hcell : w1.cell? ⟨b, x.toNat, none⟩ = some (.int .i64 z) := by
    rw [cell_of_row w1 b x.toNat cs 2 (0, 0) hb1, Array.getElem?_eq_getElem hxn, hz]
  have HS1 := Lib.hid hs
  have HG1 := Lib.hid hg
  clear hs hg x1 x2 hb1 hz
  go_wp2
  go_ret
  exact ⟨z, rfl, HS1.out, HG1.out⟩
theorem drw_alloc {a w : World} {row : Option Nat} (h : a.grownBy w row) (o : Obj) : a.grownBy (w.alloc o) row :=
  ⟨h.os, h.tape, h.output, Nat.le_trans h.size (by simp), fun i hi hne => (Below.heap_alloc w o i (Nat.lt_of_lt_of_le hi h.size)).trans (h.block i hi hne)⟩

end Go.Proofs.Ytfdnhamkkcmnfaa
