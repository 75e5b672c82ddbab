/- Plain law: trains, gears, and the gears in order. -/
import Derived.Test.YtfdnhamkkcmnfaaSrt
import Derived.Test.YtfdnhamkkcmnfaaAllW
set_option linter.unusedSimpArgs false
set_option linter.unusedVariables false
namespace Go.Proofs.Ytfdnhamkkcmnfaa
open Go.RowKit

def okT (xs : List Int) (lo hi : Int) (k : Nat) : Bool := inR (xs.getD k 0) lo hi && (decide (k = 0) || decide (xs.getD (k - 1) 0 < xs.getD k 0))
/-- Are these numbers of teeth? -/
def teethR (xs : List Int) (most lo hi : Int) : Bool := decide (1 ≤ xs.length) && (decide ((xs.length : Int) ≤ most) && (List.range xs.length).all (okT xs lo hi))
def trainR (F R : List Int) (rd : Int) : Bool := teethR F 3 20 60 && (teethR R 12 9 52 && inR rd 1000 2500)
theorem allr_succ {p : Nat → Bool} {k : Nat} (h : (List.range k).all p = true) (hp : p k = true) : (List.range (k + 1)).all p = true := by
  rw [List.range_succ, List.all_append, h]; simp [hp]
theorem allr_no {p : Nat → Bool} {k n : Nat} (hk : k < n) (hp : p k = false) : (List.range n).all p = false := by
  rw [List.all_eq_false]
  exact ⟨k, List.mem_range.2 hk, by simp [hp]⟩
theorem teethR_at {xs : List Int} {most lo hi : Int} (h : teethR xs most lo hi = true) : 1 ≤ xs.length ∧ (xs.length : Int) ≤ most ∧ ∀ k, k < xs.length → lo ≤ xs.getD k 0 ∧ xs.getD k 0 ≤ hi ∧ (0 < k → xs.getD (k - 1) 0 < xs.getD k 0) := by
  unfold teethR at h
  simp only [Bool.and_eq_true, decide_eq_true_eq, List.all_eq_true, List.mem_range] at h
  refine ⟨h.1, h.2.1, fun k hk => ?_⟩
  have := h.2.2 k hk
  unfold okT at this
  simp only [Bool.and_eq_true, Bool.or_eq_true, decide_eq_true_eq, inR_iff] at this
  exact ⟨this.1.1, this.1.2, fun hp => this.2.resolve_left (by omega)⟩
theorem teethR_no {xs : List Int} {most lo hi : Int} {k : Nat} (hk : k < xs.length) (h : okT xs lo hi k = false) : teethR xs most lo hi = false := by
  unfold teethR; rw [allr_no hk h]; simp
theorem teethR_yes {xs : List Int} {most lo hi : Int} (h1 : 1 ≤ xs.length) (h2 : (xs.length : Int) ≤ most) (h : (List.range xs.length).all (okT xs lo hi) = true) : teethR xs most lo hi = true := by
  unfold teethR; rw [h]; simp; omega
theorem teethR_len {xs : List Int} {most lo hi : Int} (h : ¬ (1 ≤ xs.length ∧ (xs.length : Int) ≤ most)) : teethR xs most lo hi = false := by
  unfold teethR
  by_cases h1 : 1 ≤ xs.length
  · have : ¬ ((xs.length : Int) ≤ most) := fun h2 => h ⟨h1, h2⟩
    simp [this]
  · simp [h1]
theorem trainR_at {F R : List Int} {rd : Int} (h : trainR F R rd = true) : teethR F 3 20 60 = true ∧ teethR R 12 9 52 = true ∧ 1000 ≤ rd ∧ rd ≤ 2500 := by
  unfold trainR at h
  simp only [Bool.and_eq_true, inR_iff] at h
  exact ⟨h.1, h.2.1, h.2.2.1, h.2.2.2⟩

abbrev Gear : Type := Int × Int
/-- The teeth at an index, at least 1. -/
def tth (F : List Int) (i : Int) : Int := max 1 (F.getD i.toNat 0)
theorem tth_pos (F : List Int) (i : Int) : 1 ≤ tth F i := by unfold tth; omega
def leG (F R : List Int) (a b : Gear) : Bool := decide (tth F a.1 * tth R b.2 ≤ tth F b.1 * tth R a.2)
theorem leG_tr (F R : List Int) : ∀ a b c, leG F R a b = true → leG F R b c = true → leG F R a c = true := by
  intro a b c h1 h2
  simp only [leG, decide_eq_true_eq] at *
  have p1 := tth_pos F a.1
  have p2 := tth_pos F b.1
  have p3 := tth_pos F c.1
  have q1 := tth_pos R a.2
  have q2 := tth_pos R b.2
  have q3 := tth_pos R c.2
  generalize tth F a.1 = x1 at *
  generalize tth F b.1 = x2 at *
  generalize tth F c.1 = x3 at *
  generalize tth R a.2 = y1 at *
  generalize tth R b.2 = y2 at *
  generalize tth R c.2 = y3 at *
  -- x1 y2 ≤ x2 y1, x2 y3 ≤ x3 y2 ⊢ x1 y3 ≤ x3 y1
  have e1 := Int.mul_le_mul_of_nonneg_right h1 (show (0 : Int) ≤ y3 by omega)
  have e2 := Int.mul_le_mul_of_nonneg_right h2 (show (0 : Int) ≤ y1 by omega)
  have k1 : x1 * y2 * y3 = x1 * y3 * y2 := by rw [Int.mul_assoc, Int.mul_comm y2, ← Int.mul_assoc]
  have k2 : x2 * y1 * y3 = x2 * y3 * y1 := by rw [Int.mul_assoc, Int.mul_comm y1, ← Int.mul_assoc]
  have k3 : x3 * y2 * y1 = x3 * y1 * y2 := by rw [Int.mul_assoc, Int.mul_comm y2, ← Int.mul_assoc]
  have e3 : x1 * y3 * y2 ≤ x3 * y1 * y2 := by omega
  exact Int.le_of_mul_le_mul_right e3 (by omega)
theorem leG_to (F R : List Int) : ∀ a b, leG F R a b = false → leG F R b a = true := by
  intro a b h
  simp only [leG, decide_eq_true_eq, decide_eq_false_iff_not] at *
  omega
theorem tth_eq {F : List Int} {k : Nat} (h : 1 ≤ F.getD k 0) : tth F (k : Int) = F.getD k 0 := by
  unfold tth
  simp only [Int.toNat_natCast]
  omega
/-- The gears of one chainring: the first m of them. -/
def gRow (f : Int) (m : Nat) : List Gear := (List.range m).map fun (r : Nat) => (f, (r : Int))
def gAll (n m : Nat) : List Gear := (List.range n).flatMap fun (f : Nat) => gRow (f : Int) m
theorem gRow_succ (f : Int) (m : Nat) : gRow f (m + 1) = gRow f m ++ [(f, (m : Int))] := by
  unfold gRow; rw [List.range_succ, List.map_append]; rfl
theorem gAll_succ (n m : Nat) : gAll (n + 1) m = gAll n m ++ gRow (n : Int) m := by
  unfold gAll; rw [List.range_succ, List.flatMap_append]; simp
theorem gRow_length (f : Int) (m : Nat) : (gRow f m).length = m := by simp [gRow]
theorem gAll_length (n m : Nat) : (gAll n m).length = n * m := by
  induction n with
  | zero => simp [gAll]
  | succ n ih => rw [gAll_succ, List.length_append, ih, gRow_length, Nat.add_mul]; omega
/-- What has been put in order when f chainrings are done, and r gears of the next. -/
def ordP (F R : List Int) (f r : Nat) : List Gear := srt (leG F R) (gAll f R.length ++ gRow (f : Int) r)
theorem ordP_succ (F R : List Int) (f r : Nat) : ordP F R f (r + 1) = ins (leG F R) (ordP F R f r) ((f : Int), (r : Int)) := by
  unfold ordP; rw [gRow_succ, ← List.append_assoc, srt_snoc]
theorem ordP_next (F R : List Int) (f : Nat) : ordP F R f R.length = ordP F R (f + 1) 0 := by
  unfold ordP; rw [gAll_succ]; simp [gRow]
theorem ordP_length (F R : List Int) (f r : Nat) : (ordP F R f r).length = f * R.length + r := by
  unfold ordP; rw [srt_length, List.length_append, gAll_length, gRow_length]
theorem ordP_sorted (F R : List Int) (f r : Nat) : Srtd (leG F R) (ordP F R f r) := srt_sorted _ (leG_tr F R) (leG_to F R) _
/-- All gears in order. -/
def ordG (F R : List Int) : List Gear := ordP F R F.length 0
/-- Indices of gears are in range. -/
def okG (F R : List Int) (g : Gear) : Prop := 0 ≤ g.1 ∧ g.1 < F.length ∧ 0 ≤ g.2 ∧ g.2 < R.length
theorem ordP_ok {F R : List Int} {f r : Nat} (hf : f < F.length ∨ (f = F.length ∧ r = 0)) (hr : r ≤ R.length) : ∀ g ∈ ordP F R f r, okG F R g := by
  unfold ordP
  apply srt_all
  intro g hg
  rw [List.mem_append] at hg
  rcases hg with hg | hg
  · unfold gAll at hg
    rw [List.mem_flatMap] at hg
    obtain ⟨a, ha, hg⟩ := hg
    unfold gRow at hg
    rw [List.mem_map] at hg
    obtain ⟨b, hb, rfl⟩ := hg
    rw [List.mem_range] at ha hb
    unfold okG
    simp only
    omega
  · unfold gRow at hg
    rw [List.mem_map] at hg
    obtain ⟨b, hb, rfl⟩ := hg
    rw [List.mem_range] at hb
    unfold okG
    simp only
    omega

end Go.Proofs.Ytfdnhamkkcmnfaa
