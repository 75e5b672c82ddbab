/- Plain facts on integers: Go's truncating division and remainder against floor and ceiling. No condition. -/
import Derived.WalkKit
namespace Go.Proofs.Ytfdnhamkkcmnfaa
open Go.RowKit

/-- n lies between lo and hi. -/
def inR (n lo hi : Int) : Bool := decide (lo ≤ n) && decide (n ≤ hi)
theorem inR_iff {n lo hi : Int} : inR n lo hi = true ↔ lo ≤ n ∧ n ≤ hi := by simp [inR]
theorem inR_not {n lo hi : Int} : inR n lo hi = false ↔ ¬ (lo ≤ n ∧ n ≤ hi) := by
  rw [← inR_iff]; simp

theorem ret_int {k : IntKind} {a b : Int} (h : a = b) : Ending.returned (.int k a) = .returned (.int k b) := by rw [h]
theorem ret_bool {a b : Bool} (h : a = b) : Ending.returned (.bool a) = .returned (.bool b) := by rw [h]

theorem tdiv_floor_neg {a b : Int} (hb : 0 < b) (h : a.tmod b < 0) : a.tdiv b - 1 = a / b := by
  have h1 := Int.mul_tdiv_add_tmod a b
  have h2 := Int.tmod_lt_of_pos a hb
  have h3 : -b < a.tmod b := by
    have := Int.lt_tmod_of_pos a hb
    omega
  symm
  rw [Int.ediv_eq_iff_of_pos hb]
  have e : b * a.tdiv b = a.tdiv b * b := Int.mul_comm _ _
  have e2 : (a.tdiv b - 1) * b = a.tdiv b * b - b := by rw [Int.sub_mul, Int.one_mul]
  constructor <;> omega
theorem tdiv_floor_pos {a b : Int} (hb : 0 < b) (h : ¬ a.tmod b < 0) : a.tdiv b = a / b := by
  have h1 := Int.mul_tdiv_add_tmod a b
  have h2 := Int.tmod_lt_of_pos a hb
  symm
  rw [Int.ediv_eq_iff_of_pos hb]
  have e : b * a.tdiv b = a.tdiv b * b := Int.mul_comm _ _
  constructor <;> omega
/-- Rounding up: minus the floor of the negated number. -/
theorem neg_floor_neg {a b : Int} (hb : 0 < b) : -((-a) / b) = (a + b - 1) / b := by
  have hq := Int.ediv_mul_le (-a) (Int.ne_of_gt hb)
  have hr := Int.lt_ediv_add_one_mul_self (-a) hb
  symm
  rw [Int.ediv_eq_iff_of_pos hb]
  have e1 : -((-a) / b) * b = -((-a) / b * b) := Int.neg_mul _ _
  have e2 : ((-a) / b + 1) * b = (-a) / b * b + b := by rw [Int.add_mul, Int.one_mul]
  constructor <;> omega
end Go.Proofs.Ytfdnhamkkcmnfaa
