/- Plain facts on brakes: the pull, the grip, the travel, their bounds. -/
import Derived.Test.YtfgokehoanlobaaCeil
namespace Go.Proofs.Ytfgokehoanlobaa
open Go.RowKit

theorem mul_bd {x y a b : Int} (c : Int) (hx : 0 ≤ x) (hx' : x ≤ a) (hy : 0 ≤ y) (hy' : y ≤ b) (hc : a * b ≤ c) : 0 ≤ x * y ∧ x * y ≤ c :=
  ⟨Int.mul_nonneg hx hy, Int.le_trans (Int.mul_le_mul hx' hy' hy (Int.le_trans hx hx')) hc⟩

def isBrk (l a t s : Int) : Bool := inR l 100 1000 && inR a 100 1000 && inR t 0 2000 && inR s 0 200
theorem isBrk_bd {l a t s : Int} (h : isBrk l a t s = true) : 100 ≤ l ∧ l ≤ 1000 ∧ 100 ≤ a ∧ a ≤ 1000 ∧ 0 ≤ t ∧ t ≤ 2000 ∧ 0 ≤ s ∧ s ≤ 200 := by
  simp only [isBrk, Bool.and_eq_true, inR_iff] at h
  omega

def pull (l f : Int) : Int := f * l / 100
def grip (l a s f : Int) : Int := max 0 (pull l f * a / 100 - s)
def travel (l a t f g : Int) : Int := cdiv ((cdiv (g * a) 100 + cdiv (pull l f * t) 1000) * l) 100

theorem cdiv_bd {a b c : Int} (d : Int) (h0 : 0 ≤ a) (h1 : a ≤ c) (hb : 0 < b) (hd : c + b - 1 < (d + 1) * b) : 0 ≤ cdiv a b ∧ cdiv a b ≤ d := by
  unfold cdiv
  constructor
  · exact Int.ediv_nonneg (by omega) (by omega)
  · have := (Int.ediv_lt_iff_lt_mul (a := a + b - 1) (b := d + 1) hb).2 (by omega)
    omega

theorem pull_bd {l f : Int} (h1 : 100 ≤ l) (h2 : l ≤ 1000) (h3 : 0 ≤ f) (h4 : f ≤ 1000) : 0 ≤ pull l f ∧ pull l f ≤ 10000 := by
  have := mul_bd 1000000 h3 h4 (by omega : 0 ≤ l) h2 (by decide)
  unfold pull; omega
end Go.Proofs.Ytfgokehoanlobaa
