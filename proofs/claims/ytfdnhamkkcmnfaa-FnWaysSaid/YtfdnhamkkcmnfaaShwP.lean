/- Plain law: the way that the search finds is the way down the distances. -/
import Derived.Test.YtfdnhamkkcmnfaaRgP
set_option linter.unusedSimpArgs false
set_option linter.unusedVariables false
namespace Go.Proofs.Ytfdnhamkkcmnfaa
open Go.RowKit

theorem way_found {F R : List Int} {limit : Int} {s t : Gr} {V : Fnd} (hs : okB F R limit s = true) (ht : okB F R limit t = true) (h3 : F.length ≤ 3) (h12 : R.length ≤ 12) (hV : Done mvB (okB F R limit) s V) {j : Nat} {x : En} (hx : V[j]? = some x) (e : x.1 = t) : wayG F R limit s t = some x.2 := by
  have hU := fnd_done ht h3 h12
  have hW := fnd_done hs h3 h12
  obtain ⟨_, _, a3⟩ := hV.same mvB_back hU hs ht hx e
  have hp : hasP (fndG F R limit s) t = true := by rw [← hV.has hW]; exact hasP_iff.2 ⟨j, x, hx, e⟩
  unfold wayG
  unfold hasP at hp
  cases hf : (fndG F R limit s).find? (fun y => decide (y.1 = t)) with
  | none =>
    rw [List.find?_eq_none] at hf
    rw [List.any_eq_true] at hp
    obtain ⟨y, hy, h2⟩ := hp
    exact absurd h2 (hf y hy)
  | some y =>
    have hy1 := List.find?_some hf
    obtain ⟨i, hi⟩ := List.getElem?_of_mem (List.mem_of_find?_eq_some hf)
    obtain ⟨_, _, b3⟩ := hW.same mvB_back hU hs ht hi (by simpa using hy1)
    simp only [Option.map_some]
    rw [b3, a3]
theorem way_none {F R : List Int} {limit : Int} {s t : Gr} (h : hasP (fndG F R limit s) t = false) : wayG F R limit s t = none := by
  unfold wayG
  have : (fndG F R limit s).find? (fun y => decide (y.1 = t)) = none := by
    rw [List.find?_eq_none]
    intro x hx
    unfold hasP at h
    rw [List.any_eq_false] at h
    exact h x hx
  rw [this]
  rfl
/-- The way down the distances U to t. -/
theorem way_down {F R : List Int} {limit : Int} {s t : Gr} {U : Fnd} (hs : okB F R limit s = true) (ht : okB F R limit t = true) (h3 : F.length ≤ 3) (h12 : R.length ≤ 12) (hU : Done mvB (okB F R limit) t U) (hd : 0 ≤ dOf U s) : wayG F R limit s t = some (down mvB (okB F R limit) U (dOf U s).toNat s) := by
  have hW := fnd_done hs h3 h12
  have hp : hasP (fndG F R limit s) t = true := by rw [hW.both mvB_back hU hs ht]; exact dOf_nn.1 hd
  obtain ⟨j, x, hx, e⟩ := hasP_iff.1 hp
  rw [way_found hs ht h3 h12 hW hx e, (hW.same mvB_back hU hs ht hx e).2.2]
theorem way_nodown {F R : List Int} {limit : Int} {s t : Gr} {U : Fnd} (hs : okB F R limit s = true) (ht : okB F R limit t = true) (h3 : F.length ≤ 3) (h12 : R.length ≤ 12) (hU : Done mvB (okB F R limit) t U) (hd : ¬ 0 ≤ dOf U s) : wayG F R limit s t = none := by
  refine way_none ?_
  have hW := fnd_done hs h3 h12
  rw [hW.both mvB_back hU hs ht]
  cases h : hasP U s
  · rfl
  · exact absurd (dOf_nn.2 h) hd
theorem sw_ok {F R : List Int} {rd limit f r tf tr : Int} (h1 : trainR F R rd = true) (h2 : gearR F R f r = true) (h3 : gearR F R tf tr = true) (h4 : inR limit 0 4 = true) (h5 : crossR F.length R.length limit f r = false) (h6 : crossR F.length R.length limit tf tr = false) : swR F R rd limit f r tf tr = (match wayG F R limit (f, r) (tf, tr) with | some w => (w, 0) | none => ([], 4)) := by
  unfold swR
  rw [h1, h2, h3, h4, h5, h6]
  rfl
theorem sw_some {F R : List Int} {rd limit f r tf tr : Int} {w : List Int} (h : swR F R rd limit f r tf tr = (match wayG F R limit (f, r) (tf, tr) with | some w => (w, 0) | none => ([], 4))) (hw : wayG F R limit (f, r) (tf, tr) = some w) : swR F R rd limit f r tf tr = (w, 0) := by rw [h, hw]
theorem sw_none {F R : List Int} {rd limit f r tf tr : Int} (h : swR F R rd limit f r tf tr = (match wayG F R limit (f, r) (tf, tr) with | some w => (w, 0) | none => ([], 4))) (hw : wayG F R limit (f, r) (tf, tr) = none) : swR F R rd limit f r tf tr = ([], 4) := by rw [h, hw]
theorem fst_first {F R : List Int} {limit : Int} {U : Fnd} {g : Gr} {d : Int} {m : Int} (m0 : 0 ≤ m) (m3 : m ≤ 3) (hk : okB F R limit (mvB m g) = true) (hd : dOf U (mvB m g) = d) (hn : ∀ q : Int, 0 ≤ q → q < m → ¬ (okB F R limit (mvB q g) = true ∧ dOf U (mvB q g) = d)) : fstM mvB (okB F R limit) U g d 4 0 = m := by
  obtain ⟨a, b, c, e⟩ := fstM_spec U g d 4 0 m (by decide) (by decide) m0 m3 hk hd
  rcases Int.lt_or_le (fstM mvB (okB F R limit) U g d 4 0) m with h | h
  · exact absurd ⟨c, e⟩ (hn _ a h)
  · omega
theorem down_len36 {F R : List Int} {limit : Int} {t g : Gr} {U : Fnd} (hU : Done mvB (okB F R limit) t U) (ht : okB F R limit t = true) : True := trivial
end Go.Proofs.Ytfdnhamkkcmnfaa
