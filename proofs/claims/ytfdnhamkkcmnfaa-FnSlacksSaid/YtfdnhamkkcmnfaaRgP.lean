/- Plain law: how many places are found, and the way to one. -/
import Derived.Test.YtfdnhamkkcmnfaaBfsG
set_option linter.unusedSimpArgs false
set_option linter.unusedVariables false
namespace Go.Proofs.Ytfdnhamkkcmnfaa
open Go.RowKit

theorem bfs_done {F R : List Int} {limit : Int} {s : Gr} (hs : okB F R limit s = true) (hF : F.length ≤ 3) (hR : R.length ≤ 12) : ∀ (k i : Nat) (V : Fnd), Bi mvB (okB F R limit) s V i 0 → 36 ≤ i + k → Done mvB (okB F R limit) s (bfs mvB (okB F R limit) k i V) := by
  intro k
  induction k with
  | zero =>
    intro i V h hi
    have := h.len hs hF hR
    exact h.done (by omega)
  | succ k ih =>
    intro i V h hi
    unfold bfs
    cases hx : V[i]? with
    | none =>
      simp only
      refine h.done ?_
      rcases Nat.lt_or_ge i V.length with h1 | h1
      · rw [List.getElem?_eq_getElem h1] at hx; cases hx
      · exact h1
    | some x =>
      simp only
      exact ih (i + 1) _ ((h.steps 4 0 V hx (by decide) (by decide)).1.next) (by omega)
/-- All places that are found from s. -/
def fndG (F R : List Int) (limit : Int) (s : Gr) : Fnd := bfs mvB (okB F R limit) 36 0 [(s, [])]
theorem fnd_done {F R : List Int} {limit : Int} {s : Gr} (hs : okB F R limit s = true) (hF : F.length ≤ 3) (hR : R.length ≤ 12) : Done mvB (okB F R limit) s (fndG F R limit s) := bfs_done hs hF hR 36 0 _ (Bi.start s) (by decide)
theorem Done.nodupL {nx : Int → Gr → Gr} {ok : Gr → Bool} {s : Gr} {V : Fnd} (h : Done nx ok s V) : (V.map Prod.fst).Nodup := by
  rw [List.Nodup, List.pairwise_iff_getElem]
  intro a b ha hb hab
  simp only [List.length_map] at ha hb
  simp only [List.getElem_map]
  exact h.nodup a b _ _ hab (List.getElem?_eq_getElem ha) (List.getElem?_eq_getElem hb)
theorem Done.sub {nx : Int → Gr → Gr} {ok : Gr → Bool} {s : Gr} {V U : Fnd} (h : Done nx ok s V) (k : Done nx ok s U) : ∀ g ∈ V.map Prod.fst, g ∈ U.map Prod.fst := by
  intro g hg
  rw [List.mem_map] at hg
  obtain ⟨x, hx, rfl⟩ := hg
  obtain ⟨j, hj⟩ := List.getElem?_of_mem hx
  have := (k.short (h.path j x hj)).1
  obtain ⟨i, y, hy, e⟩ := hasP_iff.1 (dOf_nn.1 this)
  exact List.mem_map.2 ⟨y, List.mem_of_getElem? hy, e⟩
theorem Done.len {nx : Int → Gr → Gr} {ok : Gr → Bool} {s : Gr} {V U : Fnd} (h : Done nx ok s V) (k : Done nx ok s U) : V.length = U.length := by
  have h1 := nodup_le _ _ h.nodupL (h.sub k)
  have h2 := nodup_le _ _ k.nodupL (k.sub h)
  simp only [List.length_map] at h1 h2
  omega
theorem Done.has {nx : Int → Gr → Gr} {ok : Gr → Bool} {s t : Gr} {V U : Fnd} (h : Done nx ok s V) (k : Done nx ok s U) : hasP V t = hasP U t := by
  rw [Bool.eq_iff_iff]
  have key : ∀ {V U : Fnd}, Done nx ok s V → Done nx ok s U → hasP V t = true → hasP U t = true := by
    intro V U h k hv
    obtain ⟨j, x, hx, e⟩ := hasP_iff.1 hv
    have := (k.short (h.path j x hx)).1
    rw [e] at this
    exact dOf_nn.1 this
  exact ⟨key h k, key k h⟩
def rgR (F R : List Int) (rd limit f r : Int) : Int × Int := if codeS F R rd limit f r = 0 then (((fndG F R limit (f, r)).length : Int), 0) else (0, codeS F R rd limit f r)
theorem codeS_ok {F R : List Int} {rd limit f r : Int} (h : codeS F R rd limit f r = 0) : trainR F R rd = true ∧ gearR F R f r = true ∧ inR limit 0 4 = true ∧ crossR F.length R.length limit f r = false := by
  unfold codeS at h
  split at h
  · rename_i h1
    split at h
    · rename_i h2
      rw [Bool.and_eq_true] at h2
      split at h
      · omega
      · rename_i h3
        exact ⟨h1, h2.1, h2.2, by simpa using h3⟩
    · omega
  · omega
theorem codeS_zero {F R : List Int} {rd limit f r : Int} (h1 : trainR F R rd = true) (h2 : gearR F R f r = true) (h3 : inR limit 0 4 = true) (h4 : crossR F.length R.length limit f r = false) : codeS F R rd limit f r = 0 := by
  unfold codeS
  rw [h1, h2, h3, h4]
  rfl
theorem okB_of {F R : List Int} {limit f r : Int} (h2 : gearR F R f r = true) (h4 : crossR F.length R.length limit f r = false) : okB F R limit (f, r) = true := by
  unfold okB okM
  rw [h2, h4]
  rfl
theorem cntRow_bd (D : Nat → Nat → Int) (f : Nat) : ∀ r : Nat, 0 ≤ cntRow D f r ∧ cntRow D f r ≤ r := by
  intro r
  induction r with
  | zero => simp [cntRow]
  | succ r ih =>
    unfold cntRow
    split <;> omega
theorem cntG_bd (D : Nat → Nat → Int) {n : Nat} (hn : n ≤ 12) : ∀ f : Nat, 0 ≤ cntG D n f ∧ cntG D n f ≤ 12 * f := by
  intro f
  induction f with
  | zero => simp [cntG]
  | succ f ih =>
    have := cntRow_bd D f n
    unfold cntG
    omega
theorem cntRow_congr {D E : Nat → Nat → Int} {f n : Nat} (h : ∀ r, r < n → D f r = E f r) : ∀ r : Nat, r ≤ n → cntRow D f r = cntRow E f r := by
  intro r
  induction r with
  | zero => intro _; rfl
  | succ r ih =>
    intro hr
    unfold cntRow
    rw [ih (by omega), h r (by omega)]
theorem cntG_congr {D E : Nat → Nat → Int} {m n : Nat} (h : ∀ f r, f < m → r < n → D f r = E f r) : ∀ f : Nat, f ≤ m → cntG D n f = cntG E n f := by
  intro f
  induction f with
  | zero => intro _; rfl
  | succ f ih =>
    intro hf
    unfold cntG
    rw [ih (by omega), cntRow_congr (fun r hr => h f r (by omega) hr) n (Nat.le_refl _)]
theorem Done.cntD {F R : List Int} {limit : Int} {s : Gr} {V : Fnd} {D : Nat → Nat → Int} (h : Done mvB (okB F R limit) s V) (hs : okB F R limit s = true) (hD : ∀ f r : Nat, f < F.length → r < R.length → D f r = dOf V ((f : Int), (r : Int))) : cntG D R.length F.length = (V.length : Int) := by
  rw [cntG_congr hD F.length (Nat.le_refl _)]
  exact Done.cnt hs (fun j x hx => (h.path j x hx).good hs) h.nodupL
/-- The way from one place to another. -/
def wayG (F R : List Int) (limit : Int) (s t : Gr) : Option (List Int) := ((fndG F R limit s).find? fun y => decide (y.1 = t)).map Prod.snd
def swR (F R : List Int) (rd limit f r tf tr : Int) : List Int × Int :=
  if trainR F R rd = true then (if (gearR F R f r && gearR F R tf tr && inR limit 0 4) = true then (if (crossR F.length R.length limit f r || crossR F.length R.length limit tf tr) = true then ([], 5) else (match wayG F R limit (f, r) (tf, tr) with | some w => (w, 0) | none => ([], 4))) else ([], 2)) else ([], 1)
end Go.Proofs.Ytfdnhamkkcmnfaa
