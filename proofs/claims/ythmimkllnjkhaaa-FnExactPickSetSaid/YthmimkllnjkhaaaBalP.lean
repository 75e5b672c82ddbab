/- Plain law: measured balls, their order, sets of them. -/
import Derived.Test.YthmimkllnjkhaaaSrt
import Derived.Test.YthmimkllnjkhaaaAllW
set_option linter.unusedSimpArgs false
set_option linter.unusedVariables false
namespace Go.Proofs.Ythmimkllnjkhaaa
open Go.RowKit

def ballsR (xs : List Int) : Bool := decide (xs.length ≤ 60) && allR xs 1000 20000
def codeB (xs : List Int) (n tol : Int) : Int := if ballsR xs = true then (if (inR n 3 40 && inR tol 0 1000) = true then 0 else 2) else 1
def idxs (n : Nat) : List Int := (List.range n).map fun (i : Nat) => (i : Int)
theorem idxs_succ (n : Nat) : idxs (n + 1) = idxs n ++ [(n : Int)] := by unfold idxs; rw [List.range_succ, List.map_append]; rfl
theorem idxs_length (n : Nat) : (idxs n).length = n := by simp [idxs]
def keyB (xs : List Int) (i : Int) : Int := xs.getD i.toNat 0
/-- The first k indices, by the sizes of the balls. -/
def ordK (xs : List Int) (k : Nat) : List Int := srt (leK (keyB xs)) (idxs k)
def ordB (xs : List Int) : List Int := ordK xs xs.length
theorem ordK_succ (xs : List Int) (k : Nat) : ordK xs (k + 1) = ins (leK (keyB xs)) (ordK xs k) (k : Int) := by unfold ordK; rw [idxs_succ, srt_snoc]
theorem ordK_length (xs : List Int) (k : Nat) : (ordK xs k).length = k := by unfold ordK; rw [srt_length, idxs_length]
theorem ordK_sorted (xs : List Int) (k : Nat) : Srtd (leK (keyB xs)) (ordK xs k) := srt_sorted _ (leK_tr _) (leK_to _) _
theorem ordK_mem {xs : List Int} {k : Nat} : ∀ y ∈ ordK xs k, 0 ≤ y ∧ y < k := by
  unfold ordK
  apply srt_all
  intro y hy
  unfold idxs at hy
  rw [List.mem_map] at hy
  obtain ⟨a, ha, rfl⟩ := hy
  rw [List.mem_range] at ha
  omega
theorem getD_mem {l : List Int} {k : Nat} (h : k < l.length) : l.getD k 0 ∈ l := by
  simp only [List.getD_eq_getElem?_getD, List.getElem?_eq_getElem h, Option.getD_some]
  exact List.getElem_mem h
theorem ordK_at {xs : List Int} {k j : Nat} (h : j < k) : 0 ≤ (ordK xs k).getD j 0 ∧ (ordK xs k).getD j 0 < k := ordK_mem _ (getD_mem (by rw [ordK_length]; exact h))
theorem idxs_key (xs : List Int) : (idxs xs.length).map (keyB xs) = xs := by
  apply List.ext_getElem?
  intro j
  unfold idxs keyB
  by_cases h : j < xs.length
  · simp [h]
  · rw [List.getElem?_eq_none (by simp; omega), List.getElem?_eq_none (by omega)]
theorem ordB_map (xs : List Int) : (ordB xs).map (keyB xs) = srt leI xs := by
  unfold ordB ordK; rw [srt_map, idxs_key]
theorem ordB_key {xs : List Int} {k : Nat} (h : k < xs.length) : xs.getD ((ordB xs).getD k 0).toNat 0 = (srt leI xs).getD k 0 := by
  rw [← ordB_map]
  have hl : k < (ordB xs).length := by unfold ordB; rw [ordK_length]; exact h
  simp only [List.getD_eq_getElem?_getD, List.getElem?_map, List.getElem?_eq_getElem hl, Option.map_some, Option.getD_some]
  rfl
theorem srtI_bd {xs : List Int} {lo hi : Int} (h : allR xs lo hi = true) : ∀ k, k < xs.length → lo ≤ (srt leI xs).getD k 0 ∧ (srt leI xs).getD k 0 ≤ hi := by
  intro k hk
  have : ∀ y ∈ srt leI xs, lo ≤ y ∧ y ≤ hi := srt_all leI (fun y hy => by
    unfold allR at h
    rw [List.all_eq_true] at h
    exact inR_iff.1 (h y hy))
  exact this _ (getD_mem (by rw [srt_length]; exact hk))
theorem ballsR_at {xs : List Int} (h : ballsR xs = true) : xs.length ≤ 60 ∧ allR xs 1000 20000 = true := by
  unfold ballsR at h
  simpa using h
def spreadR (xs : List Int) : Int × Int := if ballsR xs = true then (if xs.length = 0 then (0, 0) else ((srt leI xs).getD (xs.length - 1) 0 - (srt leI xs).getD 0 0, 0)) else (0, 1)
/-- The least difference of the first k sets of m balls one behind the other. -/
def leastK (zs : List Int) (m : Nat) : Nat → Int
  | 0 => 1001
  | k + 1 => min (leastK zs m k) (zs.getD (k + m - 1) 0 - zs.getD k 0)
def needT (xs : List Int) (n : Int) : Int × Int := if ballsR xs = true then (if inR n 3 40 = true then (if leastK (srt leI xs) n.toNat (xs.length + 1 - n.toNat) > 1000 then (0, 4) else (leastK (srt leI xs) n.toNat (xs.length + 1 - n.toNat), 0)) else (0, 2)) else (0, 1)
theorem leastK_le (zs : List Int) (m k : Nat) : leastK zs m k ≤ 1001 := by
  induction k with
  | zero => exact Int.le_refl _
  | succ k ih => unfold leastK; omega
/-- How many sets from index i on, c of them found before. -/
def cntF (zs : List Int) (m : Nat) (tol : Int) : Nat → Nat → Int → Int
  | 0, _, c => c
  | f + 1, i, c => if i + m ≤ zs.length then (if zs.getD (i + m - 1) 0 - zs.getD i 0 ≤ tol then cntF zs m tol f (i + m) (c + 1) else cntF zs m tol f (i + 1) c) else c
def cntSR (xs : List Int) (n tol : Int) : Int × Int := if ballsR xs = true then (if (inR n 3 40 && inR tol 0 1000) = true then (cntF (srt leI xs) n.toNat tol 61 0 0, 0) else (0, 2)) else (0, 1)
theorem cntF_pos {zs : List Int} {m f i : Nat} {tol c : Int} (h : i + m ≤ zs.length) (hd : zs.getD (i + m - 1) 0 - zs.getD i 0 ≤ tol) : cntF zs m tol (f + 1) i c = cntF zs m tol f (i + m) (c + 1) := by
  show (if i + m ≤ zs.length then _ else _) = _
  rw [if_pos h, if_pos hd]
theorem cntF_neg {zs : List Int} {m f i : Nat} {tol c : Int} (h : i + m ≤ zs.length) (hd : ¬ zs.getD (i + m - 1) 0 - zs.getD i 0 ≤ tol) : cntF zs m tol (f + 1) i c = cntF zs m tol f (i + 1) c := by
  show (if i + m ≤ zs.length then _ else _) = _
  rw [if_pos h, if_neg hd]
theorem cntF_end {zs : List Int} {m f i : Nat} {tol c : Int} (h : ¬ i + m ≤ zs.length) : cntF zs m tol f i c = c := by
  cases f with
  | zero => rfl
  | succ f => show (if i + m ≤ zs.length then _ else _) = _; rw [if_neg h]
/-- Is there a set from index i on? -/
def setAt (zs : List Int) (m : Nat) (tol : Int) (i : Nat) : Bool := decide (i + m ≤ zs.length) && decide (zs.getD (i + m - 1) 0 - zs.getD i 0 ≤ tol)
def pickR (xs : List Int) (n tol : Int) : List Int × Int :=
  if ballsR xs = true then (if (inR n 3 40 && inR tol 0 1000) = true then (match (List.range 61).find? (setAt (srt leI xs) n.toNat tol) with
    | some i => (srt leI (((ordB xs).take (i + n.toNat)).drop i), 0)
    | none => ([], 4)) else ([], 2)) else ([], 1)
theorem find_hit {p : Nat → Bool} {n i : Nat} (hi : i < n) (h : p i = true) (hn : ∀ j, j < i → p j = false) : (List.range n).find? p = some i := by
  rw [List.find?_range_eq_some]
  exact ⟨h, List.mem_range.2 hi, fun j hj => by rw [hn j hj]; rfl⟩
theorem find_miss {p : Nat → Bool} {n : Nat} (hn : ∀ j, j < n → p j = false) : (List.range n).find? p = none := by
  rw [List.find?_eq_none]
  intro j hj
  rw [hn j (List.mem_range.1 hj)]
  simp

end Go.Proofs.Ythmimkllnjkhaaa
