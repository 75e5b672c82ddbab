/- A matrix of distances, row by row, beside a queue of gears. -/
import Derived.Test.YtfdnhamkkcmnfaaGrdA
import Derived.Test.YtfdnhamkkcmnfaaQueA
import Derived.Test.YtfdnhamkkcmnfaaBfsG
set_option linter.unusedSimpArgs false
set_option linter.unusedVariables false
namespace Go.Proofs.Ytfdnhamkkcmnfaa
open Go.RowKit

def rowv (n b : Nat) : Value := .slice (some ⟨b, 0, none⟩) n n
def rowD (D : Nat → Nat → Int) (n f : Nat) : List Int := (List.range n).map (D f)
theorem rowD_len (D : Nat → Nat → Int) (n f : Nat) : (rowD D n f).length = n := by unfold rowD; simp
theorem rowD_get {D : Nat → Nat → Int} {n f r : Nat} (h : r < n) : (rowD D n f).getD r 0 = D f r := by unfold rowD; simp [h]
def updD (D : Nat → Nat → Int) (f r : Nat) (v : Int) : Nat → Nat → Int := fun f' r' => if f' = f ∧ r' = r then v else D f' r'
theorem rowD_q (D : Nat → Nat → Int) (n f i : Nat) : (rowD D n f)[i]? = if i < n then some (D f i) else none := by
  by_cases h : i < n
  · simp [rowD, h]
  · rw [if_neg h, List.getElem?_eq_none (by rw [rowD_len]; omega)]
theorem rowD_set (D : Nat → Nat → Int) (n f r : Nat) (v : Int) : (rowD D n f).set r v = rowD (updD D f r v) n f := by
  apply List.ext_getElem?
  intro i
  rw [List.getElem?_set, rowD_len, rowD_q, rowD_q]
  unfold updD
  by_cases e : r = i
  · subst e
    by_cases h : r < n <;> simp [h]
  · have e' : ¬ i = r := fun x => e x.symm
    simp [e, e']
theorem rowD_oth {D : Nat → Nat → Int} {n f r f' : Nat} {v : Int} (h : f' ≠ f) : rowD (updD D f r v) n f' = rowD D n f' := by
  unfold rowD updD
  apply List.map_congr_left
  intro i _
  rw [if_neg (fun e => h e.1)]
/-- The first rows of a matrix of m rows of n numbers. -/
def PMat (w : World) (base go m : Nat) (bs : List Nat) (n : Nat) (D : Nat → Nat → Int) : Prop :=
  OwV w base (.slice (some ⟨go, 0, none⟩) m m) (bs.map (rowv n) ++ List.replicate (m - bs.length) (.slice none 0 0)) ∧ bs.length ≤ m ∧ bs.Nodup ∧ go ∉ bs ∧ ∀ f b, bs[f]? = some b → OwI w base (rowv n b) (rowD D n f)
theorem PMat.blk {w : World} {base go m n : Nat} {bs : List Nat} {D : Nat → Nat → Int} (h : PMat w base go m bs n D) {b : Nat} (hb : b ∈ bs) : base ≤ b ∧ b < w.heap.size := by
  obtain ⟨f, hf⟩ := List.getElem?_of_mem hb
  exact World.ownsRow.lt (h.2.2.2.2 f b hf) b rfl
theorem PMat.blkO {w : World} {base go m n : Nat} {bs : List Nat} {D : Nat → Nat → Int} (h : PMat w base go m bs n D) : base ≤ go ∧ go < w.heap.size := World.ownsRow.lt h.1 go rfl
theorem PMat.below {w w' : World} {base go m n : Nat} {bs : List Nat} {D : Nat → Nat → Int} (h : PMat w base go m bs n D) (hb : Below w.heap.size w w') : PMat w' base go m bs n D :=
  ⟨h.1.below hb, h.2.1, h.2.2.1, h.2.2.2.1, fun f b hf => (h.2.2.2.2 f b hf).below hb⟩
theorem PMat.mono {w : World} {base base' go m n : Nat} {bs : List Nat} {D : Nat → Nat → Int} (h : PMat w base go m bs n D) (hb : base' ≤ base) : PMat w base' go m bs n D :=
  ⟨h.1.mono hb, h.2.1, h.2.2.1, h.2.2.2.1, fun f b hf => (h.2.2.2.2 f b hf).mono hb⟩
theorem PMat.far {w w' : World} {base go m n : Nat} {bs : List Nat} {D : Nat → Nat → Int} {row : Option Nat} (h : PMat w base go m bs n D) (hg : w.grownBy w' row) (h1 : row ≠ some go) (h2 : ∀ b ∈ bs, row ≠ some b) : PMat w' base go m bs n D := by
  refine ⟨h.1.far hg (fun k hk e => ?_), h.2.1, h.2.2.1, h.2.2.2.1, fun f b hf => (h.2.2.2.2 f b hf).far hg (fun k hk e => ?_)⟩
  · have hk' : some go = some k := hk
    exact h1 (e.trans hk'.symm)
  · have hk' : some b = some k := hk
    exact h2 b (List.mem_of_getElem? hf) (e.trans hk'.symm)
theorem PMat.cellO {w : World} {base go m n : Nat} {bs : List Nat} {D : Nat → Nat → Int} (h : PMat w base go m bs n D) {f b : Nat} (hb : bs[f]? = some b) : w.cell? ⟨go, f, none⟩ = some (.slice (some ⟨b, 0, none⟩) n n) := by
  refine OwV.cell h.1 ?_
  have hl : f < bs.length := getq_lt hb
  rw [List.getElem?_append_left (by rw [List.length_map]; exact hl), List.getElem?_map, hb]
  rfl
theorem PMat.cellR {w : World} {base go m n : Nat} {bs : List Nat} {D : Nat → Nat → Int} (h : PMat w base go m bs n D) {f b r : Nat} (hb : bs[f]? = some b) (hr : r < n) : w.cell? ⟨b, r, none⟩ = some (.int .i64 (D f r)) ∧ w.frozen? ⟨b, r, none⟩ = false := by
  have ho := h.2.2.2.2 f b hb
  refine ⟨?_, OwI.free ho r⟩
  have := OwI.cell ho (k := r) (by rw [rowD_len]; exact hr)
  rw [rowD_get hr] at this
  exact this
theorem nodup_at {l : List Nat} (h : l.Nodup) {i j x : Nat} (hi : l[i]? = some x) (hj : l[j]? = some x) : i = j := by
  rw [List.Nodup, List.pairwise_iff_getElem] at h
  have h1 := getq_lt hi
  have h2 := getq_lt hj
  rw [List.getElem?_eq_getElem h1] at hi
  rw [List.getElem?_eq_getElem h2] at hj
  injection hi with hi
  injection hj with hj
  rcases Nat.lt_trichotomy i j with h3 | h3 | h3
  · exact absurd (hi.trans hj.symm) (h i j h1 h2 h3)
  · exact h3
  · exact absurd (hj.trans hi.symm) (h j i h2 h1 h3)
/-- A store into the matrix. -/
theorem PMat.set {w : World} {base go m n : Nat} {bs : List Nat} {D : Nat → Nat → Int} (h : PMat w base go m bs n D) {f b : Nat} (hb : bs[f]? = some b) (r : Nat) (v : Int) : PMat (w.setCell ⟨b, r, none⟩ (.int .i64 v)) base go m bs n (updD D f r v) := by
  have hg := grown_setCell w b r (.int .i64 v)
  have hbm := List.mem_of_getElem? hb
  refine ⟨h.1.far hg (fun k hk e => ?_), h.2.1, h.2.2.1, h.2.2.2.1, fun f' b' hf => ?_⟩
  · have hk' : some go = some k := hk
    have e' := e.trans hk'.symm
    injection e' with e'
    exact h.2.2.2.1 (e' ▸ hbm)
  · by_cases e : f' = f
    · subst e
      rw [hb] at hf
      injection hf with hf
      subst hf
      have := OwI.set (h.2.2.2.2 f' b hb) r v
      rw [rowD_set] at this
      exact this
    · rw [rowD_oth e]
      refine (h.2.2.2.2 f' b' hf).far hg (fun k hk e2 => ?_)
      have hk' : some b' = some k := hk
      have e' := e2.trans hk'.symm
      injection e' with e'
      subst e'
      exact e (nodup_at h.2.2.1 hf hb)
/-- A row of noughts is put into the matrix. -/
theorem PMat.push {w w1 : World} {base go m n b : Nat} {bs : List Nat} {D : Nat → Nat → Int} (h : PMat w base go m bs n D) (hb : b = w.heap.size) (hl : bs.length < m) (hg : w.grownBy w1 none) (ho : OwI w1 base (rowv n b) (List.replicate n 0)) :
    PMat (w1.setCell ⟨go, bs.length, none⟩ (.slice (some ⟨b, 0, none⟩) n n)) base go m (bs ++ [b]) n (fun f r => if f = bs.length then 0 else D f r) := by
  have hgo := h.blkO
  have hw1 : PMat w1 base go m bs n D := h.far hg (by simp) (fun _ _ => by simp)
  have hs := OwV.set hw1.1 bs.length (.slice (some ⟨b, 0, none⟩) n n)
  have hg2 := grown_setCell w1 go bs.length (.slice (some ⟨b, 0, none⟩) n n)
  have hbb : ∀ x ∈ bs, x < b := fun x hx => by rw [hb]; exact (h.blk hx).2
  refine ⟨?_, by simp; omega, ?_, ?_, fun f x hf => ?_⟩
  · have e : (bs.map (rowv n) ++ List.replicate (m - bs.length) (Value.slice none 0 0)).set bs.length (Value.slice (some ⟨b, 0, none⟩) n n) = (bs ++ [b]).map (rowv n) ++ List.replicate (m - (bs ++ [b]).length) (Value.slice none 0 0) := by
      rw [List.set_append_right _ _ (by simp)]
      obtain ⟨k, hk⟩ : ∃ k, m - bs.length = k + 1 := ⟨m - bs.length - 1, by omega⟩
      rw [hk, List.length_map, Nat.sub_self, List.replicate_succ, List.set_cons_zero, List.map_append, List.length_append, List.length_singleton, show m - (bs.length + 1) = k by omega]
      simp [rowv]
    rw [← e]
    exact hs
  · rw [List.nodup_append]
    refine ⟨h.2.2.1, by simp, fun x hx y hy => ?_⟩
    simp at hy
    subst hy
    have := hbb x hx
    omega
  · intro hx
    rcases List.mem_append.1 hx with hx | hx
    · exact h.2.2.2.1 hx
    · simp at hx; omega
  · rcases getq_snoc hf with ⟨hf, hfl⟩ | ⟨rfl, rfl⟩
    · have hx := List.mem_of_getElem? hf
      have e : rowD (fun f r => if f = bs.length then 0 else D f r) n f = rowD D n f := by
        unfold rowD
        apply List.map_congr_left
        intro i _
        show (if f = bs.length then 0 else D f i) = D f i
        rw [if_neg (by omega)]
      rw [e]
      refine (hw1.2.2.2.2 f x hf).far hg2 (fun k hk e => ?_)
      have hk' : some x = some k := hk
      have e' := e.trans hk'.symm
      injection e' with e'
      exact h.2.2.2.1 (e' ▸ hx)
    · have e : rowD (fun f r => if f = bs.length then 0 else D f r) n bs.length = List.replicate n 0 := by
        unfold rowD
        apply List.ext_getElem
        · simp
        · intro i h1 h2
          simp
      rw [e]
      refine ho.far hg2 (fun k hk e => ?_)
      have hk' : some x = some k := hk
      have e' := e.trans hk'.symm
      injection e' with e'
      omega
/-- The matrix beside the queue L; A: the gears whose memory stays as it is. -/
def StS (w : World) (base go m : Nat) (bs : List Nat) (n : Nat) (D : Nat → Nat → Int) (qv : Value) (L A : List Gb) : Prop :=
  PMat w base go m bs n D ∧ QuV w base qv (L.map gv) ∧ (∀ x ∈ A, (base ≤ x.2 ∧ w.heap[x.2]? = some (gobj x)) ∧ x.2 ≠ go ∧ x.2 ∉ bs ∧ qv.ownBlock ≠ some x.2) ∧ ∀ k, qv.ownBlock = some k → k ≠ go ∧ k ∉ bs
theorem StS.below {w w' : World} {base go m n : Nat} {bs : List Nat} {D : Nat → Nat → Int} {qv : Value} {L A : List Gb} (h : StS w base go m bs n D qv L A) (hb : Below w.heap.size w w') : StS w' base go m bs n D qv L A :=
  ⟨h.1.below hb, h.2.1.below hb, fun x hx => ⟨⟨(h.2.2.1 x hx).1.1, obj_below (h.2.2.1 x hx).1.2 hb⟩, (h.2.2.1 x hx).2⟩, h.2.2.2⟩
theorem StS.set {w : World} {base go m n : Nat} {bs : List Nat} {D : Nat → Nat → Int} {qv : Value} {L A : List Gb} (h : StS w base go m bs n D qv L A) {f b : Nat} (hb : bs[f]? = some b) (r : Nat) (v : Int) : StS (w.setCell ⟨b, r, none⟩ (.int .i64 v)) base go m bs n (updD D f r v) qv L A := by
  have hg := grown_setCell w b r (.int .i64 v)
  have hbm := List.mem_of_getElem? hb
  refine ⟨h.1.set hb r v, h.2.1.far hg (fun k hk e => ?_), fun x hx => ⟨⟨(h.2.2.1 x hx).1.1, obj_far (h.2.2.1 x hx).1.2 hg (fun e => ?_)⟩, (h.2.2.1 x hx).2⟩, h.2.2.2⟩
  · injection e with e
    exact (h.2.2.2 k hk).2 (e ▸ hbm)
  · injection e with e
    exact (h.2.2.1 x hx).2.2.1 (e ▸ hbm)
theorem StS.pop {w : World} {base go m n : Nat} {bs : List Nat} {D : Nat → Nat → Int} {qv : Value} {y : Gb} {L A : List Gb} (h : StS w base go m bs n D qv (y :: L) A) : ∃ g o cap, qv = .slice (some ⟨g, o, none⟩) (L.length + 1) (cap + 1) ∧ L.length ≤ cap ∧ cap + 1 ≤ maxLen ∧ g < w.heap.size ∧ w.cell? ⟨g, o, none⟩ = some (gv y) ∧ StS w base go m bs n D (sliced (some ⟨g, o, none⟩) 1 (L.length + 1) (cap + 1) 1) L A := by
  obtain ⟨g, o, cap, e, h1, h2, h3, h4, h5, h6⟩ := QuV.pop (show QuV w base qv (gv y :: L.map gv) from h.2.1)
  simp only [List.length_map] at e h1 h6
  refine ⟨g, o, cap, e, h1, h2, h4, h5, h.1, h6, ?_, ?_⟩
  · have eb : (sliced (some ⟨g, o, none⟩) 1 (L.length + 1) (cap + 1) 1).ownBlock = qv.ownBlock := by
      rw [e]
      unfold sliced
      by_cases hc : cap + 1 = 1
      · rw [if_pos hc]; rfl
      · rw [if_neg hc]; simp [addr_add, Value.ownBlock]
    rw [eb]
    exact h.2.2.1
  · have eb : (sliced (some ⟨g, o, none⟩) 1 (L.length + 1) (cap + 1) 1).ownBlock = qv.ownBlock := by
      rw [e]
      unfold sliced
      by_cases hc : cap + 1 = 1
      · rw [if_pos hc]; rfl
      · rw [if_neg hc]; simp [addr_add, Value.ownBlock]
    rw [eb]
    exact h.2.2.2
theorem StS.less {w : World} {base go m n : Nat} {bs : List Nat} {D : Nat → Nat → Int} {qv : Value} {L A A' : List Gb} (h : StS w base go m bs n D qv L A) (hs : ∀ x ∈ A', x ∈ A) : StS w base go m bs n D qv L A' := ⟨h.1, h.2.1, fun x hx => h.2.2.1 x (hs x hx), h.2.2.2⟩
/-- A gear is put behind the queue. -/
theorem StS.push {w w' : World} {base go m n : Nat} {bs : List Nat} {D : Nat → Nat → Int} {qv qv' : Value} {L A : List Gb} {q : Gear} {o2 : Obj} (h : StS w base go m bs n D qv L A) (hB : base ≤ w.heap.size)
    (hq : QuV w' base qv' (L.map gv ++ [gv (q, w.heap.size)])) (hg : ((w.alloc (gobj (q, w.heap.size))).alloc o2).grownBy w' qv.ownBlock) (hk : qv'.ownBlock = qv.ownBlock ∨ qv'.ownBlock = some ((w.alloc (gobj (q, w.heap.size))).alloc o2).heap.size) :
    StS w' base go m bs n D qv' (L ++ [(q, w.heap.size)]) (A ++ [(q, w.heap.size)]) := by
  have hb2 : Below w.heap.size w ((w.alloc (gobj (q, w.heap.size))).alloc o2) := ((Below.refl _ _).alloc (Nat.le_refl _) _).alloc (by simp) _
  have hsz : ((w.alloc (gobj (q, w.heap.size))).alloc o2).heap.size = w.heap.size + 2 := by simp
  have h2 := h.below hb2
  have hql : ∀ k, qv.ownBlock = some k → k < w.heap.size := fun k hk => (QuV.blk h.2.1 hk).2
  have hgo := h.1.blkO
  refine ⟨h2.1.far hg (fun e => (h.2.2.2 go e).1 rfl) (fun b hb e => (h.2.2.2 b e).2 hb), by rw [List.map_append]; exact hq, fun x hx => ?_, fun k hk2 => ?_⟩
  · rcases List.mem_append.1 hx with hx | hx
    · obtain ⟨⟨a1, a2⟩, a3, a4, a5⟩ := h2.2.2.1 x hx
      refine ⟨⟨a1, obj_far a2 hg a5⟩, a3, a4, fun e => ?_⟩
      rcases hk with hk | hk
      · exact a5 (hk.symm.trans e)
      · rw [hk] at e
        injection e with e
        have := obj_lt (h.2.2.1 x hx).1.2
        omega
    · simp at hx
      subst hx
      have hnew : ((w.alloc (gobj (q, w.heap.size))).alloc o2).heap[w.heap.size]? = some (gobj (q, w.heap.size)) := obj_below (heap_alloc_new w _) ((Below.refl _ _).alloc (Nat.le_refl _) _)
      refine ⟨⟨hB, obj_far hnew hg (fun e => by have := hql _ e; omega)⟩, by simp only; omega, fun hb => ?_, fun e => ?_⟩
      · have := (h.1.blk hb).2
        simp only at this
        omega
      · rcases hk with hk | hk
        · have := hql _ (hk.symm.trans e)
          omega
        · rw [hk] at e
          injection e with e
          simp only at e
          omega
  · rcases hk with hk | hk
    · exact h.2.2.2 k (hk.symm.trans hk2)
    · rw [hk] at hk2
      injection hk2 with hk2
      refine ⟨by omega, fun hb => ?_⟩
      have := (h.1.blk hb).2
      omega
theorem blw_setM {base : Nat} {W0 w : World} {go m n : Nat} {bs : List Nat} {D : Nat → Nat → Int} (hb : Below base W0 w) (h : PMat w base go m bs n D) {b : Nat} (hbm : b ∈ bs) (r : Nat) (v : Value) : Below base W0 (w.setCell ⟨b, r, none⟩ v) := hb.setCell (h.blk hbm).1 v
end Go.Proofs.Ytfdnhamkkcmnfaa
