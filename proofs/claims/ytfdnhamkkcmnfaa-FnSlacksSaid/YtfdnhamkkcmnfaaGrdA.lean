/- Slices of gears: what they own; the comparison of two gears, of the program and of the reference. -/
import Derived.Test.YtfdnhamkkcmnfaaGeaB
import Derived.Test.YtfdnhamkkcmnfaaVecA
set_option linter.unusedSimpArgs false
set_option linter.unusedVariables false
namespace Go.Proofs.Ytfdnhamkkcmnfaa
open Go.RowKit

/-- A gear and the block in which it lies. -/
abbrev Gb : Type := Gear × Nat
def gv (x : Gb) : Value := .slice (some ⟨x.2, 0, none⟩) 2 2
def gobj (x : Gb) : Obj := .cells #[.int .i64 x.1.1, .int .i64 x.1.2] 2 (0, 0)
theorem gv_one (L : List Gb) : ∀ z ∈ L.map gv, z.oneCell' = true := by
  intro z hz
  rw [List.mem_map] at hz
  obtain ⟨x, _, rfl⟩ := hz
  rfl
def Rws (w : World) (B : Nat) (L : List Gb) : Prop := ∀ x ∈ L, B ≤ x.2 ∧ w.heap[x.2]? = some (gobj x)
theorem obj_lt {w : World} {g : Nat} {o : Obj} (h : w.heap[g]? = some o) : g < w.heap.size := by
  rcases Nat.lt_or_ge g w.heap.size with h1 | h1
  · exact h1
  · rw [Array.getElem?_eq_none h1] at h; cases h
theorem obj_below {w w' : World} {b : Nat} {o : Obj} (h : w.heap[b]? = some o) (hb : Below w.heap.size w w') : w'.heap[b]? = some o := (hb.block b (obj_lt h)).trans h
theorem obj_far {w w' : World} {b : Nat} {o : Obj} {row : Option Nat} (h : w.heap[b]? = some o) (hg : w.grownBy w' row) (hne : row ≠ some b) : w'.heap[b]? = some o := (hg.block b (obj_lt h) (fun e => hne e.symm)).trans h
theorem Rws.below {w w' : World} {B : Nat} {L : List Gb} (h : Rws w B L) (hb : Below w.heap.size w w') : Rws w' B L := fun x hx => ⟨(h x hx).1, obj_below (h x hx).2 hb⟩
theorem Rws.far {w w' : World} {B : Nat} {L : List Gb} {row : Option Nat} (h : Rws w B L) (hg : w.grownBy w' row) (hne : ∀ x ∈ L, row ≠ some x.2) : Rws w' B L := fun x hx => ⟨(h x hx).1, obj_far (h x hx).2 hg (hne x hx)⟩
/-- v owns the gears L: the slice, and each gear in a block of its own. -/
def OwG (w : World) (base : Nat) (v : Value) (L : List Gb) : Prop := OwV w base v (L.map gv) ∧ Rws w base L ∧ (∀ x ∈ L, v.ownBlock ≠ some x.2) ∧ (L.map Prod.snd).Nodup
theorem OwG.nil (w : World) (base : Nat) : OwG w base (.slice none 0 0) [] := ⟨OwV.nil _ _, (by intro x hx; cases hx), (by intro x hx; cases hx), List.Pairwise.nil⟩
theorem OwG.lit0N (w : World) {base N : Nat} (hN : w.heap.size = N) (hb : base ≤ N) : OwG (w.alloc (.cells #[] 22)) base (.slice (some ⟨N, 0, none⟩) 0 0) [] := ⟨OwV.lit0N w hN hb, (by intro x hx; cases hx), (by intro x hx; cases hx), List.Pairwise.nil⟩
theorem OwG.below {w w' : World} {base : Nat} {v : Value} {L : List Gb} (h : OwG w base v L) (hb : Below w.heap.size w w') : OwG w' base v L := ⟨h.1.below hb, h.2.1.below hb, h.2.2⟩
theorem OwG.mono {w : World} {base base' : Nat} {v : Value} {L : List Gb} (h : OwG w base v L) (hb : base' ≤ base) : OwG w base' v L := ⟨h.1.mono hb, fun x hx => ⟨Nat.le_trans hb (h.2.1 x hx).1, (h.2.1 x hx).2⟩, h.2.2⟩
theorem OwG.alloc {w : World} {base : Nat} {v : Value} {L : List Gb} (h : OwG w base v L) (o : Obj) : OwG (w.alloc o) base v L := h.below ((Below.refl _ _).alloc (Nat.le_refl _) o)
theorem OwG.drewN {w : World} {base : Nat} {v : Value} {L : List Gb} (h : OwG w base v L) (n : Nat) : OwG (w.drewN n) base v L := h
theorem OwG.drew {w : World} {base : Nat} {v : Value} {L : List Gb} (h : OwG w base v L) : OwG w.drew base v L := h
theorem OwG.len {w : World} {base : Nat} {a : Option Addr} {n c : Nat} {L : List Gb} (h : OwG w base (.slice a n c) L) : n = L.length ∧ L.length ≤ c ∧ c ≤ maxLen := by
  have := OwV.cap h.1
  simp only [List.length_map] at this
  exact ⟨this.2.1, this.1, this.2.2⟩
theorem OwG.row {w : World} {base : Nat} {v : Value} {L : List Gb} (h : OwG w base v L) {j : Nat} {x : Gb} (hx : L[j]? = some x) : base ≤ x.2 ∧ w.heap[x.2]? = some (gobj x) := h.2.1 x (List.mem_of_getElem? hx)
/-- The slice's own cell at j holds gear j. -/
theorem OwG.cellAt {w : World} {base : Nat} {a : Option Addr} {n c : Nat} {L : List Gb} (h : OwG w base (.slice a n c) L) {j : Nat} {x : Gb} (hx : L[j]? = some x) : ∃ g, a = some ⟨g, 0, none⟩ ∧ w.cell? ⟨g, j, none⟩ = some (gv x) := by
  rcases h.1.form with ⟨e1, e2⟩ | ⟨g, cap, e1, _, _⟩
  · have : L = [] := by simpa using e2
    subst this
    simp at hx
  · injection e1 with e1 e2 e3
    subst e1
    exact ⟨g, rfl, OwV.cell h.1 (by rw [List.getElem?_map, hx]; rfl)⟩
theorem nodup_mid {L : List Nat} {x : Nat} (h : L.Nodup) (hx : x ∉ L) (p : Nat) : (L.take p ++ x :: L.drop p).Nodup := by
  rw [List.nodup_append, List.nodup_cons]
  have h' : (L.take p ++ L.drop p).Nodup := by rw [List.take_append_drop]; exact h
  rw [List.nodup_append] at h'
  refine ⟨h'.1, ⟨fun hm => hx (List.mem_of_mem_drop hm), h'.2.1⟩, fun a ha b hb => ?_⟩
  rcases List.mem_cons.1 hb with rfl | hb
  · rintro rfl
    exact hx (List.mem_of_mem_take ha)
  · exact h'.2.2 a ha b hb
theorem mem_mid {α : Type} {L : List α} {x y : α} {p : Nat} (h : y ∈ L.take p ++ x :: L.drop p) : y = x ∨ y ∈ L := by
  rcases List.mem_append.1 h with h | h
  · exact Or.inr (List.mem_of_mem_take h)
  · rcases List.mem_cons.1 h with h | h
    · exact Or.inl h
    · exact Or.inr (List.mem_of_mem_drop h)
def cmpG (F R : List Int) (a b : Gear) : Int := tth F a.1 * tth R b.2 - tth F b.1 * tth R a.2
def sgG (d : Int) : Int := if d < 0 then -1 else if 0 < d then 1 else 0
theorem leG_cmp (F R : List Int) (a b : Gear) : leG F R a b = decide (cmpG F R a b ≤ 0) := by
  unfold leG cmpG
  congr 1
  exact propext ⟨fun h => by omega, fun h => by omega⟩
theorem mulT {x y : Int} (h0 : 20 ≤ x) (h1 : x ≤ 60) (h2 : 9 ≤ y) (h3 : y ≤ 52) : 0 ≤ x * y ∧ x * y ≤ 3120 :=
  ⟨Int.mul_nonneg (by omega) (by omega), Int.le_trans (Int.mul_le_mul h1 h3 (by omega) (by omega)) (by decide)⟩

set_option maxHeartbeats 800000 in
theorem compareRatios_any (vF vR : Value) (F R : List Int) (rd : Int) (i1 j1 i2 j2 pa pb : Nat) (w : World) (hF : RdI w vF F) (hR : RdI w vR R) (hn : F.length ≤ 1048576) (hm : R.length ≤ 1048576) (tF : teethR F 3 20 60 = true) (tR : teethR R 12 9 52 = true) (ha : w.heap[pa]? = some (.cells #[.int .i64 i1, .int .i64 j1] 2 (0, 0))) (hb : w.heap[pb]? = some (.cells #[.int .i64 i2, .int .i64 j2] 2 (0, 0))) (hi1 : i1 < F.length) (hj1 : j1 < R.length) (hi2 : i2 < F.length) (hj2 : j2 < R.length) :
    Calls Try.prog 104 #[.agg #[vF, vR, .int .i64 rd], .slice (some ⟨pa, 0, none⟩) 2 2, .slice (some ⟨pb, 0, none⟩) 2 2] w fun e w' => e = .returned (.int .i64 (cmpG F R ((i1 : Int), (j1 : Int)) ((i2 : Int), (j2 : Int)))) ∧ Below w.heap.size w w' := by
  obtain ⟨x1, x2, -⟩ := (teethR_at tF).2.2 i1 hi1
  obtain ⟨y1, y2, -⟩ := (teethR_at tF).2.2 i2 hi2
  obtain ⟨z1, z2, -⟩ := (teethR_at tR).2.2 j1 hj1
  obtain ⟨u1, u2, -⟩ := (teethR_at tR).2.2 j2 hj2
  have HE : Hid (cmpG F R ((i1 : Int), (j1 : Int)) ((i2 : Int), (j2 : Int)) = F.getD i1 0 * R.getD j2 0 - F.getD i2 0 * R.getD j1 0) := by
    show _ = _
    unfold cmpG
    rw [tth_eq (by omega), tth_eq (by omega), tth_eq (by omega), tth_eq (by omega)]
  have HA := Lib.hid ha
  have HBb := Lib.hid hb
  have hla := obj_lt ha
  have hlb := obj_lt hb
  clear ha hb tF tR
  have HF := Lib.hid hF
  have HRr := Lib.hid hR
  obtain ⟨aF, cF, rfl, -⟩ := hF
  obtain ⟨aR, cR, rfl, -⟩ := hR
  go_enter Try.func104, Try.ntmps104
  go_wp2_with fail
  generalize hw : w.alloc (.cells #[.slice aF F.length cF, .slice aR R.length cR, .int .i64 rd] 28) = W0
  have bx0 : W0.cell? ⟨w.heap.size, 0, none⟩ = some (.slice aF F.length cF) := by rw [← hw]; simp [go_sem]
  have bx1 : W0.cell? ⟨w.heap.size, 1, none⟩ = some (.slice aR R.length cR) := by rw [← hw]; simp [go_sem]
  have bx2 : W0.cell? ⟨w.heap.size, 2, none⟩ = some (.int .i64 rd) := by rw [← hw]; simp [go_sem]
  have hbx : w.heap.size < W0.heap.size := by rw [← hw]; simp
  have HTW : Hid (Below w.heap.size w W0) := by
    show Below _ _ _
    rw [← hw]; exact (Below.refl _ _).alloc (Nat.le_refl _) _
  have HF0 := Lib.hid (show RdI W0 (.slice aF F.length cF) F by rw [← hw]; exact HF.out.alloc _)
  have HR0 := Lib.hid (show RdI W0 (.slice aR R.length cR) R by rw [← hw]; exact HRr.out.alloc _)
  have HBX := Lib.hid (And.intro bx0 (And.intro bx1 bx2))
  have T0 := Below.refl W0.heap.size W0
  clear hw
  have ka := (HTW.out.block pa hla).trans HA.out
  have kb := (HTW.out.block pb hlb).trans HBb.out
  have ca0 : W0.cell? ⟨pa, 0, none⟩ = some (.int .i64 i1) := cell_of_row W0 pa 0 _ _ (0, 0) ka
  have ca1 : W0.cell? ⟨pa, 1, none⟩ = some (.int .i64 j1) := cell_of_row W0 pa 1 _ _ (0, 0) ka
  have cb0 : W0.cell? ⟨pb, 0, none⟩ = some (.int .i64 i2) := cell_of_row W0 pb 0 _ _ (0, 0) kb
  have cb1 : W0.cell? ⟨pb, 1, none⟩ = some (.int .i64 j2) := cell_of_row W0 pb 1 _ _ (0, 0) kb
  clear ka kb
  obtain ⟨bF, oF, e1, p1⟩ := HF0.out.at i1 hi1
  subst e1
  obtain ⟨b2, o2, e2, p2⟩ := HF0.out.at i2 hi2
  simp only [Option.some.injEq, Addr.mk.injEq] at e2
  obtain ⟨rfl, rfl, -⟩ := e2
  obtain ⟨bR, oR, e1, p3⟩ := HR0.out.at j1 hj1
  subst e1
  obtain ⟨b2, o2, e2, p4⟩ := HR0.out.at j2 hj2
  simp only [Option.some.injEq, Addr.mk.injEq] at e2
  obtain ⟨rfl, rfl, -⟩ := e2
  generalize F.getD i1 0 = x at *
  generalize F.getD i2 0 = y at *
  generalize R.getD j1 0 = z at *
  generalize R.getD j2 0 = u at *
  have q1 := mulT x1 x2 u1 u2
  have q2 := mulT y1 y2 z1 z2
  generalize hxu : x * u = xu at *
  generalize hyz : y * z = yz at *
  have jj1 : IntKind.i64.wrap xu = xu := IntWalk.i64_in _ (by omega)
  have jj2 : IntKind.i64.wrap yz = yz := IntWalk.i64_in _ (by omega)
  have jj3 : IntKind.i64.wrap (xu - yz) = xu - yz := IntWalk.i64_in _ (by omega)
  have hFi1 : (i1 : Int) < (F.length : Int) := by omega
  have hFi2 : (i2 : Int) < (F.length : Int) := by omega
  have hRj1 : (j1 : Int) < (R.length : Int) := by omega
  have hRj2 : (j2 : Int) < (R.length : Int) := by omega
  have h01 : (0 : Int) ≤ (i1 : Int) := by omega
  have h02 : (0 : Int) ≤ (i2 : Int) := by omega
  have h03 : (0 : Int) ≤ (j1 : Int) := by omega
  have h04 : (0 : Int) ≤ (j2 : Int) := by omega
  go_wp2
  go_quiet (fail)
  go_wp2
  go_ret
  exact ⟨ret_int HE.out.symm, Below.trans HTW.out ((blw_drewN (T0.mono (Nat.le_of_lt hbx)) _))⟩

set_option maxHeartbeats 800000 in
theorem l09Compare_any (vF vR : Value) (F R : List Int) (rd : Int) (i1 j1 i2 j2 pa pb : Nat) (w : World) (hF : RdI w vF F) (hR : RdI w vR R) (hn : F.length ≤ 1048576) (hm : R.length ≤ 1048576) (tF : teethR F 3 20 60 = true) (tR : teethR R 12 9 52 = true) (ha : w.heap[pa]? = some (.cells #[.int .i64 i1, .int .i64 j1] 2 (0, 0))) (hb : w.heap[pb]? = some (.cells #[.int .i64 i2, .int .i64 j2] 2 (0, 0))) (hi1 : i1 < F.length) (hj1 : j1 < R.length) (hi2 : i2 < F.length) (hj2 : j2 < R.length) :
    Calls Try.prog 103 #[.agg #[vF, vR, .int .i64 rd], .slice (some ⟨pa, 0, none⟩) 2 2, .slice (some ⟨pb, 0, none⟩) 2 2] w fun e w' => e = .returned (.int .i64 (sgG (cmpG F R ((i1 : Int), (j1 : Int)) ((i2 : Int), (j2 : Int))))) ∧ Below w.heap.size w w' := by
  obtain ⟨x1, x2, -⟩ := (teethR_at tF).2.2 i1 hi1
  obtain ⟨y1, y2, -⟩ := (teethR_at tF).2.2 i2 hi2
  obtain ⟨z1, z2, -⟩ := (teethR_at tR).2.2 j1 hj1
  obtain ⟨u1, u2, -⟩ := (teethR_at tR).2.2 j2 hj2
  have HE : Hid (cmpG F R ((i1 : Int), (j1 : Int)) ((i2 : Int), (j2 : Int)) = F.getD i1 0 * R.getD j2 0 - F.getD i2 0 * R.getD j1 0) := by
    show _ = _
    unfold cmpG
    rw [tth_eq (by omega), tth_eq (by omega), tth_eq (by omega), tth_eq (by omega)]
  have HA := Lib.hid ha
  have HBb := Lib.hid hb
  have hla := obj_lt ha
  have hlb := obj_lt hb
  clear ha hb tF tR
  have HF := Lib.hid hF
  have HRr := Lib.hid hR
  obtain ⟨aF, cF, rfl, -⟩ := hF
  obtain ⟨aR, cR, rfl, -⟩ := hR
  go_enter Try.func103, Try.ntmps103
  go_wp2_with fail
  generalize hw : w.alloc (.cells #[.slice aF F.length cF, .slice aR R.length cR, .int .i64 rd] 28) = W0
  have bx0 : W0.cell? ⟨w.heap.size, 0, none⟩ = some (.slice aF F.length cF) := by rw [← hw]; simp [go_sem]
  have bx1 : W0.cell? ⟨w.heap.size, 1, none⟩ = some (.slice aR R.length cR) := by rw [← hw]; simp [go_sem]
  have bx2 : W0.cell? ⟨w.heap.size, 2, none⟩ = some (.int .i64 rd) := by rw [← hw]; simp [go_sem]
  have hbx : w.heap.size < W0.heap.size := by rw [← hw]; simp
  have HTW : Hid (Below w.heap.size w W0) := by
    show Below _ _ _
    rw [← hw]; exact (Below.refl _ _).alloc (Nat.le_refl _) _
  have HF0 := Lib.hid (show RdI W0 (.slice aF F.length cF) F by rw [← hw]; exact HF.out.alloc _)
  have HR0 := Lib.hid (show RdI W0 (.slice aR R.length cR) R by rw [← hw]; exact HRr.out.alloc _)
  have HBX := Lib.hid (And.intro bx0 (And.intro bx1 bx2))
  have T0 := Below.refl W0.heap.size W0
  clear hw
  have ka := (HTW.out.block pa hla).trans HA.out
  have kb := (HTW.out.block pb hlb).trans HBb.out
  have ca0 : W0.cell? ⟨pa, 0, none⟩ = some (.int .i64 i1) := cell_of_row W0 pa 0 _ _ (0, 0) ka
  have ca1 : W0.cell? ⟨pa, 1, none⟩ = some (.int .i64 j1) := cell_of_row W0 pa 1 _ _ (0, 0) ka
  have cb0 : W0.cell? ⟨pb, 0, none⟩ = some (.int .i64 i2) := cell_of_row W0 pb 0 _ _ (0, 0) kb
  have cb1 : W0.cell? ⟨pb, 1, none⟩ = some (.int .i64 j2) := cell_of_row W0 pb 1 _ _ (0, 0) kb
  clear ka kb
  obtain ⟨bF, oF, e1, p1⟩ := HF0.out.at i1 hi1
  subst e1
  obtain ⟨b2, o2, e2, p2⟩ := HF0.out.at i2 hi2
  simp only [Option.some.injEq, Addr.mk.injEq] at e2
  obtain ⟨rfl, rfl, -⟩ := e2
  obtain ⟨bR, oR, e1, p3⟩ := HR0.out.at j1 hj1
  subst e1
  obtain ⟨b2, o2, e2, p4⟩ := HR0.out.at j2 hj2
  simp only [Option.some.injEq, Addr.mk.injEq] at e2
  obtain ⟨rfl, rfl, -⟩ := e2
  generalize F.getD i1 0 = x at *
  generalize F.getD i2 0 = y at *
  generalize R.getD j1 0 = z at *
  generalize R.getD j2 0 = u at *
  have q1 := mulT x1 x2 u1 u2
  have q2 := mulT y1 y2 z1 z2
  generalize hxu : x * u = xu at *
  generalize hyz : y * z = yz at *
  have jj1 : IntKind.i64.wrap xu = xu := IntWalk.i64_in _ (by omega)
  have jj2 : IntKind.i64.wrap yz = yz := IntWalk.i64_in _ (by omega)
  have jj3 : IntKind.i64.wrap (xu - yz) = xu - yz := IntWalk.i64_in _ (by omega)
  have hFi1 : (i1 : Int) < (F.length : Int) := by omega
  have hFi2 : (i2 : Int) < (F.length : Int) := by omega
  have hRj1 : (j1 : Int) < (R.length : Int) := by omega
  have hRj2 : (j2 : Int) < (R.length : Int) := by omega
  have h01 : (0 : Int) ≤ (i1 : Int) := by omega
  have h02 : (0 : Int) ≤ (i2 : Int) := by omega
  have h03 : (0 : Int) ≤ (j1 : Int) := by omega
  have h04 : (0 : Int) ≤ (j2 : Int) := by omega
  go_wp2
  go_quiet (fail)
  have HS : Hid (sgG (cmpG F R ((i1 : Int), (j1 : Int)) ((i2 : Int), (j2 : Int))) = if xu < yz then -1 else if yz < xu then 1 else 0) := by
    show _ = _
    rw [HE.out]
    unfold sgG
    by_cases h1 : xu < yz
    · rw [if_pos (by omega), if_pos h1]
    · rw [if_neg (by omega), if_neg h1]
      by_cases h2 : yz < xu
      · rw [if_pos (by omega), if_pos h2]
      · rw [if_neg (by omega), if_neg h2]
  by_cases h1 : xu < yz
  · have HT := Lib.hid (HS.out.trans (if_pos h1))
    go_wp2
    go_ret
    exact ⟨ret_int HT.out.symm, Below.trans HTW.out ((blw_drewN (T0.mono (Nat.le_of_lt hbx)) _))⟩
  · by_cases h2 : yz < xu
    · have HT := Lib.hid ((HS.out.trans (if_neg h1)).trans (if_pos h2))
      go_wp2
      go_ret
      exact ⟨ret_int HT.out.symm, Below.trans HTW.out ((blw_drewN (T0.mono (Nat.le_of_lt hbx)) _))⟩
    · have HT := Lib.hid ((HS.out.trans (if_neg h1)).trans (if_neg h2))
      go_wp2
      go_ret
      exact ⟨ret_int HT.out.symm, Below.trans HTW.out ((blw_drewN (T0.mono (Nat.le_of_lt hbx)) _))⟩

end Go.Proofs.Ytfdnhamkkcmnfaa
