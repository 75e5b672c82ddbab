/- Contract of l11Ways: the places of a train in the order in which they are found, and the way to each. -/
import Derived.Test.YtfdnhamkkcmnfaaBfsG
import Derived.Test.YtfdnhamkkcmnfaaGrwA
import Derived.Deep.RegionHeld3
set_option linter.unusedSimpArgs false
set_option linter.unusedVariables false
namespace Go.Proofs.Ytfdnhamkkcmnfaa
open Go.RowKit

set_option maxHeartbeats 800000 in
theorem l01Own_any (u : Value) (xs : List Int) (w : World) (hr : RdI w u xs) (hn : xs.length ≤ 1048576) :
    Calls Try.prog 106 #[u] w fun e w' => ∃ v, e = .returned v ∧ OwI w' w.heap.size v xs ∧ Below w.heap.size w w' := by
  have HR := Lib.hid (hr.below ((Below.refl _ _).alloc (Nat.le_refl _) (.cells #[] 2)))
  have HO := Lib.hid (OwI.lit0 w)
  obtain ⟨a, c, rfl, -⟩ := hr
  go_enter Try.func106, Try.ntmps106
  go_wp2_with (at_builtin; refine wpList_appI _ rfl _ _ rfl w.heap.size _ _ [] xs rfl rfl HO.out HR.out (by simp; omega) (by simp) ?_; intro v' w1 hown hgrow)
  have HO1 := Lib.hid hown
  have HG := Lib.hid hgrow
  clear hown hgrow
  go_ret
  exact ⟨_, rfl, by simpa using HO1.out, OwI.grown HO.out ((Below.refl _ _).alloc (Nat.le_refl _) _) (by simp) HG.out⟩
theorem any_take {xs : List Int} {k : Int} {j : Nat} (hj : j < xs.length) (h : (xs.take j).any (fun y => decide (y = k)) = false) (hx : ¬ xs.getD j 0 = k) : (xs.take (j + 1)).any (fun y => decide (y = k)) = false := by
  rw [List.take_succ_eq_append_getElem hj, List.any_append, h]
  have : xs.getD j 0 = xs[j] := by simp [hj]
  rw [this] at hx
  simp [hx]
theorem any_at {xs : List Int} {k : Int} {j : Nat} (hj : j < xs.length) (hx : xs.getD j 0 = k) : xs.any (fun y => decide (y = k)) = true := by
  rw [List.any_eq_true]
  refine ⟨xs[j], List.getElem_mem hj, ?_⟩
  have : xs.getD j 0 = xs[j] := by simp [hj]
  rw [← this, hx]
  simp
set_option maxHeartbeats 800000 in
theorem l01Has_any (u : Value) (xs : List Int) (k : Int) (w : World) (hr : RdI w u xs) (hn : xs.length ≤ 1048576) :
    Calls Try.prog 105 #[u, .int .i64 k] w fun e w' => e = .returned (.bool (xs.any (fun y => decide (y = k)))) ∧ w = w' := by
  obtain ⟨a, c, rfl, hcell⟩ := hr
  have HC := Lib.hid hcell
  clear hcell
  go_enter Try.func105, Try.ntmps105
  go_wp2
  go_loop [5] (fun i => ∃ j : Nat, j ≤ xs.length ∧ i = .int .i64 j ∧ Hid ((xs.take j).any (fun y => decide (y = k)) = false)) (fun i => xs.length - (intOf i).toNat)
  case atStart => exact ⟨0, Nat.zero_le _, rfl, rfl⟩
  case round =>
    obtain ⟨j, hj, rfl, hall⟩ := hrel
    by_cases hlt : j < xs.length
    · obtain ⟨b, o, rfl, hc⟩ := HC.out j hlt
      have hlt' : (j : Int) < (xs.length : Int) := by omega
      have hj0 : (0 : Int) ≤ (j : Int) := by omega
      by_cases hx : xs.getD j 0 = k
      · have HE := Lib.hid (any_at hlt hx)
        rw [hx] at hc
        clear hx
        go_wp2
        go_ret
        exact ⟨ret_bool HE.out.symm, rfl⟩
      · have HE := Lib.hid (any_take hlt hall.out hx)
        generalize xs.getD j 0 = x at *
        have hxq : (x == k) = false := by rw [beq_eq_false_iff_ne]; exact hx
        clear hx
        go_wp2
        go_round
        case rel => exact ⟨j + 1, by omega, by go_num, HE⟩
        case measure => simp [intOf]; omega
    · obtain rfl : j = xs.length := by omega
      have HE : Hid (xs.any (fun y => decide (y = k)) = false) := by have := hall.out; rw [List.take_length] at this; exact this
      go_wp2
      go_ret
      exact ⟨ret_bool HE.out.symm, rfl⟩
def idsV (V : Fnd) : List Int := V.map fun x => numG x.1
/-- The ways, each in memory of its own, apart from the slices seen and ways. -/
def WEl (w : World) (base : Nat) (us : List Value) (V : Fnd) (sb wb : Option Nat) : Prop :=
  us.length = V.length ∧ ∀ (j : Nat) (x : En) (u : Value), V[j]? = some x → us[j]? = some u → OwI w base u x.2 ∧ u.oneCell' = true ∧ ∀ k, u.ownBlock = some k → sb ≠ some k ∧ wb ≠ some k
def WSt (w : World) (base : Nat) (sv wv : Value) (V : Fnd) : Prop :=
  ∃ us, OwI w base sv (idsV V) ∧ OwV w base wv us ∧ WEl w base us V sv.ownBlock wv.ownBlock ∧ ∀ k, sv.ownBlock = some k → wv.ownBlock ≠ some k
theorem WEl.below {w w' : World} {base : Nat} {us : List Value} {V : Fnd} {sb wb : Option Nat} (h : WEl w base us V sb wb) (hb : Below w.heap.size w w') : WEl w' base us V sb wb :=
  ⟨h.1, fun j x u hx hu => ⟨(h.2 j x u hx hu).1.below hb, (h.2 j x u hx hu).2⟩⟩
theorem WSt.below {w w' : World} {base : Nat} {sv wv : Value} {V : Fnd} (h : WSt w base sv wv V) (hb : Below w.heap.size w w') : WSt w' base sv wv V := by
  obtain ⟨us, h1, h2, h3, h4⟩ := h
  exact ⟨us, h1.below hb, h2.below hb, h3.below hb, h4⟩
theorem WSt.mono {w : World} {base base' : Nat} {sv wv : Value} {V : Fnd} (h : WSt w base sv wv V) (hb : base' ≤ base) : WSt w base' sv wv V := by
  obtain ⟨us, h1, h2, h3, h4⟩ := h
  exact ⟨us, h1.mono hb, h2.mono hb, ⟨h3.1, fun j x u hx hu => ⟨(h3.2 j x u hx hu).1.mono hb, (h3.2 j x u hx hu).2⟩⟩, h4⟩
theorem OwI.one' {w : World} {base : Nat} {v : Value} {xs : List Int} (h : OwI w base v xs) : v.oneCell' = true := by
  rcases h.form with ⟨rfl, _⟩ | ⟨g, cap, rfl, _⟩ <;> rfl
/-- Behind the append to seen. -/
theorem ways_1 {base : Nat} {W0 wa w1 : World} {sv wv v1 : Value} {V : Fnd} {us : List Value} {o1 : Obj} {ids : List Int} (hbw : Below base W0 wa) (hB : base ≤ wa.heap.size) (hS : OwI wa base sv ids) (hW : OwV wa base wv us) (hE : WEl wa base us V sv.ownBlock wv.ownBlock) (hne : ∀ k, sv.ownBlock = some k → wv.ownBlock ≠ some k)
    (g1 : (wa.alloc o1).grownBy w1 sv.ownBlock) (k1 : v1.ownBlock = sv.ownBlock ∨ v1.ownBlock = some (wa.alloc o1).heap.size) :
    OwV w1 base wv us ∧ WEl w1 base us V v1.ownBlock wv.ownBlock ∧ (∀ k, v1.ownBlock = some k → wv.ownBlock ≠ some k) ∧ Below base W0 w1 := by
  have hWl := World.ownsRow.lt hW
  refine ⟨(hW.alloc _).far g1 (fun k hk e => hne k e hk), ⟨hE.1, fun j x u hx hu => ?_⟩, fun k hk e => ?_, (hbw.alloc hB _).grown g1 (by simp; omega) (fun k hk => (World.ownsRow.lt hS k hk).1)⟩
  · obtain ⟨e1, e2, e3⟩ := hE.2 j x u hx hu
    refine ⟨(e1.alloc _).far g1 (fun k hk => (e3 k hk).1), e2, fun k hk => ⟨fun e => ?_, (e3 k hk).2⟩⟩
    rcases k1 with k1 | k1
    · exact (e3 k hk).1 (k1.symm.trans e)
    · rw [k1] at e
      injection e with e
      have := (World.ownsRow.lt e1 k hk).2
      simp at e
      omega
  · rcases k1 with k1 | k1
    · exact hne k (k1.symm.trans hk) e
    · rw [k1] at hk
      injection hk with hk
      have := (hWl k e).2
      simp at hk
      omega
/-- Behind the append to the copied way. -/
theorem ways_2 {w1 w2 w3 : World} {v2 : Value} {xs : List Int} {o2 : Obj} (b2 : Below w1.heap.size w1 w2) (a2 : OwI w2 w1.heap.size v2 xs) (g3 : (w2.alloc o2).grownBy w3 v2.ownBlock) : Below w1.heap.size w1 w3 :=
  (b2.alloc b2.size _).grown g3 (by have := b2.size; simp; omega) (fun k hk => (World.ownsRow.lt a2 k hk).1)
theorem ways_4 {base : Nat} {W0 w1 w3 w4 : World} {wv v1 v3 v4 : Value} {V : Fnd} {us : List Value} {o3 : Obj} {x : En} {q : Gr} {mv : Int} (hbw : Below base W0 w1) (hB : base ≤ w1.heap.size)
    (hS : OwI w1 base v1 (idsV V ++ [numG q])) (hW : OwV w1 base wv us) (hE : WEl w1 base us V v1.ownBlock wv.ownBlock) (hne : ∀ k, v1.ownBlock = some k → wv.ownBlock ≠ some k)
    (b3 : Below w1.heap.size w1 w3) (a3 : OwI w3 w1.heap.size v3 (x.2 ++ [mv])) (a4 : OwV w4 base v4 (us ++ [v3])) (g4 : (w3.alloc o3).grownBy w4 wv.ownBlock) (k4 : v4.ownBlock = wv.ownBlock ∨ v4.ownBlock = some (w3.alloc o3).heap.size) :
    WSt w4 base v1 v4 (V ++ [(q, x.2 ++ [mv])]) ∧ Below base W0 w4 := by
  have hz := b3.size
  have hSl := World.ownsRow.lt hS
  have hWl := World.ownsRow.lt hW
  have h3l := World.ownsRow.lt a3
  refine ⟨⟨us ++ [v3], ?_, a4, ⟨by simp [hE.1], fun j y u hy hu => ?_⟩, fun k hk e => ?_⟩, ((hbw.trans (b3.mono hB)).alloc (by omega) _).grown g4 (by simp; omega) (fun k hk => (hWl k hk).1)⟩
  · have := ((hS.below b3).alloc o3).far g4 (fun k hk e => hne k hk e)
    unfold idsV at this ⊢
    rw [List.map_append]
    exact this
  · rcases getq_snoc hy with ⟨hy, hj⟩ | ⟨rfl, rfl⟩
    · rw [List.getElem?_append_left (by rw [hE.1]; exact hj)] at hu
      obtain ⟨e1, e2, e3⟩ := hE.2 j y u hy hu
      have hul := World.ownsRow.lt e1
      refine ⟨((e1.below b3).alloc o3).far g4 (fun k hk => (e3 k hk).2), e2, fun k hk => ⟨(e3 k hk).1, fun e => ?_⟩⟩
      rcases k4 with k4 | k4
      · exact (e3 k hk).2 (k4.symm.trans e)
      · rw [k4] at e
        injection e with e
        have := (hul k hk).2
        simp at e
        omega
    · rw [List.getElem?_append_right (by rw [hE.1]; exact Nat.le_refl _), hE.1, Nat.sub_self] at hu
      simp at hu
      subst hu
      refine ⟨((a3.mono hB).alloc o3).far g4 (fun k hk e => ?_), a3.one', fun k hk => ⟨fun e => ?_, fun e => ?_⟩⟩
      · have := (h3l k hk).1
        have := (hWl k e).2
        omega
      · have := (h3l k hk).1
        have := (hSl k e).2
        omega
      · have := h3l k hk
        rcases k4 with k4 | k4
        · have := (hWl k (k4.symm.trans e)).2
          omega
        · rw [k4] at e
          injection e with e
          simp at e
          omega
  · rcases k4 with k4 | k4
    · exact hne k hk (k4.symm.trans e)
    · rw [k4] at e
      injection e with e
      have := (hSl k hk).2
      simp at e
      omega
theorem WSt.start (W0 : World) (s : Gr) {N : Nat} (hN : W0.heap.size = N) :
    WSt (((W0.alloc (.cells #[.int .i64 (numG s)] 2)).alloc (.cells #[] 2)).alloc (.cells #[.slice (some ⟨N + 1, 0, none⟩) 0 0] 22)) N (.slice (some ⟨N, 0, none⟩) 1 1) (.slice (some ⟨N + 2, 0, none⟩) 1 1) [(s, [])] := by
  subst hN
  have h1 : OwI (W0.alloc (.cells #[.int .i64 (numG s)] 2)) W0.heap.size (.slice (some ⟨W0.heap.size, 0, none⟩) 1 1) [numG s] := World.ownsRow_lit W0 #[.int .i64 (numG s)] 1 (Nat.le_refl _) (by unfold maxLen; omega) rfl
  have h2 := World.ownsRow_lit (base := W0.heap.size) (e := 2) (size := 1) (W0.alloc (.cells #[.int .i64 (numG s)] 2)) #[] 0 (by simp) (by unfold maxLen; omega) rfl
  have h3 := World.ownsRow_lit (base := W0.heap.size) (e := 22) (size := 1) ((W0.alloc (.cells #[.int .i64 (numG s)] 2)).alloc (.cells #[] 2)) #[.slice (some ⟨W0.heap.size + 1, 0, none⟩) 0 0] 1 (by simp; omega) (by unfold maxLen; omega) rfl
  rw [World.size_alloc] at h2
  rw [World.size_alloc, World.size_alloc] at h3
  refine ⟨[.slice (some ⟨W0.heap.size + 1, 0, none⟩) 0 0], (h1.alloc _).alloc _, h3, ⟨rfl, fun j x u hx hu => ?_⟩, fun k hk e => ?_⟩
  · have hj := getV_lt hu
    simp at hj
    subst hj
    simp at hx hu
    subst hx hu
    refine ⟨World.ownsRow.alloc h2 _, rfl, fun k hk => ?_⟩
    have hk' : some (W0.heap.size + 1) = some k := hk
    injection hk' with hk'
    subst hk'
    refine ⟨fun e => ?_, fun e => ?_⟩
    · have e' : some W0.heap.size = some (W0.heap.size + 1) := e
      injection e' with e'
      omega
    · have e' : some (W0.heap.size + 2) = some (W0.heap.size + 1) := e
      injection e' with e'
      omega
  · have hk' : some W0.heap.size = some k := hk
    have e' : some (W0.heap.size + 2) = some k := e
    injection hk' with hk'
    injection e' with e'
    omega
theorem WSt.shape {w : World} {base : Nat} {sv wv : Value} {V : Fnd} (h : WSt w base sv wv V) (hp : 0 < V.length) : ∃ gs cs gw cw, sv = .slice (some ⟨gs, 0, none⟩) V.length cs ∧ wv = .slice (some ⟨gw, 0, none⟩) V.length cw := by
  obtain ⟨us, h1, h2, h3, h4⟩ := h
  have e1 : (idsV V).length = V.length := by unfold idsV; rw [List.length_map]
  have e2 := h3.1
  rcases h1.form with ⟨_, e⟩ | ⟨gs, cs, rfl, _, _⟩
  · rw [e] at e1; simp at e1; omega
  · rcases h2.form with ⟨_, e⟩ | ⟨gw, cw, rfl, _, _⟩
    · rw [e] at e2; simp at e2; omega
    · exact ⟨gs, cs, gw, cw, by rw [e1], by rw [e2]⟩
theorem OwI.shapeN {w : World} {base : Nat} {v : Value} {xs : List Int} {x : Int} (h : OwI w base v (xs ++ [x])) : ∃ g c, v = .slice (some ⟨g, 0, none⟩) (xs.length + 1) c := by
  rcases h.form with ⟨_, e⟩ | ⟨g, c, rfl, _⟩
  · simp at e
  · exact ⟨g, c, by simp⟩
theorem Bi.pos {nx : Int → Gr → Gr} {ok : Gr → Bool} {s : Gr} {V : Fnd} {i : Nat} {m : Int} (h : Bi nx ok s V i m) : 0 < V.length := getq_lt h.first
theorem Bi.grow {nx : Int → Gr → Gr} {ok : Gr → Bool} {s : Gr} {V : Fnd} {i : Nat} {m : Int} (h : Bi nx ok s V i m) : ∀ (b j : Nat) (x : En), j ≤ b → V[j]? = some x → x.2.length ≤ j := by
  intro b
  induction b with
  | zero =>
    intro j x hj hx
    obtain rfl : j = 0 := by omega
    rw [h.first] at hx
    injection hx with hx
    subst hx
    exact Nat.le_refl _
  | succ b ih =>
    intro j x hj hx
    rcases Nat.eq_zero_or_pos j with rfl | hj0
    · exact ih 0 x (Nat.zero_le _) hx
    · obtain ⟨p, q, y, e1, e2, e3, e4⟩ := h.parent j x hx hj0
      have hpj : p < j := by
        rcases Nat.lt_or_ge p j with h1 | h1
        · exact h1
        · exfalso
          have hy := h.path p y e1
          have hpos := numA_pos y.2 1 hy.way (by omega)
          have hx2 : numA 1 x.2 = 4 * numA 1 y.2 + q := by rw [e2, numA_snoc]
          have hxw := (h.path j x hx).way
          rw [e2] at hxw
          have hq := (way_snoc_ok hxw).2.1
          rcases Nat.lt_or_eq_of_le h1 with h2 | h2
          · have := h.sorted j p x y h2 hx e1
            omega
          · subst h2
            rw [hx] at e1
            injection e1 with e1
            rw [← e1] at hx2 hpos
            omega
      have := ih p y (by omega) e1
      rw [e2, List.length_append, List.length_singleton]
      omega
theorem Bi.pathLen {nx : Int → Gr → Gr} {ok : Gr → Bool} {s : Gr} {V : Fnd} {i : Nat} {m : Int} (h : Bi nx ok s V i m) {j : Nat} {x : En} (hx : V[j]? = some x) : x.2.length ≤ j := h.grow j j x (Nat.le_refl _) hx
theorem stepV_no {nx : Int → Gr → Gr} {ok : Gr → Bool} {x : En} {V : Fnd} {m : Int} (h : ok (nx m x.1) = false ∨ hasP V (nx m x.1) = true) : stepV nx ok x V m = V := by
  unfold stepV
  rcases h with h | h <;> simp [h]
theorem stepV_yes {nx : Int → Gr → Gr} {ok : Gr → Bool} {x : En} {V : Fnd} {m : Int} (h : ok (nx m x.1) = true) (h2 : hasP V (nx m x.1) = false) : stepV nx ok x V m = V ++ [(nx m x.1, x.2 ++ [m])] := by
  unfold stepV
  simp [h, h2]
theorem l11Move_r (vF vR : Value) (F R : List Int) (rd limit f r move qf qr : Int) (k : Bool) (w : World) (hF : RdI w vF F) (hR : RdI w vR R) (hn : F.length ≤ 1048576) (hm : R.length ≤ 1048576) (l0 : 0 ≤ limit) (l4 : limit ≤ 4) (f0 : -1048576 ≤ f) (f1 : f ≤ 1048576) (r0 : -1048576 ≤ r) (r1 : r ≤ 1048576) (m0 : 0 ≤ move) (m3 : move ≤ 3) (h : (qf, qr, k) = shR F R limit move f r) :
    Calls Try.prog 72 #[.agg #[vF, vR, .int .i64 rd], .int .i64 limit, .int .i64 f, .int .i64 r, .int .i64 move] w fun e w' => e = .returned (.tuple #[.int .i64 qf, .int .i64 qr, .bool k]) ∧ Below w.heap.size w w' :=
  (l11Move_any vF vR F R rd limit f r move w hF hR hn hm l0 l4 f0 f1 r0 r1 m0 m3).mono fun e w' q => by rw [q.1, ← h]; exact ⟨rfl, q.2⟩
theorem blw_ofDrewX {B : Nat} {w w' : World} (h : Below B w.drew w') : Below B w w' := ⟨h.os, h.tape, h.output, h.size, h.block⟩
theorem mem_ids {V : Fnd} {i : Nat} {x : En} (h : V[i]? = some x) : (idsV V).getD i 0 = numG x.1 := by
  unfold idsV
  rw [List.getD_eq_getElem?_getD, List.getElem?_map, h]
  rfl
set_option maxRecDepth 100000 in
set_option maxHeartbeats 4000000 in
theorem l11Ways_any (vF vR : Value) (F R : List Int) (rd : Int) (limit f0 r0 : Int) (w : World) (hF : RdI w vF F) (hR : RdI w vR R) (hn : F.length ≤ 1048576) (hm : R.length ≤ 1048576) (l0 : 0 ≤ limit) (l4 : limit ≤ 4) (h3 : F.length ≤ 3) (h12 : R.length ≤ 12) (hs : okB F R limit (f0, r0) = true) :
    Calls Try.prog 84 #[.agg #[vF, vR, .int .i64 rd], .int .i64 limit, .int .i64 f0, .int .i64 r0] w fun e w' => ∃ (sv wv : Value) (V : Fnd), e = .returned (.tuple #[sv, wv]) ∧ Done mvB (okB F R limit) (f0, r0) V ∧ WSt w' w.heap.size sv wv V ∧ Below w.heap.size w w' := by
  have hsg := okB_grid hs
  (try simp only at hsg)
  have hw1 : IntKind.i64.wrap (f0 * 12) = f0 * 12 := IntWalk.i64_in _ (by omega)
  have hw2 : IntKind.i64.wrap (f0 * 12 + r0) = f0 * 12 + r0 := IntWalk.i64_in _ (by omega)
  have HF := Lib.hid hF
  have HRr := Lib.hid hR
  obtain ⟨aF, cF, rfl, -⟩ := hF
  obtain ⟨aR, cR, rfl, -⟩ := hR
  go_enter Try.func84, Try.ntmps84
  go_wp2_with fail
  generalize hw : w.alloc (.cells #[.slice aF F.length cF, .slice aR R.length cR, .int .i64 rd] 28) = W0
  have bx0 : W0.cell? ⟨w.heap.size, 0, none⟩ = some (.slice aF F.length cF) := by rw [← hw]; simp [go_sem]
  have bx1 : W0.cell? ⟨w.heap.size, 1, none⟩ = some (.slice aR R.length cR) := by rw [← hw]; simp [go_sem]
  have bx2 : W0.cell? ⟨w.heap.size, 2, none⟩ = some (.int .i64 rd) := by rw [← hw]; simp [go_sem]
  have hbx : w.heap.size < W0.heap.size := by rw [← hw]; simp
  have HTW : Hid (Below w.heap.size w W0) := by
    show Below _ _ _
    rw [← hw]; exact (Below.refl _ _).alloc (Nat.le_refl _) _
  have HF0 := Lib.hid (show RdI W0 (.slice aF F.length cF) F by rw [← hw]; exact HF.out.alloc _)
  have HR0 := Lib.hid (show RdI W0 (.slice aR R.length cR) R by rw [← hw]; exact HRr.out.alloc _)
  have HBX := Lib.hid (And.intro bx0 (And.intro bx1 bx2))
  have T0 := Below.refl W0.heap.size W0
  have hWs : W0.heap.size = w.heap.size + 1 := by rw [← hw]; simp
  clear hw
  clear bx0 bx1 bx2
  go_wp2
  go_loopw [10, 11, 12] (fun ov uv iv wr => ∃ (i : Nat) (V : Fnd) (gs cs gw cw : Nat), i ≤ V.length ∧ iv = .int .i64 i ∧ ov = .slice (some ⟨gs, 0, none⟩) V.length cs ∧ uv = .slice (some ⟨gw, 0, none⟩) V.length cw ∧ Below W0.heap.size W0 wr ∧ Hid (WSt wr W0.heap.size (.slice (some ⟨gs, 0, none⟩) V.length cs) (.slice (some ⟨gw, 0, none⟩) V.length cw) V) ∧ Hid (Bi mvB (okB F R limit) (f0, r0) V i 0)) (fun _ _ iv _ => 40 - (intOf iv).toNat)
  case atStart => exact ⟨0, [((f0, r0), [])], w.heap.size + 1, 1, w.heap.size + 1 + 1 + 1, 1, Nat.zero_le _, rfl, rfl, rfl, (((Below.refl _ _).alloc (Nat.le_refl _) _).alloc (by simp) _).alloc (by simp; omega) _, (by show WSt _ _ _ _ _; rw [hWs]; exact WSt.start W0 (f0, r0) hWs), Bi.start _⟩
  case round =>
    obtain ⟨i, V, gs, cs, gw, cw, hi, rfl, rfl, rfl, hbw, hst, hbi⟩ := hrel
    have hVl := hbi.out.len hs h3 h12
    by_cases hlt : i < V.length
    · obtain ⟨⟨⟨xf, xr⟩, xw⟩, hxi⟩ : ∃ x, V[i]? = some x := ⟨_, List.getElem?_eq_getElem hlt⟩
      have hxg := okB_grid (hbi.out.inG hs hxi)
      (try simp only at hxg)
      have HXI := Lib.hid hxi
      have hlt' : (i : Int) < (V.length : Int) := by omega
      clear hxi hVl hi hlt
      go_wp2
      go_loopw [10, 11, 13] (fun ov uv mv wr => ∃ (m : Nat) (V : Fnd) (gs cs gw cw : Nat), m ≤ 4 ∧ mv = .int .i64 m ∧ ov = .slice (some ⟨gs, 0, none⟩) V.length cs ∧ uv = .slice (some ⟨gw, 0, none⟩) V.length cw ∧ Below W0.heap.size W0 wr ∧ Hid (WSt wr W0.heap.size (.slice (some ⟨gs, 0, none⟩) V.length cs) (.slice (some ⟨gw, 0, none⟩) V.length cw) V) ∧ Hid (Bi mvB (okB F R limit) (f0, r0) V i m) ∧ Hid (V[i]? = some ((xf, xr), xw))) (fun _ _ mv _ => 4 - (intOf mv).toNat)
      case atStart => exact ⟨0, V, gs, cs, gw, cw, by omega, rfl, rfl, rfl, hbw, hst, hbi, HXI⟩
      case round =>
        clear hbw hst hbi HXI hlt'
        obtain ⟨m, V, gs, cs, gw, cw, hm4, rfl, rfl, rfl, hbw, hst, hbi, HXI⟩ := hrel
        have hVl := hbi.out.len hs h3 h12
        have hiV : i < V.length := getq_lt HXI.out
        by_cases hmlt : m ≤ 3
        · have hm0 : (0 : Int) ≤ (m : Int) := by omega
          have hm3 : (m : Int) ≤ 3 := by omega
          have hle : decide ((m : Int) ≤ 3) = true := decide_eq_true hm3
          have hi0 : (0 : Int) ≤ (i : Int) := by omega
          have hiI : (i : Int) < (V.length : Int) := by omega
          obtain ⟨us, hS, hW, hE, hne⟩ := hst.out
          have hidl : (idsV V).length = V.length := by unfold idsV; rw [List.length_map]
          have cS : wr.cell? ⟨gs, i, none⟩ = some (.int .i64 (12 * xf + xr)) := by
            have := OwI.cell hS (k := i) (by omega)
            rw [mem_ids HXI.out] at this
            rw [this]
            unfold numG
            rw [Int.mul_comm]
          have hgsl : gs < wr.heap.size := World.block_lt_of_cell? _ _ cS
          have k1 : (12 * xf + xr).tdiv 12 = xf := by rw [Int.tdiv_eq_ediv_of_nonneg (by omega)]; omega
          have k2 : (12 * xf + xr).tmod 12 = xr := by rw [Int.tmod_eq_emod_of_nonneg (by omega)]; omega
          have k3 : IntKind.i64.wrap xf = xf := IntWalk.i64_in _ (by omega)
          have k4 : IntKind.i64.wrap xr = xr := IntWalk.i64_in _ (by omega)
          obtain ⟨⟨qf, qr, kk⟩, hq⟩ : ∃ rr__, rr__ = shR F R limit m xf xr := ⟨_, rfl⟩
          have HQ := Lib.hid hq
          have HS := Lib.hid hS
          have HW := Lib.hid hW
          have HE := Lib.hid hE
          have HNE := Lib.hid hne
          have HFr := Lib.hid (HF0.out.below hbw)
          have HRr2 := Lib.hid (HR0.out.below hbw)
          clear hst hS hW hE hne hq hidl
          have bx0 := (hbw.cell (p := ⟨w.heap.size, 0, none⟩) hbx).trans HBX.out.1
          have bx1 := (hbw.cell (p := ⟨w.heap.size, 1, none⟩) hbx).trans HBX.out.2.1
          have bx2 := (hbw.cell (p := ⟨w.heap.size, 2, none⟩) hbx).trans HBX.out.2.2
          have hbxr : w.heap.size < wr.heap.size := Nat.lt_of_lt_of_le hbx hbw.size
          have KP : Hid (∀ W' : World, Below wr.heap.size wr W' → (W'.cell? ⟨w.heap.size, 0, none⟩ = some (.slice aF F.length cF) ∧ W'.cell? ⟨w.heap.size, 1, none⟩ = some (.slice aR R.length cR) ∧ W'.cell? ⟨w.heap.size, 2, none⟩ = some (.int .i64 rd) ∧ W'.cell? ⟨gs, i, none⟩ = some (.int .i64 (12 * xf + xr)))) := by
            show ∀ W' : World, _
            intro W' hb
            exact ⟨(hb.cell (p := ⟨w.heap.size, 0, none⟩) hbxr).trans bx0, (hb.cell (p := ⟨w.heap.size, 1, none⟩) hbxr).trans bx1, (hb.cell (p := ⟨w.heap.size, 2, none⟩) hbxr).trans bx2, (hb.cell (p := ⟨gs, i, none⟩) hgsl).trans cS⟩
          go_wp2_with fail
          go_region_held3 (fun W' => W'.cell? ⟨w.heap.size, 0, none⟩ = some (.slice aF F.length cF) ∧ W'.cell? ⟨w.heap.size, 1, none⟩ = some (.slice aR R.length cR) ∧ W'.cell? ⟨w.heap.size, 2, none⟩ = some (.int .i64 rd) ∧ W'.cell? ⟨gs, i, none⟩ = some (.int .i64 (12 * xf + xr)))
            (first | exact ⟨bx0, bx1, bx2, cS⟩ | exact KP.out _ hbq1)
            ((first
              | (go_at_call 72
                 (with_reducible refine (l11Move_r _ _ F R rd limit xf xr m qf qr kk _ (by first | exact HFr.out | exact HFr.out.drew) (by first | exact HRr2.out | exact HRr2.out.drew) hn hm l0 l4 (by omega) (by omega) (by omega) (by omega) hm0 hm3 HQ.out).mono ?_)
                 rintro e w1 ⟨rfl, hbx1⟩
                 have hbq1 : Below wr.heap.size wr w1 := by first | exact hbx1 | exact blw_ofDrewX hbx1
                 clear hbx1)
              | fail))
          clear bx0 bx1 bx2 cS KP
          rename_i hHeld
          clear hHeld
          have HBW1 := Lib.hid (hbw.trans (hbq1.mono hbw.size))
          have hBa := HBW1.out.size
          have HSa := Lib.hid (HS.out.below hbq1)
          have HWa := Lib.hid (HW.out.below hbq1)
          have HEa := Lib.hid (HE.out.below hbq1)
          have hstep := hbi.out.step HXI.out hm0 hm3
          have hqe : (qf, qr) = mvB (m : Int) (xf, xr) ∧ kk = okB F R limit (mvB (m : Int) (xf, xr)) := by
            have := HQ.out
            unfold shR at this
            simp only [Prod.mk.injEq] at this
            obtain ⟨e1, e2, e3⟩ := this
            exact ⟨Prod.ext e1 e2, e3⟩
          obtain ⟨hqe, hke⟩ := hqe
          (try simp only at hstep)
          rw [← hqe] at hke
          cases kk
          · have HBI1 : Hid (Bi mvB (okB F R limit) (f0, r0) V i ((m + 1 : Nat) : Int)) := by
              have := hstep.1
              rw [stepV_no (Or.inl (by rw [← hqe]; exact hke.symm))] at this
              exact this
            have HST1 : Hid (WSt w1 W0.heap.size (.slice (some ⟨gs, 0, none⟩) V.length cs) (.slice (some ⟨gw, 0, none⟩) V.length cw) V) := ⟨us, HSa.out, HWa.out, HEa.out, HNE.out⟩
            clear hstep hqe hke hbq1 hBa k1 k2 k3 k4 hbw hbi
            go_wp2
            go_roundw
            case rel => exact ⟨m + 1, V, gs, cs, gw, cw, by omega, by go_num, rfl, rfl, HBW1.out, HST1, HBI1, HXI⟩
            case measure => simp [intOf]; omega
          · have hqg := okB_grid hke.symm
            (try simp only at hqg)
            have HH : Hid ((idsV V).any (fun y => decide (y = qf * 12 + qr)) = hasP V (qf, qr)) := has_id (g := (qf, qr)) (fun j x hx => hbi.out.inG hs hx) hke.symm h12
            have hv1 : IntKind.i64.wrap (qf * 12) = qf * 12 := IntWalk.i64_in _ (by omega)
            have hv2 : IntKind.i64.wrap (qf * 12 + qr) = qf * 12 + qr := IntWalk.i64_in _ (by omega)
            cases hh : hasP V (qf, qr)
            · -- a new place
              have HHF : Hid (hasP V (qf, qr) = false) := hh
              have HBI1 : Hid (Bi mvB (okB F R limit) (f0, r0) (V ++ [((qf, qr), xw ++ [(m : Int)])]) i ((m + 1 : Nat) : Int)) := by
                have := hstep.1
                rw [stepV_yes (by rw [← hqe]; exact hke.symm) (by rw [← hqe]; exact hh)] at this
                rw [← hqe] at this
                exact this
              have HXI1 : Hid ((V ++ [((qf, qr), xw ++ [(m : Int)])])[i]? = some ((xf, xr), xw)) := getq_old HXI.out
              obtain ⟨ui, hui⟩ : ∃ u, us[i]? = some u := ⟨_, List.getElem?_eq_getElem (by rw [HEa.out.1]; exact hiV)⟩
              have HUI := Lib.hid hui
              have hxwl : xw.length ≤ 36 := by
                have : xw.length ≤ i := hbi.out.pathLen HXI.out
                omega
              have HID : Hid ((idsV V).length = V.length) := by show _ = _; unfold idsV; rw [List.length_map]
              have hwa : (V.length : Int) ≤ 36 := by omega
              clear hstep hqe hke hh k1 k2 k3 k4 hui hbq1
              go_wp2_with fail
              (with_reducible refine (l01Has_any _ (idsV V) _ _ HSa.out.rd (by rw [HID.out]; omega)).mono ?_)
              rintro e _ ⟨rfl, rfl⟩
              rw [HH.out, HHF.out]
              go_wp2_with (at_builtin; refine wpList_appI4 _ rfl _ _ rfl W0.heap.size _ _ (idsV V) [qf * 12 + qr] rfl rfl (HSa.out.alloc _) (RdI.one _ _) (by rw [HID.out]; simp; omega) (by (try simp); omega) ?_; intro v1 w2 ho1 hg1 hk1; have hc1 := OwV.cell (ways_1 HBW1.out hBa HSa.out HWa.out HEa.out HNE.out hg1 hk1).1 HUI.out)
              obtain ⟨hW2, hE2, hne2, hB2⟩ := ways_1 HBW1.out hBa HSa.out HWa.out HEa.out HNE.out hg1 hk1
              have HW2 := Lib.hid hW2
              have HE2 := Lib.hid hE2
              have HNE2 := Lib.hid hne2
              have HB2 := Lib.hid hB2
              have HO1 := Lib.hid ho1
              have hB2z := hB2.size
              have HU2 := Lib.hid (hE2.2 i _ _ HXI.out HUI.out).1
              clear hW2 hE2 hne2 hB2 ho1 hg1 hk1
              (with_reducible refine (l01Own_any _ xw _ HU2.out.rd (by omega)).mono ?_)
              rintro e w3 ⟨v2, rfl, ho2, hb3⟩
              have HO2 := Lib.hid ho2
              have HB3 := Lib.hid hb3
              have hz3 := hb3.size
              clear ho2 hb3 hc1
              go_wp2_with (first
                | (at_builtin; refine wpList_appI4 _ rfl _ _ rfl w2.heap.size _ _ xw [(m : Int)] rfl rfl (HO2.out.alloc _) (RdI.one _ _) (by simp; omega) (by (try simp); omega) ?_; intro v3 w4 ho3 hg3 hk3; obtain ⟨g3, c3, e3⟩ := ho3.shapeN; subst e3; have HB4 := Lib.hid (ways_2 HB3.out HO2.out hg3); have hz4 := HB4.out.size; have HO3 := Lib.hid ho3; clear ho3 hg3 hk3)
                | (at_builtin; refine wpList_appV _ rfl _ _ rfl W0.heap.size _ _ us [.slice (some ⟨g3, 0, none⟩) (xw.length + 1) c3] rfl rfl ((HW2.out.below HB4.out).alloc _) (RdV.oneN _ _ rfl) (by intro z hz; simp at hz; subst hz; rfl) (by rw [HE2.out.1]; simp; omega) (by (try simp); omega) ?_; intro v4 w5 ho4 hg4 hk4))
              have h4 := ways_4 (q := (qf, qr)) (mv := (m : Int)) (x := ((xf, xr), xw)) HB2.out hB2z HO1.out HW2.out HE2.out HNE2.out HB4.out HO3.out ho4 hg4 hk4
              obtain ⟨hst5, hb5⟩ := h4
              obtain ⟨gs5, cs5, gw5, cw5, e5, e6⟩ := hst5.shape (by simp)
              subst e5 e6
              have HST5 := Lib.hid hst5
              clear hst5 ho4 hg4 hk4 hbw hbi
              go_wp2
              go_roundw
              case rel => exact ⟨m + 1, _, gs5, cs5, gw5, cw5, by omega, by go_num, rfl, rfl, hb5, HST5, HBI1, HXI1⟩
              case measure => simp [intOf]; omega
            · have HHF : Hid (hasP V (qf, qr) = true) := hh
              have HBI1 : Hid (Bi mvB (okB F R limit) (f0, r0) V i ((m + 1 : Nat) : Int)) := by
                have := hstep.1
                rw [stepV_no (Or.inr (by rw [← hqe]; exact hh))] at this
                exact this
              have HST1 : Hid (WSt w1 W0.heap.size (.slice (some ⟨gs, 0, none⟩) V.length cs) (.slice (some ⟨gw, 0, none⟩) V.length cw) V) := ⟨us, HSa.out, HWa.out, HEa.out, HNE.out⟩
              have HID : Hid ((idsV V).length = V.length) := by show _ = _; unfold idsV; rw [List.length_map]
              clear hstep hqe hke hh hbq1 hBa k1 k2 k3 k4 hbw hbi
              go_wp2_with fail
              (with_reducible refine (l01Has_any _ (idsV V) _ _ HSa.out.rd (by rw [HID.out]; omega)).mono ?_)
              rintro e _ ⟨rfl, rfl⟩
              rw [HH.out, HHF.out]
              go_wp2
              go_roundw
              case rel => exact ⟨m + 1, V, gs, cs, gw, cw, by omega, by go_num, rfl, rfl, HBW1.out, HST1, HBI1, HXI⟩
              case measure => simp [intOf]; omega
        · obtain rfl : m = 4 := by omega
          have hle : decide (((4 : Nat) : Int) ≤ 3) = false := by decide
          have HN : Hid (Bi mvB (okB F R limit) (f0, r0) V (i + 1) 0) := hbi.out.next
          go_wp2
          go_roundw
          case rel => exact ⟨i + 1, V, gs, cs, gw, cw, by omega, by go_num, rfl, rfl, hbw, hst, HN⟩
          case measure => simp [intOf]; omega
    · obtain rfl : i = V.length := by omega
      have HD : Hid (Done mvB (okB F R limit) (f0, r0) V) := hbi.out.done (Nat.le_refl _)
      have hwz : w.heap.size ≤ W0.heap.size := by omega
      go_wp2
      go_ret2
      exact ⟨_, _, V, rfl, HD.out, hst.out.mono hwz, HTW.out.trans (hbw.mono hwz)⟩

end Go.Proofs.Ytfdnhamkkcmnfaa
