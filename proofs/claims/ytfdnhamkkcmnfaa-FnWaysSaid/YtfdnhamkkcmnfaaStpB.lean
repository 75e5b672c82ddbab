/- Contract of stepsTo: the matrix of distances. -/
import Derived.Test.YtfdnhamkkcmnfaaStpA
import Derived.Deep.RegionHeld3
import Derived.BigRegion
import Derived.Deep.LoopGhost
set_option linter.unusedSimpArgs false
set_option linter.unusedVariables false
namespace Go.Proofs.Ytfdnhamkkcmnfaa
open Go.RowKit

theorem made_noughts (n : Nat) : (madeCells (Value.int .i64 0).cells (n * 1)).toList = (List.replicate n (0 : Int)).map (Value.int .i64) := by
  apply List.ext_getElem
  · simp [madeCells]
  · intro i h1 h2
    simp [madeCells, Value.cells, Nat.mod_one]
theorem made_rows (n : Nat) : (madeCells (Value.slice none 0 0).cells (n * 1)).toList = List.replicate n (Value.slice none 0 0) := by
  apply List.ext_getElem
  · simp [madeCells]
  · intro i h1 h2
    simp [madeCells, Value.cells, Nat.mod_one]
theorem PMat.start {w w1 : World} {base go m n : Nat} (h : w1.ownsRow base 22 1 (.slice (some ⟨go, 0, none⟩) m m) m (madeCells (Value.slice none 0 0).cells (m * 1)).toList) : PMat w1 base go m [] n (fun _ _ => 0) := by
  refine ⟨?_, Nat.zero_le _, List.Pairwise.nil, by simp, fun f b hf => by simp at hf⟩
  rw [made_rows] at h
  unfold OwV
  simpa using h
theorem OwI.made {w1 : World} {base b n : Nat} (h : w1.ownsRow base 2 1 (.slice (some ⟨b, 0, none⟩) n n) n (madeCells (Value.int .i64 0).cells (n * 1)).toList) : OwI w1 base (rowv n b) (List.replicate n 0) := by
  rw [made_noughts] at h
  unfold OwI rowv
  rw [List.length_replicate]
  exact h
/-- The cell in which the next row is put. -/
theorem PMat.next {w : World} {base go m n : Nat} {bs : List Nat} {D : Nat → Nat → Int} (h : PMat w base go m bs n D) (hl : bs.length < m) : w.cell? ⟨go, bs.length, none⟩ = some (.slice none 0 0) ∧ w.frozen? ⟨go, bs.length, none⟩ = false := by
  refine ⟨OwV.cell h.1 ?_, OwV.free h.1 _⟩
  rw [List.getElem?_append_right (by simp), List.length_map, Nat.sub_self]
  obtain ⟨k, hk⟩ : ∃ k, m - bs.length = k + 1 := ⟨m - bs.length - 1, by omega⟩
  rw [hk, List.replicate_succ]
  rfl
theorem StS.start {w : World} {base go m n : Nat} {bs : List Nat} {D : Nat → Nat → Int} (s : Gear) (h : PMat w base go m bs n D) (hB : base ≤ w.heap.size) {N : Nat} (hN : w.heap.size = N) :
    StS ((w.alloc (gobj (s, N))).alloc (.cells #[gv (s, N)] 22)) base go m bs n D (.slice (some ⟨N + 1, 0, none⟩) 1 1) [(s, N)] [(s, N)] := by
  subst hN
  have hb1 : Below w.heap.size w (w.alloc (gobj (s, w.heap.size))) := (Below.refl _ _).alloc (Nat.le_refl _) _
  have hb2 : Below w.heap.size w ((w.alloc (gobj (s, w.heap.size))).alloc (.cells #[gv (s, w.heap.size)] 22)) := hb1.alloc (by simp) _
  have hq : QuV ((w.alloc (gobj (s, w.heap.size))).alloc (.cells #[gv (s, w.heap.size)] 22)) base (.slice (some ⟨w.heap.size + 1, 0, none⟩) 1 1) [gv (s, w.heap.size)] := QuV.oneN _ _ (by simp) (by omega)
  have hgo := h.blkO
  refine ⟨h.below hb2, hq, fun x hx => ?_, fun k hk => ?_⟩
  · simp at hx
    subst hx
    refine ⟨⟨hB, obj_below (heap_alloc_new w _) ((Below.refl _ _).alloc (Nat.le_refl _) _)⟩, by simp only; omega, fun hb => ?_, fun e => ?_⟩
    · have := (h.blk hb).2
      simp only at this
      omega
    · have e' : some (w.heap.size + 1) = some w.heap.size := e
      injection e' with e'
      omega
  · have hk' : some (w.heap.size + 1) = some k := hk
    injection hk' with hk'
    refine ⟨by omega, fun hb => ?_⟩
    have := (h.blk hb).2
    omega
theorem QuV.shape {w : World} {base : Nat} {v : Value} {us : List Value} (h : QuV w base v us) : ∃ g o cap, v = .slice (some ⟨g, o, none⟩) us.length cap := by
  obtain ⟨g, o, cap, cur, e, _⟩ := h
  exact ⟨g, o, cap, e⟩
theorem shifted_r (vF vR : Value) (F R : List Int) (rd limit f r move qf qr : Int) (k : Bool) (w : World) (hF : RdI w vF F) (hR : RdI w vR R) (hn : F.length ≤ 1048576) (hm : R.length ≤ 1048576) (l0 : 0 ≤ limit) (l4 : limit ≤ 4) (f0 : -1048576 ≤ f) (f1 : f ≤ 1048576) (r0 : -1048576 ≤ r) (r1 : r ≤ 1048576) (m0 : 0 ≤ move) (m3 : move ≤ 3) (h : (qf, qr, k) = shR F R limit move f r) :
    Calls Try.prog 74 #[.agg #[vF, vR, .int .i64 rd], .int .i64 limit, .int .i64 f, .int .i64 r, .int .i64 move] w fun e w' => e = .returned (.tuple #[.int .i64 qf, .int .i64 qr, .bool k]) ∧ Below w.heap.size w w' :=
  (shifted_any vF vR F R rd limit f r move w hF hR hn hm l0 l4 f0 f1 r0 r1 m0 m3).mono fun e w' q => by rw [q.1, ← h]; exact ⟨rfl, q.2⟩
theorem blw_ofDrewY {B : Nat} {w w' : World} (h : Below B w.drew w') : Below B w w' := ⟨h.os, h.tape, h.output, h.size, h.block⟩
theorem Bi.growS {nx : Int → Gr → Gr} {ok : Gr → Bool} {s : Gr} {V : Fnd} {i : Nat} {m : Int} (h : Bi nx ok s V i m) : ∀ (b j : Nat) (x : En), j ≤ b → V[j]? = some x → x.2.length ≤ j := by
  intro b
  induction b with
  | zero =>
    intro j x hj hx
    obtain rfl : j = 0 := by omega
    rw [h.first] at hx
    injection hx with hx
    subst hx
    exact Nat.le_refl _
  | succ b ih =>
    intro j x hj hx
    rcases Nat.eq_zero_or_pos j with rfl | hj0
    · exact ih 0 x (Nat.zero_le _) hx
    · obtain ⟨p, q, y, e1, e2, e3, e4⟩ := h.parent j x hx hj0
      have hpj : p < j := by
        rcases Nat.lt_or_ge p j with h1 | h1
        · exact h1
        · exfalso
          have hy := h.path p y e1
          have hpos := numA_pos y.2 1 hy.way (by omega)
          have hx2 : numA 1 x.2 = 4 * numA 1 y.2 + q := by rw [e2, numA_snoc]
          have hxw := (h.path j x hx).way
          rw [e2] at hxw
          have hq := (way_snoc_ok hxw).2.1
          rcases Nat.lt_or_eq_of_le h1 with h2 | h2
          · have := h.sorted j p x y h2 hx e1
            omega
          · subst h2
            rw [hx] at e1
            injection e1 with e1
            rw [← e1] at hx2 hpos
            omega
      have := ih p y (by omega) e1
      rw [e2, List.length_append, List.length_singleton]
      omega
theorem Bi.depth {nx : Int → Gr → Gr} {ok : Gr → Bool} {s : Gr} {V : Fnd} {i : Nat} {m : Int} (h : Bi nx ok s V i m) {j : Nat} {x : En} (hx : V[j]? = some x) : x.2.length ≤ j := h.growS j j x (Nat.le_refl _) hx
theorem stepV_noS {nx : Int → Gr → Gr} {ok : Gr → Bool} {x : En} {V : Fnd} {m : Int} (h : ok (nx m x.1) = false ∨ hasP V (nx m x.1) = true) : stepV nx ok x V m = V := by
  unfold stepV
  rcases h with h | h <;> simp [h]
theorem stepV_yesS {nx : Int → Gr → Gr} {ok : Gr → Bool} {x : En} {V : Fnd} {m : Int} (h : ok (nx m x.1) = true) (h2 : hasP V (nx m x.1) = false) : stepV nx ok x V m = V ++ [(nx m x.1, x.2 ++ [m])] := by
  unfold stepV
  simp [h, h2]
def DistM (D : Nat → Nat → Int) (V : Fnd) (m n : Nat) : Prop := ∀ f r : Nat, f < m → r < n → D f r = dOf V ((f : Int), (r : Int))
theorem DistM.start {D : Nat → Nat → Int} {m n f0 r0 : Nat} (h : ∀ f r : Nat, f < m → r < n → D f r = -1) : DistM (updD D f0 r0 0) [(((f0 : Int), (r0 : Int)), [])] m n := by
  intro f r hf hr
  unfold updD dOf
  by_cases e : f = f0 ∧ r = r0
  · obtain ⟨rfl, rfl⟩ := e
    simp
  · rw [if_neg e, h f r hf hr]
    have : ¬ ((f0 : Int), (r0 : Int)) = ((f : Int), (r : Int)) := by
      intro e2
      simp only [Prod.mk.injEq] at e2
      exact e ⟨by omega, by omega⟩
    simp only [List.find?, this, decide_false]
theorem DistM.snoc {D : Nat → Nat → Int} {V : Fnd} {m n fa ra : Nat} {w : List Int} {v : Int} (h : DistM D V m n) (hh : hasP V ((fa : Int), (ra : Int)) = false) (hv : v = w.length) : DistM (updD D fa ra v) (V ++ [(((fa : Int), (ra : Int)), w)]) m n := by
  intro f r hf hr
  rw [dOf_snoc hh]
  unfold updD
  by_cases e : f = fa ∧ r = ra
  · obtain ⟨rfl, rfl⟩ := e
    rw [if_pos ⟨rfl, rfl⟩, if_pos rfl, hv]
  · rw [if_neg e, if_neg (fun e2 => by
      simp only [Prod.mk.injEq] at e2
      exact e ⟨by omega, by omega⟩)]
    exact h f r hf hr
set_option maxRecDepth 100000 in
set_option maxHeartbeats 8000000 in
theorem stepsTo_any (vF vR : Value) (F R : List Int) (rd : Int) (limit : Int) (f0 r0 : Nat) (w : World) (hF : RdI w vF F) (hR : RdI w vR R) (hn : F.length ≤ 1048576) (hm : R.length ≤ 1048576) (l0 : 0 ≤ limit) (l4 : limit ≤ 4) (h3 : F.length ≤ 3) (h12 : R.length ≤ 12) (hs : okB F R limit ((f0 : Int), (r0 : Int)) = true) :
    Calls Try.prog 85 #[.agg #[vF, vR, .int .i64 rd], .int .i64 limit, .int .i64 (f0 : Int), .int .i64 (r0 : Int)] w fun e w' => ∃ (go : Nat) (bs : List Nat) (D : Nat → Nat → Int) (V : Fnd), e = .returned (.slice (some ⟨go, 0, none⟩) F.length F.length) ∧ PMat w' w.heap.size go F.length bs R.length D ∧ bs.length = F.length ∧ DistM D V F.length R.length ∧ Done mvB (okB F R limit) ((f0 : Int), (r0 : Int)) V ∧ Below w.heap.size w w' := by
  have hsg := okB_grid hs
  (try simp only at hsg)
  have HF := Lib.hid hF
  have HRr := Lib.hid hR
  obtain ⟨aF, cF, rfl, -⟩ := hF
  obtain ⟨aR, cR, rfl, -⟩ := hR
  go_enter Try.func85, Try.ntmps85
  obtain ⟨i0, hi, hz0, hz1, hz2⟩ := info_parts Try.infoSL
  obtain ⟨j0, hj, hj0, hj1, hj2⟩ := info_parts Try.infoI64
  go_wp2_with (refine wpList_make_full _ rfl _ _ 48 rfl _ 22 i0 (.slice none 0 0) 1 Try.underlying48 hi hz0 hz1 .i64 .i64 _ _ F.length rfl rfl rfl rfl (by rw [hz2]; omega) (by unfold maxLen; omega) (Nat.le_refl _) ?_; intro w1 hown hgrow; obtain ⟨W0, hw⟩ : ∃ W0, w.alloc (Obj.cells #[.slice aF F.length cF, .slice aR R.length cR, .int .i64 rd] 28) = W0 := ⟨_, rfl⟩; rw [hw] at hown hgrow ⊢)
  have bx0 : W0.cell? ⟨w.heap.size, 0, none⟩ = some (.slice aF F.length cF) := by rw [← hw]; simp [go_sem]
  have bx1 : W0.cell? ⟨w.heap.size, 1, none⟩ = some (.slice aR R.length cR) := by rw [← hw]; simp [go_sem]
  have bx2 : W0.cell? ⟨w.heap.size, 2, none⟩ = some (.int .i64 rd) := by rw [← hw]; simp [go_sem]
  have hbx : w.heap.size < W0.heap.size := by rw [← hw]; simp
  have HTW : Hid (Below w.heap.size w W0) := by
    show Below _ _ _
    rw [← hw]; exact (Below.refl _ _).alloc (Nat.le_refl _) _
  have HF0 := Lib.hid (show RdI W0 (.slice aF F.length cF) F by rw [← hw]; exact HF.out.alloc _)
  have HR0 := Lib.hid (show RdI W0 (.slice aR R.length cR) R by rw [← hw]; exact HRr.out.alloc _)
  have HBX := Lib.hid (And.intro bx0 (And.intro bx1 bx2))
  have T0 := Below.refl W0.heap.size W0
  clear hw
  have HPM0 : Hid (PMat w1 W0.heap.size W0.heap.size F.length [] R.length (fun _ _ => 0)) := PMat.start (w := W0) hown
  have hbw1 : Below W0.heap.size W0 w1 := (Below.refl _ _).grown hgrow (Nat.le_refl _) (fun k hk => by cases hk)
  clear hown hgrow bx0 bx1 bx2
  go_wp2
  go_loopw [24] (fun iv wr => ∃ (k : Nat) (bs : List Nat) (D : Nat → Nat → Int), k ≤ F.length ∧ iv = .int .i64 k ∧ Below W0.heap.size W0 wr ∧ Hid (bs.length = k) ∧ Hid (PMat wr W0.heap.size W0.heap.size F.length bs R.length D) ∧ Hid (∀ f r : Nat, f < k → r < R.length → D f r = -1)) (fun iv _ => F.length - (intOf iv).toNat)
  case atStart => exact ⟨0, [], _, Nat.zero_le _, rfl, hbw1, rfl, HPM0, fun f r hf => by omega⟩
  case round =>
    clear HPM0 hbw1
    obtain ⟨k, bs, D, hk, rfl, hbw, HBL, HPM, HDm⟩ := hrel
    by_cases hlt : k < F.length
    · have hlt' : (k : Int) < (F.length : Int) := by omega
      have hk0 : (0 : Int) ≤ (k : Int) := by omega
      have bx0 := (hbw.cell (p := ⟨w.heap.size, 0, none⟩) hbx).trans HBX.out.1
      have bx1 := (hbw.cell (p := ⟨w.heap.size, 1, none⟩) hbx).trans HBX.out.2.1
      have bx2 := (hbw.cell (p := ⟨w.heap.size, 2, none⟩) hbx).trans HBX.out.2.2
      obtain ⟨b, hb⟩ : ∃ b, b = wr.heap.size := ⟨_, rfl⟩
      have HB := Lib.hid hb
      have HBL1 : Hid (bs.length < F.length) := by show _ < _; rw [HBL.out]; exact hlt
      clear hb
      go_wp2_with (refine wpList_make_full _ rfl _ _ 22 rfl W0.heap.size 2 j0 (.int .i64 0) 1 Try.underlying22 hj hj0 hj1 .i64 .i64 _ _ R.length rfl rfl rfl rfl (by rw [hj2]; omega) (by unfold maxLen; omega) hbw.size ?_; intro w2 hown2 hgrow2; rw [← HB.out] at hown2 ⊢; obtain ⟨cN, fN⟩ := (HPM.out.far hgrow2 (by simp) (fun _ _ => by simp)).next HBL1.out; rw [HBL.out] at cN fN)
      have HPM2 : Hid (PMat (w2.setCell ⟨W0.heap.size, k, none⟩ (.slice (some ⟨b, 0, none⟩) R.length R.length)) W0.heap.size W0.heap.size F.length (bs ++ [b]) R.length (fun f r => if f = k then 0 else D f r)) := by
        have := HPM.out.push HB.out HBL1.out hgrow2 (OwI.made hown2)
        rw [HBL.out] at this
        exact this
      have hbw2 : Below W0.heap.size W0 (w2.setCell ⟨W0.heap.size, k, none⟩ (.slice (some ⟨b, 0, none⟩) R.length R.length)) := (hbw.grown hgrow2 hbw.size (fun q hq => by cases hq)).setCell (Nat.le_refl _) _
      have HBK : Hid ((bs ++ [b])[k]? = some b) := by
        show _ = _
        rw [← HBL.out]
        simp
      have HBL2 : Hid ((bs ++ [b]).length = k + 1) := by
        show _ = _
        rw [List.length_append, List.length_singleton, HBL.out]
      have HDm2 : Hid (∀ f r : Nat, f < k → r < R.length → (fun f r => if f = k then 0 else D f r) f r = -1) := by
        show ∀ f r : Nat, _
        intro f r hf hr
        show (if f = k then 0 else D f r) = -1
        rw [if_neg (by omega)]
        exact HDm.out f r hf hr
      generalize bs ++ [b] = bs2 at *
      clear cN fN hown2 hgrow2 hbw HBL1 bx0 bx1 bx2
      go_loopw [39] (fun jv wr => ∃ (j : Nat) (D : Nat → Nat → Int), j ≤ R.length ∧ jv = .int .i64 j ∧ Below W0.heap.size W0 wr ∧ Hid (PMat wr W0.heap.size W0.heap.size F.length bs2 R.length D) ∧ Hid (∀ f r : Nat, f < k → r < R.length → D f r = -1) ∧ Hid (∀ r : Nat, r < j → D k r = -1)) (fun jv _ => R.length - (intOf jv).toNat)
      case atStart => exact ⟨0, _, Nat.zero_le _, rfl, hbw2, HPM2, HDm2, fun r hr => by omega⟩
      case round =>
        clear HPM2 hbw2 HDm2 HPM HDm
        obtain ⟨j, D, hjl, rfl, hbw, HPM, HDm, HDr⟩ := hrel
        by_cases hlj : j < R.length
        · have hljI : (j : Int) < (R.length : Int) := by omega
          have hj0I : (0 : Int) ≤ (j : Int) := by omega
          have cO := HPM.out.cellO HBK.out
          obtain ⟨cR, fR⟩ := HPM.out.cellR HBK.out hlj
          have hb3 := blw_setM hbw HPM.out (List.mem_of_getElem? HBK.out) j (.int .i64 (-1))
          have HPM3 := Lib.hid (HPM.out.set HBK.out j (-1))
          clear hbw
          go_wp2
          go_roundw
          case rel => exact ⟨j + 1, _, by omega, by go_num, hb3, HPM3, fun f r hf hr => by
            unfold updD
            rw [if_neg (by omega)]
            exact HDm.out f r hf hr, fun r hr => by
            unfold updD
            by_cases e : r = j
            · rw [if_pos ⟨rfl, e⟩]
            · rw [if_neg (fun x => e x.2)]
              exact HDr.out r (by omega)⟩
          case measure => simp [intOf]; omega
        · obtain rfl : j = R.length := by omega
          have HDf : Hid (∀ f r : Nat, f < k + 1 → r < R.length → D f r = -1) := by
            show ∀ f r : Nat, _
            intro f r hf hr
            by_cases e : f = k
            · rw [e]; exact HDr.out r hr
            · exact HDm.out f r (by omega) hr
          go_wp2
          go_roundw
          case rel => exact ⟨k + 1, bs2, D, by omega, by go_num, hbw, HBL2, HPM, HDf⟩
          case measure => simp [intOf]; omega
    · obtain rfl : k = F.length := by omega
      obtain ⟨b0, hb0⟩ : ∃ b0, bs[f0]? = some b0 := ⟨_, List.getElem?_eq_getElem (by rw [HBL.out]; omega)⟩
      have HB0 := Lib.hid hb0
      have cO := HPM.out.cellO hb0
      obtain ⟨cR, fR⟩ := HPM.out.cellR hb0 (show r0 < R.length by omega)
      have hf0I : (f0 : Int) < (F.length : Int) := by omega
      have hr0I : (r0 : Int) < (R.length : Int) := by omega
      have hf00 : (0 : Int) ≤ (f0 : Int) := by omega
      have hr00 : (0 : Int) ≤ (r0 : Int) := by omega
      have HPM4 := Lib.hid (HPM.out.set hb0 r0 0)
      have hb4 := blw_setM hbw HPM.out (List.mem_of_getElem? hb0) r0 (.int .i64 0)
      have HDM4 : Hid (DistM (updD D f0 r0 0) [(((f0 : Int), (r0 : Int)), [])] F.length R.length) := DistM.start HDm.out
      have hz4 : (wr.setCell ⟨b0, r0, none⟩ (.int .i64 0)).heap.size = wr.heap.size := by simp [World.setCell]
      have HS4 := Lib.hid (StS.start ((f0 : Int), (r0 : Int)) HPM4.out (by rw [hz4]; exact hbw.size) hz4)
      have hbw4 := (hb4.alloc (by rw [hz4]; exact hbw.size) (gobj (((f0 : Int), (r0 : Int)), wr.heap.size))).alloc (by rw [World.size_alloc, hz4]; have := hbw.size; omega) (.cells #[gv (((f0 : Int), (r0 : Int)), wr.heap.size)] 22)
      clear hb0 HPM HDm hbw hb4 hz4
      go_wp2
      clear cO cR fR
      go_loopg [12] 40 (fun k qv wr => ∃ (i : Nat) (V : Fnd) (D : Nat → Nat → Int) (L : List Gb) (g o cap : Nat), Hid (k + i = 40) ∧ qv = .slice (some ⟨g, o, none⟩) L.length cap ∧ Below W0.heap.size W0 wr ∧ Hid (StS wr W0.heap.size W0.heap.size F.length bs R.length D (.slice (some ⟨g, o, none⟩) L.length cap) L L) ∧ Hid (Bi mvB (okB F R limit) ((f0 : Int), (r0 : Int)) V i 0) ∧ Hid (L.map Prod.fst = (V.drop i).map Prod.fst) ∧ Hid (DistM D V F.length R.length))
      case atStart => exact ⟨0, [(((f0 : Int), (r0 : Int)), [])], _, [(((f0 : Int), (r0 : Int)), wr.heap.size)], wr.heap.size + 1, 0, 1, rfl, rfl, hbw4, HS4, Bi.start _, rfl, HDM4⟩
      case round =>
        clear HPM4 HDM4 HS4 hbw4
        obtain ⟨i, V, D, L, g, o, cap, HGK, rfl, hbw, hss, hbi, hlm, hdm⟩ := hrel
        have hVl := hbi.out.len hs h3 h12
        rcases L with _ | ⟨⟨⟨gx, gy⟩, p⟩, L⟩
        · have HD : Hid (Done mvB (okB F R limit) ((f0 : Int), (r0 : Int)) V) := hbi.out.done (by
            have := congrArg List.length hlm.out
            simp only [List.length_map, List.length_drop, List.length_nil] at this
            omega)
          have hwz : w.heap.size ≤ W0.heap.size := by omega
          go_wp2
          go_ret
          exact ⟨_, bs, D, V, rfl, hss.out.1.mono hwz, HBL.out, hdm.out, HD.out, HTW.out.trans (hbw.mono hwz)⟩
        · simp only [List.length_cons]
          have hiV : i < V.length := by
            have := congrArg List.length hlm.out
            simp only [List.length_map, List.length_drop, List.length_cons] at this
            omega
          obtain ⟨⟨⟨x1, x2⟩, xw⟩, hxi⟩ : ∃ x, V[i]? = some x := ⟨_, List.getElem?_eq_getElem hiV⟩
          have hsplit : V.drop i = ((x1, x2), xw) :: V.drop (i + 1) := by
            rw [List.drop_eq_getElem_cons hiV]
            rw [List.getElem?_eq_getElem hiV] at hxi
            injection hxi with hxi
            rw [hxi]
          have hlm2 := hlm.out
          rw [hsplit, List.map_cons, List.map_cons] at hlm2
          injection hlm2 with e1 e2
          simp only [Prod.mk.injEq] at e1
          obtain ⟨rfl, rfl⟩ := e1
          have hxg := okB_grid (hbi.out.inG hs hxi)
          (try simp only at hxg)
          obtain ⟨xf, rfl⟩ : ∃ xf : Nat, gx = (xf : Int) := ⟨gx.toNat, by omega⟩
          obtain ⟨xr, rfl⟩ : ∃ xr : Nat, gy = (xr : Int) := ⟨gy.toNat, by omega⟩
          obtain ⟨g2, o2, cap2, e, hc1, hc2, hg2, hcell, hss2⟩ := hss.out.pop
          injection e with e3 e4 e5
          simp only [Option.some.injEq, Addr.mk.injEq] at e3
          obtain ⟨rfl, rfl, -⟩ := e3
          subst e5
          have hcell2 : wr.cell? ⟨g, o, none⟩ = some (.slice (some ⟨p, 0, none⟩) 2 2) := hcell
          have HXI0 := Lib.hid hxi
          have HLM0 : Hid (L.map Prod.fst = (V.drop (i + 1)).map Prod.fst) := e2
          have HSS0 := Lib.hid hss2
          clear hxi hsplit e2 e4 hcell hss2 hlm hss hc2 hg2
          have hmu : True := trivial
          by_cases hc0 : cap2 = 0
          · subst hc0
            obtain rfl : L = [] := List.length_eq_zero_iff.1 (by omega)
            have HSSa : Hid (StS wr W0.heap.size W0.heap.size F.length bs R.length D (.slice (some ⟨g, o, none⟩) ([] : List Gb).length 0) [] [(((xf : Int), (xr : Int)), p)]) := by
              show StS _ _ _ _ _ _ _ _ _ _
              have := HSS0.out
              unfold sliced at this
              simpa using this
            clear HSS0
            simp only [List.length_nil, Nat.zero_add]
            go_wp2
            clear hcell2 hc1 hVl hiV
            go_loopw [12, 14] (fun qv mv wr => ∃ (m : Nat) (V : Fnd) (D : Nat → Nat → Int) (L : List Gb) (g o cap : Nat), m ≤ 4 ∧ mv = .int .i64 m ∧ qv = .slice (some ⟨g, o, none⟩) L.length cap ∧ Below W0.heap.size W0 wr ∧ Hid (StS wr W0.heap.size W0.heap.size F.length bs R.length D (.slice (some ⟨g, o, none⟩) L.length cap) L ((((xf : Int), (xr : Int)), p) :: L)) ∧ Hid (Bi mvB (okB F R limit) ((f0 : Int), (r0 : Int)) V i m) ∧ Hid (V[i]? = some (((xf : Int), (xr : Int)), xw)) ∧ Hid (L.map Prod.fst = (V.drop (i + 1)).map Prod.fst) ∧ Hid (DistM D V F.length R.length)) (fun _ mv _ => 4 - (intOf mv).toNat)
            case atStart => exact ⟨0, V, D, [], g, o, 0, by omega, rfl, rfl, hbw, HSSa, hbi, HXI0, HLM0, hdm⟩
            case round =>
              clear HSSa HXI0 HLM0
              clear hbw hbi hdm hmu
              obtain ⟨m, V, D, L, g, o, cap, hm4, rfl, rfl, hbw, hss, hbi, HXI, HLM, HDM⟩ := hrel
              have hVl := hbi.out.len hs h3 h12
              have hiV : i < V.length := getq_lt HXI.out
              by_cases hmlt : m ≤ 3
              · have hm0 : (0 : Int) ≤ (m : Int) := by omega
                have hm3 : (m : Int) ≤ 3 := by omega
                have hle : decide ((m : Int) ≤ 3) = true := decide_eq_true hm3
                have hpo := (hss.out.2.2.1 (((xf : Int), (xr : Int)), p) (by simp)).1.2
                have hpl := obj_lt hpo
                have cp0 : wr.cell? ⟨p, 0, none⟩ = some (.int .i64 (xf : Int)) := cell_of_row wr p 0 _ _ (0, 0) hpo
                have cp1 : wr.cell? ⟨p, 1, none⟩ = some (.int .i64 (xr : Int)) := cell_of_row wr p 1 _ _ (0, 0) hpo
                obtain ⟨⟨qf, qr, kk⟩, hq⟩ : ∃ rr__, rr__ = shR F R limit m xf xr := ⟨_, rfl⟩
                have HQ := Lib.hid hq
                have HFr := Lib.hid (HF0.out.below hbw)
                have HRr2 := Lib.hid (HR0.out.below hbw)
                clear hq hpo
                have bx0 := (hbw.cell (p := ⟨w.heap.size, 0, none⟩) hbx).trans HBX.out.1
                have bx1 := (hbw.cell (p := ⟨w.heap.size, 1, none⟩) hbx).trans HBX.out.2.1
                have bx2 := (hbw.cell (p := ⟨w.heap.size, 2, none⟩) hbx).trans HBX.out.2.2
                have hbxr : w.heap.size < wr.heap.size := Nat.lt_of_lt_of_le hbx hbw.size
                have KP : Hid (∀ W' : World, Below wr.heap.size wr W' → (W'.cell? ⟨w.heap.size, 0, none⟩ = some (.slice aF F.length cF) ∧ W'.cell? ⟨w.heap.size, 1, none⟩ = some (.slice aR R.length cR) ∧ W'.cell? ⟨w.heap.size, 2, none⟩ = some (.int .i64 rd) ∧ W'.cell? ⟨p, 0, none⟩ = some (.int .i64 (xf : Int)) ∧ W'.cell? ⟨p, 1, none⟩ = some (.int .i64 (xr : Int)))) := by
                  show ∀ W' : World, _
                  intro W' hb
                  exact ⟨(hb.cell (p := ⟨w.heap.size, 0, none⟩) hbxr).trans bx0, (hb.cell (p := ⟨w.heap.size, 1, none⟩) hbxr).trans bx1, (hb.cell (p := ⟨w.heap.size, 2, none⟩) hbxr).trans bx2, (hb.cell (p := ⟨p, 0, none⟩) hpl).trans cp0, (hb.cell (p := ⟨p, 1, none⟩) hpl).trans cp1⟩
                go_wp2_with fail
                go_region_held3 (fun W' => W'.cell? ⟨w.heap.size, 0, none⟩ = some (.slice aF F.length cF) ∧ W'.cell? ⟨w.heap.size, 1, none⟩ = some (.slice aR R.length cR) ∧ W'.cell? ⟨w.heap.size, 2, none⟩ = some (.int .i64 rd) ∧ W'.cell? ⟨p, 0, none⟩ = some (.int .i64 (xf : Int)) ∧ W'.cell? ⟨p, 1, none⟩ = some (.int .i64 (xr : Int)))
                  (first | exact ⟨bx0, bx1, bx2, cp0, cp1⟩ | exact KP.out _ hbq1)
                  ((first
                    | (go_at_call 74
                       (with_reducible refine (shifted_r _ _ F R rd limit xf xr m qf qr kk _ (by first | exact HFr.out | exact HFr.out.drew) (by first | exact HRr2.out | exact HRr2.out.drew) hn hm l0 l4 (by omega) (by omega) (by omega) (by omega) hm0 hm3 HQ.out).mono ?_)
                       rintro e w1 ⟨rfl, hbx1⟩
                       have hbq1 : Below wr.heap.size wr w1 := by first | exact hbx1 | exact blw_ofDrewY hbx1
                       clear hbx1)
                    | fail))
                clear bx0 bx1 bx2 cp0 cp1 KP
                rename_i hHeld
                clear hHeld
                have HBW1 := Lib.hid (hbw.trans (hbq1.mono hbw.size))
                have hBa := HBW1.out.size
                have HSS1 := Lib.hid (hss.out.below hbq1)
                have hstep := hbi.out.step HXI.out hm0 hm3
                have hqe : (qf, qr) = mvB (m : Int) ((xf : Int), (xr : Int)) ∧ kk = okB F R limit (mvB (m : Int) ((xf : Int), (xr : Int))) := by
                  have := HQ.out
                  unfold shR at this
                  simp only [Prod.mk.injEq] at this
                  obtain ⟨e1, e2, e3⟩ := this
                  exact ⟨Prod.ext e1 e2, e3⟩
                obtain ⟨hqe, hke⟩ := hqe
                (try simp only at hstep)
                rw [← hqe] at hke
                clear hbw hss hbq1
                cases kk
                · have HBI1 : Hid (Bi mvB (okB F R limit) ((f0 : Int), (r0 : Int)) V i ((m + 1 : Nat) : Int)) := by
                    have := hstep.1
                    rw [stepV_noS (Or.inl (by rw [← hqe]; exact hke.symm))] at this
                    exact this
                  clear hstep hqe hke hBa hbi
                  go_wp2
                  go_roundw
                  case rel => exact ⟨m + 1, V, D, L, g, o, cap, by omega, by go_num, rfl, HBW1.out, HSS1, HBI1, HXI, HLM, HDM⟩
                  case measure => simp [intOf]; omega
                · have hqg := okB_grid hke.symm
                  (try simp only at hqg)
                  obtain ⟨fa, rfl⟩ : ∃ fa : Nat, qf = (fa : Int) := ⟨qf.toNat, by omega⟩
                  obtain ⟨ra, rfl⟩ : ∃ ra : Nat, qr = (ra : Int) := ⟨qr.toNat, by omega⟩
                  have hfa : fa < F.length := by omega
                  have hra : ra < R.length := by omega
                  have hfaI : (fa : Int) < (F.length : Int) := by omega
                  have hraI : (ra : Int) < (R.length : Int) := by omega
                  have hfa0 : (0 : Int) ≤ (fa : Int) := by omega
                  have hra0 : (0 : Int) ≤ (ra : Int) := by omega
                  obtain ⟨b1, hb1⟩ : ∃ b1, bs[fa]? = some b1 := ⟨_, List.getElem?_eq_getElem (by rw [HBL.out]; exact hfa)⟩
                  have HB1 := Lib.hid hb1
                  have cO1 := HSS1.out.1.cellO hb1
                  obtain ⟨cR1, fR1⟩ := HSS1.out.1.cellR hb1 hra
                  have hdd := HDM.out fa ra hfa hra
                  clear hb1
                  cases hh : hasP V ((fa : Int), (ra : Int))
                  · -- a new place
                    have HHF : Hid (hasP V ((fa : Int), (ra : Int)) = false) := hh
                    have hd1 : D fa ra = -1 := by rw [hdd]; exact dOf_none hh
                    rw [hd1] at cR1
                    have HBI1 : Hid (Bi mvB (okB F R limit) ((f0 : Int), (r0 : Int)) (V ++ [(((fa : Int), (ra : Int)), xw ++ [(m : Int)])]) i ((m + 1 : Nat) : Int)) := by
                      have := hstep.1
                      rw [stepV_yesS (by rw [← hqe]; exact hke.symm) (by rw [← hqe]; exact hh)] at this
                      rw [← hqe] at this
                      exact this
                    have HXI1 : Hid ((V ++ [(((fa : Int), (ra : Int)), xw ++ [(m : Int)])])[i]? = some (((xf : Int), (xr : Int)), xw)) := getq_old HXI.out
                    obtain ⟨b0, hb0⟩ : ∃ b0, bs[xf]? = some b0 := ⟨_, List.getElem?_eq_getElem (by rw [HBL.out]; omega)⟩
                    have cO0 := HSS1.out.1.cellO hb0
                    have cR0 := (HSS1.out.1.cellR hb0 (show xr < R.length by omega)).1
                    have hd0 : D xf xr = xw.length := by rw [HDM.out xf xr (by omega) (by omega)]; exact dOf_at hbi.out.nodup HXI.out
                    rw [hd0] at cR0
                    have hxwl : xw.length ≤ 40 := by
                      have : xw.length ≤ i := hbi.out.depth HXI.out
                      omega
                    have hxwI : (xw.length : Int) ≤ 40 := by omega
                    have hdw : IntKind.i64.wrap ((xw.length : Int) + 1) = (xw.length : Int) + 1 := IntWalk.i64_in _ (by omega)
                    have hpo := (HSS1.out.2.2.1 (((xf : Int), (xr : Int)), p) (by simp)).1.2
                    have cp0 : w1.cell? ⟨p, 0, none⟩ = some (.int .i64 (xf : Int)) := cell_of_row w1 p 0 _ _ (0, 0) hpo
                    have cp1 : w1.cell? ⟨p, 1, none⟩ = some (.int .i64 (xr : Int)) := cell_of_row w1 p 1 _ _ (0, 0) hpo
                    have HDM1 : Hid (DistM (updD D fa ra ((xw.length : Int) + 1)) (V ++ [(((fa : Int), (ra : Int)), xw ++ [(m : Int)])]) F.length R.length) := HDM.out.snoc hh (by simp)
                    have HLL : Hid (L.length + (i + 1) = V.length) := by
                      show _ = _
                      have := congrArg List.length HLM.out
                      simp only [List.length_map, List.length_drop] at this
                      omega
                    have hxfI : (xf : Int) < (F.length : Int) := by omega
                    have hxrI : (xr : Int) < (R.length : Int) := by omega
                    have hxf0 : (0 : Int) ≤ (xf : Int) := by omega
                    have hxr0 : (0 : Int) ≤ (xr : Int) := by omega
                    clear hstep hqe hke hh hdd hd1 hd0 hpo hb0 hbi
                    go_wp2
                    go_region
                    clear cp0 cp1 cO0 cR0 cO1 cR1 fR1
                    generalize hw2 : (w1.setCell ⟨b1, ra, none⟩ (.int .i64 ((xw.length : Int) + 1))).drew = w2
                    have HSS2 : Hid (StS w2 W0.heap.size W0.heap.size F.length bs R.length (updD D fa ra ((xw.length : Int) + 1)) (.slice (some ⟨g, o, none⟩) L.length cap) L ((((xf : Int), (xr : Int)), p) :: L)) := by
                      show StS _ _ _ _ _ _ _ _ _ _
                      rw [← hw2]
                      exact HSS1.out.set HB1.out ra _
                    have HBW2 : Hid (Below W0.heap.size W0 w2) := by
                      show Below _ _ _
                      rw [← hw2]
                      exact (blw_setM HBW1.out HSS1.out.1 (List.mem_of_getElem? HB1.out) ra _).drew
                    clear hw2
                    have hB2 := HBW2.out.size
                    have hLl : L.length ≤ 40 := by have := HLL.out; omega
                    go_wp2_with (at_builtin; refine wpList_appQ _ rfl _ _ rfl W0.heap.size _ _ (gv (((fa : Int), (ra : Int)), w2.heap.size)) (L.map gv) rfl rfl ((HSS2.out.2.1.alloc _).alloc _) (RdV.oneN _ _ (by simp)) rfl (by rw [List.length_map]; omega) (by simp; omega) ?_; intro qv3 w3 hq3 hg3 hk3)
                    have hp3 := HSS2.out.push (q := ((fa : Int), (ra : Int))) hB2 hq3 hg3 hk3
                    have HBW3 : Hid (Below W0.heap.size W0 w3) := ((HBW2.out.alloc hB2 _).alloc (by simp; omega) _).grown hg3 (by simp; omega) (fun k hk => (QuV.blk HSS2.out.2.1 hk).1)
                    obtain ⟨g3, o3, cap3, e3⟩ := hq3.shape
                    subst e3
                    have HSS3 := Lib.hid hp3
                    have hl3 : (L.map gv ++ [gv (((fa : Int), (ra : Int)), w2.heap.size)]).length = (L ++ [(((fa : Int), (ra : Int)), w2.heap.size)]).length := by simp
                    rw [hl3] at HSS3 ⊢
                    have HLM1 : Hid ((L ++ [(((fa : Int), (ra : Int)), w2.heap.size)]).map Prod.fst = ((V ++ [(((fa : Int), (ra : Int)), xw ++ [(m : Int)])]).drop (i + 1)).map Prod.fst) := by
                      show _ = _
                      rw [List.map_append, HLM.out, List.drop_append_of_le_length (by omega), List.map_append]
                      rfl
                    clear hp3 hq3 hg3 hk3 hl3
                    go_wp2
                    go_roundw
                    case rel => exact ⟨m + 1, _, _, _, g3, o3, cap3, by omega, by go_num, rfl, HBW3.out, HSS3, HBI1, HXI1, HLM1, HDM1⟩
                    case measure => simp [intOf]; omega
                  · have HHF : Hid (hasP V ((fa : Int), (ra : Int)) = true) := hh
                    have HBI1 : Hid (Bi mvB (okB F R limit) ((f0 : Int), (r0 : Int)) V i ((m + 1 : Nat) : Int)) := by
                      have := hstep.1
                      rw [stepV_noS (Or.inr (by rw [← hqe]; exact hh))] at this
                      exact this
                    have hnn : ¬ D fa ra < 0 := by
                      rw [hdd]
                      have := dOf_nn.2 hh
                      omega
                    have hnd : decide (D fa ra < 0) = false := decide_eq_false hnn
                    generalize D fa ra = dv at *
                    clear hstep hqe hke hh hdd hBa hbi hnn
                    go_wp2
                    go_roundw
                    case rel => exact ⟨m + 1, V, D, L, g, o, cap, by omega, by go_num, rfl, HBW1.out, HSS1, HBI1, HXI, HLM, HDM⟩
                    case measure => simp [intOf]; omega
              · obtain rfl : m = 4 := by omega
                have hle : decide (((4 : Nat) : Int) ≤ 3) = false := by decide
                have HN : Hid (Bi mvB (okB F R limit) ((f0 : Int), (r0 : Int)) V (i + 1) 0) := hbi.out.next
                have HSS9 : Hid (StS wr W0.heap.size W0.heap.size F.length bs R.length D (.slice (some ⟨g, o, none⟩) L.length cap) L L) := hss.out.less (fun x hx => by simp [hx])
                have HG : Hid (gk - 1 + (i + 1) = 40) := by
                  show _ = _
                  have := HGK.out
                  omega
                have hg1 : gk - 1 < gk := by have := HGK.out; omega
                go_wp2
                go_roundg (gk - 1)
                case measure => exact hg1
                case rel => exact ⟨i + 1, V, D, L, g, o, cap, HG, rfl, hbw, HSS9, HN, HLM, HDM⟩
          · have hc01 : ¬ cap2 + 1 = 1 := by omega
            have HSSa : Hid (StS wr W0.heap.size W0.heap.size F.length bs R.length D (.slice (some ⟨g, o + 1, none⟩) L.length cap2) L ((((xf : Int), (xr : Int)), p) :: L)) := by
              show StS _ _ _ _ _ _ _ _ _ _
              have := HSS0.out
              unfold sliced at this
              rw [if_neg hc01] at this
              simpa [addr_add] using this
            have hLI : (1 : Int) ≤ (L.length : Int) + 1 := by omega
            have hLI2 : (0 : Int) < (L.length : Int) + 1 := by omega
            have hLc : (L.length : Int) + 1 ≤ (cap2 : Int) + 1 := by omega
            clear HSS0
            go_wp2
            clear hc0 hc01 hLI hLI2 hLc
            clear hcell2 hc1 hVl hiV
            go_loopw [12, 14] (fun qv mv wr => ∃ (m : Nat) (V : Fnd) (D : Nat → Nat → Int) (L : List Gb) (g o cap : Nat), m ≤ 4 ∧ mv = .int .i64 m ∧ qv = .slice (some ⟨g, o, none⟩) L.length cap ∧ Below W0.heap.size W0 wr ∧ Hid (StS wr W0.heap.size W0.heap.size F.length bs R.length D (.slice (some ⟨g, o, none⟩) L.length cap) L ((((xf : Int), (xr : Int)), p) :: L)) ∧ Hid (Bi mvB (okB F R limit) ((f0 : Int), (r0 : Int)) V i m) ∧ Hid (V[i]? = some (((xf : Int), (xr : Int)), xw)) ∧ Hid (L.map Prod.fst = (V.drop (i + 1)).map Prod.fst) ∧ Hid (DistM D V F.length R.length)) (fun _ mv _ => 4 - (intOf mv).toNat)
            case atStart => exact ⟨0, V, D, L, g, o + 1, cap2, by omega, rfl, rfl, hbw, HSSa, hbi, HXI0, HLM0, hdm⟩
            case round =>
              clear HSSa HXI0 HLM0
              clear hbw hbi hdm hmu
              obtain ⟨m, V, D, L, g, o, cap, hm4, rfl, rfl, hbw, hss, hbi, HXI, HLM, HDM⟩ := hrel
              have hVl := hbi.out.len hs h3 h12
              have hiV : i < V.length := getq_lt HXI.out
              by_cases hmlt : m ≤ 3
              · have hm0 : (0 : Int) ≤ (m : Int) := by omega
                have hm3 : (m : Int) ≤ 3 := by omega
                have hle : decide ((m : Int) ≤ 3) = true := decide_eq_true hm3
                have hpo := (hss.out.2.2.1 (((xf : Int), (xr : Int)), p) (by simp)).1.2
                have hpl := obj_lt hpo
                have cp0 : wr.cell? ⟨p, 0, none⟩ = some (.int .i64 (xf : Int)) := cell_of_row wr p 0 _ _ (0, 0) hpo
                have cp1 : wr.cell? ⟨p, 1, none⟩ = some (.int .i64 (xr : Int)) := cell_of_row wr p 1 _ _ (0, 0) hpo
                obtain ⟨⟨qf, qr, kk⟩, hq⟩ : ∃ rr__, rr__ = shR F R limit m xf xr := ⟨_, rfl⟩
                have HQ := Lib.hid hq
                have HFr := Lib.hid (HF0.out.below hbw)
                have HRr2 := Lib.hid (HR0.out.below hbw)
                clear hq hpo
                have bx0 := (hbw.cell (p := ⟨w.heap.size, 0, none⟩) hbx).trans HBX.out.1
                have bx1 := (hbw.cell (p := ⟨w.heap.size, 1, none⟩) hbx).trans HBX.out.2.1
                have bx2 := (hbw.cell (p := ⟨w.heap.size, 2, none⟩) hbx).trans HBX.out.2.2
                have hbxr : w.heap.size < wr.heap.size := Nat.lt_of_lt_of_le hbx hbw.size
                have KP : Hid (∀ W' : World, Below wr.heap.size wr W' → (W'.cell? ⟨w.heap.size, 0, none⟩ = some (.slice aF F.length cF) ∧ W'.cell? ⟨w.heap.size, 1, none⟩ = some (.slice aR R.length cR) ∧ W'.cell? ⟨w.heap.size, 2, none⟩ = some (.int .i64 rd) ∧ W'.cell? ⟨p, 0, none⟩ = some (.int .i64 (xf : Int)) ∧ W'.cell? ⟨p, 1, none⟩ = some (.int .i64 (xr : Int)))) := by
                  show ∀ W' : World, _
                  intro W' hb
                  exact ⟨(hb.cell (p := ⟨w.heap.size, 0, none⟩) hbxr).trans bx0, (hb.cell (p := ⟨w.heap.size, 1, none⟩) hbxr).trans bx1, (hb.cell (p := ⟨w.heap.size, 2, none⟩) hbxr).trans bx2, (hb.cell (p := ⟨p, 0, none⟩) hpl).trans cp0, (hb.cell (p := ⟨p, 1, none⟩) hpl).trans cp1⟩
                go_wp2_with fail
                go_region_held3 (fun W' => W'.cell? ⟨w.heap.size, 0, none⟩ = some (.slice aF F.length cF) ∧ W'.cell? ⟨w.heap.size, 1, none⟩ = some (.slice aR R.length cR) ∧ W'.cell? ⟨w.heap.size, 2, none⟩ = some (.int .i64 rd) ∧ W'.cell? ⟨p, 0, none⟩ = some (.int .i64 (xf : Int)) ∧ W'.cell? ⟨p, 1, none⟩ = some (.int .i64 (xr : Int)))
                  (first | exact ⟨bx0, bx1, bx2, cp0, cp1⟩ | exact KP.out _ hbq1)
                  ((first
                    | (go_at_call 74
                       (with_reducible refine (shifted_r _ _ F R rd limit xf xr m qf qr kk _ (by first | exact HFr.out | exact HFr.out.drew) (by first | exact HRr2.out | exact HRr2.out.drew) hn hm l0 l4 (by omega) (by omega) (by omega) (by omega) hm0 hm3 HQ.out).mono ?_)
                       rintro e w1 ⟨rfl, hbx1⟩
                       have hbq1 : Below wr.heap.size wr w1 := by first | exact hbx1 | exact blw_ofDrewY hbx1
                       clear hbx1)
                    | fail))
                clear bx0 bx1 bx2 cp0 cp1 KP
                rename_i hHeld
                clear hHeld
                have HBW1 := Lib.hid (hbw.trans (hbq1.mono hbw.size))
                have hBa := HBW1.out.size
                have HSS1 := Lib.hid (hss.out.below hbq1)
                have hstep := hbi.out.step HXI.out hm0 hm3
                have hqe : (qf, qr) = mvB (m : Int) ((xf : Int), (xr : Int)) ∧ kk = okB F R limit (mvB (m : Int) ((xf : Int), (xr : Int))) := by
                  have := HQ.out
                  unfold shR at this
                  simp only [Prod.mk.injEq] at this
                  obtain ⟨e1, e2, e3⟩ := this
                  exact ⟨Prod.ext e1 e2, e3⟩
                obtain ⟨hqe, hke⟩ := hqe
                (try simp only at hstep)
                rw [← hqe] at hke
                clear hbw hss hbq1
                cases kk
                · have HBI1 : Hid (Bi mvB (okB F R limit) ((f0 : Int), (r0 : Int)) V i ((m + 1 : Nat) : Int)) := by
                    have := hstep.1
                    rw [stepV_noS (Or.inl (by rw [← hqe]; exact hke.symm))] at this
                    exact this
                  clear hstep hqe hke hBa hbi
                  go_wp2
                  go_roundw
                  case rel => exact ⟨m + 1, V, D, L, g, o, cap, by omega, by go_num, rfl, HBW1.out, HSS1, HBI1, HXI, HLM, HDM⟩
                  case measure => simp [intOf]; omega
                · have hqg := okB_grid hke.symm
                  (try simp only at hqg)
                  obtain ⟨fa, rfl⟩ : ∃ fa : Nat, qf = (fa : Int) := ⟨qf.toNat, by omega⟩
                  obtain ⟨ra, rfl⟩ : ∃ ra : Nat, qr = (ra : Int) := ⟨qr.toNat, by omega⟩
                  have hfa : fa < F.length := by omega
                  have hra : ra < R.length := by omega
                  have hfaI : (fa : Int) < (F.length : Int) := by omega
                  have hraI : (ra : Int) < (R.length : Int) := by omega
                  have hfa0 : (0 : Int) ≤ (fa : Int) := by omega
                  have hra0 : (0 : Int) ≤ (ra : Int) := by omega
                  obtain ⟨b1, hb1⟩ : ∃ b1, bs[fa]? = some b1 := ⟨_, List.getElem?_eq_getElem (by rw [HBL.out]; exact hfa)⟩
                  have HB1 := Lib.hid hb1
                  have cO1 := HSS1.out.1.cellO hb1
                  obtain ⟨cR1, fR1⟩ := HSS1.out.1.cellR hb1 hra
                  have hdd := HDM.out fa ra hfa hra
                  clear hb1
                  cases hh : hasP V ((fa : Int), (ra : Int))
                  · -- a new place
                    have HHF : Hid (hasP V ((fa : Int), (ra : Int)) = false) := hh
                    have hd1 : D fa ra = -1 := by rw [hdd]; exact dOf_none hh
                    rw [hd1] at cR1
                    have HBI1 : Hid (Bi mvB (okB F R limit) ((f0 : Int), (r0 : Int)) (V ++ [(((fa : Int), (ra : Int)), xw ++ [(m : Int)])]) i ((m + 1 : Nat) : Int)) := by
                      have := hstep.1
                      rw [stepV_yesS (by rw [← hqe]; exact hke.symm) (by rw [← hqe]; exact hh)] at this
                      rw [← hqe] at this
                      exact this
                    have HXI1 : Hid ((V ++ [(((fa : Int), (ra : Int)), xw ++ [(m : Int)])])[i]? = some (((xf : Int), (xr : Int)), xw)) := getq_old HXI.out
                    obtain ⟨b0, hb0⟩ : ∃ b0, bs[xf]? = some b0 := ⟨_, List.getElem?_eq_getElem (by rw [HBL.out]; omega)⟩
                    have cO0 := HSS1.out.1.cellO hb0
                    have cR0 := (HSS1.out.1.cellR hb0 (show xr < R.length by omega)).1
                    have hd0 : D xf xr = xw.length := by rw [HDM.out xf xr (by omega) (by omega)]; exact dOf_at hbi.out.nodup HXI.out
                    rw [hd0] at cR0
                    have hxwl : xw.length ≤ 40 := by
                      have : xw.length ≤ i := hbi.out.depth HXI.out
                      omega
                    have hxwI : (xw.length : Int) ≤ 40 := by omega
                    have hdw : IntKind.i64.wrap ((xw.length : Int) + 1) = (xw.length : Int) + 1 := IntWalk.i64_in _ (by omega)
                    have hpo := (HSS1.out.2.2.1 (((xf : Int), (xr : Int)), p) (by simp)).1.2
                    have cp0 : w1.cell? ⟨p, 0, none⟩ = some (.int .i64 (xf : Int)) := cell_of_row w1 p 0 _ _ (0, 0) hpo
                    have cp1 : w1.cell? ⟨p, 1, none⟩ = some (.int .i64 (xr : Int)) := cell_of_row w1 p 1 _ _ (0, 0) hpo
                    have HDM1 : Hid (DistM (updD D fa ra ((xw.length : Int) + 1)) (V ++ [(((fa : Int), (ra : Int)), xw ++ [(m : Int)])]) F.length R.length) := HDM.out.snoc hh (by simp)
                    have HLL : Hid (L.length + (i + 1) = V.length) := by
                      show _ = _
                      have := congrArg List.length HLM.out
                      simp only [List.length_map, List.length_drop] at this
                      omega
                    have hxfI : (xf : Int) < (F.length : Int) := by omega
                    have hxrI : (xr : Int) < (R.length : Int) := by omega
                    have hxf0 : (0 : Int) ≤ (xf : Int) := by omega
                    have hxr0 : (0 : Int) ≤ (xr : Int) := by omega
                    clear hstep hqe hke hh hdd hd1 hd0 hpo hb0 hbi
                    go_wp2
                    go_region
                    clear cp0 cp1 cO0 cR0 cO1 cR1 fR1
                    generalize hw2 : (w1.setCell ⟨b1, ra, none⟩ (.int .i64 ((xw.length : Int) + 1))).drew = w2
                    have HSS2 : Hid (StS w2 W0.heap.size W0.heap.size F.length bs R.length (updD D fa ra ((xw.length : Int) + 1)) (.slice (some ⟨g, o, none⟩) L.length cap) L ((((xf : Int), (xr : Int)), p) :: L)) := by
                      show StS _ _ _ _ _ _ _ _ _ _
                      rw [← hw2]
                      exact HSS1.out.set HB1.out ra _
                    have HBW2 : Hid (Below W0.heap.size W0 w2) := by
                      show Below _ _ _
                      rw [← hw2]
                      exact (blw_setM HBW1.out HSS1.out.1 (List.mem_of_getElem? HB1.out) ra _).drew
                    clear hw2
                    have hB2 := HBW2.out.size
                    have hLl : L.length ≤ 40 := by have := HLL.out; omega
                    go_wp2_with (at_builtin; refine wpList_appQ _ rfl _ _ rfl W0.heap.size _ _ (gv (((fa : Int), (ra : Int)), w2.heap.size)) (L.map gv) rfl rfl ((HSS2.out.2.1.alloc _).alloc _) (RdV.oneN _ _ (by simp)) rfl (by rw [List.length_map]; omega) (by simp; omega) ?_; intro qv3 w3 hq3 hg3 hk3)
                    have hp3 := HSS2.out.push (q := ((fa : Int), (ra : Int))) hB2 hq3 hg3 hk3
                    have HBW3 : Hid (Below W0.heap.size W0 w3) := ((HBW2.out.alloc hB2 _).alloc (by simp; omega) _).grown hg3 (by simp; omega) (fun k hk => (QuV.blk HSS2.out.2.1 hk).1)
                    obtain ⟨g3, o3, cap3, e3⟩ := hq3.shape
                    subst e3
                    have HSS3 := Lib.hid hp3
                    have hl3 : (L.map gv ++ [gv (((fa : Int), (ra : Int)), w2.heap.size)]).length = (L ++ [(((fa : Int), (ra : Int)), w2.heap.size)]).length := by simp
                    rw [hl3] at HSS3 ⊢
                    have HLM1 : Hid ((L ++ [(((fa : Int), (ra : Int)), w2.heap.size)]).map Prod.fst = ((V ++ [(((fa : Int), (ra : Int)), xw ++ [(m : Int)])]).drop (i + 1)).map Prod.fst) := by
                      show _ = _
                      rw [List.map_append, HLM.out, List.drop_append_of_le_length (by omega), List.map_append]
                      rfl
                    clear hp3 hq3 hg3 hk3 hl3
                    go_wp2
                    go_roundw
                    case rel => exact ⟨m + 1, _, _, _, g3, o3, cap3, by omega, by go_num, rfl, HBW3.out, HSS3, HBI1, HXI1, HLM1, HDM1⟩
                    case measure => simp [intOf]; omega
                  · have HHF : Hid (hasP V ((fa : Int), (ra : Int)) = true) := hh
                    have HBI1 : Hid (Bi mvB (okB F R limit) ((f0 : Int), (r0 : Int)) V i ((m + 1 : Nat) : Int)) := by
                      have := hstep.1
                      rw [stepV_noS (Or.inr (by rw [← hqe]; exact hh))] at this
                      exact this
                    have hnn : ¬ D fa ra < 0 := by
                      rw [hdd]
                      have := dOf_nn.2 hh
                      omega
                    have hnd : decide (D fa ra < 0) = false := decide_eq_false hnn
                    generalize D fa ra = dv at *
                    clear hstep hqe hke hh hdd hBa hbi hnn
                    go_wp2
                    go_roundw
                    case rel => exact ⟨m + 1, V, D, L, g, o, cap, by omega, by go_num, rfl, HBW1.out, HSS1, HBI1, HXI, HLM, HDM⟩
                    case measure => simp [intOf]; omega
              · obtain rfl : m = 4 := by omega
                have hle : decide (((4 : Nat) : Int) ≤ 3) = false := by decide
                have HN : Hid (Bi mvB (okB F R limit) ((f0 : Int), (r0 : Int)) V (i + 1) 0) := hbi.out.next
                have HSS9 : Hid (StS wr W0.heap.size W0.heap.size F.length bs R.length D (.slice (some ⟨g, o, none⟩) L.length cap) L L) := hss.out.less (fun x hx => by simp [hx])
                have HG : Hid (gk - 1 + (i + 1) = 40) := by
                  show _ = _
                  have := HGK.out
                  omega
                have hg1 : gk - 1 < gk := by have := HGK.out; omega
                go_wp2
                go_roundg (gk - 1)
                case measure => exact hg1
                case rel => exact ⟨i + 1, V, D, L, g, o, cap, HG, rfl, hbw, HSS9, HN, HLM, HDM⟩

end Go.Proofs.Ytfdnhamkkcmnfaa
