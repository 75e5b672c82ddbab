/- Contract of the program's gearOrder. -/
import Derived.Test.YtfdnhamkkcmnfaaGrdA
import Derived.Deep.RegionHeld3
set_option linter.unusedSimpArgs false
set_option linter.unusedVariables false
namespace Go.Proofs.Ytfdnhamkkcmnfaa
open Go.RowKit

/-- What is known while a gear's place is sought from behind. -/
def passG (F R : List Int) (f r k : Nat) : Prop := ∀ j y, k ≤ j → (ordP F R f r)[j]? = some y → leG F R y ((f : Int), (r : Int)) = false
theorem passG_end {F R : List Int} {f r k : Nat} (h : passG F R f r k) (hk : k ≤ (ordP F R f r).length) (h2 : k = 0 ∨ ∃ y, (ordP F R f r)[k - 1]? = some y ∧ leG F R y ((f : Int), (r : Int)) = true) :
    ordP F R f (r + 1) = (ordP F R f r).take k ++ ((f : Int), (r : Int)) :: (ordP F R f r).drop k := by
  have e := insAt_down (leG F R) (leG_tr F R) (ordP_sorted F R f r) (x := ((f : Int), (r : Int))) (p := k) hk h (fun y h0 hy => by
    rcases h2 with h2 | ⟨z, hz, hl⟩
    · omega
    · rw [hz] at hy
      injection hy with hy
      subst hy
      exact hl)
  rw [ordP_succ, ins_eq, e]
theorem ordP_bd {F R : List Int} {f r : Nat} (hf : f < F.length ∨ (f = F.length ∧ r = 0)) (hr : r ≤ R.length) {j : Nat} {y : Gear} (hy : (ordP F R f r)[j]? = some y) : ∃ i q : Nat, y = ((i : Int), (q : Int)) ∧ i < F.length ∧ q < R.length := by
  have := ordP_ok hf hr y (List.mem_of_getElem? hy)
  unfold okG at this
  exact ⟨y.1.toNat, y.2.toNat, by apply Prod.ext <;> simp <;> omega, by omega, by omega⟩
theorem map_mid (L : List Gb) (x : Gb) (k : Nat) : (L.take k ++ x :: L.drop k).map Prod.fst = (L.map Prod.fst).take k ++ x.1 :: (L.map Prod.fst).drop k := by
  rw [List.map_append, List.map_cons, List.map_take, List.map_drop]
theorem moveSetV {us : List Value} {k n : Nat} (hn : us.length = n) (hk : k ≤ n) (z x : Value) : ((us ++ [z]).take (k + 1) ++ ((us ++ [z]).drop k).take (n + 1 - (k + 1))).set k x = us.take k ++ x :: us.drop k := by
  subst hn
  have hl : k < (us ++ [z]).length := by simp; omega
  rw [List.take_succ_eq_append_getElem hl]
  have e1 : (us ++ [z]).take k = us.take k := by rw [List.take_append_of_le_length hk]
  have e2 : ((us ++ [z]).drop k).take (us.length + 1 - (k + 1)) = us.drop k := by
    rw [List.drop_append_of_le_length hk, List.take_append_of_le_length (by simp), List.take_of_length_le (by simp)]
  rw [e1, e2]
  have hA : (us.take k).length = k := by rw [List.length_take]; omega
  generalize us.take k = A at *
  generalize (us ++ [z])[k] = y at *
  have : ((A ++ [y]) ++ us.drop k).set A.length x = A ++ x :: us.drop k := by
    rw [List.append_assoc]
    simp
  rw [hA] at this
  exact this
theorem grown_set (w : World) (g i : Nat) (u : Value) : w.grownBy (w.setCell ⟨g, i, none⟩ u) (some g) :=
  ⟨rfl, rfl, rfl, by simp [World.setCell], fun k hk hne => Below.heap_setCell w ⟨g, i, none⟩ u k (by
    intro e
    have e' : k = g := e
    exact hne (by rw [e']))⟩
/-- A gear x in a block of its own has been put at place k. -/
theorem OwG.put {w : World} {base : Nat} {v : Value} {L : List Gb} {x : Gb} {k : Nat} (ho : OwV w base v ((L.map gv).take k ++ gv x :: (L.map gv).drop k)) (hr : Rws w base L) (hx : base ≤ x.2 ∧ w.heap[x.2]? = some (gobj x)) (hv : ∀ y ∈ L, v.ownBlock ≠ some y.2) (hvx : v.ownBlock ≠ some x.2) (hn : (L.map Prod.snd).Nodup) (hnx : ∀ y ∈ L, y.2 ≠ x.2) :
    OwG w base v (L.take k ++ x :: L.drop k) := by
  refine ⟨by rw [List.map_append, List.map_cons, List.map_take, List.map_drop]; exact ho, fun y hy => ?_, fun y hy => ?_, ?_⟩
  · rcases mem_mid hy with rfl | hy
    · exact hx
    · exact hr y hy
  · rcases mem_mid hy with rfl | hy
    · exact hvx
    · exact hv y hy
  · rw [List.map_append, List.map_cons, List.map_take, List.map_drop]
    refine nodup_mid hn (fun hm => ?_) k
    rw [List.mem_map] at hm
    obtain ⟨y, hy, e⟩ := hm
    exact hnx y hy e

set_option maxRecDepth 100000 in
set_option maxHeartbeats 4000000 in
theorem gearOrder_any (vF vR : Value) (F R : List Int) (rd : Int)  (w : World) (hF : RdI w vF F) (hR : RdI w vR R) (hn : F.length ≤ 1048576) (hm : R.length ≤ 1048576) (tF : teethR F 3 20 60 = true) (tR : teethR R 12 9 52 = true) :
    Calls Try.prog 83 #[.agg #[vF, vR, .int .i64 rd]] w fun e w' => ∃ v L, e = .returned v ∧ OwG w' w.heap.size v L ∧ L.map Prod.fst = ordG F R ∧ Below w.heap.size w w' := by
  obtain ⟨f1, f3, -⟩ := teethR_at tF
  obtain ⟨r1, r12, -⟩ := teethR_at tR
  have HF := Lib.hid hF
  have HRr := Lib.hid hR
  obtain ⟨aF, cF, rfl, -⟩ := hF
  obtain ⟨aR, cR, rfl, -⟩ := hR
  go_enter Try.func83, Try.ntmps83
  go_wp2_with fail
  generalize hw : w.alloc (.cells #[.slice aF F.length cF, .slice aR R.length cR, .int .i64 rd] 28) = W0
  have bx0 : W0.cell? ⟨w.heap.size, 0, none⟩ = some (.slice aF F.length cF) := by rw [← hw]; simp [go_sem]
  have bx1 : W0.cell? ⟨w.heap.size, 1, none⟩ = some (.slice aR R.length cR) := by rw [← hw]; simp [go_sem]
  have bx2 : W0.cell? ⟨w.heap.size, 2, none⟩ = some (.int .i64 rd) := by rw [← hw]; simp [go_sem]
  have hbx : w.heap.size < W0.heap.size := by rw [← hw]; simp
  have HTW : Hid (Below w.heap.size w W0) := by
    show Below _ _ _
    rw [← hw]; exact (Below.refl _ _).alloc (Nat.le_refl _) _
  have HF0 := Lib.hid (show RdI W0 (.slice aF F.length cF) F by rw [← hw]; exact HF.out.alloc _)
  have HR0 := Lib.hid (show RdI W0 (.slice aR R.length cR) R by rw [← hw]; exact HRr.out.alloc _)
  have HBX := Lib.hid (And.intro bx0 (And.intro bx1 bx2))
  have T0 := Below.refl W0.heap.size W0
  clear hw
  clear bx0 bx1 bx2
  have bx0 := (T0.cell (p := ⟨w.heap.size, 0, none⟩) hbx).trans HBX.out.1
  have bx1 := (T0.cell (p := ⟨w.heap.size, 1, none⟩) hbx).trans HBX.out.2.1
  have bx2 := (T0.cell (p := ⟨w.heap.size, 2, none⟩) hbx).trans HBX.out.2.2
  go_wp2
  go_loopw [3, 11] (fun ov fi wr => ∃ (f : Nat) (ao : Option Addr) (co : Nat) (L : List Gb), f ≤ F.length ∧ fi = .int .i64 f ∧ ov = .slice ao L.length co ∧ Below W0.heap.size W0 wr ∧ Hid (OwG wr W0.heap.size (.slice ao L.length co) L ∧ L.map Prod.fst = ordP F R f 0)) (fun _ fi _ => F.length - (intOf fi).toNat)
  case atStart => exact ⟨0, none, 0, [], Nat.zero_le _, rfl, rfl, Below.refl _ _, ⟨OwG.nil _ _, rfl⟩⟩
  case round =>
    clear bx0 bx1 bx2
    obtain ⟨f, ao, co, L, hf, rfl, rfl, hbw, hoL⟩ := hrel
    by_cases hlt : f < F.length
    · skip
      have bx0 := (hbw.cell (p := ⟨w.heap.size, 0, none⟩) hbx).trans HBX.out.1
      have bx1 := (hbw.cell (p := ⟨w.heap.size, 1, none⟩) hbx).trans HBX.out.2.1
      have bx2 := (hbw.cell (p := ⟨w.heap.size, 2, none⟩) hbx).trans HBX.out.2.2
      have hf := hlt
      go_wp2
      go_loopw [3, 17] (fun ov ri wr => ∃ (r : Nat) (ao : Option Addr) (co : Nat) (L : List Gb), r ≤ R.length ∧ ri = .int .i64 r ∧ ov = .slice ao L.length co ∧ Below W0.heap.size W0 wr ∧ Hid (OwG wr W0.heap.size (.slice ao L.length co) L ∧ L.map Prod.fst = ordP F R f r)) (fun _ ri _ => R.length - (intOf ri).toNat)
      case atStart => exact ⟨0, ao, co, L, Nat.zero_le _, rfl, rfl, hbw, hoL⟩
      case round =>
        clear bx0 bx1 bx2 hoL hbw
        obtain ⟨r, ao, co, L, hr, rfl, rfl, hbw, hoL⟩ := hrel
        by_cases hlr : r < R.length
        · have hr := hlr
          have HM := Lib.hid hoL.out.2
          have hLl : L.length = f * R.length + r := by rw [← List.length_map (f := Prod.fst), hoL.out.2, ordP_length]
          have hLb : L.length ≤ 36 := by
            have h1 : f * R.length ≤ 2 * 12 := Nat.mul_le_mul (by omega) (by omega)
            omega
          have hPL : Hid ((ordP F R f r).length = L.length) := by show _ = _; rw [ordP_length, hLl]
          clear hLl
          go_wp2
          generalize hwg : wr.alloc (.cells #[.int .i64 f, .int .i64 r] 2) = wg
          obtain ⟨pg, hpgd⟩ : ∃ pg, pg = wr.heap.size := ⟨_, rfl⟩
          have HOg : Hid (OwG wg W0.heap.size (.slice ao L.length co) L) := by show OwG _ _ _ _; rw [← hwg]; exact hoL.out.1.alloc _
          have HGg : Hid (wg.heap[pg]? = some (gobj (((f : Int), (r : Int)), pg))) := by show _ = _; rw [← hwg, hpgd]; exact heap_alloc_new _ _
          have HWg : Hid (Below W0.heap.size W0 wg) := by show Below _ _ _; rw [← hwg]; exact hbw.alloc hbw.size _
          have hpg : W0.heap.size ≤ pg := by rw [hpgd]; exact hbw.size
          have HNX : Hid (∀ y ∈ L, y.2 ≠ pg) := by
            show ∀ y ∈ L, _
            intro y hy
            have := obj_lt (hoL.out.1.2.1 y hy).2
            omega
          have HNG : Hid ((Value.slice ao L.length co).ownBlock ≠ some pg) := by
            show _ ≠ _
            intro e
            have := World.ownsRow.lt hoL.out.1.1 pg e
            omega
          rw [← hpgd]
          clear hwg hpgd hoL hbw
          have HPA : Hid (passG F R f r L.length) := by
            show passG _ _ _ _ _
            intro j y hj hy
            rw [List.getElem?_eq_none (by rw [hPL.out]; exact hj)] at hy
            cases hy
          go_loopw [7] (fun kk wr => ∃ k : Nat, k ≤ L.length ∧ kk = .int .i64 k ∧ Below wg.heap.size wg wr ∧ Hid (passG F R f r k)) (fun kk _ => (intOf kk).toNat)
          case atStart => exact ⟨L.length, Nat.le_refl _, rfl, Below.refl _ _, HPA.out⟩
          case round =>
            clear HPA
            obtain ⟨k, hk, rfl, hb2, hpa⟩ := hrel
            have ho2 := Lib.hid (HOg.out.below hb2)
            have HG2 := Lib.hid (obj_below HGg.out hb2)
            have hbw2 : Below W0.heap.size W0 wr := HWg.out.trans (hb2.mono HWg.out.size)
            by_cases hk0 : k = 0
            · have HI := Lib.hid (passG_end hpa.out (by rw [hPL.out]; omega) (Or.inl hk0))
              have hd : decide ((0 : Int) < (k : Int)) = false := by simp; omega
              go_wp2
              go_quiet (fail)
              have HW : Hid (Below W0.heap.size W0 (wr.drewN nq)) := blw_drewN hbw2 _
              have HO := Lib.hid (ho2.out.drewN nq)
              have HGR : Hid ((wr.drewN nq).heap[pg]? = some (gobj (((f : Int), (r : Int)), pg))) := HG2.out
              obtain ⟨wt, hwt⟩ : ∃ wt, wt = wr.drewN nq := ⟨_, rfl⟩
              rw [← hwt] at HW HO HGR
              rw [← hwt]
              clear hwt ho2 hb2 hbw2 HG2 hd hk0 hpa HOg HGg HWg
              have hwz := HW.out.size
              have hpz := obj_lt HGR.out
              go_wp2_with (at_builtin; refine wpList_appV _ rfl _ _ rfl W0.heap.size _ _ (L.map gv) [.slice none 0 0] rfl rfl (HO.out.1.alloc _) (RdV.oneN _ _ rfl) (by simp; rfl) (by simp; omega) (by (try simp); omega) ?_; intro v' w1 hown hgrow hblk)
              have HW1 : Hid (Below W0.heap.size W0 w1) := OwV.grown (HO.out.1.alloc _) (HW.out.alloc HW.out.size _) (by (try simp); (try omega)) hgrow
              have HR1 : Hid (Rws w1 W0.heap.size L) := (HO.out.2.1.below ((Below.refl _ _).alloc (Nat.le_refl _) _)).far hgrow HO.out.2.2.1
              have HG1 : Hid (w1.heap[pg]? = some (gobj (((f : Int), (r : Int)), pg))) := obj_far (obj_below HGR.out ((Below.refl _ _).alloc (Nat.le_refl _) _)) hgrow HNG.out
              have HV1 : Hid (∀ y ∈ L, v'.ownBlock ≠ some y.2) := by
                show ∀ y ∈ L, _
                intro y hy e
                rcases hblk with e2 | e2
                · exact HO.out.2.2.1 y hy (e2.symm.trans e)
                · have h1 := obj_lt (HO.out.2.1 y hy).2
                  rw [e2] at e
                  injection e with e
                  simp only [World.size_alloc] at e
                  omega
              have HX1 : Hid (v'.ownBlock ≠ some pg) := by
                show _ ≠ _
                intro e
                rcases hblk with e2 | e2
                · exact HNG.out (e2.symm.trans e)
                · rw [e2] at e
                  injection e with e
                  simp only [World.size_alloc] at e
                  omega
              have HO1 := Lib.hid hown
              have HND : Hid ((L.map Prod.snd).Nodup) := HO.out.2.2.2
              obtain ⟨gN, cN, e3, hgN, hlN⟩ := World.ownsRow.form HO1.out (by simp)
              have hLL : ((L.map gv ++ [Value.slice none 0 0] : List Value)).length = L.length + 1 := by simp
              rw [hLL] at e3
              subst e3
              have hcN := (OwV.cap HO1.out).1
              rw [hLL] at hcN
              clear hown hgrow hblk HO HGR HNG
              have z1 : IntKind.i64.wrap ((k : Int) + 1) = (k : Int) + 1 := IntWalk.i64_in _ (by omega)
              have z2 : (0 : Int) ≤ (k : Int) + 1 := by omega
              have z3 : (k : Int) + 1 ≤ ((L.length + 1 : Nat) : Int) := by omega
              have z4 : (0 : Int) ≤ (k : Int) := by omega
              have z5 : (k : Int) ≤ ((L.length + 1 : Nat) : Int) := by omega
              have z6 : ((k : Int) + 1).toNat = k + 1 := by omega
              have z7 : (k : Int) + 1 ≤ (L.length : Int) + 1 := by omega
              have z8 : (k : Int) ≤ (L.length : Int) + 1 := by omega
              have z9 : ¬ cN = k := by omega
              have za : (k : Int) < (L.length : Int) + 1 := by omega
              by_cases hcc : cN = k + 1
              · skip
                subst hcc
                go_wp2
                go_region_held3 (fun _ => True) (trivial)
                  ((first
                    | (refine step_moveV _ (by rfl) _ _ (by rfl) W0.heap.size gN (L.length + 1) (k + 1) (L.map gv ++ [.slice none 0 0]) ?_ ?_ k (by omega) _ _ _ _ _ _ (by rfl) (by rfl) (by omega) (by omega) ?_ (by rfl) ?_
                       · first | exact HO1.out.drew | exact HO1.out
                       · intro z hz
                         rcases List.mem_append.1 hz with hz | hz
                         · exact gv_one L z hz
                         · rw [List.mem_singleton] at hz; subst hz; rfl
                       · first | (intro _; rfl) | (intro h; omega)
                       intro w2 ho4 hg4)
                    | fail))
                have hg4' : w1.grownBy w2 (some gN) := ⟨hg4.os, hg4.tape, hg4.output, hg4.size, hg4.block⟩
                have HW2 : Hid (Below W0.heap.size W0 w2) := by
                  show Below _ _ _
                  exact HW1.out.grown hg4' HW1.out.size (fun q hq => by injection hq with hq; omega)
                have HR2 : Hid (Rws w2 W0.heap.size L) := HR1.out.far hg4' (fun y hy => HV1.out y hy)
                have HG2 : Hid (w2.heap[pg]? = some (gobj (((f : Int), (r : Int)), pg))) := obj_far HG1.out hg4' HX1.out
                have HO2 := Lib.hid ho4
                have hlm : ((L.map gv ++ [Value.slice none 0 0]).take (k + 1) ++ ((L.map gv ++ [Value.slice none 0 0]).drop k).take (L.length + 1 - (k + 1))).length = L.length + 1 := by simp; omega
                obtain ⟨u9, hu9⟩ := getV_ex (us := ((L.map gv ++ [Value.slice none 0 0]).take (k + 1) ++ ((L.map gv ++ [Value.slice none 0 0]).drop k).take (L.length + 1 - (k + 1)))) (j := k) (by rw [hlm]; omega)
                have c9 := OwV.cell HO2.out hu9
                have f9 := OwV.free HO2.out k
                have HO3 : Hid (OwG (w2.setCell ⟨gN, k, none⟩ (gv (((f : Int), (r : Int)), pg))) W0.heap.size (.slice (some ⟨gN, 0, none⟩) (L.length + 1) (k + 1)) (L.take k ++ (((f : Int), (r : Int)), pg) :: L.drop k)) := by
                  show OwG _ _ _ _
                  have hs := HO2.out.set k (gv (((f : Int), (r : Int)), pg))
                  rw [moveSetV (by simp) (by omega)] at hs
                  have hgs : w2.grownBy (w2.setCell ⟨gN, k, none⟩ (gv (((f : Int), (r : Int)), pg))) (some gN) := grown_set w2 gN k _
                  exact OwG.put hs (HR2.out.far hgs (fun y hy => HV1.out y hy)) ⟨hpg, obj_far HG2.out hgs HX1.out⟩ (fun y hy => HV1.out y hy) HX1.out HND.out HNX.out
                have HL2 : Hid ((L.take k ++ (((f : Int), (r : Int)), pg) :: L.drop k).map Prod.fst = ordP F R f (r + 1)) := by
                  show _ = _
                  rw [map_mid, HM.out, HI.out]
                have hlen2 : (L.take k ++ (((f : Int), (r : Int)), pg) :: L.drop k).length = L.length + 1 := by simp; omega
                have HW3 : Hid (Below W0.heap.size W0 (w2.setCell ⟨gN, k, none⟩ (gv (((f : Int), (r : Int)), pg)))) := HW2.out.setCell (by simp; omega) _
                have hgv : gv (((f : Int), (r : Int)), pg) = .slice (some ⟨pg, 0, none⟩) 2 2 := rfl
                rw [hgv] at HO3 HW3
                clear ho4 hg4 hg4' HO1 HW1 HO2 hlm HR1 HR2 HG1 HG2 hu9 HW2
                go_wp2
                go_roundw
                case rel => exact ⟨r + 1, _, _, _, by omega, by go_num, (by rw [hlen2]), HW3.out, ⟨by rw [hlen2]; exact HO3.out, HL2.out⟩⟩
                case measure => simp [intOf] <;> omega
              · skip
                go_wp2
                go_region_held3 (fun _ => True) (trivial)
                  ((first
                    | (refine step_moveV _ (by rfl) _ _ (by rfl) W0.heap.size gN (L.length + 1) cN (L.map gv ++ [.slice none 0 0]) ?_ ?_ k (by omega) _ _ _ _ _ _ (by rfl) (by rfl) (by omega) (by omega) ?_ (by rfl) ?_
                       · first | exact HO1.out.drew | exact HO1.out
                       · intro z hz
                         rcases List.mem_append.1 hz with hz | hz
                         · exact gv_one L z hz
                         · rw [List.mem_singleton] at hz; subst hz; rfl
                       · first | (intro _; rfl) | (intro h; omega)
                       intro w2 ho4 hg4)
                    | fail))
                have hg4' : w1.grownBy w2 (some gN) := ⟨hg4.os, hg4.tape, hg4.output, hg4.size, hg4.block⟩
                have HW2 : Hid (Below W0.heap.size W0 w2) := by
                  show Below _ _ _
                  exact HW1.out.grown hg4' HW1.out.size (fun q hq => by injection hq with hq; omega)
                have HR2 : Hid (Rws w2 W0.heap.size L) := HR1.out.far hg4' (fun y hy => HV1.out y hy)
                have HG2 : Hid (w2.heap[pg]? = some (gobj (((f : Int), (r : Int)), pg))) := obj_far HG1.out hg4' HX1.out
                have HO2 := Lib.hid ho4
                have hlm : ((L.map gv ++ [Value.slice none 0 0]).take (k + 1) ++ ((L.map gv ++ [Value.slice none 0 0]).drop k).take (L.length + 1 - (k + 1))).length = L.length + 1 := by simp; omega
                obtain ⟨u9, hu9⟩ := getV_ex (us := ((L.map gv ++ [Value.slice none 0 0]).take (k + 1) ++ ((L.map gv ++ [Value.slice none 0 0]).drop k).take (L.length + 1 - (k + 1)))) (j := k) (by rw [hlm]; omega)
                have c9 := OwV.cell HO2.out hu9
                have f9 := OwV.free HO2.out k
                have HO3 : Hid (OwG (w2.setCell ⟨gN, k, none⟩ (gv (((f : Int), (r : Int)), pg))) W0.heap.size (.slice (some ⟨gN, 0, none⟩) (L.length + 1) cN) (L.take k ++ (((f : Int), (r : Int)), pg) :: L.drop k)) := by
                  show OwG _ _ _ _
                  have hs := HO2.out.set k (gv (((f : Int), (r : Int)), pg))
                  rw [moveSetV (by simp) (by omega)] at hs
                  have hgs : w2.grownBy (w2.setCell ⟨gN, k, none⟩ (gv (((f : Int), (r : Int)), pg))) (some gN) := grown_set w2 gN k _
                  exact OwG.put hs (HR2.out.far hgs (fun y hy => HV1.out y hy)) ⟨hpg, obj_far HG2.out hgs HX1.out⟩ (fun y hy => HV1.out y hy) HX1.out HND.out HNX.out
                have HL2 : Hid ((L.take k ++ (((f : Int), (r : Int)), pg) :: L.drop k).map Prod.fst = ordP F R f (r + 1)) := by
                  show _ = _
                  rw [map_mid, HM.out, HI.out]
                have hlen2 : (L.take k ++ (((f : Int), (r : Int)), pg) :: L.drop k).length = L.length + 1 := by simp; omega
                have HW3 : Hid (Below W0.heap.size W0 (w2.setCell ⟨gN, k, none⟩ (gv (((f : Int), (r : Int)), pg)))) := HW2.out.setCell (by simp; omega) _
                have hgv : gv (((f : Int), (r : Int)), pg) = .slice (some ⟨pg, 0, none⟩) 2 2 := rfl
                rw [hgv] at HO3 HW3
                clear ho4 hg4 hg4' HO1 HW1 HO2 hlm HR1 HR2 HG1 HG2 hu9 HW2
                go_wp2
                go_roundw
                case rel => exact ⟨r + 1, _, _, _, by omega, by go_num, (by rw [hlen2]), HW3.out, ⟨by rw [hlen2]; exact HO3.out, HL2.out⟩⟩
                case measure => simp [intOf] <;> omega
            · have hpos : 0 < k := by omega
              have hpos' : (0 : Int) < (k : Int) := by omega
              have hpos1 : (1 : Int) ≤ (k : Int) := by omega
              have hd0 : decide ((0 : Int) < (k : Int)) = true := by simpa using hpos'
              have hkm : IntKind.i64.wrap ((k : Int) - 1) = (k : Int) - 1 := IntWalk.i64_in _ (by omega)
              have hkn : ((k : Int) - 1).toNat = k - 1 := by omega
              have hk1 : (0 : Int) ≤ (k : Int) - 1 := by omega
              have hk2 : (k : Int) - 1 < (L.length : Int) := by omega
              obtain ⟨⟨y, py⟩, hy⟩ : ∃ y, L[k - 1]? = some y := ⟨_, List.getElem?_eq_getElem (by omega)⟩
              have hyo : (ordP F R f r)[k - 1]? = some y := by rw [← HM.out, List.getElem?_map, hy]; rfl
              obtain ⟨i2, q2, rfl, hi2, hq2⟩ := ordP_bd (Or.inl hf) (by omega) hyo
              obtain ⟨g, hag, c1⟩ := ho2.out.cellAt hy
              have hrow := (ho2.out.row hy).2
              subst hag
              have HYO := Lib.hid hyo
              have HROW : Hid (wr.heap[py]? = some (.cells #[.int .i64 i2, .int .i64 q2] 2 (0, 0))) := hrow
              have HGW : Hid (wr.heap[pg]? = some (.cells #[.int .i64 f, .int .i64 r] 2 (0, 0))) := HG2.out
              have hgv : gv (((i2 : Int), (q2 : Int)), py) = .slice (some ⟨py, 0, none⟩) 2 2 := rfl
              rw [hgv] at c1
              clear hrow hyo hy hgv
              have bx0 := (hbw2.cell (p := ⟨w.heap.size, 0, none⟩) hbx).trans HBX.out.1
              have bx1 := (hbw2.cell (p := ⟨w.heap.size, 1, none⟩) hbx).trans HBX.out.2.1
              have bx2 := (hbw2.cell (p := ⟨w.heap.size, 2, none⟩) hbx).trans HBX.out.2.2
              have hgl := World.block_lt_of_cell? _ _ c1
              have KP : Hid (∀ W' : World, Below wr.heap.size wr W' → (W'.cell? ⟨w.heap.size, 0, none⟩ = some (.slice aF F.length cF) ∧ W'.cell? ⟨w.heap.size, 1, none⟩ = some (.slice aR R.length cR) ∧ W'.cell? ⟨w.heap.size, 2, none⟩ = some (.int .i64 rd) ∧ W'.cell? ⟨g, k - 1, none⟩ = some (.slice (some ⟨py, 0, none⟩) 2 2))) := by
                show ∀ W' : World, _
                intro W' hb
                have h1 := Nat.lt_of_lt_of_le hbx hbw2.size
                exact ⟨(hb.cell (p := ⟨w.heap.size, 0, none⟩) h1).trans bx0, (hb.cell (p := ⟨w.heap.size, 1, none⟩) h1).trans bx1, (hb.cell (p := ⟨w.heap.size, 2, none⟩) h1).trans bx2, (hb.cell (p := ⟨g, k - 1, none⟩) hgl).trans c1⟩
              have HFw := Lib.hid (HF0.out.below hbw2)
              have HRw := Lib.hid (HR0.out.below hbw2)
              have HLE := Lib.hid (leG_cmp F R ((i2 : Int), (q2 : Int)) ((f : Int), (r : Int)))
              go_wp2
              go_region_held3 (fun W' => W'.cell? ⟨w.heap.size, 0, none⟩ = some (.slice aF F.length cF) ∧ W'.cell? ⟨w.heap.size, 1, none⟩ = some (.slice aR R.length cR) ∧ W'.cell? ⟨w.heap.size, 2, none⟩ = some (.int .i64 rd) ∧ W'.cell? ⟨g, k - 1, none⟩ = some (.slice (some ⟨py, 0, none⟩) 2 2))
                (first | exact ⟨bx0, bx1, bx2, c1⟩ | exact KP.out _ hbc)
                ((first
                  | (go_at_call 104
                     refine (compareRatios_any _ _ F R rd i2 q2 f r py pg _ ?_ ?_ hn hm tF tR ?_ ?_ hi2 hq2 hf hr).mono ?_
                     · first | exact HFw.out | exact HFw.out.drew
                     · first | exact HRw.out | exact HRw.out.drew
                     · exact HROW.out
                     · exact HGW.out
                     rintro e w1 ⟨rfl, hbc0⟩
                     have hbc : Below wr.heap.size wr w1 := by first | exact hbc0 | exact blw_ofDrew hbc0
                     clear hbc0
                     generalize hcz : cmpG F R ((i2 : Int), (q2 : Int)) ((f : Int), (r : Int)) = cz at *
                     have HCZ := Lib.hid hcz
                     clear hcz)
                  | fail))
              all_goals
                clear KP bx0 bx1 bx2 c1
                by_cases hcp : 0 < cz
                · have HS : Hid (passG F R f r (k - 1)) := by
                    show passG F R f r (k - 1)
                    intro j y hj hy
                    by_cases hjk : j = k - 1
                    · subst hjk
                      rw [HYO.out] at hy
                      injection hy with hy
                      subst hy
                      rw [HLE.out, decide_eq_false_iff_not]
                      omega
                    · exact hpa.out j y (by omega) hy
                  have HBK : Hid (Below wg.heap.size wg w1) := hb2.trans (hbc.mono hb2.size)
                  have hdc : decide (0 < cz) = true := by simpa using hcp
                  clear HCZ HLE
                  go_wp2
                  go_roundw
                  case rel => exact ⟨k - 1, by omega, by rw [show ((k - 1 : Nat) : Int) = (k : Int) - 1 by omega], HBK.out, HS⟩
                  case measure => simp [intOf] <;> omega
                · have HI := Lib.hid (passG_end hpa.out (by rw [hPL.out]; omega) (Or.inr ⟨_, HYO.out, by rw [HLE.out, decide_eq_true_eq]; omega⟩))
                  have HW : Hid (Below W0.heap.size W0 w1) := hbw2.trans (hbc.mono hbw2.size)
                  have HO := Lib.hid (ho2.out.below hbc)
                  have HGR : Hid (w1.heap[pg]? = some (gobj (((f : Int), (r : Int)), pg))) := obj_below HG2.out hbc
                  have hdc : decide (0 < cz) = false := by simpa using hcp
                  obtain ⟨wt, hwt⟩ : ∃ wt, wt = w1 := ⟨_, rfl⟩
                  rw [← hwt] at HW HO HGR
                  rw [← hwt]
                  clear hwt ho2 hb2 hbw2 HG2 hpa HOg HGg HWg HCZ HLE hbc HFw HRw HYO HROW HGW
                  have hwz := HW.out.size
                  have hpz := obj_lt HGR.out
                  go_wp2_with (at_builtin; refine wpList_appV _ rfl _ _ rfl W0.heap.size _ _ (L.map gv) [.slice none 0 0] rfl rfl (HO.out.1.alloc _) (RdV.oneN _ _ rfl) (by simp; rfl) (by simp; omega) (by (try simp); omega) ?_; intro v' w1 hown hgrow hblk)
                  have HW1 : Hid (Below W0.heap.size W0 w1) := OwV.grown (HO.out.1.alloc _) (HW.out.alloc HW.out.size _) (by (try simp); (try omega)) hgrow
                  have HR1 : Hid (Rws w1 W0.heap.size L) := (HO.out.2.1.below ((Below.refl _ _).alloc (Nat.le_refl _) _)).far hgrow HO.out.2.2.1
                  have HG1 : Hid (w1.heap[pg]? = some (gobj (((f : Int), (r : Int)), pg))) := obj_far (obj_below HGR.out ((Below.refl _ _).alloc (Nat.le_refl _) _)) hgrow HNG.out
                  have HV1 : Hid (∀ y ∈ L, v'.ownBlock ≠ some y.2) := by
                    show ∀ y ∈ L, _
                    intro y hy e
                    rcases hblk with e2 | e2
                    · exact HO.out.2.2.1 y hy (e2.symm.trans e)
                    · have h1 := obj_lt (HO.out.2.1 y hy).2
                      rw [e2] at e
                      injection e with e
                      simp only [World.size_alloc] at e
                      omega
                  have HX1 : Hid (v'.ownBlock ≠ some pg) := by
                    show _ ≠ _
                    intro e
                    rcases hblk with e2 | e2
                    · exact HNG.out (e2.symm.trans e)
                    · rw [e2] at e
                      injection e with e
                      simp only [World.size_alloc] at e
                      omega
                  have HO1 := Lib.hid hown
                  have HND : Hid ((L.map Prod.snd).Nodup) := HO.out.2.2.2
                  obtain ⟨gN, cN, e3, hgN, hlN⟩ := World.ownsRow.form HO1.out (by simp)
                  have hLL : ((L.map gv ++ [Value.slice none 0 0] : List Value)).length = L.length + 1 := by simp
                  rw [hLL] at e3
                  subst e3
                  have hcN := (OwV.cap HO1.out).1
                  rw [hLL] at hcN
                  clear hown hgrow hblk HO HGR HNG
                  have z1 : IntKind.i64.wrap ((k : Int) + 1) = (k : Int) + 1 := IntWalk.i64_in _ (by omega)
                  have z2 : (0 : Int) ≤ (k : Int) + 1 := by omega
                  have z3 : (k : Int) + 1 ≤ ((L.length + 1 : Nat) : Int) := by omega
                  have z4 : (0 : Int) ≤ (k : Int) := by omega
                  have z5 : (k : Int) ≤ ((L.length + 1 : Nat) : Int) := by omega
                  have z6 : ((k : Int) + 1).toNat = k + 1 := by omega
                  have z7 : (k : Int) + 1 ≤ (L.length : Int) + 1 := by omega
                  have z8 : (k : Int) ≤ (L.length : Int) + 1 := by omega
                  have z9 : ¬ cN = k := by omega
                  have za : (k : Int) < (L.length : Int) + 1 := by omega
                  by_cases hcc : cN = k + 1
                  · skip
                    subst hcc
                    go_wp2
                    go_region_held3 (fun _ => True) (trivial)
                      ((first
                        | (refine step_moveV _ (by rfl) _ _ (by rfl) W0.heap.size gN (L.length + 1) (k + 1) (L.map gv ++ [.slice none 0 0]) ?_ ?_ k (by omega) _ _ _ _ _ _ (by rfl) (by rfl) (by omega) (by omega) ?_ (by rfl) ?_
                           · first | exact HO1.out.drew | exact HO1.out
                           · intro z hz
                             rcases List.mem_append.1 hz with hz | hz
                             · exact gv_one L z hz
                             · rw [List.mem_singleton] at hz; subst hz; rfl
                           · first | (intro _; rfl) | (intro h; omega)
                           intro w2 ho4 hg4)
                        | fail))
                    have hg4' : w1.grownBy w2 (some gN) := ⟨hg4.os, hg4.tape, hg4.output, hg4.size, hg4.block⟩
                    have HW2 : Hid (Below W0.heap.size W0 w2) := by
                      show Below _ _ _
                      exact HW1.out.grown hg4' HW1.out.size (fun q hq => by injection hq with hq; omega)
                    have HR2 : Hid (Rws w2 W0.heap.size L) := HR1.out.far hg4' (fun y hy => HV1.out y hy)
                    have HG2 : Hid (w2.heap[pg]? = some (gobj (((f : Int), (r : Int)), pg))) := obj_far HG1.out hg4' HX1.out
                    have HO2 := Lib.hid ho4
                    have hlm : ((L.map gv ++ [Value.slice none 0 0]).take (k + 1) ++ ((L.map gv ++ [Value.slice none 0 0]).drop k).take (L.length + 1 - (k + 1))).length = L.length + 1 := by simp; omega
                    obtain ⟨u9, hu9⟩ := getV_ex (us := ((L.map gv ++ [Value.slice none 0 0]).take (k + 1) ++ ((L.map gv ++ [Value.slice none 0 0]).drop k).take (L.length + 1 - (k + 1)))) (j := k) (by rw [hlm]; omega)
                    have c9 := OwV.cell HO2.out hu9
                    have f9 := OwV.free HO2.out k
                    have HO3 : Hid (OwG (w2.setCell ⟨gN, k, none⟩ (gv (((f : Int), (r : Int)), pg))) W0.heap.size (.slice (some ⟨gN, 0, none⟩) (L.length + 1) (k + 1)) (L.take k ++ (((f : Int), (r : Int)), pg) :: L.drop k)) := by
                      show OwG _ _ _ _
                      have hs := HO2.out.set k (gv (((f : Int), (r : Int)), pg))
                      rw [moveSetV (by simp) (by omega)] at hs
                      have hgs : w2.grownBy (w2.setCell ⟨gN, k, none⟩ (gv (((f : Int), (r : Int)), pg))) (some gN) := grown_set w2 gN k _
                      exact OwG.put hs (HR2.out.far hgs (fun y hy => HV1.out y hy)) ⟨hpg, obj_far HG2.out hgs HX1.out⟩ (fun y hy => HV1.out y hy) HX1.out HND.out HNX.out
                    have HL2 : Hid ((L.take k ++ (((f : Int), (r : Int)), pg) :: L.drop k).map Prod.fst = ordP F R f (r + 1)) := by
                      show _ = _
                      rw [map_mid, HM.out, HI.out]
                    have hlen2 : (L.take k ++ (((f : Int), (r : Int)), pg) :: L.drop k).length = L.length + 1 := by simp; omega
                    have HW3 : Hid (Below W0.heap.size W0 (w2.setCell ⟨gN, k, none⟩ (gv (((f : Int), (r : Int)), pg)))) := HW2.out.setCell (by simp; omega) _
                    have hgv : gv (((f : Int), (r : Int)), pg) = .slice (some ⟨pg, 0, none⟩) 2 2 := rfl
                    rw [hgv] at HO3 HW3
                    clear ho4 hg4 hg4' HO1 HW1 HO2 hlm HR1 HR2 HG1 HG2 hu9 HW2
                    go_wp2
                    go_roundw
                    case rel => exact ⟨r + 1, _, _, _, by omega, by go_num, (by rw [hlen2]), HW3.out, ⟨by rw [hlen2]; exact HO3.out, HL2.out⟩⟩
                    case measure => simp [intOf] <;> omega
                  · skip
                    go_wp2
                    go_region_held3 (fun _ => True) (trivial)
                      ((first
                        | (refine step_moveV _ (by rfl) _ _ (by rfl) W0.heap.size gN (L.length + 1) cN (L.map gv ++ [.slice none 0 0]) ?_ ?_ k (by omega) _ _ _ _ _ _ (by rfl) (by rfl) (by omega) (by omega) ?_ (by rfl) ?_
                           · first | exact HO1.out.drew | exact HO1.out
                           · intro z hz
                             rcases List.mem_append.1 hz with hz | hz
                             · exact gv_one L z hz
                             · rw [List.mem_singleton] at hz; subst hz; rfl
                           · first | (intro _; rfl) | (intro h; omega)
                           intro w2 ho4 hg4)
                        | fail))
                    have hg4' : w1.grownBy w2 (some gN) := ⟨hg4.os, hg4.tape, hg4.output, hg4.size, hg4.block⟩
                    have HW2 : Hid (Below W0.heap.size W0 w2) := by
                      show Below _ _ _
                      exact HW1.out.grown hg4' HW1.out.size (fun q hq => by injection hq with hq; omega)
                    have HR2 : Hid (Rws w2 W0.heap.size L) := HR1.out.far hg4' (fun y hy => HV1.out y hy)
                    have HG2 : Hid (w2.heap[pg]? = some (gobj (((f : Int), (r : Int)), pg))) := obj_far HG1.out hg4' HX1.out
                    have HO2 := Lib.hid ho4
                    have hlm : ((L.map gv ++ [Value.slice none 0 0]).take (k + 1) ++ ((L.map gv ++ [Value.slice none 0 0]).drop k).take (L.length + 1 - (k + 1))).length = L.length + 1 := by simp; omega
                    obtain ⟨u9, hu9⟩ := getV_ex (us := ((L.map gv ++ [Value.slice none 0 0]).take (k + 1) ++ ((L.map gv ++ [Value.slice none 0 0]).drop k).take (L.length + 1 - (k + 1)))) (j := k) (by rw [hlm]; omega)
                    have c9 := OwV.cell HO2.out hu9
                    have f9 := OwV.free HO2.out k
                    have HO3 : Hid (OwG (w2.setCell ⟨gN, k, none⟩ (gv (((f : Int), (r : Int)), pg))) W0.heap.size (.slice (some ⟨gN, 0, none⟩) (L.length + 1) cN) (L.take k ++ (((f : Int), (r : Int)), pg) :: L.drop k)) := by
                      show OwG _ _ _ _
                      have hs := HO2.out.set k (gv (((f : Int), (r : Int)), pg))
                      rw [moveSetV (by simp) (by omega)] at hs
                      have hgs : w2.grownBy (w2.setCell ⟨gN, k, none⟩ (gv (((f : Int), (r : Int)), pg))) (some gN) := grown_set w2 gN k _
                      exact OwG.put hs (HR2.out.far hgs (fun y hy => HV1.out y hy)) ⟨hpg, obj_far HG2.out hgs HX1.out⟩ (fun y hy => HV1.out y hy) HX1.out HND.out HNX.out
                    have HL2 : Hid ((L.take k ++ (((f : Int), (r : Int)), pg) :: L.drop k).map Prod.fst = ordP F R f (r + 1)) := by
                      show _ = _
                      rw [map_mid, HM.out, HI.out]
                    have hlen2 : (L.take k ++ (((f : Int), (r : Int)), pg) :: L.drop k).length = L.length + 1 := by simp; omega
                    have HW3 : Hid (Below W0.heap.size W0 (w2.setCell ⟨gN, k, none⟩ (gv (((f : Int), (r : Int)), pg)))) := HW2.out.setCell (by simp; omega) _
                    have hgv : gv (((f : Int), (r : Int)), pg) = .slice (some ⟨pg, 0, none⟩) 2 2 := rfl
                    rw [hgv] at HO3 HW3
                    clear ho4 hg4 hg4' HO1 HW1 HO2 hlm HR1 HR2 HG1 HG2 hu9 HW2
                    go_wp2
                    go_roundw
                    case rel => exact ⟨r + 1, _, _, _, by omega, by go_num, (by rw [hlen2]), HW3.out, ⟨by rw [hlen2]; exact HO3.out, HL2.out⟩⟩
                    case measure => simp [intOf] <;> omega
        · obtain rfl : r = R.length := by omega
          have HN : Hid (OwG wr W0.heap.size (.slice ao L.length co) L ∧ L.map Prod.fst = ordP F R (f + 1) 0) := by
            show _ ∧ _
            rw [← ordP_next]
            exact hoL.out
          go_wp2
          go_roundw
          case rel => exact ⟨f + 1, ao, co, L, by omega, by go_num, rfl, hbw, HN⟩
          case measure => simp [intOf] <;> omega
    · obtain rfl : f = F.length := by omega
      go_wp2
      go_ret
      exact ⟨_, L, rfl, hoL.out.1.mono (Nat.le_of_lt hbx), hoL.out.2, HTW.out.trans (hbw.mono (Nat.le_of_lt hbx))⟩

end Go.Proofs.Ytfdnhamkkcmnfaa
