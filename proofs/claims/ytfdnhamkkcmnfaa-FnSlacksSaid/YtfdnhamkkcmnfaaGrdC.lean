/- Contract of the reference's l09Order. -/
import Derived.Test.YtfdnhamkkcmnfaaGrdB
set_option linter.unusedSimpArgs false
set_option linter.unusedVariables false
namespace Go.Proofs.Ytfdnhamkkcmnfaa
open Go.RowKit

theorem vblw_drewN {B : Nat} {a w : World} (h : Below B a w) (n : Nat) : Below B a (w.drewN n) := ⟨h.os, h.tape, h.output, h.size, h.block⟩
theorem sgG_pos {d : Int} (h : ¬ d ≤ 0) : 0 < sgG d := by
  unfold sgG
  repeat' split
  all_goals omega
theorem sgG_neg {d : Int} (h : d ≤ 0) : sgG d ≤ 0 := by
  unfold sgG
  repeat' split
  all_goals omega
def headG (F R : List Int) (f r p : Nat) : Prop := ∀ j y, j < p → (ordP F R f r)[j]? = some y → leG F R y ((f : Int), (r : Int)) = true
theorem headG_end {F R : List Int} {f r p : Nat} (h : headG F R f r p) (hp : p ≤ (ordP F R f r).length) (h2 : ∀ y, (ordP F R f r)[p]? = some y → leG F R y ((f : Int), (r : Int)) = false) :
    ordP F R f (r + 1) = (ordP F R f r).take p ++ ((f : Int), (r : Int)) :: (ordP F R f r).drop p := by
  rw [ordP_succ, ins_eq, insAt_of _ hp h h2]
set_option maxRecDepth 100000 in
set_option maxHeartbeats 8000000 in
theorem l09Order_any (vF vR : Value) (F R : List Int) (rd : Int)  (w : World) (hF : RdI w vF F) (hR : RdI w vR R) (hn : F.length ≤ 1048576) (hm : R.length ≤ 1048576) (tF : teethR F 3 20 60 = true) (tR : teethR R 12 9 52 = true) :
    Calls Try.prog 80 #[.agg #[vF, vR, .int .i64 rd]] w fun e w' => ∃ v L, e = .returned v ∧ OwG w' w.heap.size v L ∧ L.map Prod.fst = ordG F R ∧ Below w.heap.size w w' := by
  obtain ⟨f1, f3, -⟩ := teethR_at tF
  obtain ⟨r1, r12, -⟩ := teethR_at tR
  have HF := Lib.hid hF
  have HRr := Lib.hid hR
  obtain ⟨aF, cF, rfl, -⟩ := hF
  obtain ⟨aR, cR, rfl, -⟩ := hR
  go_enter Try.func80, Try.ntmps80
  go_wp2_with fail
  generalize hw : w.alloc (.cells #[.slice aF F.length cF, .slice aR R.length cR, .int .i64 rd] 28) = W0
  have bx0 : W0.cell? ⟨w.heap.size, 0, none⟩ = some (.slice aF F.length cF) := by rw [← hw]; simp [go_sem]
  have bx1 : W0.cell? ⟨w.heap.size, 1, none⟩ = some (.slice aR R.length cR) := by rw [← hw]; simp [go_sem]
  have bx2 : W0.cell? ⟨w.heap.size, 2, none⟩ = some (.int .i64 rd) := by rw [← hw]; simp [go_sem]
  have hbx : w.heap.size < W0.heap.size := by rw [← hw]; simp
  have HTW : Hid (Below w.heap.size w W0) := by
    show Below _ _ _
    rw [← hw]; exact (Below.refl _ _).alloc (Nat.le_refl _) _
  have HF0 := Lib.hid (show RdI W0 (.slice aF F.length cF) F by rw [← hw]; exact HF.out.alloc _)
  have HR0 := Lib.hid (show RdI W0 (.slice aR R.length cR) R by rw [← hw]; exact HRr.out.alloc _)
  have HBX := Lib.hid (And.intro bx0 (And.intro bx1 bx2))
  have T0 := Below.refl W0.heap.size W0
  have hWz : W0.heap.size = w.heap.size + 1 := by rw [← hw]; simp
  clear hw
  clear bx0 bx1 bx2
  go_wp2_with fail
  generalize hwl : W0.alloc (.cells #[] 22) = wl
  have HBl : Hid (Below W0.heap.size W0 wl) := by show Below _ _ _; rw [← hwl]; exact (Below.refl _ _).alloc (Nat.le_refl _) _
  have HOl : Hid (OwG wl W0.heap.size (.slice (some ⟨w.heap.size + 1, 0, none⟩) 0 0) []) := by show OwG _ _ _ _; rw [← hwl]; exact OwG.lit0N W0 hWz (by omega)
  clear hwl
  go_loopw [3, 4] (fun ov fi wr => ∃ (f : Nat) (ao : Option Addr) (co : Nat) (L : List Gb), f ≤ F.length ∧ fi = .int .i64 f ∧ ov = .slice ao L.length co ∧ (∃ gg, ao = some ⟨gg, 0, none⟩) ∧ Below W0.heap.size W0 wr ∧ Hid (OwG wr W0.heap.size (.slice ao L.length co) L ∧ L.map Prod.fst = ordP F R f 0)) (fun _ fi _ => F.length - (intOf fi).toNat)
  case atStart => exact ⟨0, _, 0, [], Nat.zero_le _, rfl, rfl, ⟨_, rfl⟩, HBl.out, ⟨HOl.out, rfl⟩⟩
  case round =>
    clear HBl HOl
    obtain ⟨f, ao, co, L, hf, rfl, rfl, hao, hbw, hoL⟩ := hrel
    by_cases hlt : f < F.length
    · skip
      have bx0 := (hbw.cell (p := ⟨w.heap.size, 0, none⟩) hbx).trans HBX.out.1
      have bx1 := (hbw.cell (p := ⟨w.heap.size, 1, none⟩) hbx).trans HBX.out.2.1
      have bx2 := (hbw.cell (p := ⟨w.heap.size, 2, none⟩) hbx).trans HBX.out.2.2
      have hf := hlt
      have hfi : (f : Int) < (F.length : Int) := by omega
      go_wp2
      go_loopw [3, 5] (fun ov ri wr => ∃ (r : Nat) (ao : Option Addr) (co : Nat) (L : List Gb), r ≤ R.length ∧ ri = .int .i64 r ∧ ov = .slice ao L.length co ∧ (∃ gg, ao = some ⟨gg, 0, none⟩) ∧ Below W0.heap.size W0 wr ∧ Hid (OwG wr W0.heap.size (.slice ao L.length co) L ∧ L.map Prod.fst = ordP F R f r)) (fun _ ri _ => R.length - (intOf ri).toNat)
      case atStart => exact ⟨0, ao, co, L, Nat.zero_le _, rfl, rfl, hao, hbw, hoL⟩
      case round =>
        clear bx0 bx1 bx2 hoL hbw hao
        obtain ⟨r, ao, co, L, hr, rfl, rfl, ⟨gg, rfl⟩, hbw, hoL⟩ := hrel
        by_cases hlr : r < R.length
        · have hr := hlr
          have HM := Lib.hid hoL.out.2
          have hLl : L.length = f * R.length + r := by rw [← List.length_map (f := Prod.fst), hoL.out.2, ordP_length]
          have hLb : L.length ≤ 36 := by
            have h1 : f * R.length ≤ 2 * 12 := Nat.mul_le_mul (by omega) (by omega)
            omega
          have hPL : Hid ((ordP F R f r).length = L.length) := by show _ = _; rw [ordP_length, hLl]
          clear hLl
          have bx0 := (hbw.cell (p := ⟨w.heap.size, 0, none⟩) hbx).trans HBX.out.1
          have bx1 := (hbw.cell (p := ⟨w.heap.size, 1, none⟩) hbx).trans HBX.out.2.1
          have bx2 := (hbw.cell (p := ⟨w.heap.size, 2, none⟩) hbx).trans HBX.out.2.2
          have hri : (r : Int) < (R.length : Int) := by omega
          go_wp2
          clear bx0 bx1 bx2
          generalize hwg : wr.alloc (.cells #[.int .i64 f, .int .i64 r] 2) = wg
          obtain ⟨pg, hpgd⟩ : ∃ pg, pg = wr.heap.size := ⟨_, rfl⟩
          obtain ⟨cp, hcpd⟩ : ∃ cp, cp = co := ⟨_, rfl⟩
          subst hcpd
          have HOg : Hid (OwG wg W0.heap.size (.slice (some ⟨gg, 0, none⟩) L.length cp) L) := by show OwG _ _ _ _; rw [← hwg]; exact hoL.out.1.alloc _
          have HGg : Hid (wg.heap[pg]? = some (gobj (((f : Int), (r : Int)), pg))) := by show _ = _; rw [← hwg, hpgd]; exact heap_alloc_new _ _
          have HWg : Hid (Below W0.heap.size W0 wg) := by show Below _ _ _; rw [← hwg]; exact hbw.alloc hbw.size _
          have hpg : W0.heap.size ≤ pg := by rw [hpgd]; exact hbw.size
          have HNX : Hid (∀ y ∈ L, y.2 ≠ pg) := by
            show ∀ y ∈ L, _
            intro y hy
            have := obj_lt (hoL.out.1.2.1 y hy).2
            omega
          rw [← hpgd]
          clear hwg hpgd hoL hbw
          go_loopw [7] (fun pp wr => ∃ p : Nat, p ≤ L.length ∧ pp = .int .i64 p ∧ Below wg.heap.size wg wr ∧ Hid (headG F R f r p)) (fun pp _ => L.length - (intOf pp).toNat)
          case atStart => exact ⟨0, Nat.zero_le _, rfl, Below.refl _ _, fun j y h => by omega⟩
          case round =>
            obtain ⟨p, hp, rfl, hb2, hpa⟩ := hrel
            have ho2 := Lib.hid (HOg.out.below hb2)
            have HG2 := Lib.hid (obj_below HGg.out hb2)
            have hbw2 : Below W0.heap.size W0 wr := HWg.out.trans (hb2.mono HWg.out.size)
            have hp0 : (0 : Int) ≤ (p : Int) := by omega
            by_cases hpi : p < L.length
            · have hpi2 : (p : Int) < (L.length : Int) := by omega
              have hdp : decide (p < L.length) = true := by simpa using hpi
              obtain ⟨⟨y, py⟩, hy⟩ : ∃ y, L[p]? = some y := ⟨_, List.getElem?_eq_getElem (by omega)⟩
              have hyo : (ordP F R f r)[p]? = some y := by rw [← HM.out, List.getElem?_map, hy]; rfl
              obtain ⟨i2, q2, rfl, hi2, hq2⟩ := ordP_bd (Or.inl hf) (by omega) hyo
              obtain ⟨g, hag, c1⟩ := ho2.out.cellAt hy
              have hrow := (ho2.out.row hy).2
              obtain rfl : gg = g := by injection hag with hag; injection hag
              have HYO := Lib.hid hyo
              have HROW : Hid (wr.heap[py]? = some (.cells #[.int .i64 i2, .int .i64 q2] 2 (0, 0))) := hrow
              have HGW : Hid (wr.heap[pg]? = some (.cells #[.int .i64 f, .int .i64 r] 2 (0, 0))) := HG2.out
              have hgv : gv (((i2 : Int), (q2 : Int)), py) = .slice (some ⟨py, 0, none⟩) 2 2 := rfl
              rw [hgv] at c1
              clear hrow hyo hy hgv
              have bx0 := (hbw2.cell (p := ⟨w.heap.size, 0, none⟩) hbx).trans HBX.out.1
              have bx1 := (hbw2.cell (p := ⟨w.heap.size, 1, none⟩) hbx).trans HBX.out.2.1
              have bx2 := (hbw2.cell (p := ⟨w.heap.size, 2, none⟩) hbx).trans HBX.out.2.2
              have hgl := World.block_lt_of_cell? _ _ c1
              have KP : Hid (∀ W' : World, Below wr.heap.size wr W' → (W'.cell? ⟨w.heap.size, 0, none⟩ = some (.slice aF F.length cF) ∧ W'.cell? ⟨w.heap.size, 1, none⟩ = some (.slice aR R.length cR) ∧ W'.cell? ⟨w.heap.size, 2, none⟩ = some (.int .i64 rd) ∧ W'.cell? ⟨gg, p, none⟩ = some (.slice (some ⟨py, 0, none⟩) 2 2))) := by
                show ∀ W' : World, _
                intro W' hb
                have h1 := Nat.lt_of_lt_of_le hbx hbw2.size
                exact ⟨(hb.cell (p := ⟨w.heap.size, 0, none⟩) h1).trans bx0, (hb.cell (p := ⟨w.heap.size, 1, none⟩) h1).trans bx1, (hb.cell (p := ⟨w.heap.size, 2, none⟩) h1).trans bx2, (hb.cell (p := ⟨gg, p, none⟩) hgl).trans c1⟩
              have HFw := Lib.hid (HF0.out.below hbw2)
              have HRw := Lib.hid (HR0.out.below hbw2)
              have HLE := Lib.hid (leG_cmp F R ((i2 : Int), (q2 : Int)) ((f : Int), (r : Int)))
              go_wp2
              go_region_held3 (fun W' => W'.cell? ⟨w.heap.size, 0, none⟩ = some (.slice aF F.length cF) ∧ W'.cell? ⟨w.heap.size, 1, none⟩ = some (.slice aR R.length cR) ∧ W'.cell? ⟨w.heap.size, 2, none⟩ = some (.int .i64 rd) ∧ W'.cell? ⟨gg, p, none⟩ = some (.slice (some ⟨py, 0, none⟩) 2 2))
                (first | exact ⟨bx0, bx1, bx2, c1⟩ | exact KP.out _ hbc)
                ((first
                  | (go_at_call 103
                     refine (l09Compare_any _ _ F R rd i2 q2 f r py pg _ ?_ ?_ hn hm tF tR ?_ ?_ hi2 hq2 hf hr).mono ?_
                     · first | exact HFw.out | exact HFw.out.drew
                     · first | exact HRw.out | exact HRw.out.drew
                     · exact HROW.out
                     · exact HGW.out
                     rintro e w1 ⟨rfl, hbc0⟩
                     have hbc : Below wr.heap.size wr w1 := by first | exact hbc0 | exact blw_ofDrew hbc0
                     clear hbc0
                     generalize hcz : cmpG F R ((i2 : Int), (q2 : Int)) ((f : Int), (r : Int)) = cz at *
                     have HCZ := Lib.hid hcz
                     clear hcz)
                  | fail))
              all_goals
                clear KP bx0 bx1 bx2 c1
                by_cases hcp : cz ≤ 0
                · have HS : Hid (headG F R f r (p + 1)) := by
                    show headG F R f r (p + 1)
                    intro j y hj hy
                    by_cases hjk : j = p
                    · subst hjk
                      rw [HYO.out] at hy
                      injection hy with hy
                      subst hy
                      rw [HLE.out, decide_eq_true_eq]
                      exact hcp
                    · exact hpa.out j y (by omega) hy
                  have HBK : Hid (Below wg.heap.size wg w1) := hb2.trans (hbc.mono hb2.size)
                  have hsg := sgG_neg hcp
                  generalize sgG cz = sz at *
                  have hdc : decide (sz ≤ 0) = true := by simpa using hsg
                  clear HCZ HLE
                  go_wp2
                  go_roundw
                  case rel => exact ⟨p + 1, by omega, by go_num, HBK.out, HS⟩
                  case measure => simp [intOf] <;> omega
                · have HI := Lib.hid (headG_end hpa.out (by rw [hPL.out]; omega) (fun y hy => by
                    rw [HYO.out] at hy
                    injection hy with hy
                    subst hy
                    rw [HLE.out, decide_eq_false_iff_not]
                    exact hcp))
                  have HB0 : Hid (Below W0.heap.size W0 w1) := hbw2.trans (hbc.mono hbw2.size)
                  have HO := Lib.hid (ho2.out.below hbc)
                  have HGR : Hid (w1.heap[pg]? = some (gobj (((f : Int), (r : Int)), pg))) := obj_below HG2.out hbc
                  have hsg := sgG_pos hcp
                  generalize sgG cz = sz at *
                  have hdc : decide (sz ≤ 0) = false := by simpa using hsg
                  obtain ⟨wq, hwq⟩ : ∃ wq, wq = w1 := ⟨_, rfl⟩
                  rw [← hwq] at HB0 HO HGR
                  rw [← hwq]
                  clear hwq ho2 hb2 hbw2 HG2 hpa HOg HGg HWg HCZ HLE hbc HFw HRw HYO HROW HGW hdp
                  obtain ⟨us, hus⟩ : ∃ us, us = L.map gv := ⟨_, rfl⟩
                  have HUS := Lib.hid hus
                  have hul : us.length = L.length := by rw [hus, List.length_map]
                  have HU1 := Lib.hid (RdV.head (by have h := HO.out.1.rd; rw [← hus] at h; exact h) (p := p) (by omega))
                  have HU2 := Lib.hid (RdV.tail (by have h := HO.out.1.rd; rw [← hus] at h; exact h) hul.symm (OwG.len HO.out).2.1 (p := p) (by omega))
                  have HU3 := Lib.hid (fun h => RdV.tail' (by have h := HO.out.1.rd; rw [← hus] at h; exact h) hul.symm (OwG.len HO.out).2.1 (p := p) h)
                  have HU1c : Hid (∀ z ∈ us, z.oneCell' = true) := by
                    show ∀ z ∈ us, _
                    rw [hus]; exact gv_one L
                  have hcap := (OwG.len HO.out).2.1
                  have HRW := Lib.hid HO.out.2.1
                  have HND := Lib.hid HO.out.2.2.2
                  clear HO hus
                  have hpc : (p : Int) ≤ (cp : Int) := by omega
                  have hpi' : (p : Int) ≤ (L.length : Int) := by omega
                  have hp0' : (0 : Int) ≤ (p : Int) := by omega
                  have hbz := HB0.out.size
                  go_wp2
                  go_region_held3 (fun _ => True) (trivial)
                    ((first
                      | (refine step_appV _ (by rfl) _ _ (by rfl) wq.heap.size _ _ [] (us.take p) (by rfl) (by rfl) ?_ ?_ ?_ ?_ ?_ ?_
                         · repeat (first | (with_reducible refine OwV.drew ?_) | (exact OwV.lit0N _ (by simp) (by simp)) | (with_reducible refine OwV.alloc ?_ _))
                         · exact HU1.out.below (by repeat (first | (with_reducible refine vblw_drewN ?_ _) | (with_reducible assumption) | (with_reducible exact Below.refl _ _) | (with_reducible refine Below.drew ?_) | (with_reducible refine blw_al ?_ _) | (with_reducible refine blw_stp (by with_reducible assumption) ?_) | (with_reducible refine blw_set ?_ (by dsimp only; omega) _)))
                         · exact fun z hz => HU1c.out z (List.mem_of_mem_take hz)
                         · (try simp); (try omega)
                         · (try simp); (try omega)
                         intro v2 w2 ho2x hg2 hbk2
                         have HB1 : Hid (Below wq.heap.size wq w2) := by
                           refine Below.grown (by repeat (first | (with_reducible refine vblw_drewN ?_ _) | (with_reducible assumption) | (with_reducible exact Below.refl _ _) | (with_reducible refine Below.drew ?_) | (with_reducible refine blw_al ?_ _) | (with_reducible refine blw_stp (by with_reducible assumption) ?_) | (with_reducible refine blw_set ?_ (by dsimp only; omega) _))) hg2 ?_ ?_
                           · (try simp); (try omega)
                           · intro k hk
                             first
                               | (have hk' : (Value.slice (some ⟨wq.heap.size, 0, none⟩) 0 0).ownBlock = some k := hk
                                  simp [Value.ownBlock] at hk'
                                  omega)
                               | (have hk' : (Value.slice (some ⟨wq.heap.size + 1, 0, none⟩) 0 0).ownBlock = some k := hk
                                  simp [Value.ownBlock] at hk'
                                  omega)
                         have HO1 := Lib.hid ho2x
                         have HG1 := Lib.hid hg2
                         clear ho2x hg2 hbk2)
                      | (refine step_appV _ (by rfl) _ _ (by rfl) wq.heap.size v2 _ ([] ++ us.take p) [.slice (some ⟨pg, 0, none⟩) 2 2] (by rfl) (by rfl) ?_ ?_ ?_ ?_ ?_ ?_
                         · repeat (first | (with_reducible exact HO1.out) | (with_reducible refine OwV.drew ?_) | (with_reducible refine OwV.alloc ?_ _))
                         · repeat (first | (exact RdV.oneN _ (.slice (some ⟨pg, 0, none⟩) 2 2) (by simp)) | (with_reducible refine RdV.drew ?_) | (with_reducible refine RdV.alloc ?_ _) | (refine RdV.farG ?_ HG1.out ?_; rotate_left; (first | exact (fun e => by have e' : (Value.slice (some ⟨wq.heap.size, 0, none⟩) 0 0).ownBlock = some (wq.heap.size + 1) := e; simp [Value.ownBlock] at e') | exact (fun e => by have e' : (Value.slice (some ⟨wq.heap.size + 1, 0, none⟩) 0 0).ownBlock = some wq.heap.size := e; simp [Value.ownBlock] at e'))))
                         · intro z hz; rw [List.mem_singleton] at hz; subst hz; rfl
                         · (try simp); (try omega)
                         · (have := HB1.out.size; (try simp); omega)
                         intro v3 w3 ho3x hg3 hbk3
                         have HB2 : Hid (Below wq.heap.size wq w3) := by
                           refine Below.grown (by repeat (first | (with_reducible exact HB1.out) | (with_reducible exact HB2.out) | (with_reducible exact HB3.out) | (with_reducible assumption) | (with_reducible exact Below.refl _ _) | (with_reducible refine Below.drew ?_) | (with_reducible refine blw_al ?_ _) | (with_reducible refine blw_stp (by with_reducible assumption) ?_) | (with_reducible refine blw_set ?_ (by dsimp only; omega) _))) hg3 ?_ (fun k hk => (World.ownsRow.lt HO1.out k hk).1)
                           have := HB1.out.size
                           (try simp); omega
                         have HO2 := Lib.hid ho3x
                         clear ho3x hg3 hbk3)
                      | (refine step_appV _ (by rfl) _ _ (by rfl) wq.heap.size v3 _ ([] ++ us.take p ++ [.slice (some ⟨pg, 0, none⟩) 2 2]) (us.drop p) (by rfl) (by rfl) ?_ ?_ ?_ ?_ ?_ ?_
                         · exact HO2.out
                         · first
                             | exact HU2.out.below HB2.out
                             | exact (HU3.out (by omega)).below HB2.out
                             | (rw [HN.out]; exact RdV.nil _)
                         · exact fun z hz => HU1c.out z (List.mem_of_mem_drop hz)
                         · (try simp); (try omega)
                         · exact HB2.out.size
                         intro v4 w4 ho4x hg4 hbk4
                         have HB3 : Hid (Below wq.heap.size wq w4) := OwV.grown HO2.out HB2.out HB2.out.size hg4
                         have HO3 := Lib.hid ho4x
                         clear ho4x hg4 hbk4)
                      | fail))
                  all_goals
                    have HF : Hid (OwG w4 W0.heap.size v4 (L.take p ++ (((f : Int), (r : Int)), pg) :: L.drop p)) := by
                      show OwG _ _ _ _
                      have hv4 : ∀ q, v4.ownBlock = some q → wq.heap.size ≤ q := fun q hq => (World.ownsRow.lt HO3.out q hq).1
                      refine OwG.put (by have := HO3.out.mono (base' := W0.heap.size) hbz; rw [HUS.out] at this; have hgv : gv (((f : Int), (r : Int)), pg) = .slice (some ⟨pg, 0, none⟩) 2 2 := rfl; rw [hgv]; simpa using this) (HRW.out.below HB3.out) ⟨hpg, obj_below HGR.out HB3.out⟩ (fun y hy e => ?_) (fun e => ?_) HND.out HNX.out
                      · have h1 := hv4 _ e
                        have h2 := obj_lt (HRW.out y hy).2
                        omega
                      · have h1 := hv4 _ e
                        have h2 := obj_lt HGR.out
                        omega
                    have HL2 : Hid ((L.take p ++ (((f : Int), (r : Int)), pg) :: L.drop p).map Prod.fst = ordP F R f (r + 1)) := by
                      show _ = _
                      rw [map_mid, HM.out, HI.out]
                    have hlen2 : (L.take p ++ (((f : Int), (r : Int)), pg) :: L.drop p).length = L.length + 1 := by
                      rw [List.length_append, List.length_cons, List.length_take, List.length_drop]
                      omega
                    have hbF : Hid (Below W0.heap.size W0 w4) := HB0.out.trans (HB3.out.mono hbz)
                    obtain ⟨gN, cN, e3, hgN, hlN⟩ := World.ownsRow.form HF.out.1 (by rw [List.length_map]; omega)
                    rw [List.length_map, hlen2] at e3
                    subst e3
                    clear HO1 HO2 HO3 HB1 HB2 HB3 HG1 HU1 HU2 HU3 HU1c HRW HGR HND HM HI hPL HUS
                    go_wp2
                    go_roundw
                    case rel => exact ⟨r + 1, _, cN, _, by omega, by go_num, (by rw [hlen2]), ⟨_, rfl⟩, hbF.out, ⟨by rw [hlen2]; exact HF.out, HL2.out⟩⟩
                    case measure => simp [intOf] <;> omega
            · obtain rfl : p = L.length := by omega
              have HI := Lib.hid (headG_end hpa.out (by rw [hPL.out]; omega) (fun y hy => by rw [List.getElem?_eq_none (by rw [hPL.out]; omega)] at hy; cases hy))
              have hdp : decide (L.length < L.length) = false := by simp
              have hdp2 : decide ((L.length : Int) < (L.length : Int)) = false := by simp
              go_wp2
              go_quiet (fail)
              have HB0 : Hid (Below W0.heap.size W0 (wr.drewN nq)) := vblw_drewN hbw2 _
              have HO := Lib.hid (ho2.out.drewN nq)
              have HGR : Hid ((wr.drewN nq).heap[pg]? = some (gobj (((f : Int), (r : Int)), pg))) := HG2.out
              obtain ⟨wq, hwq⟩ : ∃ wq, wq = wr.drewN nq := ⟨_, rfl⟩
              rw [← hwq] at HB0 HO HGR
              rw [← hwq]
              clear hwq ho2 hb2 hbw2 HG2 hdp hdp2 hpa HOg HGg HWg
              obtain ⟨us, hus⟩ : ∃ us, us = L.map gv := ⟨_, rfl⟩
              have HUS := Lib.hid hus
              have hul : us.length = L.length := by rw [hus, List.length_map]
              have HU1 := Lib.hid (RdV.head (by have h := HO.out.1.rd; rw [← hus] at h; exact h) (p := L.length) (by omega))
              have HU2 := Lib.hid (RdV.tail (by have h := HO.out.1.rd; rw [← hus] at h; exact h) hul.symm (OwG.len HO.out).2.1 (p := L.length) (by omega))
              have HU3 := Lib.hid (fun h => RdV.tail' (by have h := HO.out.1.rd; rw [← hus] at h; exact h) hul.symm (OwG.len HO.out).2.1 (p := L.length) h)
              have HU1c : Hid (∀ z ∈ us, z.oneCell' = true) := by
                show ∀ z ∈ us, _
                rw [hus]; exact gv_one L
              have hcap := (OwG.len HO.out).2.1
              have HRW := Lib.hid HO.out.2.1
              have HND := Lib.hid HO.out.2.2.2
              clear HO hus
              have hpc : (L.length : Int) ≤ (cp : Int) := by omega
              have hpi' : (L.length : Int) ≤ (L.length : Int) := by omega
              have hp0' : (0 : Int) ≤ (L.length : Int) := by omega
              have HN : Hid (us.drop L.length = []) := by
                show _ = _
                exact List.drop_eq_nil_of_le (by omega)
              have hpe' : (L.length : Int) = (L.length : Int) := by omega
              by_cases hcp : cp = L.length
              · subst hcp
                have hbz := HB0.out.size
                go_wp2
                go_region_held3 (fun _ => True) (trivial)
                  ((first
                    | (refine step_appV _ (by rfl) _ _ (by rfl) wq.heap.size _ _ [] (us.take L.length) (by rfl) (by rfl) ?_ ?_ ?_ ?_ ?_ ?_
                       · repeat (first | (with_reducible refine OwV.drew ?_) | (exact OwV.lit0N _ (by simp) (by simp)) | (with_reducible refine OwV.alloc ?_ _))
                       · exact HU1.out.below (by repeat (first | (with_reducible refine vblw_drewN ?_ _) | (with_reducible assumption) | (with_reducible exact Below.refl _ _) | (with_reducible refine Below.drew ?_) | (with_reducible refine blw_al ?_ _) | (with_reducible refine blw_stp (by with_reducible assumption) ?_) | (with_reducible refine blw_set ?_ (by dsimp only; omega) _)))
                       · exact fun z hz => HU1c.out z (List.mem_of_mem_take hz)
                       · (try simp); (try omega)
                       · (try simp); (try omega)
                       intro v2 w2 ho2x hg2 hbk2
                       have HB1 : Hid (Below wq.heap.size wq w2) := by
                         refine Below.grown (by repeat (first | (with_reducible refine vblw_drewN ?_ _) | (with_reducible assumption) | (with_reducible exact Below.refl _ _) | (with_reducible refine Below.drew ?_) | (with_reducible refine blw_al ?_ _) | (with_reducible refine blw_stp (by with_reducible assumption) ?_) | (with_reducible refine blw_set ?_ (by dsimp only; omega) _))) hg2 ?_ ?_
                         · (try simp); (try omega)
                         · intro k hk
                           first
                             | (have hk' : (Value.slice (some ⟨wq.heap.size, 0, none⟩) 0 0).ownBlock = some k := hk
                                simp [Value.ownBlock] at hk'
                                omega)
                             | (have hk' : (Value.slice (some ⟨wq.heap.size + 1, 0, none⟩) 0 0).ownBlock = some k := hk
                                simp [Value.ownBlock] at hk'
                                omega)
                       have HO1 := Lib.hid ho2x
                       have HG1 := Lib.hid hg2
                       clear ho2x hg2 hbk2)
                    | (refine step_appV _ (by rfl) _ _ (by rfl) wq.heap.size v2 _ ([] ++ us.take L.length) [.slice (some ⟨pg, 0, none⟩) 2 2] (by rfl) (by rfl) ?_ ?_ ?_ ?_ ?_ ?_
                       · repeat (first | (with_reducible exact HO1.out) | (with_reducible refine OwV.drew ?_) | (with_reducible refine OwV.alloc ?_ _))
                       · repeat (first | (exact RdV.oneN _ (.slice (some ⟨pg, 0, none⟩) 2 2) (by simp)) | (with_reducible refine RdV.drew ?_) | (with_reducible refine RdV.alloc ?_ _) | (refine RdV.farG ?_ HG1.out ?_; rotate_left; (first | exact (fun e => by have e' : (Value.slice (some ⟨wq.heap.size, 0, none⟩) 0 0).ownBlock = some (wq.heap.size + 1) := e; simp [Value.ownBlock] at e') | exact (fun e => by have e' : (Value.slice (some ⟨wq.heap.size + 1, 0, none⟩) 0 0).ownBlock = some wq.heap.size := e; simp [Value.ownBlock] at e'))))
                       · intro z hz; rw [List.mem_singleton] at hz; subst hz; rfl
                       · (try simp); (try omega)
                       · (have := HB1.out.size; (try simp); omega)
                       intro v3 w3 ho3x hg3 hbk3
                       have HB2 : Hid (Below wq.heap.size wq w3) := by
                         refine Below.grown (by repeat (first | (with_reducible exact HB1.out) | (with_reducible exact HB2.out) | (with_reducible exact HB3.out) | (with_reducible assumption) | (with_reducible exact Below.refl _ _) | (with_reducible refine Below.drew ?_) | (with_reducible refine blw_al ?_ _) | (with_reducible refine blw_stp (by with_reducible assumption) ?_) | (with_reducible refine blw_set ?_ (by dsimp only; omega) _))) hg3 ?_ (fun k hk => (World.ownsRow.lt HO1.out k hk).1)
                         have := HB1.out.size
                         (try simp); omega
                       have HO2 := Lib.hid ho3x
                       clear ho3x hg3 hbk3)
                    | (refine step_appV _ (by rfl) _ _ (by rfl) wq.heap.size v3 _ ([] ++ us.take L.length ++ [.slice (some ⟨pg, 0, none⟩) 2 2]) (us.drop L.length) (by rfl) (by rfl) ?_ ?_ ?_ ?_ ?_ ?_
                       · exact HO2.out
                       · first
                           | exact HU2.out.below HB2.out
                           | exact (HU3.out (by omega)).below HB2.out
                           | (rw [HN.out]; exact RdV.nil _)
                       · exact fun z hz => HU1c.out z (List.mem_of_mem_drop hz)
                       · (try simp); (try omega)
                       · exact HB2.out.size
                       intro v4 w4 ho4x hg4 hbk4
                       have HB3 : Hid (Below wq.heap.size wq w4) := OwV.grown HO2.out HB2.out HB2.out.size hg4
                       have HO3 := Lib.hid ho4x
                       clear ho4x hg4 hbk4)
                    | fail))
                all_goals
                  have HF : Hid (OwG w4 W0.heap.size v4 (L.take L.length ++ (((f : Int), (r : Int)), pg) :: L.drop L.length)) := by
                    show OwG _ _ _ _
                    have hv4 : ∀ q, v4.ownBlock = some q → wq.heap.size ≤ q := fun q hq => (World.ownsRow.lt HO3.out q hq).1
                    refine OwG.put (by have := HO3.out.mono (base' := W0.heap.size) hbz; rw [HUS.out] at this; have hgv : gv (((f : Int), (r : Int)), pg) = .slice (some ⟨pg, 0, none⟩) 2 2 := rfl; rw [hgv]; simpa using this) (HRW.out.below HB3.out) ⟨hpg, obj_below HGR.out HB3.out⟩ (fun y hy e => ?_) (fun e => ?_) HND.out HNX.out
                    · have h1 := hv4 _ e
                      have h2 := obj_lt (HRW.out y hy).2
                      omega
                    · have h1 := hv4 _ e
                      have h2 := obj_lt HGR.out
                      omega
                  have HL2 : Hid ((L.take L.length ++ (((f : Int), (r : Int)), pg) :: L.drop L.length).map Prod.fst = ordP F R f (r + 1)) := by
                    show _ = _
                    rw [map_mid, HM.out, HI.out]
                  have hlen2 : (L.take L.length ++ (((f : Int), (r : Int)), pg) :: L.drop L.length).length = L.length + 1 := by
                    rw [List.length_append, List.length_cons, List.length_take, List.length_drop]
                    omega
                  have hbF : Hid (Below W0.heap.size W0 w4) := HB0.out.trans (HB3.out.mono hbz)
                  obtain ⟨gN, cN, e3, hgN, hlN⟩ := World.ownsRow.form HF.out.1 (by rw [List.length_map]; omega)
                  rw [List.length_map, hlen2] at e3
                  subst e3
                  clear HO1 HO2 HO3 HB1 HB2 HB3 HG1 HU1 HU2 HU3 HU1c HRW HGR HND HM HI hPL HUS
                  go_wp2
                  go_roundw
                  case rel => exact ⟨r + 1, _, cN, _, by omega, by go_num, (by rw [hlen2]), ⟨_, rfl⟩, hbF.out, ⟨by rw [hlen2]; exact HF.out, HL2.out⟩⟩
                  case measure => simp [intOf] <;> omega
              · skip
                have hbz := HB0.out.size
                go_wp2
                go_region_held3 (fun _ => True) (trivial)
                  ((first
                    | (refine step_appV _ (by rfl) _ _ (by rfl) wq.heap.size _ _ [] (us.take L.length) (by rfl) (by rfl) ?_ ?_ ?_ ?_ ?_ ?_
                       · repeat (first | (with_reducible refine OwV.drew ?_) | (exact OwV.lit0N _ (by simp) (by simp)) | (with_reducible refine OwV.alloc ?_ _))
                       · exact HU1.out.below (by repeat (first | (with_reducible refine vblw_drewN ?_ _) | (with_reducible assumption) | (with_reducible exact Below.refl _ _) | (with_reducible refine Below.drew ?_) | (with_reducible refine blw_al ?_ _) | (with_reducible refine blw_stp (by with_reducible assumption) ?_) | (with_reducible refine blw_set ?_ (by dsimp only; omega) _)))
                       · exact fun z hz => HU1c.out z (List.mem_of_mem_take hz)
                       · (try simp); (try omega)
                       · (try simp); (try omega)
                       intro v2 w2 ho2x hg2 hbk2
                       have HB1 : Hid (Below wq.heap.size wq w2) := by
                         refine Below.grown (by repeat (first | (with_reducible refine vblw_drewN ?_ _) | (with_reducible assumption) | (with_reducible exact Below.refl _ _) | (with_reducible refine Below.drew ?_) | (with_reducible refine blw_al ?_ _) | (with_reducible refine blw_stp (by with_reducible assumption) ?_) | (with_reducible refine blw_set ?_ (by dsimp only; omega) _))) hg2 ?_ ?_
                         · (try simp); (try omega)
                         · intro k hk
                           first
                             | (have hk' : (Value.slice (some ⟨wq.heap.size, 0, none⟩) 0 0).ownBlock = some k := hk
                                simp [Value.ownBlock] at hk'
                                omega)
                             | (have hk' : (Value.slice (some ⟨wq.heap.size + 1, 0, none⟩) 0 0).ownBlock = some k := hk
                                simp [Value.ownBlock] at hk'
                                omega)
                       have HO1 := Lib.hid ho2x
                       have HG1 := Lib.hid hg2
                       clear ho2x hg2 hbk2)
                    | (refine step_appV _ (by rfl) _ _ (by rfl) wq.heap.size v2 _ ([] ++ us.take L.length) [.slice (some ⟨pg, 0, none⟩) 2 2] (by rfl) (by rfl) ?_ ?_ ?_ ?_ ?_ ?_
                       · repeat (first | (with_reducible exact HO1.out) | (with_reducible refine OwV.drew ?_) | (with_reducible refine OwV.alloc ?_ _))
                       · repeat (first | (exact RdV.oneN _ (.slice (some ⟨pg, 0, none⟩) 2 2) (by simp)) | (with_reducible refine RdV.drew ?_) | (with_reducible refine RdV.alloc ?_ _) | (refine RdV.farG ?_ HG1.out ?_; rotate_left; (first | exact (fun e => by have e' : (Value.slice (some ⟨wq.heap.size, 0, none⟩) 0 0).ownBlock = some (wq.heap.size + 1) := e; simp [Value.ownBlock] at e') | exact (fun e => by have e' : (Value.slice (some ⟨wq.heap.size + 1, 0, none⟩) 0 0).ownBlock = some wq.heap.size := e; simp [Value.ownBlock] at e'))))
                       · intro z hz; rw [List.mem_singleton] at hz; subst hz; rfl
                       · (try simp); (try omega)
                       · (have := HB1.out.size; (try simp); omega)
                       intro v3 w3 ho3x hg3 hbk3
                       have HB2 : Hid (Below wq.heap.size wq w3) := by
                         refine Below.grown (by repeat (first | (with_reducible exact HB1.out) | (with_reducible exact HB2.out) | (with_reducible exact HB3.out) | (with_reducible assumption) | (with_reducible exact Below.refl _ _) | (with_reducible refine Below.drew ?_) | (with_reducible refine blw_al ?_ _) | (with_reducible refine blw_stp (by with_reducible assumption) ?_) | (with_reducible refine blw_set ?_ (by dsimp only; omega) _))) hg3 ?_ (fun k hk => (World.ownsRow.lt HO1.out k hk).1)
                         have := HB1.out.size
                         (try simp); omega
                       have HO2 := Lib.hid ho3x
                       clear ho3x hg3 hbk3)
                    | (refine step_appV _ (by rfl) _ _ (by rfl) wq.heap.size v3 _ ([] ++ us.take L.length ++ [.slice (some ⟨pg, 0, none⟩) 2 2]) (us.drop L.length) (by rfl) (by rfl) ?_ ?_ ?_ ?_ ?_ ?_
                       · exact HO2.out
                       · first
                           | exact HU2.out.below HB2.out
                           | exact (HU3.out (by omega)).below HB2.out
                           | (rw [HN.out]; exact RdV.nil _)
                       · exact fun z hz => HU1c.out z (List.mem_of_mem_drop hz)
                       · (try simp); (try omega)
                       · exact HB2.out.size
                       intro v4 w4 ho4x hg4 hbk4
                       have HB3 : Hid (Below wq.heap.size wq w4) := OwV.grown HO2.out HB2.out HB2.out.size hg4
                       have HO3 := Lib.hid ho4x
                       clear ho4x hg4 hbk4)
                    | fail))
                all_goals
                  have HF : Hid (OwG w4 W0.heap.size v4 (L.take L.length ++ (((f : Int), (r : Int)), pg) :: L.drop L.length)) := by
                    show OwG _ _ _ _
                    have hv4 : ∀ q, v4.ownBlock = some q → wq.heap.size ≤ q := fun q hq => (World.ownsRow.lt HO3.out q hq).1
                    refine OwG.put (by have := HO3.out.mono (base' := W0.heap.size) hbz; rw [HUS.out] at this; have hgv : gv (((f : Int), (r : Int)), pg) = .slice (some ⟨pg, 0, none⟩) 2 2 := rfl; rw [hgv]; simpa using this) (HRW.out.below HB3.out) ⟨hpg, obj_below HGR.out HB3.out⟩ (fun y hy e => ?_) (fun e => ?_) HND.out HNX.out
                    · have h1 := hv4 _ e
                      have h2 := obj_lt (HRW.out y hy).2
                      omega
                    · have h1 := hv4 _ e
                      have h2 := obj_lt HGR.out
                      omega
                  have HL2 : Hid ((L.take L.length ++ (((f : Int), (r : Int)), pg) :: L.drop L.length).map Prod.fst = ordP F R f (r + 1)) := by
                    show _ = _
                    rw [map_mid, HM.out, HI.out]
                  have hlen2 : (L.take L.length ++ (((f : Int), (r : Int)), pg) :: L.drop L.length).length = L.length + 1 := by
                    rw [List.length_append, List.length_cons, List.length_take, List.length_drop]
                    omega
                  have hbF : Hid (Below W0.heap.size W0 w4) := HB0.out.trans (HB3.out.mono hbz)
                  obtain ⟨gN, cN, e3, hgN, hlN⟩ := World.ownsRow.form HF.out.1 (by rw [List.length_map]; omega)
                  rw [List.length_map, hlen2] at e3
                  subst e3
                  clear HO1 HO2 HO3 HB1 HB2 HB3 HG1 HU1 HU2 HU3 HU1c HRW HGR HND HM HI hPL HUS
                  go_wp2
                  go_roundw
                  case rel => exact ⟨r + 1, _, cN, _, by omega, by go_num, (by rw [hlen2]), ⟨_, rfl⟩, hbF.out, ⟨by rw [hlen2]; exact HF.out, HL2.out⟩⟩
                  case measure => simp [intOf] <;> omega
        · obtain rfl : r = R.length := by omega
          have HN : Hid (OwG wr W0.heap.size (.slice (some ⟨gg, 0, none⟩) L.length co) L ∧ L.map Prod.fst = ordP F R (f + 1) 0) := by
            show _ ∧ _
            rw [← ordP_next]
            exact hoL.out
          have bx0 := (hbw.cell (p := ⟨w.heap.size, 0, none⟩) hbx).trans HBX.out.1
          have bx1 := (hbw.cell (p := ⟨w.heap.size, 1, none⟩) hbx).trans HBX.out.2.1
          have bx2 := (hbw.cell (p := ⟨w.heap.size, 2, none⟩) hbx).trans HBX.out.2.2
          go_wp2
          go_roundw
          case rel => exact ⟨f + 1, _, co, L, by omega, by go_num, rfl, ⟨_, rfl⟩, hbw, HN⟩
          case measure => simp [intOf] <;> omega
    · obtain rfl : f = F.length := by omega
      have bx0 := (hbw.cell (p := ⟨w.heap.size, 0, none⟩) hbx).trans HBX.out.1
      have bx1 := (hbw.cell (p := ⟨w.heap.size, 1, none⟩) hbx).trans HBX.out.2.1
      have bx2 := (hbw.cell (p := ⟨w.heap.size, 2, none⟩) hbx).trans HBX.out.2.2
      go_wp2
      go_ret
      exact ⟨_, L, rfl, hoL.out.1.mono (Nat.le_of_lt hbx), hoL.out.2, HTW.out.trans (hbw.mono (Nat.le_of_lt hbx))⟩

end Go.Proofs.Ytfdnhamkkcmnfaa
