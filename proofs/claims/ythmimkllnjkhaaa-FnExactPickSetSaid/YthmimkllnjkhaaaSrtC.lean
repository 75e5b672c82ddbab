/- Contract of the program's ballOrder. -/
import Derived.Test.YthmimkllnjkhaaaSrtB
import Derived.Laws.CopyOwn
set_option linter.unusedSimpArgs false
set_option linter.unusedVariables false
namespace Go.Proofs.Ythmimkllnjkhaaa
open Go.RowKit

theorem moveSet {pre : List Int} {k : Nat} (hk : k ≤ pre.length) (x : Int) : ((pre ++ [0]).take (k + 1) ++ ((pre ++ [0]).drop k).take (pre.length - k)).set k x = pre.take k ++ x :: pre.drop k := by
  have hl : k < (pre ++ [0]).length := by simp; omega
  rw [List.take_succ_eq_append_getElem hl]
  have e1 : (pre ++ [0]).take k = pre.take k := by rw [List.take_append_of_le_length hk]
  have e2 : ((pre ++ [0]).drop k).take (pre.length - k) = pre.drop k := by
    rw [List.drop_append_of_le_length hk, List.take_append_of_le_length (by simp), List.take_of_length_le (by simp)]
  rw [e1, e2]
  have hA : (pre.take k).length = k := by rw [List.length_take]; omega
  generalize pre.take k = A at *
  generalize (pre ++ [0])[k] = y at *
  have : ((A ++ [y]) ++ pre.drop k).set A.length x = A ++ x :: pre.drop k := by
    rw [List.append_assoc]
    simp
  rw [hA] at this
  exact this
theorem moveLen {pre : List Int} {k : Nat} (hk : k ≤ pre.length) : ((pre ++ [0]).take (k + 1) ++ ((pre ++ [0]).drop k).take (pre.length - k)).length = pre.length + 1 := by
  simp; omega
/-- copy(v[k+1:], v[k:]): all from k on goes one place up. -/
theorem step_moveI (w : World) {ops : Array Oper} {o : Oper} {a : Act} {K : Act → World → Prop} {Q : Exit → Act → World → Prop} {E : Prop} (hgd : o.guard = none) (d s : Operand)
    (hop : o.op = .call { callee := .builtin .copy, args := #[d, s], argTypes := #[28, 28] })
    (base g n cap : Nat) (xs : List Int) (ho : OwI w base (.slice (some ⟨g, 0, none⟩) n cap) xs) (k : Nat) (hk : k < n) (dp sp : Option Addr) (dl c1 sl c2 : Nat) (hd : a.eval d = .slice dp dl c1) (hs : a.eval s = .slice sp sl c2)
    (hdl : dl = n - (k + 1)) (hsl : sl = n - k) (hdp : k + 1 < n → dp = some ⟨g, k + 1, none⟩) (hsp : sp = some ⟨g, k, none⟩) (w0 : World) (hb : Below base w0 w)
    (h : ∀ w', OwI w' base (.slice (some ⟨g, 0, none⟩) n cap) (xs.take (k + 1) ++ (xs.drop k).take (n - (k + 1))) → Below base w0 w' → K (a.put o.dst (goInt ((n - (k + 1) : Nat) : Int))) w') :
    if Region.wanted o (yielded ops a.tmps) = true then Oper.wp Try.prog o a w K Q else E := by
  have hn := (OwI.cap ho).2.1
  subst hdl hsl
  have hown := ho
  unfold OwI at hown
  rcases hown.2 with ⟨hv, _⟩ | ⟨g', cap', cur, hv, hbg, hgh, hnc, hcm, hcs, htake⟩
  · cases hv
  · injection hv with e1 e2 e3
    injection e1 with e1
    injection e1 with e1
    subst e1 e3
    have hxl : xs.length = n := hn.symm
    have hcl : (((xs.drop k).take (n - (k + 1))).map (Value.int .i64)).length = n - (k + 1) := by simp; omega
    refine step_copy_splice hgd d s 28 28 hop 2 Try.underlying28 (by kernel_rfl) dp sp (n - (k + 1)) c1 (n - k) c2 hd hs g (k + 1) cur.toList 2 (by simpa using hgh) (((xs.drop k).take (n - (k + 1))).map (Value.int .i64)) (by rw [hcl]; show _ = min _ _; omega) ?_ (by rw [hcl]; simp only [Nat.mul_one] at hcs; rw [Array.length_toList]; omega) (by intro u hu; rw [List.mem_map] at hu; obtain ⟨z, _, rfl⟩ := hu; rfl) base w0 hb hbg ?_
    · intro hpos
      rw [hcl] at hpos
      refine ⟨hdp (by omega), _, hsp, fun j v hj => ?_⟩
      have hjl : j < n - (k + 1) := by
        rcases Nat.lt_or_ge j (n - (k + 1)) with h1 | h1
        · exact h1
        · rw [List.getElem?_eq_none (by rw [hcl]; exact h1)] at hj; cases hj
      have hc := OwI.cell ho (k := k + j) (by omega)
      rw [addr_add, hc]
      simp only [List.getElem?_map, List.getElem?_take, List.getElem?_drop] at hj
      rw [if_pos hjl] at hj
      have hx : k + j < xs.length := by omega
      rw [List.getElem?_eq_getElem hx] at hj
      simp only [Option.map_some, Option.some.injEq] at hj
      rw [← hj]
      simp [List.getD_eq_getElem?_getD, hx]
    · intro w' hw' hb'
      rw [hcl]
      refine h w' ?_ hb'
      have hw2 := hw'.out
      have hcur : cur.toList.length = cap := by simp only [Nat.mul_one] at hcs; rw [Array.length_toList]; exact hcs
      unfold OwI
      have hl2 : (xs.take (k + 1) ++ (xs.drop k).take (n - (k + 1))).length = n := by simp; omega
      rw [hl2]
      refine ⟨by simp; omega, .inr ⟨g, cap, _, rfl, hbg, hw2, by omega, hcm, ?_, ?_⟩⟩
      · rw [List.size_toArray, length_splice _ _ _ (by rw [hcl]; omega), hcur]; omega
      · simp only [Nat.mul_one] at htake ⊢
        unfold splice
        rw [← List.append_assoc, List.take_append_of_le_length (by simp; omega), List.take_of_length_le (by simp; omega), List.map_append, List.map_take]
        congr 1
        rw [List.map_take, ← htake, List.take_take, Nat.min_eq_left (by omega)]

/-- What is known while the place is sought from behind. -/
def passedK (xs : List Int) (i k : Nat) : Prop := ∀ j y, k ≤ j → (ordK xs i)[j]? = some y → leK (keyB xs) y (i : Int) = false
theorem passedK_end {xs : List Int} {i k : Nat} (h : passedK xs i k) (hk : k ≤ i) (h2 : k = 0 ∨ keyB xs ((ordK xs i).getD (k - 1) 0) ≤ keyB xs (i : Int)) : ordK xs (i + 1) = (ordK xs i).take k ++ (i : Int) :: (ordK xs i).drop k := by
  have e := insAt_down (leK (keyB xs)) (leK_tr _) (ordK_sorted xs i) (x := (i : Int)) (p := k) (by rw [ordK_length]; exact hk) h (fun y h0 hy => by
    rcases h2 with h2 | h2
    · omega
    · rw [List.getD_eq_getElem?_getD, hy] at h2
      simpa [leK] using h2)
  rw [ordK_succ, ins_eq, e]

set_option maxHeartbeats 800000 in
theorem ballOrder_any (u : Value) (xs : List Int) (w : World) (hr : RdI w u xs) (hn : xs.length ≤ 4096) :
    Calls Try.prog 37 #[u] w fun e w' => ∃ v, e = .returned v ∧ OwI w' w.heap.size v (ordB xs) ∧ Below w.heap.size w w' := by
  have HR := Lib.hid hr
  obtain ⟨a, c, rfl, hcell⟩ := hr
  have HC := Lib.hid hcell
  clear hcell
  go_enter Try.func37, Try.ntmps37
  go_wp2
  go_loopw [3, 8] (fun ov cc wr => ∃ (i : Nat) (ao : Option Addr) (co : Nat), i ≤ xs.length ∧ cc = .int .i64 i ∧ ov = .slice ao i co ∧ Below w.heap.size w wr ∧ Hid (OwI wr w.heap.size (.slice ao i co) (ordK xs i))) (fun _ cc _ => xs.length - (intOf cc).toNat)
  case atStart => exact ⟨0, none, 0, Nat.zero_le _, rfl, rfl, Below.refl _ _, OwI.nil _ _⟩
  case round =>
    obtain ⟨i, ao, co, hi, rfl, rfl, hbw, ho⟩ := hrel
    by_cases hlt : i < xs.length
    · obtain ⟨b, o, rfl, c0⟩ := HC.out i hlt
      have hblt : b < w.heap.size := World.block_lt_of_cell? w _ c0
      have hPA : passedK xs i i := fun j y hj hy => by rw [List.getElem?_eq_none (by rw [ordK_length]; exact hj)] at hy; cases hy
      have HPA := Lib.hid hPA
      clear hPA
      obtain ⟨wo, rfl⟩ : ∃ wo : World, wo = wr := ⟨_, rfl⟩
      go_wp2
      go_loopw [5] (fun kk wr => ∃ k : Nat, k ≤ i ∧ kk = .int .i64 k ∧ Below wo.heap.size wo wr ∧ Hid (passedK xs i k)) (fun kk _ => (intOf kk).toNat)
      case atStart => exact ⟨i, Nat.le_refl _, rfl, Below.refl _ _, HPA⟩
      case round =>
        clear HPA
        obtain ⟨k, hk, rfl, hb2, hpa⟩ := hrel
        have ho2 := Lib.hid (ho.out.below hb2)
        have hbw2 : Below w.heap.size w wr := hbw.trans (hb2.mono hbw.size)
        clear ho
        have g0 : wr.cell? ⟨b, o + i, none⟩ = some (.int .i64 (xs.getD i 0)) := (hbw2.cell (p := ⟨b, o + i, none⟩) hblt).trans c0
        have hii : (i : Int) < (xs.length : Int) := by omega
        have hi0 : (0 : Int) ≤ (i : Int) := by omega
        by_cases hk0 : k = 0
        · have HI := Lib.hid (passedK_end hpa.out hk (Or.inl hk0))
          have hd : decide ((0 : Int) < (k : Int)) = false := by simp; omega
          go_wp2
          go_quiet (fail)
          have hb3 : Below w.heap.size w (wr.drewN nq) := (by repeat (first | (with_reducible refine sblw_drewN ?_ _) | (with_reducible assumption) | (with_reducible exact Below.refl _ _) | (with_reducible refine Below.drew ?_) | (with_reducible refine blw_al ?_ _) | (with_reducible refine blw_stp (by with_reducible assumption) ?_) | (with_reducible refine blw_set ?_ (by dsimp only; omega) _)))
          have ho3 := Lib.hid (ho2.out.drewN nq)
          obtain ⟨wq, hwq⟩ : ∃ wq, wq = wr.drewN nq := ⟨_, rfl⟩
          rw [← hwq] at hb3 ho3
          rw [← hwq]
          clear hwq ho2 hb2 hbw2 g0 hd hk0
          have hbz := hb3.size
          go_wp2_with (at_builtin; refine wpList_appI _ rfl _ _ rfl w.heap.size _ _ (ordK xs i) [0] rfl rfl (ho3.out.alloc _) (RdI.one _ _) (by rw [ordK_length]; simp; omega) (by (try simp); omega) ?_; intro v' w1 hown hgrow)
          have HW1 : Hid (Below w.heap.size w w1) := OwI.grown (ho3.out.alloc _) (hb3.alloc hb3.size _) (by (try simp); (try omega)) hgrow
          have HO1 := Lib.hid hown
          obtain ⟨gN, cN, e3, hgN, hlN⟩ := World.ownsRow.form HO1.out (by simp [ordK_length])
          have hLL : ((ordK xs i ++ [0] : List Int)).length = i + 1 := by simp [ordK_length]
          rw [hLL] at e3
          subst e3
          have hcN := (OwI.cap HO1.out).1
          rw [hLL] at hcN
          clear hown hgrow ho3 hb3
          have z1 : IntKind.i64.wrap ((k : Int) + 1) = (k : Int) + 1 := IntWalk.i64_in _ (by omega)
          have z2 : (0 : Int) ≤ (k : Int) + 1 := by omega
          have z3 : (k : Int) + 1 ≤ ((i + 1 : Nat) : Int) := by omega
          have z4 : (0 : Int) ≤ (k : Int) := by omega
          have z5 : (k : Int) ≤ ((i + 1 : Nat) : Int) := by omega
          have z6 : ((k : Int) + 1).toNat = k + 1 := by omega
          have z7 : (k : Int) + 1 ≤ (i : Int) + 1 := by omega
          have z8 : (k : Int) ≤ (i : Int) + 1 := by omega
          have z9 : ¬ cN = k := by omega
          have za : (k : Int) < (i : Int) + 1 := by omega
          by_cases hcc : cN = k + 1
          · skip
            subst hcc
            go_wp2
            go_region_held3 (fun _ => True) (trivial)
              ((first
                | (refine step_moveI _ (by rfl) _ _ (by rfl) w.heap.size gN (i + 1) (k + 1) (ordK xs i ++ [0]) ?_ k (by omega) _ _ _ _ _ _ (by rfl) (by rfl) (by omega) (by omega) ?_ (by rfl) w ?_ ?_
                   · first | exact HO1.out.drew | exact HO1.out
                   · first | (intro _; rfl) | (intro h; omega)
                   · first | exact HW1.out.drew | exact HW1.out
                   intro w2 ho4 hb4)
                | fail))
            have HO2 : Hid (OwI w2 w.heap.size (.slice (some ⟨gN, 0, none⟩) (i + 1) (k + 1)) ((ordK xs i ++ [0]).take (k + 1) ++ ((ordK xs i ++ [0]).drop k).take ((ordK xs i).length - k))) := by
              show OwI _ _ _ _
              have e : i + 1 - (k + 1) = (ordK xs i).length - k := by rw [ordK_length]; omega
              rw [e] at ho4
              exact ho4
            have HB4 := Lib.hid hb4
            have hlm := moveLen (pre := ordK xs i) (k := k) (by rw [ordK_length]; omega)
            rw [ordK_length] at hlm
            have c9 := OwI.cell HO2.out (k := k) (by rw [ordK_length, hlm]; omega)
            have f9 := OwI.free HO2.out k
            have HO3 : Hid (OwI (w2.setCell ⟨gN, k, none⟩ (.int .i64 i)) w.heap.size (.slice (some ⟨gN, 0, none⟩) (i + 1) (k + 1)) (ordK xs (i + 1))) := by
              show OwI _ _ _ _
              rw [HI.out, ← moveSet (by rw [ordK_length]; omega)]
              exact HO2.out.set k (i : Int)
            clear ho4 hb4 HO1 HW1 HO2 hlm
            go_wp2
            go_roundw
            case rel => exact ⟨i + 1, _, _, by omega, by go_num, rfl, HB4.out.setCell (by simp; omega) _, HO3⟩
            case measure => simp [intOf] <;> omega
          · skip
            go_wp2
            go_region_held3 (fun _ => True) (trivial)
              ((first
                | (refine step_moveI _ (by rfl) _ _ (by rfl) w.heap.size gN (i + 1) cN (ordK xs i ++ [0]) ?_ k (by omega) _ _ _ _ _ _ (by rfl) (by rfl) (by omega) (by omega) ?_ (by rfl) w ?_ ?_
                   · first | exact HO1.out.drew | exact HO1.out
                   · first | (intro _; rfl) | (intro h; omega)
                   · first | exact HW1.out.drew | exact HW1.out
                   intro w2 ho4 hb4)
                | fail))
            have HO2 : Hid (OwI w2 w.heap.size (.slice (some ⟨gN, 0, none⟩) (i + 1) cN) ((ordK xs i ++ [0]).take (k + 1) ++ ((ordK xs i ++ [0]).drop k).take ((ordK xs i).length - k))) := by
              show OwI _ _ _ _
              have e : i + 1 - (k + 1) = (ordK xs i).length - k := by rw [ordK_length]; omega
              rw [e] at ho4
              exact ho4
            have HB4 := Lib.hid hb4
            have hlm := moveLen (pre := ordK xs i) (k := k) (by rw [ordK_length]; omega)
            rw [ordK_length] at hlm
            have c9 := OwI.cell HO2.out (k := k) (by rw [ordK_length, hlm]; omega)
            have f9 := OwI.free HO2.out k
            have HO3 : Hid (OwI (w2.setCell ⟨gN, k, none⟩ (.int .i64 i)) w.heap.size (.slice (some ⟨gN, 0, none⟩) (i + 1) cN) (ordK xs (i + 1))) := by
              show OwI _ _ _ _
              rw [HI.out, ← moveSet (by rw [ordK_length]; omega)]
              exact HO2.out.set k (i : Int)
            clear ho4 hb4 HO1 HW1 HO2 hlm
            go_wp2
            go_roundw
            case rel => exact ⟨i + 1, _, _, by omega, by go_num, rfl, HB4.out.setCell (by simp; omega) _, HO3⟩
            case measure => simp [intOf] <;> omega
        · have hpos : 0 < k := by omega
          have hpos' : (0 : Int) < (k : Int) := by omega
          have hpos1 : (1 : Int) ≤ (k : Int) := by omega
          have hd0 : decide ((0 : Int) < (k : Int)) = true := by simpa using hpos'
          have hkm : IntKind.i64.wrap ((k : Int) - 1) = (k : Int) - 1 := IntWalk.i64_in _ (by omega)
          have hkn : ((k : Int) - 1).toNat = k - 1 := by omega
          have hk1 : (0 : Int) ≤ (k : Int) - 1 := by omega
          have hk2 : (k : Int) - 1 < (i : Int) := by omega
          obtain ⟨b', o', hao, c1⟩ := ho2.out.rd.at (k - 1) (by rw [ordK_length]; omega)
          obtain ⟨m0, m1⟩ := ordK_at (xs := xs) (k := i) (j := k - 1) (by omega)
          have HG : Hid ((ordK xs i)[k - 1]? = some ((ordK xs i).getD (k - 1) 0)) := by
            show _ = _
            have : k - 1 < (ordK xs i).length := by rw [ordK_length]; omega
            simp [List.getD_eq_getElem?_getD, this]
          have HEN := Lib.hid (fun h => passedK_end hpa.out hk (Or.inr h))
          generalize (ordK xs i).getD (k - 1) 0 = m at *
          obtain ⟨m, rfl⟩ : ∃ q : Nat, m = (q : Int) := ⟨m.toNat, by omega⟩
          subst hao
          obtain ⟨b2, o2, e, c2⟩ := HC.out m (by omega)
          simp only [Option.some.injEq, Addr.mk.injEq] at e
          obtain ⟨rfl, rfl, -⟩ := e
          have g2 : wr.cell? ⟨b, o + m, none⟩ = some (.int .i64 (xs.getD m 0)) := (hbw2.cell (p := ⟨b, o + m, none⟩) hblt).trans c2
          have hmx : (m : Int) < (xs.length : Int) := by omega
          have HKM : Hid (keyB xs (m : Int) = xs.getD m 0) := by show _ = _; unfold keyB; rw [Int.toNat_natCast]
          have HKI : Hid (keyB xs (i : Int) = xs.getD i 0) := by show _ = _; unfold keyB; rw [Int.toNat_natCast]
          by_cases hlt2 : xs.getD i 0 < xs.getD m 0
          · have HS : Hid (passedK xs i (k - 1)) := by
              show passedK xs i (k - 1)
              intro j y hj hy
              by_cases hjk : j = k - 1
              · subst hjk
                rw [HG.out] at hy
                injection hy with hy
                subst hy
                unfold leK
                rw [HKM.out, HKI.out, decide_eq_false_iff_not]
                omega
              · exact hpa.out j y (by omega) hy
            have hd : decide (xs.getD i 0 < xs.getD m 0) = true := by simpa using hlt2
            generalize xs.getD m 0 = zm at *
            generalize xs.getD i 0 = zi at *
            clear c0 c2 HG HEN
            go_wp2
            go_quiet (fail)
            go_wp2
            go_roundw
            case rel => exact ⟨k - 1, by omega, by rw [show ((k - 1 : Nat) : Int) = (k : Int) - 1 by omega], (by repeat (first | (with_reducible refine sblw_drewN ?_ _) | (with_reducible assumption) | (with_reducible exact Below.refl _ _) | (with_reducible refine Below.drew ?_) | (with_reducible refine blw_al ?_ _) | (with_reducible refine blw_stp (by with_reducible assumption) ?_) | (with_reducible refine blw_set ?_ (by dsimp only; omega) _))), HS⟩
            case measure => simp [intOf] <;> omega
          · have HI := Lib.hid (HEN.out (by rw [HKM.out, HKI.out]; omega))
            have hd : decide (xs.getD i 0 < xs.getD m 0) = false := by simpa using hlt2
            generalize xs.getD m 0 = zm at *
            generalize xs.getD i 0 = zi at *
            clear c0 c2 HG HEN
            go_wp2
            go_quiet (fail)
            have hb3 : Below w.heap.size w (wr.drewN nq) := (by repeat (first | (with_reducible refine sblw_drewN ?_ _) | (with_reducible assumption) | (with_reducible exact Below.refl _ _) | (with_reducible refine Below.drew ?_) | (with_reducible refine blw_al ?_ _) | (with_reducible refine blw_stp (by with_reducible assumption) ?_) | (with_reducible refine blw_set ?_ (by dsimp only; omega) _)))
            have ho3 := Lib.hid (ho2.out.drewN nq)
            obtain ⟨wq, hwq⟩ : ∃ wq, wq = wr.drewN nq := ⟨_, rfl⟩
            rw [← hwq] at hb3 ho3
            rw [← hwq]
            clear hwq ho2 hb2 hbw2 g0 g2 c1 hd hd0 hkm hkn hk1 hk2 hpos' hpos1
            have hbz := hb3.size
            go_wp2_with (at_builtin; refine wpList_appI _ rfl _ _ rfl w.heap.size _ _ (ordK xs i) [0] rfl rfl (ho3.out.alloc _) (RdI.one _ _) (by rw [ordK_length]; simp; omega) (by (try simp); omega) ?_; intro v' w1 hown hgrow)
            have HW1 : Hid (Below w.heap.size w w1) := OwI.grown (ho3.out.alloc _) (hb3.alloc hb3.size _) (by (try simp); (try omega)) hgrow
            have HO1 := Lib.hid hown
            obtain ⟨gN, cN, e3, hgN, hlN⟩ := World.ownsRow.form HO1.out (by simp [ordK_length])
            have hLL : ((ordK xs i ++ [0] : List Int)).length = i + 1 := by simp [ordK_length]
            rw [hLL] at e3
            subst e3
            have hcN := (OwI.cap HO1.out).1
            rw [hLL] at hcN
            clear hown hgrow ho3 hb3
            have z1 : IntKind.i64.wrap ((k : Int) + 1) = (k : Int) + 1 := IntWalk.i64_in _ (by omega)
            have z2 : (0 : Int) ≤ (k : Int) + 1 := by omega
            have z3 : (k : Int) + 1 ≤ ((i + 1 : Nat) : Int) := by omega
            have z4 : (0 : Int) ≤ (k : Int) := by omega
            have z5 : (k : Int) ≤ ((i + 1 : Nat) : Int) := by omega
            have z6 : ((k : Int) + 1).toNat = k + 1 := by omega
            have z7 : (k : Int) + 1 ≤ (i : Int) + 1 := by omega
            have z8 : (k : Int) ≤ (i : Int) + 1 := by omega
            have z9 : ¬ cN = k := by omega
            have za : (k : Int) < (i : Int) + 1 := by omega
            by_cases hcc : cN = k + 1
            · skip
              subst hcc
              go_wp2
              go_region_held3 (fun _ => True) (trivial)
                ((first
                  | (refine step_moveI _ (by rfl) _ _ (by rfl) w.heap.size gN (i + 1) (k + 1) (ordK xs i ++ [0]) ?_ k (by omega) _ _ _ _ _ _ (by rfl) (by rfl) (by omega) (by omega) ?_ (by rfl) w ?_ ?_
                     · first | exact HO1.out.drew | exact HO1.out
                     · first | (intro _; rfl) | (intro h; omega)
                     · first | exact HW1.out.drew | exact HW1.out
                     intro w2 ho4 hb4)
                  | fail))
              have HO2 : Hid (OwI w2 w.heap.size (.slice (some ⟨gN, 0, none⟩) (i + 1) (k + 1)) ((ordK xs i ++ [0]).take (k + 1) ++ ((ordK xs i ++ [0]).drop k).take ((ordK xs i).length - k))) := by
                show OwI _ _ _ _
                have e : i + 1 - (k + 1) = (ordK xs i).length - k := by rw [ordK_length]; omega
                rw [e] at ho4
                exact ho4
              have HB4 := Lib.hid hb4
              have hlm := moveLen (pre := ordK xs i) (k := k) (by rw [ordK_length]; omega)
              rw [ordK_length] at hlm
              have c9 := OwI.cell HO2.out (k := k) (by rw [ordK_length, hlm]; omega)
              have f9 := OwI.free HO2.out k
              have HO3 : Hid (OwI (w2.setCell ⟨gN, k, none⟩ (.int .i64 i)) w.heap.size (.slice (some ⟨gN, 0, none⟩) (i + 1) (k + 1)) (ordK xs (i + 1))) := by
                show OwI _ _ _ _
                rw [HI.out, ← moveSet (by rw [ordK_length]; omega)]
                exact HO2.out.set k (i : Int)
              clear ho4 hb4 HO1 HW1 HO2 hlm
              go_wp2
              go_roundw
              case rel => exact ⟨i + 1, _, _, by omega, by go_num, rfl, HB4.out.setCell (by simp; omega) _, HO3⟩
              case measure => simp [intOf] <;> omega
            · skip
              go_wp2
              go_region_held3 (fun _ => True) (trivial)
                ((first
                  | (refine step_moveI _ (by rfl) _ _ (by rfl) w.heap.size gN (i + 1) cN (ordK xs i ++ [0]) ?_ k (by omega) _ _ _ _ _ _ (by rfl) (by rfl) (by omega) (by omega) ?_ (by rfl) w ?_ ?_
                     · first | exact HO1.out.drew | exact HO1.out
                     · first | (intro _; rfl) | (intro h; omega)
                     · first | exact HW1.out.drew | exact HW1.out
                     intro w2 ho4 hb4)
                  | fail))
              have HO2 : Hid (OwI w2 w.heap.size (.slice (some ⟨gN, 0, none⟩) (i + 1) cN) ((ordK xs i ++ [0]).take (k + 1) ++ ((ordK xs i ++ [0]).drop k).take ((ordK xs i).length - k))) := by
                show OwI _ _ _ _
                have e : i + 1 - (k + 1) = (ordK xs i).length - k := by rw [ordK_length]; omega
                rw [e] at ho4
                exact ho4
              have HB4 := Lib.hid hb4
              have hlm := moveLen (pre := ordK xs i) (k := k) (by rw [ordK_length]; omega)
              rw [ordK_length] at hlm
              have c9 := OwI.cell HO2.out (k := k) (by rw [ordK_length, hlm]; omega)
              have f9 := OwI.free HO2.out k
              have HO3 : Hid (OwI (w2.setCell ⟨gN, k, none⟩ (.int .i64 i)) w.heap.size (.slice (some ⟨gN, 0, none⟩) (i + 1) cN) (ordK xs (i + 1))) := by
                show OwI _ _ _ _
                rw [HI.out, ← moveSet (by rw [ordK_length]; omega)]
                exact HO2.out.set k (i : Int)
              clear ho4 hb4 HO1 HW1 HO2 hlm
              go_wp2
              go_roundw
              case rel => exact ⟨i + 1, _, _, by omega, by go_num, rfl, HB4.out.setCell (by simp; omega) _, HO3⟩
              case measure => simp [intOf] <;> omega
    · obtain rfl : i = xs.length := by omega
      go_wp2
      go_ret
      exact ⟨_, rfl, ho.out, hbw⟩

end Go.Proofs.Ythmimkllnjkhaaa
