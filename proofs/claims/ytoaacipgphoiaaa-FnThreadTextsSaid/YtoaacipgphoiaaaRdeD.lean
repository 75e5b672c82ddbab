/- Contracts of ReadThread, of the program and of the reference. -/
import Derived.Test.YtoaacipgphoiaaaRdeB
import Derived.Test.YtoaacipgphoiaaaRdeC
import Derived.Test.YtoaacipgphoiaaaDrwC
import Derived.Deep.QuietTactic
import Derived.BigQuiet
import Derived.BigRegion
set_option linter.unusedSimpArgs false
set_option linter.unusedVariables false
namespace Go.Proofs.Ytoaacipgphoiaaa
open Go.RowKit

theorem hk_lt {w : World} {b : Nat} {o : Obj} (h : w.heap[b]? = some o) : b < w.heap.size := by
  rcases Nat.lt_or_ge b w.heap.size with h1 | h1
  · exact h1
  · rw [Array.getElem?_eq_none h1] at h; cases h
def NoThr (s : ByteArray) : Prop := ∀ q, thrOk q → s ≠ thrX q
theorem rd_no {s : ByteArray} {d p : Int} {lf inn : Bool} {c : Int} (h : IsRd s ((d, p, lf, inn), c)) (hn : NoThr s) : d = 0 ∧ p = 0 ∧ lf = false ∧ inn = false ∧ c = 6 := by
  have := h.one (q := ((0, 0, false, false), 6)) (Or.inr ⟨rfl, hn⟩)
  simp only [Prod.mk.injEq] at this
  obtain ⟨⟨a, b, e, f⟩, g⟩ := this
  exact ⟨a, b, e, f, g⟩
theorem rd_yes {s : ByteArray} {d p : Int} {lf inn : Bool} {c : Int} (h : IsRd s ((d, p, lf, inn), c)) {d' p' : Int} {lf' inn' : Bool} (h1 : isThr d' p' = true) (h2 : ((txt (thrL d' p' lf' inn')).toList == s.toList) = true) : d = d' ∧ p = p' ∧ lf = lf' ∧ inn = inn' ∧ c = 0 := by
  have e : s = txt (thrL d' p' lf' inn') := by
    rw [beq_iff_eq, txt_toList] at h2
    rw [h2]
    unfold txt
    rw [ByteArray.ext_iff]
    apply Array.toList_inj.1
    rw [List.toList_toArray, ← txt_eta s, txt_toList, txt_data]
  have := h.one (q := ((d', p', lf', inn'), 0)) (Or.inl ⟨h1, e, rfl⟩)
  simp only [Prod.mk.injEq] at this
  obtain ⟨⟨a, b, e, f⟩, g⟩ := this
  exact ⟨a, b, e, f, g⟩
abbrev thrV (d p : Int) (lf inn : Bool) (c : Int) : Ending := .returned (.tuple #[.agg #[.int .i64 d, .int .i64 p, .bool lf, .bool inn], .int .i64 c])
theorem rd_noE {s : ByteArray} {d p : Int} {lf inn : Bool} {c : Int} (h : IsRd s ((d, p, lf, inn), c)) (hn : NoThr s) : thrV 0 0 false false 6 = thrV d p lf inn c := by
  obtain ⟨a, b, e, f, g⟩ := rd_no h hn
  rw [a, b, e, f, g]
theorem rd_yesE {s : ByteArray} {d p : Int} {lf inn : Bool} {c : Int} (h : IsRd s ((d, p, lf, inn), c)) {d' p' : Int} {lf' inn' : Bool} (h1 : isThr d' p' = true) (h2 : ((txt (thrL d' p' lf' inn')).toList == s.toList) = true) : thrV d' p' lf' inn' 0 = thrV d p lf inn c := by
  obtain ⟨a, b, e, f, g⟩ := rd_yes h h1 h2
  rw [a, b, e, f, g]
theorem txt_neq {a b : List UInt8} {s : ByteArray} (h : ((txt a).toList == s.toList) = false) (e : a = b) : s ≠ txt b := by
  intro he
  rw [he, e] at h
  simp at h
theorem thr_partsI {s : ByteArray} {L : List (List UInt8)} {q : ThT} (hL : L = partsL s) (hs : s = thrX q) : L = [measN q.1.toNat, decL q.2.1.toNat ++ endB q.2.2.1 q.2.2.2] := by
  rw [hL, partsL, hs, thrX, txt_data, thr_split]
theorem thr_partsS {s S : ByteArray} {m : Nat} {L : List (List UInt8)} {q : ThT} (hm : s.size = m + 2) (hS : s.extract 0 m = S) (hL : L = partsL S) (hs : s = thrX q) : L = [measN q.1.toNat, decL q.2.1.toNat] := by
  have hd : s.data.toList = thrL q.1 q.2.1 q.2.2.1 q.2.2.2 := by rw [hs, thrX, txt_data]
  have hl : (thrL q.1 q.2.1 q.2.2.1 q.2.2.2).length - 2 = m := by
    have : s.data.toList.length = s.size := by simp
    rw [hd] at this
    omega
  rw [hL, partsL, ← hS, extract_txt, txt_data, List.drop_zero, hd, ← hl, thr_split2]
theorem thr_small {s : ByteArray} (h : s.size < 3) : NoThr s := by
  rintro ⟨d, p, lf, inn⟩ _ e
  have := thr_cut d p lf inn
  have h2 : s.size = (thrL d p lf inn).length := by rw [e, thrX, txt_size]
  omega
/-- What the last two bytes of a text are. -/
theorem end_bytes {s : ByteArray} {k : Nat} {l : List UInt8} {lf inn : Bool} (hk : s.size = k + 2) (e : s.data.toList = l ++ endB lf inn) (h0 : k < s.size) (h1 : k + 1 < s.size) : (((s[k].toNat : Nat) : Int) == 108) = lf ∧ (((s[k + 1].toNat : Nat) : Int) == 105) = inn ∧ s.extract 0 k = txt l := by
  have hl : l.length = k := by
    have h2 : s.data.toList.length = s.size := by simp
    have h3 : (endB lf inn).length = 2 := rfl
    rw [e, List.length_append, h3] at h2
    omega
  have b0 := byte_at h0
  have b1 := byte_at h1
  rw [e] at b0 b1
  rw [List.getElem?_append_right (by omega)] at b0 b1
  rw [show k - l.length = 0 by omega] at b0
  rw [show k + 1 - l.length = 1 by omega] at b1
  simp only [endB, List.cons_append, List.nil_append, List.getElem?_cons_zero, List.getElem?_cons_succ, Option.some.injEq] at b0 b1
  refine ⟨?_, ?_, ?_⟩
  · rw [← b0]; cases lf <;> rfl
  · rw [← b1]; cases inn <;> rfl
  · rw [extract_txt, e, List.drop_zero, ← hl, List.take_left]
theorem thrE (d p : Int) (lf inn : Bool) : thrL d p lf inn = (measN d.toNat ++ (120 :: decL p.toNat)) ++ endB lf inn := by unfold thrL endB; simp
theorem splitAt_r (s : ByteArray) (L : List (List UInt8)) (w : World) (hs : s.size ≤ 1048576) (h : L = partsL s) : Calls Try.prog 55 #[.string s, .int .u8 120] w (RetT w L) := by rw [h]; exact splitAt_any s w hs
theorem l01Split_r (s : ByteArray) (L : List (List UInt8)) (w : World) (hs : s.size ≤ 1048576) (h : L = partsL s) : Calls Try.prog 52 #[.string s, .int .u8 120] w (RetT w L) := by rw [h]; exact l01Split_any s w hs
theorem part_size {s : ByteArray} {L : List (List UInt8)} {X : List UInt8} (hL : L = partsL s) (h : X ∈ L) : X.length ≤ s.size := by
  rw [hL] at h
  have := splitL_each _ _ _ h
  simpa using this
/-- Two strings in a slice. -/
theorem two_cells {w : World} {a : Option Addr} {n c : Nat} {X Y : List UInt8} (h : RdV w (.slice a n c) ([X, Y].map strV)) : ∃ b o, a = some ⟨b, o, none⟩ ∧ w.cell? ⟨b, o, none⟩ = some (.string (txt X)) ∧ w.cell? ⟨b, o + 1, none⟩ = some (.string (txt Y)) := by
  obtain ⟨b, o, e, h0⟩ := h.at 0 _ rfl
  obtain ⟨b', o', e', h1⟩ := h.at 1 _ rfl
  rw [e] at e'
  simp only [Option.some.injEq, Addr.mk.injEq] at e'
  obtain ⟨rfl, rfl, -⟩ := e'
  exact ⟨b, o, e, h0, h1⟩
theorem thr_d {q : ThT} (h : thrOk q) : 10 ≤ q.1.toNat ∧ q.1.toNat ≤ 1000 ∧ 20 ≤ q.2.1.toNat ∧ q.2.1.toNat ≤ 500 ∧ ((q.1.toNat : Nat) : Int) = q.1 ∧ ((q.2.1.toNat : Nat) : Int) = q.2.1 := by
  obtain ⟨a, b, c, d⟩ := isThr_bd h
  omega
set_option maxRecDepth 100000 in
set_option maxHeartbeats 3200000 in
theorem ReadThread_any (s : ByteArray) (d p : Int) (lf inn : Bool) (c : Int) (w : World) (hs : s.size ≤ 1048576) (h : IsRd s ((d, p, lf, inn), c)) :
    Calls Try.prog 33 #[.string s] w fun e w' => e = .returned (.tuple #[.agg #[.int .i64 d, .int .i64 p, .bool lf, .bool inn], .int .i64 c]) ∧ Below w.heap.size w w' := by
  have T0 := Below.refl w.heap.size w
  have HI := Lib.hid h
  clear h
  obtain ⟨L, hL⟩ : ∃ L, L = partsL s := ⟨_, rfl⟩
  have HL := Lib.hid hL
  clear hL
  go_enter Try.func33, Try.ntmps33
  go_wp2_with fail
  generalize hw : w.alloc (Obj.cells #[.int .i64 0, .int .i64 0, .bool false, .bool false] 25) = w1
  have hb1 : Below w.heap.size w w1 := by
    rw [← hw]
    exact (Below.refl _ _).alloc (by simp) _
  have Kr_1 : Hid (w1.heap[w.heap.size]? = some (.cells #[.int .i64 0, .int .i64 0, .bool false, .bool false] 25 (0, 0))) := by
    show _ = _
    rw [← hw]
    exact (heap_alloc_new _ _)
  clear hw
  have T1 : Below w.heap.size w w1 := T0.trans (hb1.mono T0.size)
  go_wp2_with fail
  (with_reducible refine (splitAt_r s L _ hs HL.out).mono ?_)
  rintro e w2 ⟨v, rfl, ho, hb2⟩
  have T2 : Below w.heap.size w w2 := T1.trans (hb2.mono T1.size)
  have Kr_2 : Hid (w2.heap[w.heap.size]? = some (.cells #[.int .i64 0, .int .i64 0, .bool false, .bool false] 25 (0, 0))) := hk_below Kr_1.out hb2
  clear Kr_1
  obtain ⟨ap, cp, ev, hrd⟩ := ho.rd.shape
  subst ev
  rw [List.length_map] at *
  clear ho
  have hr0 : w.heap.size < w2.heap.size := hk_lt Kr_2.out
  by_cases hlen : L.length = 2
  · obtain ⟨X, Y, rfl⟩ : ∃ X Y, L = [X, Y] := by
      match L, hlen with
      | [X, Y], _ => exact ⟨X, Y, rfl⟩
    obtain ⟨pb, po, rfl, k0, k1⟩ := two_cells hrd
    clear hrd
    have hXs := part_size HL.out (X := X) (by simp)
    have hYs := part_size HL.out (X := Y) (by simp)
    have HPA : Hid (∀ q, thrOk q → s = thrX q → txt X = txt (measN q.1.toNat)) := fun q _ e => by
      have := thr_partsI HL.out e
      simp only [List.cons.injEq, and_true] at this
      rw [this.1]
    have HPB : Hid (∀ q, thrOk q → s = thrX q → (txt Y).data.toList = decL q.2.1.toNat ++ endB q.2.2.1 q.2.2.2) := fun q _ e => by
      have := thr_partsI HL.out e
      simp only [List.cons.injEq, and_true] at this
      rw [txt_data, this.2]
    clear HL
    have hA : (txt X).size ≤ 1048576 := by rw [txt_size]; omega
    have hB : (txt Y).size ≤ 1048576 := by rw [txt_size]; omega
    generalize txt X = A at *
    generalize txt Y = B at *
    clear hXs hYs hlen
    simp only [List.length_cons, List.length_nil] at *
    have FP_2 : Hid (w2.cell? ⟨pb, po, none⟩ = some (.string A) ∧ w2.cell? ⟨pb, po + 1, none⟩ = some (.string B)) := ⟨k0, k1⟩
    clear k0 k1
    by_cases h3 : B.size < 3
    · have HN : Hid (NoThr s) := fun q hq e => by
        have := HPB.out q hq e
        have h2 : B.size = (decL q.2.1.toNat ++ endB q.2.2.1 q.2.2.2).length := by rw [← this]; simp
        have h3 : (endB q.2.2.1 q.2.2.2).length = 2 := rfl
        have := dec_pos q.2.1.toNat
        rw [List.length_append, h3] at h2
        omega
      have hd3 : decide ((B.size : Int) < 3) = true := decide_eq_true (by omega)
      have HF := Lib.hid (rd_noE HI.out HN.out)
      obtain ⟨kp0, kp1⟩ := FP_2.out
      have cr0 : w2.cell? ⟨w.heap.size, 0, none⟩ = some (.int .i64 0) := hk_cell (i := 0) Kr_2.out rfl
      have fr0 := hk_free (i := 0) Kr_2.out
      have cr1 : w2.cell? ⟨w.heap.size, 1, none⟩ = some (.int .i64 0) := hk_cell (i := 1) Kr_2.out rfl
      have fr1 := hk_free (i := 1) Kr_2.out
      have cr2 : w2.cell? ⟨w.heap.size, 2, none⟩ = some (.bool false) := hk_cell (i := 2) Kr_2.out rfl
      have fr2 := hk_free (i := 2) Kr_2.out
      have cr3 : w2.cell? ⟨w.heap.size, 3, none⟩ = some (.bool false) := hk_cell (i := 3) Kr_2.out rfl
      have fr3 := hk_free (i := 3) Kr_2.out
      go_wp2
      refine bodyPost_ret (v := .tuple #[.agg #[.int .i64 0, .int .i64 0, .bool false, .bool false], .int .i64 6]) (by simp [results, Try.results33, go_sem, *]) rfl ⟨HF.out, (by repeat (first | (with_reducible assumption) | (with_reducible exact Below.refl _ _) | (with_reducible refine blw_drewNR ?_ _) | (with_reducible refine Below.drew ?_) | (with_reducible refine blw_al ?_ _) | (with_reducible refine blw_set ?_ (by dsimp only; omega) _)))⟩
    · have hd3 : decide ((B.size : Int) < 3) = false := decide_eq_false (by omega)
      obtain ⟨k, hk⟩ : ∃ k, B.size = k + 2 := ⟨B.size - 2, by omega⟩
      have hk1 : 1 ≤ k := by omega
      clear h3
      have hkl : k < B.size := by omega
      have hkl1 : k + 1 < B.size := by omega
      obtain ⟨C, hC⟩ : ∃ C, B.extract 0 k = C := ⟨_, rfl⟩
      have hCs : C.size ≤ 1048576 := by rw [← hC, ByteArray.size_extract]; omega
      have HPC : Hid (∀ q, thrOk q → s = thrX q → C = txt (decL q.2.1.toNat)) := fun q hq e => by rw [← hC]; exact (end_bytes hk (HPB.out q hq e) hkl hkl1).2.2
      obtain ⟨kp0, kp1⟩ := FP_2.out
      go_wp2_with fail
      clear kp0 kp1
      (with_reducible refine (readMeasure_any A _ hA).mono ?_)
      rintro e w3 ⟨⟨x, ok, rfl, x0, x1, hx⟩, hb3⟩
      have T3 : Below w.heap.size w w3 := T2.trans (hb3.mono T2.size)
      have Kr_3 : Hid (w3.heap[w.heap.size]? = some (.cells #[.int .i64 0, .int .i64 0, .bool false, .bool false] 25 (0, 0))) := hk_below Kr_2.out hb3
      have FP_3 : Hid (w3.cell? ⟨pb, po, none⟩ = some (.string A) ∧ w3.cell? ⟨pb, po + 1, none⟩ = some (.string B)) := ⟨(hb3.cell (p := ⟨pb, po, none⟩) (World.block_lt_of_cell? _ _ FP_2.out.1)).trans FP_2.out.1, (hb3.cell (p := ⟨pb, po + 1, none⟩) (World.block_lt_of_cell? _ _ FP_2.out.2)).trans FP_2.out.2⟩
      clear Kr_2 FP_2
      have HX : Hid (∀ q, thrOk q → s = thrX q → x = q.1) := fun q hq e => by
        have t := thr_d hq
        have := (hx _ t.1 t.2.1 (HPA.out q hq e)).1
        omega
      have HX2 : Hid (∀ q, thrOk q → s = thrX q → ok = true) := fun q hq e => by
        have t := thr_d hq
        exact (hx _ t.1 t.2.1 (HPA.out q hq e)).2
      clear hx HPA
      obtain ⟨kp0, kp1⟩ := FP_3.out
      go_wp2_with fail
      clear kp0 kp1
      (with_reducible refine (readDecimal_any C _ hCs).mono ?_)
      rintro e w4 ⟨⟨y, fine, rfl, y0, y1, hy⟩, hb4⟩
      have T4 : Below w.heap.size w w4 := T3.trans (hb4.mono T3.size)
      have Kr_4 : Hid (w4.heap[w.heap.size]? = some (.cells #[.int .i64 0, .int .i64 0, .bool false, .bool false] 25 (0, 0))) := hk_below Kr_3.out hb4
      have FP_4 : Hid (w4.cell? ⟨pb, po, none⟩ = some (.string A) ∧ w4.cell? ⟨pb, po + 1, none⟩ = some (.string B)) := ⟨(hb4.cell (p := ⟨pb, po, none⟩) (World.block_lt_of_cell? _ _ FP_3.out.1)).trans FP_3.out.1, (hb4.cell (p := ⟨pb, po + 1, none⟩) (World.block_lt_of_cell? _ _ FP_3.out.2)).trans FP_3.out.2⟩
      clear Kr_3 FP_3
      have HY : Hid (∀ q, thrOk q → s = thrX q → y = q.2.1) := fun q hq e => by
        have t := thr_d hq
        have := (hy q.2.1.toNat (by omega) (by omega) (HPC.out q hq e)).1
        omega
      have HY2 : Hid (∀ q, thrOk q → s = thrX q → fine = true) := fun q hq e => by
        have t := thr_d hq
        exact (hy q.2.1.toNat (by omega) (by omega) (HPC.out q hq e)).2
      clear hy HPC hC
      obtain ⟨l1, hl1⟩ : ∃ l1, (((B[k].toNat : Nat) : Int) == 108) = l1 := ⟨_, rfl⟩
      obtain ⟨i1, hi1⟩ : ∃ i1, (((B[k + 1].toNat : Nat) : Int) == 105) = i1 := ⟨_, rfl⟩
      have HE : Hid (∀ q, thrOk q → s = thrX q → l1 = q.2.2.1 ∧ i1 = q.2.2.2) := fun q hq e => by
        obtain ⟨a, b, _⟩ := end_bytes hk (HPB.out q hq e) hkl hkl1
        exact ⟨hl1.symm.trans a, hi1.symm.trans b⟩
      clear HPB
      have hkI : (k : Int) + 1 < (B.size : Int) := by omega
      have hkI0 : (k : Int) < (B.size : Int) := by omega
      have hk0 : (0 : Int) ≤ (k : Int) := by omega
      have hkw : IntKind.i64.wrap ((k : Int) + 1) = (k : Int) + 1 := IntWalk.i64_in _ (by omega)
      obtain ⟨kp0, kp1⟩ := FP_4.out
      have hpb : pb < w4.heap.size := World.block_lt_of_cell? _ _ kp0
      have q0 : (k : Int) < (k : Int) + 2 := by omega
      have q1 : (k : Int) + 1 < (k : Int) + 2 := by omega
      have q2 : (0 : Int) ≤ (k : Int) + 1 := by omega
      go_wp2
      go_region
      clear kp0 kp1
      clear hl1 hi1
      generalize hw : (w4.alloc (Obj.cells #[.int .i64 x, .int .i64 y, .bool l1, .bool i1] 25)).drew = w5
      have hb5 : Below w4.heap.size w4 w5 := by
        rw [← hw]
        exact ((Below.refl _ _).alloc (by simp) _).drew
      have Kx_5 : Hid (w5.heap[w4.heap.size]? = some (.cells #[.int .i64 x, .int .i64 y, .bool l1, .bool i1] 25 (0, 0))) := by
        show _ = _
        rw [← hw]
        exact heap_alloc_new _ _
      clear hw
      have hz4 := T4.size
      have T5 : Below w.heap.size w w5 := T4.trans (hb5.mono T4.size)
      have Kr_5 : Hid (w5.heap[w.heap.size]? = some (.cells #[.int .i64 0, .int .i64 0, .bool false, .bool false] 25 (0, 0))) := hk_below Kr_4.out hb5
      clear Kr_4
      cases ok
      · have HN : Hid (NoThr s) := fun q hq e => by have := HX2.out q hq e; cases this
        have HF := Lib.hid (rd_noE HI.out HN.out)
        have cr0 : w5.cell? ⟨w.heap.size, 0, none⟩ = some (.int .i64 0) := hk_cell (i := 0) Kr_5.out rfl
        have fr0 := hk_free (i := 0) Kr_5.out
        have cr1 : w5.cell? ⟨w.heap.size, 1, none⟩ = some (.int .i64 0) := hk_cell (i := 1) Kr_5.out rfl
        have fr1 := hk_free (i := 1) Kr_5.out
        have cr2 : w5.cell? ⟨w.heap.size, 2, none⟩ = some (.bool false) := hk_cell (i := 2) Kr_5.out rfl
        have fr2 := hk_free (i := 2) Kr_5.out
        have cr3 : w5.cell? ⟨w.heap.size, 3, none⟩ = some (.bool false) := hk_cell (i := 3) Kr_5.out rfl
        have fr3 := hk_free (i := 3) Kr_5.out
        have cx0 : w5.cell? ⟨w4.heap.size, 0, none⟩ = some (.int .i64 x) := hk_cell (i := 0) Kx_5.out rfl
        have fx0 := hk_free (i := 0) Kx_5.out
        have cx1 : w5.cell? ⟨w4.heap.size, 1, none⟩ = some (.int .i64 y) := hk_cell (i := 1) Kx_5.out rfl
        have fx1 := hk_free (i := 1) Kx_5.out
        have cx2 : w5.cell? ⟨w4.heap.size, 2, none⟩ = some (.bool l1) := hk_cell (i := 2) Kx_5.out rfl
        have fx2 := hk_free (i := 2) Kx_5.out
        have cx3 : w5.cell? ⟨w4.heap.size, 3, none⟩ = some (.bool i1) := hk_cell (i := 3) Kx_5.out rfl
        have fx3 := hk_free (i := 3) Kx_5.out
        go_wp2
        refine bodyPost_ret (v := .tuple #[.agg #[.int .i64 0, .int .i64 0, .bool false, .bool false], .int .i64 6]) (by simp [results, Try.results33, go_sem, *]) rfl ⟨HF.out, (by repeat (first | (with_reducible assumption) | (with_reducible exact Below.refl _ _) | (with_reducible refine blw_drewNR ?_ _) | (with_reducible refine Below.drew ?_) | (with_reducible refine blw_al ?_ _) | (with_reducible refine blw_set ?_ (by dsimp only; omega) _)))⟩
      · clear HX2
        cases fine
        · have HN : Hid (NoThr s) := fun q hq e => by have := HY2.out q hq e; cases this
          have HF := Lib.hid (rd_noE HI.out HN.out)
          have cr0 : w5.cell? ⟨w.heap.size, 0, none⟩ = some (.int .i64 0) := hk_cell (i := 0) Kr_5.out rfl
          have fr0 := hk_free (i := 0) Kr_5.out
          have cr1 : w5.cell? ⟨w.heap.size, 1, none⟩ = some (.int .i64 0) := hk_cell (i := 1) Kr_5.out rfl
          have fr1 := hk_free (i := 1) Kr_5.out
          have cr2 : w5.cell? ⟨w.heap.size, 2, none⟩ = some (.bool false) := hk_cell (i := 2) Kr_5.out rfl
          have fr2 := hk_free (i := 2) Kr_5.out
          have cr3 : w5.cell? ⟨w.heap.size, 3, none⟩ = some (.bool false) := hk_cell (i := 3) Kr_5.out rfl
          have fr3 := hk_free (i := 3) Kr_5.out
          have cx0 : w5.cell? ⟨w4.heap.size, 0, none⟩ = some (.int .i64 x) := hk_cell (i := 0) Kx_5.out rfl
          have fx0 := hk_free (i := 0) Kx_5.out
          have cx1 : w5.cell? ⟨w4.heap.size, 1, none⟩ = some (.int .i64 y) := hk_cell (i := 1) Kx_5.out rfl
          have fx1 := hk_free (i := 1) Kx_5.out
          have cx2 : w5.cell? ⟨w4.heap.size, 2, none⟩ = some (.bool l1) := hk_cell (i := 2) Kx_5.out rfl
          have fx2 := hk_free (i := 2) Kx_5.out
          have cx3 : w5.cell? ⟨w4.heap.size, 3, none⟩ = some (.bool i1) := hk_cell (i := 3) Kx_5.out rfl
          have fx3 := hk_free (i := 3) Kx_5.out
          go_wp2
          refine bodyPost_ret (v := .tuple #[.agg #[.int .i64 0, .int .i64 0, .bool false, .bool false], .int .i64 6]) (by simp [results, Try.results33, go_sem, *]) rfl ⟨HF.out, (by repeat (first | (with_reducible assumption) | (with_reducible exact Below.refl _ _) | (with_reducible refine blw_drewNR ?_ _) | (with_reducible refine Below.drew ?_) | (with_reducible refine blw_al ?_ _) | (with_reducible refine blw_set ?_ (by dsimp only; omega) _)))⟩
        · clear HY2
          have cr0 : w5.cell? ⟨w.heap.size, 0, none⟩ = some (.int .i64 0) := hk_cell (i := 0) Kr_5.out rfl
          have cr1 : w5.cell? ⟨w.heap.size, 1, none⟩ = some (.int .i64 0) := hk_cell (i := 1) Kr_5.out rfl
          have cr2 : w5.cell? ⟨w.heap.size, 2, none⟩ = some (.bool false) := hk_cell (i := 2) Kr_5.out rfl
          have cr3 : w5.cell? ⟨w.heap.size, 3, none⟩ = some (.bool false) := hk_cell (i := 3) Kr_5.out rfl
          have cx0 : w5.cell? ⟨w4.heap.size, 0, none⟩ = some (.int .i64 x) := hk_cell (i := 0) Kx_5.out rfl
          have cx1 : w5.cell? ⟨w4.heap.size, 1, none⟩ = some (.int .i64 y) := hk_cell (i := 1) Kx_5.out rfl
          have cx2 : w5.cell? ⟨w4.heap.size, 2, none⟩ = some (.bool l1) := hk_cell (i := 2) Kx_5.out rfl
          have cx3 : w5.cell? ⟨w4.heap.size, 3, none⟩ = some (.bool i1) := hk_cell (i := 3) Kx_5.out rfl
          go_wp2_with fail
          (with_reducible refine (IsThread_any x y l1 i1 _).mono ?_)
          rintro e w6 ⟨rfl, hb6⟩
          clear cr0 cr1 cr2 cr3 cx0 cx1 cx2 cx3
          have T6 : Below w.heap.size w w6 := T5.trans (hb6.mono T5.size)
          have Kr_6 : Hid (w6.heap[w.heap.size]? = some (.cells #[.int .i64 0, .int .i64 0, .bool false, .bool false] 25 (0, 0))) := hk_below Kr_5.out hb6
          have Kx_6 : Hid (w6.heap[w4.heap.size]? = some (.cells #[.int .i64 x, .int .i64 y, .bool l1, .bool i1] 25 (0, 0))) := hk_below Kx_5.out hb6
          clear Kr_5 Kx_5
          cases hT : isThr x y
          · have HN : Hid (NoThr s) := fun q hq e => by
              have e1 := HX.out q hq e
              have e2 := HY.out q hq e
              rw [e1, e2] at hT
              exact absurd (hq.symm.trans hT) (by decide)
            have HT := Lib.hid hT
            clear hT
            have HF := Lib.hid (rd_noE HI.out HN.out)
            have cr0 : w6.cell? ⟨w.heap.size, 0, none⟩ = some (.int .i64 0) := hk_cell (i := 0) Kr_6.out rfl
            have fr0 := hk_free (i := 0) Kr_6.out
            have cr1 : w6.cell? ⟨w.heap.size, 1, none⟩ = some (.int .i64 0) := hk_cell (i := 1) Kr_6.out rfl
            have fr1 := hk_free (i := 1) Kr_6.out
            have cr2 : w6.cell? ⟨w.heap.size, 2, none⟩ = some (.bool false) := hk_cell (i := 2) Kr_6.out rfl
            have fr2 := hk_free (i := 2) Kr_6.out
            have cr3 : w6.cell? ⟨w.heap.size, 3, none⟩ = some (.bool false) := hk_cell (i := 3) Kr_6.out rfl
            have fr3 := hk_free (i := 3) Kr_6.out
            have cx0 : w6.cell? ⟨w4.heap.size, 0, none⟩ = some (.int .i64 x) := hk_cell (i := 0) Kx_6.out rfl
            have fx0 := hk_free (i := 0) Kx_6.out
            have cx1 : w6.cell? ⟨w4.heap.size, 1, none⟩ = some (.int .i64 y) := hk_cell (i := 1) Kx_6.out rfl
            have fx1 := hk_free (i := 1) Kx_6.out
            have cx2 : w6.cell? ⟨w4.heap.size, 2, none⟩ = some (.bool l1) := hk_cell (i := 2) Kx_6.out rfl
            have fx2 := hk_free (i := 2) Kx_6.out
            have cx3 : w6.cell? ⟨w4.heap.size, 3, none⟩ = some (.bool i1) := hk_cell (i := 3) Kx_6.out rfl
            have fx3 := hk_free (i := 3) Kx_6.out
            go_wp2
            refine bodyPost_ret (v := .tuple #[.agg #[.int .i64 0, .int .i64 0, .bool false, .bool false], .int .i64 6]) (by simp [results, Try.results33, go_sem, *]) rfl ⟨HF.out, (by repeat (first | (with_reducible assumption) | (with_reducible exact Below.refl _ _) | (with_reducible refine blw_drewNR ?_ _) | (with_reducible refine Below.drew ?_) | (with_reducible refine blw_al ?_ _) | (with_reducible refine blw_set ?_ (by dsimp only; omega) _)))⟩
          · obtain ⟨t1, t2, t3, t4⟩ := isThr_bd hT
            have HT := Lib.hid hT
            clear hT
            have cr0 : w6.cell? ⟨w.heap.size, 0, none⟩ = some (.int .i64 0) := hk_cell (i := 0) Kr_6.out rfl
            have cr1 : w6.cell? ⟨w.heap.size, 1, none⟩ = some (.int .i64 0) := hk_cell (i := 1) Kr_6.out rfl
            have cr2 : w6.cell? ⟨w.heap.size, 2, none⟩ = some (.bool false) := hk_cell (i := 2) Kr_6.out rfl
            have cr3 : w6.cell? ⟨w.heap.size, 3, none⟩ = some (.bool false) := hk_cell (i := 3) Kr_6.out rfl
            have cx0 : w6.cell? ⟨w4.heap.size, 0, none⟩ = some (.int .i64 x) := hk_cell (i := 0) Kx_6.out rfl
            have cx1 : w6.cell? ⟨w4.heap.size, 1, none⟩ = some (.int .i64 y) := hk_cell (i := 1) Kx_6.out rfl
            have cx2 : w6.cell? ⟨w4.heap.size, 2, none⟩ = some (.bool l1) := hk_cell (i := 2) Kx_6.out rfl
            have cx3 : w6.cell? ⟨w4.heap.size, 3, none⟩ = some (.bool i1) := hk_cell (i := 3) Kx_6.out rfl
            go_wp2_with fail
            (with_reducible refine (threadText_any x y l1 i1 _ t1 t2 t3 t4).mono ?_)
            rintro e w7 ⟨rfl, hb7⟩
            clear cr0 cr1 cr2 cr3 cx0 cx1 cx2 cx3
            have T7 : Below w.heap.size w w7 := T6.trans (hb7.mono T6.size)
            have Kr_7 : Hid (w7.heap[w.heap.size]? = some (.cells #[.int .i64 0, .int .i64 0, .bool false, .bool false] 25 (0, 0))) := hk_below Kr_6.out hb7
            have Kx_7 : Hid (w7.heap[w4.heap.size]? = some (.cells #[.int .i64 x, .int .i64 y, .bool l1, .bool i1] 25 (0, 0))) := hk_below Kx_6.out hb7
            clear Kr_6 Kx_6
            cases hq1 : ((txt (thrL x y l1 i1)).toList == s.toList)
            · have HN : Hid (NoThr s) := fun q hq e => txt_neq hq1 (by have e1 := HX.out q hq e; have e2 := HY.out q hq e; have e3 := HE.out q hq e; rw [e1, e2, e3.1, e3.2]) e
              generalize txt (thrL x y l1 i1) = TT at *
              have HF := Lib.hid (rd_noE HI.out HN.out)
              have cr0 : w7.cell? ⟨w.heap.size, 0, none⟩ = some (.int .i64 0) := hk_cell (i := 0) Kr_7.out rfl
              have fr0 := hk_free (i := 0) Kr_7.out
              have cr1 : w7.cell? ⟨w.heap.size, 1, none⟩ = some (.int .i64 0) := hk_cell (i := 1) Kr_7.out rfl
              have fr1 := hk_free (i := 1) Kr_7.out
              have cr2 : w7.cell? ⟨w.heap.size, 2, none⟩ = some (.bool false) := hk_cell (i := 2) Kr_7.out rfl
              have fr2 := hk_free (i := 2) Kr_7.out
              have cr3 : w7.cell? ⟨w.heap.size, 3, none⟩ = some (.bool false) := hk_cell (i := 3) Kr_7.out rfl
              have fr3 := hk_free (i := 3) Kr_7.out
              have cx0 : w7.cell? ⟨w4.heap.size, 0, none⟩ = some (.int .i64 x) := hk_cell (i := 0) Kx_7.out rfl
              have fx0 := hk_free (i := 0) Kx_7.out
              have cx1 : w7.cell? ⟨w4.heap.size, 1, none⟩ = some (.int .i64 y) := hk_cell (i := 1) Kx_7.out rfl
              have fx1 := hk_free (i := 1) Kx_7.out
              have cx2 : w7.cell? ⟨w4.heap.size, 2, none⟩ = some (.bool l1) := hk_cell (i := 2) Kx_7.out rfl
              have fx2 := hk_free (i := 2) Kx_7.out
              have cx3 : w7.cell? ⟨w4.heap.size, 3, none⟩ = some (.bool i1) := hk_cell (i := 3) Kx_7.out rfl
              have fx3 := hk_free (i := 3) Kx_7.out
              go_wp2
              refine bodyPost_ret (v := .tuple #[.agg #[.int .i64 0, .int .i64 0, .bool false, .bool false], .int .i64 6]) (by simp [results, Try.results33, go_sem, *]) rfl ⟨HF.out, (by repeat (first | (with_reducible assumption) | (with_reducible exact Below.refl _ _) | (with_reducible refine blw_drewNR ?_ _) | (with_reducible refine Below.drew ?_) | (with_reducible refine blw_al ?_ _) | (with_reducible refine blw_set ?_ (by dsimp only; omega) _)))⟩
            · have HF := Lib.hid (rd_yesE HI.out HT.out hq1)
              generalize txt (thrL x y l1 i1) = TT at *

              have cr0 : w7.cell? ⟨w.heap.size, 0, none⟩ = some (.int .i64 0) := hk_cell (i := 0) Kr_7.out rfl
              have fr0 := hk_free (i := 0) Kr_7.out
              have cr1 : w7.cell? ⟨w.heap.size, 1, none⟩ = some (.int .i64 0) := hk_cell (i := 1) Kr_7.out rfl
              have fr1 := hk_free (i := 1) Kr_7.out
              have cr2 : w7.cell? ⟨w.heap.size, 2, none⟩ = some (.bool false) := hk_cell (i := 2) Kr_7.out rfl
              have fr2 := hk_free (i := 2) Kr_7.out
              have cr3 : w7.cell? ⟨w.heap.size, 3, none⟩ = some (.bool false) := hk_cell (i := 3) Kr_7.out rfl
              have fr3 := hk_free (i := 3) Kr_7.out
              have cx0 : w7.cell? ⟨w4.heap.size, 0, none⟩ = some (.int .i64 x) := hk_cell (i := 0) Kx_7.out rfl
              have fx0 := hk_free (i := 0) Kx_7.out
              have cx1 : w7.cell? ⟨w4.heap.size, 1, none⟩ = some (.int .i64 y) := hk_cell (i := 1) Kx_7.out rfl
              have fx1 := hk_free (i := 1) Kx_7.out
              have cx2 : w7.cell? ⟨w4.heap.size, 2, none⟩ = some (.bool l1) := hk_cell (i := 2) Kx_7.out rfl
              have fx2 := hk_free (i := 2) Kx_7.out
              have cx3 : w7.cell? ⟨w4.heap.size, 3, none⟩ = some (.bool i1) := hk_cell (i := 3) Kx_7.out rfl
              have fx3 := hk_free (i := 3) Kx_7.out
              go_wp2
              refine bodyPost_ret (v := .tuple #[.agg #[.int .i64 x, .int .i64 y, .bool l1, .bool i1], .int .i64 0]) (by simp [results, Try.results33, go_sem, *]) rfl ⟨HF.out, (by repeat (first | (with_reducible assumption) | (with_reducible exact Below.refl _ _) | (with_reducible refine blw_drewNR ?_ _) | (with_reducible refine Below.drew ?_) | (with_reducible refine blw_al ?_ _) | (with_reducible refine blw_set ?_ (by dsimp only; omega) _)))⟩
  · have HN : Hid (NoThr s) := fun q hq e => hlen (by rw [thr_partsI HL.out e]; rfl)
    have hln : ((L.length : Int) != 2) = true := by rw [bne_iff_ne]; omega
    clear HL hrd
    have HF := Lib.hid (rd_noE HI.out HN.out)
    have cr0 : w2.cell? ⟨w.heap.size, 0, none⟩ = some (.int .i64 0) := hk_cell (i := 0) Kr_2.out rfl
    have fr0 := hk_free (i := 0) Kr_2.out
    have cr1 : w2.cell? ⟨w.heap.size, 1, none⟩ = some (.int .i64 0) := hk_cell (i := 1) Kr_2.out rfl
    have fr1 := hk_free (i := 1) Kr_2.out
    have cr2 : w2.cell? ⟨w.heap.size, 2, none⟩ = some (.bool false) := hk_cell (i := 2) Kr_2.out rfl
    have fr2 := hk_free (i := 2) Kr_2.out
    have cr3 : w2.cell? ⟨w.heap.size, 3, none⟩ = some (.bool false) := hk_cell (i := 3) Kr_2.out rfl
    have fr3 := hk_free (i := 3) Kr_2.out
    go_wp2
    refine bodyPost_ret (v := .tuple #[.agg #[.int .i64 0, .int .i64 0, .bool false, .bool false], .int .i64 6]) (by simp [results, Try.results33, go_sem, *]) rfl ⟨HF.out, (by repeat (first | (with_reducible assumption) | (with_reducible exact Below.refl _ _) | (with_reducible refine blw_drewNR ?_ _) | (with_reducible refine Below.drew ?_) | (with_reducible refine blw_al ?_ _) | (with_reducible refine blw_set ?_ (by dsimp only; omega) _)))⟩
set_option maxRecDepth 100000 in
set_option maxHeartbeats 3200000 in
theorem sReadThread_any (s : ByteArray) (d p : Int) (lf inn : Bool) (c : Int) (w : World) (hs : s.size ≤ 1048576) (h : IsRd s ((d, p, lf, inn), c)) :
    Calls Try.prog 32 #[.string s] w fun e w' => e = .returned (.tuple #[.agg #[.int .i64 d, .int .i64 p, .bool lf, .bool inn], .int .i64 c]) ∧ Below w.heap.size w w' := by
  by_cases hs3 : s.size < 3
  · have HN := Lib.hid (thr_small hs3)
    have HF := Lib.hid (rd_noE h HN.out)
    have hd : decide ((s.size : Int) < 3) = true := decide_eq_true (by omega)
    clear hs3 h
    go_enter Try.func32, Try.ntmps32
    go_wp2
    refine bodyPost_ret (v := .tuple #[.agg #[.int .i64 0, .int .i64 0, .bool false, .bool false], .int .i64 6]) (by simp [results, Try.results32, go_sem, *]) rfl ⟨HF.out, (by repeat (first | (with_reducible assumption) | (with_reducible exact Below.refl _ _) | (with_reducible refine blw_drewNR ?_ _) | (with_reducible refine Below.drew ?_) | (with_reducible refine blw_al ?_ _) | (with_reducible refine blw_set ?_ (by dsimp only; omega) _)))⟩
  · have T0 := Below.refl w.heap.size w
    have HI := Lib.hid h
    clear h
    obtain ⟨m, hm⟩ : ∃ m, s.size = m + 2 := ⟨s.size - 2, by omega⟩
    have hm1 : 1 ≤ m := by omega
    have hd : decide ((s.size : Int) < 3) = false := decide_eq_false (by omega)
    have hmlt : m < s.size := by omega
    have hmlt1 : m + 1 < s.size := by omega
    have hmI : (m : Int) < (m : Int) + 2 := by omega
    have hmI1 : (m : Int) + 1 < (m : Int) + 2 := by omega
    have hm0 : (0 : Int) ≤ (m : Int) := by omega
    have hm01 : (0 : Int) ≤ (m : Int) + 1 := by omega
    have hmk : (m : Int) + 2 - 1 = (m : Int) + 1 := by omega
    obtain ⟨S, hS⟩ : ∃ S, s.extract 0 m = S := ⟨_, rfl⟩
    have hSs : S.size ≤ 1048576 := by rw [← hS, ByteArray.size_extract]; omega
    obtain ⟨L, hL⟩ : ∃ L, L = partsL S := ⟨_, rfl⟩
    have HP : Hid (∀ q, thrOk q → s = thrX q → L = [measN q.1.toNat, decL q.2.1.toNat]) := fun q _ e => thr_partsS hm hS hL e
    have HL := Lib.hid hL
    clear hL hs3
    obtain ⟨l1, hl1⟩ : ∃ l1, (((s[m].toNat : Nat) : Int) == 108) = l1 := ⟨_, rfl⟩
    obtain ⟨i1, hi1⟩ : ∃ i1, (((s[m + 1].toNat : Nat) : Int) == 105) = i1 := ⟨_, rfl⟩
    have HE : Hid (∀ q, thrOk q → s = thrX q → l1 = q.2.2.1 ∧ i1 = q.2.2.2) := fun q hq e => by
      obtain ⟨a, b, _⟩ := end_bytes hm (by rw [e, thrX, txt_data, thrE]) hmlt hmlt1
      exact ⟨hl1.symm.trans a, hi1.symm.trans b⟩
    go_enter Try.func32, Try.ntmps32
    go_wp2_with fail
    generalize hw : w.alloc (Obj.cells #[.int .i64 0, .int .i64 0, .bool false, .bool false] 25) = w1
    have hb1 : Below w.heap.size w w1 := by
      rw [← hw]
      exact (Below.refl _ _).alloc (by simp) _
    have Kr_1 : Hid (w1.heap[w.heap.size]? = some (.cells #[.int .i64 0, .int .i64 0, .bool false, .bool false] 25 (0, 0))) := by
      show _ = _
      rw [← hw]
      exact (heap_alloc_new _ _)
    clear hw
    have T1 : Below w.heap.size w w1 := T0.trans (hb1.mono T0.size)
    go_wp2_with fail
    (with_reducible refine (l01Split_r S L _ hSs HL.out).mono ?_)
    rintro e w2 ⟨v, rfl, ho, hb2⟩
    have T2 : Below w.heap.size w w2 := T1.trans (hb2.mono T1.size)
    have Kr_2 : Hid (w2.heap[w.heap.size]? = some (.cells #[.int .i64 0, .int .i64 0, .bool false, .bool false] 25 (0, 0))) := hk_below Kr_1.out hb2
    clear Kr_1
    clear hS
    obtain ⟨ap, cp, ev, hrd⟩ := ho.rd.shape
    subst ev
    rw [List.length_map] at *
    clear ho
    have hr0 : w.heap.size < w2.heap.size := hk_lt Kr_2.out
    by_cases hlen : L.length = 2
    · obtain ⟨X, Y, rfl⟩ : ∃ X Y, L = [X, Y] := by
        match L, hlen with
        | [X, Y], _ => exact ⟨X, Y, rfl⟩
      obtain ⟨pb, po, rfl, k0, k1⟩ := two_cells hrd
      clear hrd
      have hXs := part_size HL.out (X := X) (by simp)
      have hYs := part_size HL.out (X := Y) (by simp)
      have HPA : Hid (∀ q, thrOk q → s = thrX q → txt X = txt (measN q.1.toNat)) := fun q hq e => by
        have := HP.out q hq e
        simp only [List.cons.injEq, and_true] at this
        rw [this.1]
      have HPC : Hid (∀ q, thrOk q → s = thrX q → txt Y = txt (decL q.2.1.toNat)) := fun q hq e => by
        have := HP.out q hq e
        simp only [List.cons.injEq, and_true] at this
        rw [this.2]
      clear HL HP
      have hA : (txt X).size ≤ 1048576 := by rw [txt_size]; omega
      have hB : (txt Y).size ≤ 1048576 := by rw [txt_size]; omega
      generalize txt X = A at *
      generalize txt Y = C at *
      clear hXs hYs hlen
      simp only [List.length_cons, List.length_nil] at *
      have FP_2 : Hid (w2.cell? ⟨pb, po, none⟩ = some (.string A) ∧ w2.cell? ⟨pb, po + 1, none⟩ = some (.string C)) := ⟨k0, k1⟩
      clear k0 k1
      obtain ⟨kp0, kp1⟩ := FP_2.out
      go_wp2_with fail
      clear kp0 kp1
      (with_reducible refine (sReadMeasure_any A _ hA).mono ?_)
      rintro e w3 ⟨⟨x, cc, rfl, x0, x1, hx⟩, hb3⟩
      have T3 : Below w.heap.size w w3 := T2.trans (hb3.mono T2.size)
      have Kr_3 : Hid (w3.heap[w.heap.size]? = some (.cells #[.int .i64 0, .int .i64 0, .bool false, .bool false] 25 (0, 0))) := hk_below Kr_2.out hb3
      have FP_3 : Hid (w3.cell? ⟨pb, po, none⟩ = some (.string A) ∧ w3.cell? ⟨pb, po + 1, none⟩ = some (.string C)) := ⟨(hb3.cell (p := ⟨pb, po, none⟩) (World.block_lt_of_cell? _ _ FP_2.out.1)).trans FP_2.out.1, (hb3.cell (p := ⟨pb, po + 1, none⟩) (World.block_lt_of_cell? _ _ FP_2.out.2)).trans FP_2.out.2⟩
      clear Kr_2 FP_2
      have HX : Hid (∀ q, thrOk q → s = thrX q → x = q.1) := fun q hq e => by
        have t := thr_d hq
        have := (hx _ t.1 t.2.1 (HPA.out q hq e)).1
        omega
      have HX2 : Hid (∀ q, thrOk q → s = thrX q → cc = 0) := fun q hq e => by
        have t := thr_d hq
        exact of_decide_eq_true (hx _ t.1 t.2.1 (HPA.out q hq e)).2
      clear hx HPA
      obtain ⟨kp0, kp1⟩ := FP_3.out
      go_wp2_with fail
      clear kp0 kp1
      (with_reducible refine (l01Value_any C _ hB).mono ?_)
      rintro e w4 ⟨hv, hb4⟩
      have T4 : Below w.heap.size w w4 := T3.trans (hb4.mono T3.size)
      have Kr_4 : Hid (w4.heap[w.heap.size]? = some (.cells #[.int .i64 0, .int .i64 0, .bool false, .bool false] 25 (0, 0))) := hk_below Kr_3.out hb4
      have FP_4 : Hid (w4.cell? ⟨pb, po, none⟩ = some (.string A) ∧ w4.cell? ⟨pb, po + 1, none⟩ = some (.string C)) := ⟨(hb4.cell (p := ⟨pb, po, none⟩) (World.block_lt_of_cell? _ _ FP_3.out.1)).trans FP_3.out.1, (hb4.cell (p := ⟨pb, po + 1, none⟩) (World.block_lt_of_cell? _ _ FP_3.out.2)).trans FP_3.out.2⟩
      clear Kr_3 FP_3
      obtain ⟨y, fine, rfl, y0, y1, hy⟩ := hv.dec
      clear hv
      have HY : Hid (∀ q, thrOk q → s = thrX q → y = q.2.1) := fun q hq e => by
        have t := thr_d hq
        have := (hy q.2.1.toNat (by omega) (HPC.out q hq e)).1
        omega
      have HY2 : Hid (∀ q, thrOk q → s = thrX q → fine = true) := fun q hq e => by
        have t := thr_d hq
        exact (hy q.2.1.toNat (by omega) (HPC.out q hq e)).2
      clear hy HPC
      go_wp2
      go_region
      clear hl1 hi1
      generalize hw : (w4.alloc (Obj.cells #[.int .i64 x, .int .i64 y, .bool l1, .bool i1] 25)).drew = w5
      have hb5 : Below w4.heap.size w4 w5 := by
        rw [← hw]
        exact ((Below.refl _ _).alloc (by simp) _).drew
      have Kx_5 : Hid (w5.heap[w4.heap.size]? = some (.cells #[.int .i64 x, .int .i64 y, .bool l1, .bool i1] 25 (0, 0))) := by
        show _ = _
        rw [← hw]
        exact heap_alloc_new _ _
      clear hw
      have hz4 := T4.size
      have T5 : Below w.heap.size w w5 := T4.trans (hb5.mono T4.size)
      have Kr_5 : Hid (w5.heap[w.heap.size]? = some (.cells #[.int .i64 0, .int .i64 0, .bool false, .bool false] 25 (0, 0))) := hk_below Kr_4.out hb5
      clear Kr_4
      by_cases hcc : ¬ cc = 0
      · have HN : Hid (NoThr s) := fun q hq e => by have := HX2.out q hq e; exact hcc this
        have hcq : (cc != 0) = true := by rw [bne_iff_ne]; exact hcc
        clear hcc
        have HF := Lib.hid (rd_noE HI.out HN.out)
        have cr0 : w5.cell? ⟨w.heap.size, 0, none⟩ = some (.int .i64 0) := hk_cell (i := 0) Kr_5.out rfl
        have fr0 := hk_free (i := 0) Kr_5.out
        have cr1 : w5.cell? ⟨w.heap.size, 1, none⟩ = some (.int .i64 0) := hk_cell (i := 1) Kr_5.out rfl
        have fr1 := hk_free (i := 1) Kr_5.out
        have cr2 : w5.cell? ⟨w.heap.size, 2, none⟩ = some (.bool false) := hk_cell (i := 2) Kr_5.out rfl
        have fr2 := hk_free (i := 2) Kr_5.out
        have cr3 : w5.cell? ⟨w.heap.size, 3, none⟩ = some (.bool false) := hk_cell (i := 3) Kr_5.out rfl
        have fr3 := hk_free (i := 3) Kr_5.out
        have cx0 : w5.cell? ⟨w4.heap.size, 0, none⟩ = some (.int .i64 x) := hk_cell (i := 0) Kx_5.out rfl
        have fx0 := hk_free (i := 0) Kx_5.out
        have cx1 : w5.cell? ⟨w4.heap.size, 1, none⟩ = some (.int .i64 y) := hk_cell (i := 1) Kx_5.out rfl
        have fx1 := hk_free (i := 1) Kx_5.out
        have cx2 : w5.cell? ⟨w4.heap.size, 2, none⟩ = some (.bool l1) := hk_cell (i := 2) Kx_5.out rfl
        have fx2 := hk_free (i := 2) Kx_5.out
        have cx3 : w5.cell? ⟨w4.heap.size, 3, none⟩ = some (.bool i1) := hk_cell (i := 3) Kx_5.out rfl
        have fx3 := hk_free (i := 3) Kx_5.out
        go_wp2
        refine bodyPost_ret (v := .tuple #[.agg #[.int .i64 0, .int .i64 0, .bool false, .bool false], .int .i64 6]) (by simp [results, Try.results32, go_sem, *]) rfl ⟨HF.out, (by repeat (first | (with_reducible assumption) | (with_reducible exact Below.refl _ _) | (with_reducible refine blw_drewNR ?_ _) | (with_reducible refine Below.drew ?_) | (with_reducible refine blw_al ?_ _) | (with_reducible refine blw_set ?_ (by dsimp only; omega) _)))⟩
      · have hcc : cc = 0 := Decidable.byContradiction hcc
        subst hcc
        clear HX2
        cases fine
        · have HN : Hid (NoThr s) := fun q hq e => by have := HY2.out q hq e; cases this
          have HF := Lib.hid (rd_noE HI.out HN.out)
          have cr0 : w5.cell? ⟨w.heap.size, 0, none⟩ = some (.int .i64 0) := hk_cell (i := 0) Kr_5.out rfl
          have fr0 := hk_free (i := 0) Kr_5.out
          have cr1 : w5.cell? ⟨w.heap.size, 1, none⟩ = some (.int .i64 0) := hk_cell (i := 1) Kr_5.out rfl
          have fr1 := hk_free (i := 1) Kr_5.out
          have cr2 : w5.cell? ⟨w.heap.size, 2, none⟩ = some (.bool false) := hk_cell (i := 2) Kr_5.out rfl
          have fr2 := hk_free (i := 2) Kr_5.out
          have cr3 : w5.cell? ⟨w.heap.size, 3, none⟩ = some (.bool false) := hk_cell (i := 3) Kr_5.out rfl
          have fr3 := hk_free (i := 3) Kr_5.out
          have cx0 : w5.cell? ⟨w4.heap.size, 0, none⟩ = some (.int .i64 x) := hk_cell (i := 0) Kx_5.out rfl
          have fx0 := hk_free (i := 0) Kx_5.out
          have cx1 : w5.cell? ⟨w4.heap.size, 1, none⟩ = some (.int .i64 y) := hk_cell (i := 1) Kx_5.out rfl
          have fx1 := hk_free (i := 1) Kx_5.out
          have cx2 : w5.cell? ⟨w4.heap.size, 2, none⟩ = some (.bool l1) := hk_cell (i := 2) Kx_5.out rfl
          have fx2 := hk_free (i := 2) Kx_5.out
          have cx3 : w5.cell? ⟨w4.heap.size, 3, none⟩ = some (.bool i1) := hk_cell (i := 3) Kx_5.out rfl
          have fx3 := hk_free (i := 3) Kx_5.out
          go_wp2
          refine bodyPost_ret (v := .tuple #[.agg #[.int .i64 0, .int .i64 0, .bool false, .bool false], .int .i64 6]) (by simp [results, Try.results32, go_sem, *]) rfl ⟨HF.out, (by repeat (first | (with_reducible assumption) | (with_reducible exact Below.refl _ _) | (with_reducible refine blw_drewNR ?_ _) | (with_reducible refine Below.drew ?_) | (with_reducible refine blw_al ?_ _) | (with_reducible refine blw_set ?_ (by dsimp only; omega) _)))⟩
        · clear HY2
          have cr0 : w5.cell? ⟨w.heap.size, 0, none⟩ = some (.int .i64 0) := hk_cell (i := 0) Kr_5.out rfl
          have cr1 : w5.cell? ⟨w.heap.size, 1, none⟩ = some (.int .i64 0) := hk_cell (i := 1) Kr_5.out rfl
          have cr2 : w5.cell? ⟨w.heap.size, 2, none⟩ = some (.bool false) := hk_cell (i := 2) Kr_5.out rfl
          have cr3 : w5.cell? ⟨w.heap.size, 3, none⟩ = some (.bool false) := hk_cell (i := 3) Kr_5.out rfl
          have cx0 : w5.cell? ⟨w4.heap.size, 0, none⟩ = some (.int .i64 x) := hk_cell (i := 0) Kx_5.out rfl
          have cx1 : w5.cell? ⟨w4.heap.size, 1, none⟩ = some (.int .i64 y) := hk_cell (i := 1) Kx_5.out rfl
          have cx2 : w5.cell? ⟨w4.heap.size, 2, none⟩ = some (.bool l1) := hk_cell (i := 2) Kx_5.out rfl
          have cx3 : w5.cell? ⟨w4.heap.size, 3, none⟩ = some (.bool i1) := hk_cell (i := 3) Kx_5.out rfl
          go_wp2_with fail
          (with_reducible refine (sIsThread_any x y l1 i1 _).mono ?_)
          rintro e w6 ⟨rfl, hb6⟩
          clear cr0 cr1 cr2 cr3 cx0 cx1 cx2 cx3
          have T6 : Below w.heap.size w w6 := T5.trans (hb6.mono T5.size)
          have Kr_6 : Hid (w6.heap[w.heap.size]? = some (.cells #[.int .i64 0, .int .i64 0, .bool false, .bool false] 25 (0, 0))) := hk_below Kr_5.out hb6
          have Kx_6 : Hid (w6.heap[w4.heap.size]? = some (.cells #[.int .i64 x, .int .i64 y, .bool l1, .bool i1] 25 (0, 0))) := hk_below Kx_5.out hb6
          clear Kr_5 Kx_5
          cases hT : isThr x y
          · have HN : Hid (NoThr s) := fun q hq e => by
              have e1 := HX.out q hq e
              have e2 := HY.out q hq e
              rw [e1, e2] at hT
              exact absurd (hq.symm.trans hT) (by decide)
            have HT := Lib.hid hT
            clear hT
            have HF := Lib.hid (rd_noE HI.out HN.out)
            have cr0 : w6.cell? ⟨w.heap.size, 0, none⟩ = some (.int .i64 0) := hk_cell (i := 0) Kr_6.out rfl
            have fr0 := hk_free (i := 0) Kr_6.out
            have cr1 : w6.cell? ⟨w.heap.size, 1, none⟩ = some (.int .i64 0) := hk_cell (i := 1) Kr_6.out rfl
            have fr1 := hk_free (i := 1) Kr_6.out
            have cr2 : w6.cell? ⟨w.heap.size, 2, none⟩ = some (.bool false) := hk_cell (i := 2) Kr_6.out rfl
            have fr2 := hk_free (i := 2) Kr_6.out
            have cr3 : w6.cell? ⟨w.heap.size, 3, none⟩ = some (.bool false) := hk_cell (i := 3) Kr_6.out rfl
            have fr3 := hk_free (i := 3) Kr_6.out
            have cx0 : w6.cell? ⟨w4.heap.size, 0, none⟩ = some (.int .i64 x) := hk_cell (i := 0) Kx_6.out rfl
            have fx0 := hk_free (i := 0) Kx_6.out
            have cx1 : w6.cell? ⟨w4.heap.size, 1, none⟩ = some (.int .i64 y) := hk_cell (i := 1) Kx_6.out rfl
            have fx1 := hk_free (i := 1) Kx_6.out
            have cx2 : w6.cell? ⟨w4.heap.size, 2, none⟩ = some (.bool l1) := hk_cell (i := 2) Kx_6.out rfl
            have fx2 := hk_free (i := 2) Kx_6.out
            have cx3 : w6.cell? ⟨w4.heap.size, 3, none⟩ = some (.bool i1) := hk_cell (i := 3) Kx_6.out rfl
            have fx3 := hk_free (i := 3) Kx_6.out
            go_wp2
            refine bodyPost_ret (v := .tuple #[.agg #[.int .i64 0, .int .i64 0, .bool false, .bool false], .int .i64 6]) (by simp [results, Try.results32, go_sem, *]) rfl ⟨HF.out, (by repeat (first | (with_reducible assumption) | (with_reducible exact Below.refl _ _) | (with_reducible refine blw_drewNR ?_ _) | (with_reducible refine Below.drew ?_) | (with_reducible refine blw_al ?_ _) | (with_reducible refine blw_set ?_ (by dsimp only; omega) _)))⟩
          · obtain ⟨t1, t2, t3, t4⟩ := isThr_bd hT
            have HT := Lib.hid hT
            clear hT
            have cr0 : w6.cell? ⟨w.heap.size, 0, none⟩ = some (.int .i64 0) := hk_cell (i := 0) Kr_6.out rfl
            have cr1 : w6.cell? ⟨w.heap.size, 1, none⟩ = some (.int .i64 0) := hk_cell (i := 1) Kr_6.out rfl
            have cr2 : w6.cell? ⟨w.heap.size, 2, none⟩ = some (.bool false) := hk_cell (i := 2) Kr_6.out rfl
            have cr3 : w6.cell? ⟨w.heap.size, 3, none⟩ = some (.bool false) := hk_cell (i := 3) Kr_6.out rfl
            have cx0 : w6.cell? ⟨w4.heap.size, 0, none⟩ = some (.int .i64 x) := hk_cell (i := 0) Kx_6.out rfl
            have cx1 : w6.cell? ⟨w4.heap.size, 1, none⟩ = some (.int .i64 y) := hk_cell (i := 1) Kx_6.out rfl
            have cx2 : w6.cell? ⟨w4.heap.size, 2, none⟩ = some (.bool l1) := hk_cell (i := 2) Kx_6.out rfl
            have cx3 : w6.cell? ⟨w4.heap.size, 3, none⟩ = some (.bool i1) := hk_cell (i := 3) Kx_6.out rfl
            go_wp2_with fail
            (with_reducible refine (l14Text_any x y l1 i1 _ t1 t2 t3 t4).mono ?_)
            rintro e w7 ⟨rfl, hb7⟩
            clear cr0 cr1 cr2 cr3 cx0 cx1 cx2 cx3
            have T7 : Below w.heap.size w w7 := T6.trans (hb7.mono T6.size)
            have Kr_7 : Hid (w7.heap[w.heap.size]? = some (.cells #[.int .i64 0, .int .i64 0, .bool false, .bool false] 25 (0, 0))) := hk_below Kr_6.out hb7
            have Kx_7 : Hid (w7.heap[w4.heap.size]? = some (.cells #[.int .i64 x, .int .i64 y, .bool l1, .bool i1] 25 (0, 0))) := hk_below Kx_6.out hb7
            clear Kr_6 Kx_6
            cases hq1 : ((txt (thrL x y l1 i1)).toList == s.toList)
            · have HN : Hid (NoThr s) := fun q hq e => txt_neq hq1 (by have e1 := HX.out q hq e; have e2 := HY.out q hq e; have e3 := HE.out q hq e; rw [e1, e2, e3.1, e3.2]) e
              generalize txt (thrL x y l1 i1) = TT at *
              have HF := Lib.hid (rd_noE HI.out HN.out)
              have cr0 : w7.cell? ⟨w.heap.size, 0, none⟩ = some (.int .i64 0) := hk_cell (i := 0) Kr_7.out rfl
              have fr0 := hk_free (i := 0) Kr_7.out
              have cr1 : w7.cell? ⟨w.heap.size, 1, none⟩ = some (.int .i64 0) := hk_cell (i := 1) Kr_7.out rfl
              have fr1 := hk_free (i := 1) Kr_7.out
              have cr2 : w7.cell? ⟨w.heap.size, 2, none⟩ = some (.bool false) := hk_cell (i := 2) Kr_7.out rfl
              have fr2 := hk_free (i := 2) Kr_7.out
              have cr3 : w7.cell? ⟨w.heap.size, 3, none⟩ = some (.bool false) := hk_cell (i := 3) Kr_7.out rfl
              have fr3 := hk_free (i := 3) Kr_7.out
              have cx0 : w7.cell? ⟨w4.heap.size, 0, none⟩ = some (.int .i64 x) := hk_cell (i := 0) Kx_7.out rfl
              have fx0 := hk_free (i := 0) Kx_7.out
              have cx1 : w7.cell? ⟨w4.heap.size, 1, none⟩ = some (.int .i64 y) := hk_cell (i := 1) Kx_7.out rfl
              have fx1 := hk_free (i := 1) Kx_7.out
              have cx2 : w7.cell? ⟨w4.heap.size, 2, none⟩ = some (.bool l1) := hk_cell (i := 2) Kx_7.out rfl
              have fx2 := hk_free (i := 2) Kx_7.out
              have cx3 : w7.cell? ⟨w4.heap.size, 3, none⟩ = some (.bool i1) := hk_cell (i := 3) Kx_7.out rfl
              have fx3 := hk_free (i := 3) Kx_7.out
              go_wp2
              refine bodyPost_ret (v := .tuple #[.agg #[.int .i64 0, .int .i64 0, .bool false, .bool false], .int .i64 6]) (by simp [results, Try.results32, go_sem, *]) rfl ⟨HF.out, (by repeat (first | (with_reducible assumption) | (with_reducible exact Below.refl _ _) | (with_reducible refine blw_drewNR ?_ _) | (with_reducible refine Below.drew ?_) | (with_reducible refine blw_al ?_ _) | (with_reducible refine blw_set ?_ (by dsimp only; omega) _)))⟩
            · have HF := Lib.hid (rd_yesE HI.out HT.out hq1)
              generalize txt (thrL x y l1 i1) = TT at *

              have cr0 : w7.cell? ⟨w.heap.size, 0, none⟩ = some (.int .i64 0) := hk_cell (i := 0) Kr_7.out rfl
              have fr0 := hk_free (i := 0) Kr_7.out
              have cr1 : w7.cell? ⟨w.heap.size, 1, none⟩ = some (.int .i64 0) := hk_cell (i := 1) Kr_7.out rfl
              have fr1 := hk_free (i := 1) Kr_7.out
              have cr2 : w7.cell? ⟨w.heap.size, 2, none⟩ = some (.bool false) := hk_cell (i := 2) Kr_7.out rfl
              have fr2 := hk_free (i := 2) Kr_7.out
              have cr3 : w7.cell? ⟨w.heap.size, 3, none⟩ = some (.bool false) := hk_cell (i := 3) Kr_7.out rfl
              have fr3 := hk_free (i := 3) Kr_7.out
              have cx0 : w7.cell? ⟨w4.heap.size, 0, none⟩ = some (.int .i64 x) := hk_cell (i := 0) Kx_7.out rfl
              have fx0 := hk_free (i := 0) Kx_7.out
              have cx1 : w7.cell? ⟨w4.heap.size, 1, none⟩ = some (.int .i64 y) := hk_cell (i := 1) Kx_7.out rfl
              have fx1 := hk_free (i := 1) Kx_7.out
              have cx2 : w7.cell? ⟨w4.heap.size, 2, none⟩ = some (.bool l1) := hk_cell (i := 2) Kx_7.out rfl
              have fx2 := hk_free (i := 2) Kx_7.out
              have cx3 : w7.cell? ⟨w4.heap.size, 3, none⟩ = some (.bool i1) := hk_cell (i := 3) Kx_7.out rfl
              have fx3 := hk_free (i := 3) Kx_7.out
              go_wp2
              refine bodyPost_ret (v := .tuple #[.agg #[.int .i64 x, .int .i64 y, .bool l1, .bool i1], .int .i64 0]) (by simp [results, Try.results32, go_sem, *]) rfl ⟨HF.out, (by repeat (first | (with_reducible assumption) | (with_reducible exact Below.refl _ _) | (with_reducible refine blw_drewNR ?_ _) | (with_reducible refine Below.drew ?_) | (with_reducible refine blw_al ?_ _) | (with_reducible refine blw_set ?_ (by dsimp only; omega) _)))⟩
    · have HN : Hid (NoThr s) := fun q hq e => hlen (by rw [HP.out q hq e]; rfl)
      have hln : ((L.length : Int) != 2) = true := by rw [bne_iff_ne]; omega
      clear HL hrd HP
      have HF := Lib.hid (rd_noE HI.out HN.out)
      have cr0 : w2.cell? ⟨w.heap.size, 0, none⟩ = some (.int .i64 0) := hk_cell (i := 0) Kr_2.out rfl
      have fr0 := hk_free (i := 0) Kr_2.out
      have cr1 : w2.cell? ⟨w.heap.size, 1, none⟩ = some (.int .i64 0) := hk_cell (i := 1) Kr_2.out rfl
      have fr1 := hk_free (i := 1) Kr_2.out
      have cr2 : w2.cell? ⟨w.heap.size, 2, none⟩ = some (.bool false) := hk_cell (i := 2) Kr_2.out rfl
      have fr2 := hk_free (i := 2) Kr_2.out
      have cr3 : w2.cell? ⟨w.heap.size, 3, none⟩ = some (.bool false) := hk_cell (i := 3) Kr_2.out rfl
      have fr3 := hk_free (i := 3) Kr_2.out
      go_wp2
      refine bodyPost_ret (v := .tuple #[.agg #[.int .i64 0, .int .i64 0, .bool false, .bool false], .int .i64 6]) (by simp [results, Try.results32, go_sem, *]) rfl ⟨HF.out, (by repeat (first | (with_reducible assumption) | (with_reducible exact Below.refl _ _) | (with_reducible refine blw_drewNR ?_ _) | (with_reducible refine Below.drew ?_) | (with_reducible refine blw_al ?_ _) | (with_reducible refine blw_set ?_ (by dsimp only; omega) _)))⟩
end Go.Proofs.Ytoaacipgphoiaaa
