/- Plain facts: digits and their value, the parts of a text, the text of a thread tells the thread. -/
import Derived.Test.YtoaacipgphoiaaaThrT
import Derived.Test.YtoaacipgphoiaaaRdvA
set_option linter.unusedSimpArgs false
set_option linter.unusedVariables false
namespace Go.Proofs.Ytoaacipgphoiaaa
open Go.RowKit

theorem u8_val {n : Nat} (h : n < 10) : ((UInt8.ofNat (48 + n)).toNat : Nat) = 48 + n := by
  rw [UInt8.toNat_ofNat']
  omega
theorem valL_dec : ∀ (b n : Nat), n ≤ b → valL (decL n) = n := by
  intro b
  induction b with
  | zero =>
    intro n h
    obtain rfl : n = 0 := by omega
    rw [decL_small (n := 0) (by decide)]
    decide
  | succ b ih =>
    intro n h
    by_cases hs : n < 10
    · rw [decL_small hs]
      have := valL_app [] (UInt8.ofNat (48 + n))
      rw [List.nil_append] at this
      rw [this, u8_val hs]
      show 10 * (0 : Int) + _ = _
      omega
    · rw [decL_big hs, valL_app, ih (n / 10) (by omega), u8_val (by omega)]
      omega
theorem dec_dig : ∀ (b n : Nat), n ≤ b → (decL n).all isDig = true := by
  have one : ∀ n, n < 10 → isDig (UInt8.ofNat (48 + n)) = true := by
    intro n h
    unfold isDig
    rw [u8_val h]
    simp only [Bool.and_eq_true, decide_eq_true_eq]
    omega
  intro b
  induction b with
  | zero =>
    intro n h
    rw [decL_small (show n < 10 by omega)]
    simp only [List.all_cons, List.all_nil, Bool.and_true]
    exact one n (by omega)
  | succ b ih =>
    intro n h
    by_cases hs : n < 10
    · rw [decL_small hs]
      simp only [List.all_cons, List.all_nil, Bool.and_true]
      exact one n hs
    · rw [decL_big hs, List.all_append, ih (n / 10) (by omega)]
      simp only [List.all_cons, List.all_nil, Bool.and_true, Bool.true_and]
      exact one (n % 10) (by omega)
theorem dec_mem {n : Nat} {c : UInt8} (h : c ∈ decL n) : isDig c = true := List.all_eq_true.1 (dec_dig n n (Nat.le_refl _)) c h
theorem dec_pos (n : Nat) : 1 ≤ (decL n).length := by
  by_cases hs : n < 10
  · rw [decL_small hs]; simp
  · rw [decL_big hs]; simp
theorem dec_short : ∀ (k n : Nat), n < 10 ^ (k + 1) → (decL n).length ≤ k + 1 := by
  intro k
  induction k with
  | zero => intro n h; rw [decL_small (by simpa using h)]; simp
  | succ k ih =>
    intro n h
    by_cases hs : n < 10
    · rw [decL_small hs]; simp
    · rw [decL_big hs, List.length_append]
      have := ih (n / 10) (by rw [Nat.pow_succ] at h; omega)
      simp only [List.length_cons, List.length_nil]
      omega
/-- The first digit of a number above 0 is not 0. -/
theorem dec_head : ∀ (b n : Nat), n ≤ b → 1 ≤ n → (decL n).head? ≠ some 48 := by
  intro b
  induction b with
  | zero => intro n h h1; omega
  | succ b ih =>
    intro n h h1
    by_cases hs : n < 10
    · rw [decL_small hs]
      intro e
      simp only [List.head?_cons, Option.some.injEq] at e
      have := u8_val hs
      rw [e] at this
      have h48 : (48 : UInt8).toNat = 48 := rfl
      rw [h48] at this
      omega
    · rw [decL_big hs]
      have hp := dec_pos (n / 10)
      have := ih (n / 10) (by omega) (by omega)
      cases hd : decL (n / 10) with
      | nil => rw [hd] at hp; simp at hp
      | cons a l => rw [hd] at this; simpa using this
/-- The parts of a text between the places of a byte. -/
def splitL (b : UInt8) : List UInt8 → List UInt8 → List (List UInt8)
  | [], cur => [cur]
  | c :: l, cur => if c = b then cur :: splitL b l [] else splitL b l (cur ++ [c])
theorem splitL_no {b : UInt8} : ∀ (A L cur : List UInt8), b ∉ A → splitL b (A ++ L) cur = splitL b L (cur ++ A) := by
  intro A
  induction A with
  | nil => intro L cur _; simp
  | cons a A ih =>
    intro L cur h
    simp only [List.mem_cons, not_or] at h
    rw [List.cons_append, splitL, if_neg (fun e => h.1 e.symm), ih L _ h.2, List.append_assoc]
    rfl
theorem splitL_two {b : UInt8} (A B : List UInt8) (ha : b ∉ A) (hb : b ∉ B) : splitL b (A ++ (b :: B)) [] = [A, B] := by
  rw [splitL_no A _ [] ha, splitL, if_pos rfl, List.nil_append]
  have := splitL_no (b := b) B [] [] hb
  rw [List.append_nil] at this
  rw [this]
  rfl
theorem splitL_len {b : UInt8} : ∀ (L cur : List UInt8), (splitL b L cur).length ≤ L.length + 1 := by
  intro L
  induction L with
  | nil => intro cur; simp [splitL]
  | cons a L ih =>
    intro cur
    rw [splitL]
    split
    · have := ih []; simp only [List.length_cons]; omega
    · have := ih (cur ++ [a]); simp only [List.length_cons]; omega
theorem splitL_pos {b : UInt8} : ∀ (L cur : List UInt8), 1 ≤ (splitL b L cur).length := by
  intro L
  induction L with
  | nil => intro cur; simp [splitL]
  | cons a L ih =>
    intro cur
    rw [splitL]
    split
    · simp
    · exact ih _
theorem splitL_each {b : UInt8} : ∀ (L cur : List UInt8), ∀ p ∈ splitL b L cur, p.length ≤ L.length + cur.length := by
  intro L
  induction L with
  | nil => intro cur p hp; simp [splitL] at hp; subst hp; simp
  | cons a L ih =>
    intro cur p hp
    rw [splitL] at hp
    split at hp
    · rcases List.mem_cons.1 hp with rfl | hp
      · simp
      · have := ih [] p hp; simp only [List.length_cons, List.length_nil] at *; omega
    · have := ih (cur ++ [a]) p hp; simp only [List.length_append, List.length_cons, List.length_nil] at *; omega
theorem txt_eta (s : ByteArray) : txt s.data.toList = s := by unfold txt; simp
theorem txt_data (l : List UInt8) : (txt l).data.toList = l := by unfold txt; simp
theorem txt_inj {a b : List UInt8} (h : txt a = txt b) : a = b := by rw [← txt_data a, h, txt_data]
theorem extract_txt (s : ByteArray) (i j : Nat) : s.extract i j = txt ((s.data.toList.take j).drop i) := by
  rw [ByteArray.ext_iff]
  apply Array.toList_inj.1
  rw [txt_data, ByteArray.data_extract, Array.toList_extract]
  rw [List.extract_eq_take_drop, List.drop_take]
theorem byte_at {s : ByteArray} {k : Nat} (h : k < s.size) : s.data.toList[k]? = some s[k] := by
  rw [List.getElem?_eq_getElem (by simpa using h)]; rfl
/-- thread as a tuple -/
abbrev ThT := Int × Int × Bool × Bool
def thrOk (r : ThT) : Prop := isThr r.1 r.2.1 = true
def thrX (r : ThT) : ByteArray := txt (thrL r.1 r.2.1 r.2.2.1 r.2.2.2)
def endB (lf inn : Bool) : List UInt8 := [if lf = true then 108 else 114] ++ [if inn = true then 105 else 111]
theorem measN_nox (n : Nat) : (120 : UInt8) ∉ measN n := by
  unfold measN
  intro h
  rcases List.mem_append.1 h with h | h
  · have := dec_mem h; revert this; decide
  · rcases List.mem_append.1 h with h | h
    · revert h; decide
    · have := dec_mem h; revert this; decide
theorem decE_nox (n : Nat) (lf inn : Bool) : (120 : UInt8) ∉ decL n ++ endB lf inn := by
  intro h
  rcases List.mem_append.1 h with h | h
  · have := dec_mem h; revert this; decide
  · revert h; cases lf <;> cases inn <;> decide
theorem dec_nox (n : Nat) : (120 : UInt8) ∉ decL n := by
  intro h
  have := dec_mem h; revert this; decide
theorem thr_split (d p : Int) (lf inn : Bool) : splitL 120 (thrL d p lf inn) [] = [measN d.toNat, decL p.toNat ++ endB lf inn] := splitL_two _ _ (measN_nox _) (decE_nox _ _ _)
theorem thr_cut (d p : Int) (lf inn : Bool) : (thrL d p lf inn).length = (measN d.toNat).length + (decL p.toNat).length + 3 := by
  simp [thrL]; omega
theorem thr_split2 (d p : Int) (lf inn : Bool) : splitL 120 ((thrL d p lf inn).take ((thrL d p lf inn).length - 2)) [] = [measN d.toNat, decL p.toNat] := by
  have e : (thrL d p lf inn).take ((thrL d p lf inn).length - 2) = measN d.toNat ++ (120 :: decL p.toNat) := by
    have e2 : thrL d p lf inn = (measN d.toNat ++ (120 :: decL p.toNat)) ++ endB lf inn := by unfold thrL endB; simp
    have e3 : (endB lf inn).length = 2 := rfl
    rw [e2, List.take_append_of_le_length (by rw [List.length_append, e3]; omega), List.length_append, e3, Nat.add_sub_cancel, List.take_length]
  rw [e]
  exact splitL_two _ _ (measN_nox _) (dec_nox _)
theorem dec_inj {m n : Nat} (h : decL m = decL n) : m = n := by
  have h1 := valL_dec m m (Nat.le_refl _)
  have h2 := valL_dec n n (Nat.le_refl _)
  rw [h] at h1
  omega
/-- The digits of a measure, without its point. -/
theorem meas_dec {n : Nat} (h : 10 ≤ n) : decL (n / 10) ++ decL (n % 10) = decL n := by
  rw [decL_big (n := n) (by omega), decL_small (n := n % 10) (by omega)]
theorem meas_parts (n : Nat) : (measN n).length = (decL (n / 10)).length + 2 ∧ (measN n).take ((measN n).length - 2) = decL (n / 10) ∧ (measN n).drop ((measN n).length - 1) = decL (n % 10) ∧ (measN n)[(measN n).length - 2]? = some 46 := by
  have e1 : decL (n % 10) = [UInt8.ofNat (48 + n % 10)] := decL_small (by omega)
  have e : (measN n).length = (decL (n / 10)).length + 2 := by unfold measN; rw [e1]; simp
  refine ⟨e, ?_, ?_, ?_⟩
  · rw [e, Nat.add_sub_cancel]; unfold measN; simp
  · rw [e]; unfold measN
    rw [show (decL (n / 10)).length + 2 - 1 = (decL (n / 10)).length + 1 by omega, ← List.drop_drop, List.drop_left]
    rfl
  · rw [e, Nat.add_sub_cancel]; unfold measN; simp
theorem measN_inj {m n : Nat} (h : measN m = measN n) : m = n := by
  obtain ⟨_, a2, a3, _⟩ := meas_parts m
  obtain ⟨_, b2, b3, _⟩ := meas_parts n
  rw [h] at a2 a3
  have h1 := dec_inj (a2.symm.trans b2)
  have h2 := dec_inj (a3.symm.trans b3)
  omega
theorem endB_inj {a b c e : Bool} (h : endB a b = endB c e) : a = c ∧ b = e := by
  revert h; cases a <;> cases b <;> cases c <;> cases e <;> decide
theorem thrL_inj {r q : ThT} (hr : thrOk r) (hq : thrOk q) (h : thrX r = thrX q) : r = q := by
  obtain ⟨d, p, lf, inn⟩ := r
  obtain ⟨d', p', lf', inn'⟩ := q
  unfold thrOk at hr hq
  obtain ⟨r1, r2, r3, r4⟩ := isThr_bd hr
  obtain ⟨q1, q2, q3, q4⟩ := isThr_bd hq
  simp only at r1 r2 r3 r4 q1 q2 q3 q4
  have h1 : thrL d p lf inn = thrL d' p' lf' inn' := txt_inj h
  have a1 := thr_split2 d p lf inn
  rw [h1, thr_split2] at a1
  simp only [List.cons.injEq, and_true] at a1
  have b1 := thr_split d p lf inn
  rw [h1, thr_split] at b1
  simp only [List.cons.injEq, and_true] at b1
  have m := measN_inj a1.1
  have n := dec_inj a1.2
  have e := b1.2
  rw [a1.2] at e
  obtain ⟨e1, e2⟩ := endB_inj (List.append_cancel_left e)
  have f1 : d = d' := by omega
  have f2 : p = p' := by omega
  rw [f1, f2, e1, e2]
/-- What ReadThread answers. -/
def IsRd (s : ByteArray) (r : ThT × Int) : Prop := (thrOk r.1 ∧ s = thrX r.1 ∧ r.2 = 0) ∨ (r = ((0, 0, false, false), 6) ∧ ∀ q, thrOk q → s ≠ thrX q)
theorem IsRd.one {s : ByteArray} {r q : ThT × Int} (h : IsRd s r) (h2 : IsRd s q) : r = q := by
  rcases h with ⟨a, b, c⟩ | ⟨a, b⟩
  · rcases h2 with ⟨a2, b2, c2⟩ | ⟨a2, b2⟩
    · exact Prod.ext (thrL_inj a a2 (b.symm.trans b2)) (c.trans c2.symm)
    · exact absurd b (b2 _ a)
  · rcases h2 with ⟨a2, b2, c2⟩ | ⟨a2, b2⟩
    · exact absurd b2 (b _ a2)
    · rw [a, a2]
theorem isRd_ex (s : ByteArray) : ∃ r, IsRd s r := by
  by_cases h : ∃ q, thrOk q ∧ s = thrX q
  · obtain ⟨q, h1, h2⟩ := h
    exact ⟨(q, 0), Or.inl ⟨h1, h2, rfl⟩⟩
  · exact ⟨_, Or.inr ⟨rfl, fun q h1 h2 => h ⟨q, h1, h2⟩⟩⟩
end Go.Proofs.Ytoaacipgphoiaaa
