/-
  Logs: what both readers read, as plain functions of the bytes. No program. No condition but what stands at each.
-/
import Derived.Test.YtbianlkenallaaaDoorEntry1
import Derived.Test.YtbianlkenallaaaDoorSplitP
namespace Go.Proofs.YtbianlkenallaaaDoor
open Go.RowKit
def ewords (x : Entry) : ByteArray := ((((dec x.day) ++ ⟨#[32]⟩) ++ x.what) ++ ⟨#[32]⟩) ++ dec x.value
def stampG (s : Int) (l : List UInt8) : Int := l.foldl (fun s c => (37 * s + (c.toNat : Int)) % 65519) s
def stampP (before : Int) (x : Entry) : Int := stampG ((before + 29) % 65519) (ewords x).data.toList
theorem stampG_bd : ∀ (l : List UInt8) (s : Int), 0 ≤ s → s < 65519 → 0 ≤ stampG s l ∧ stampG s l < 65519
  | [], s, h0, h1 => ⟨h0, h1⟩
  | c :: t, s, h0, h1 => stampG_bd t ((37 * s + (c.toNat : Int)) % 65519) (by omega) (by omega)
theorem stampP_bd (before : Int) (x : Entry) : 0 ≤ stampP before x ∧ stampP before x < 65519 := stampG_bd _ _ (by omega) (by omega)
theorem stampG_snoc (l : List UInt8) (s : Int) (c : UInt8) : stampG s (l ++ [c]) = (37 * stampG s l + (c.toNat : Int)) % 65519 := by simp [stampG]
def lineP (x : Entry) (st : Int) : ByteArray := (ewords x ++ ⟨#[32]⟩) ++ dec st
theorem ewords_list (x : Entry) : (ewords x).data.toList = (dec x.day).data.toList ++ 32 :: (x.what.data.toList ++ 32 :: (dec x.value).data.toList) := by
  simp [ewords, ByteArray.data_append]
theorem lineP_list (x : Entry) (st : Int) : (lineP x st).data.toList = (dec x.day).data.toList ++ 32 :: (x.what.data.toList ++ 32 :: ((dec x.value).data.toList ++ 32 :: (dec st).data.toList)) := by
  have h := ewords_list x
  simp only [lineP, ByteArray.data_append, Array.toList_append] at h ⊢
  rw [h]
  simp
theorem name_bytes {s : ByteArray} (h : nameB s = true) : ∀ c ∈ s.data.toList, c ≠ 32 ∧ c ≠ 10 ∧ c ≠ 45 ∨ c = 45 := by
  intro c hc
  obtain ⟨i, hi, rfl⟩ := List.getElem_of_mem hc
  simp only [nameB, Bool.and_eq_true, List.all_eq_true, List.mem_range] at h
  have h1 := h.2 i hi
  have e : byteAt s i = s.data.toList[i] := by unfold byteAt; rw [List.getD_eq_getElem?_getD, List.getElem?_eq_getElem hi]; rfl
  rw [e] at h1
  generalize s.data.toList[i] = c at h1 ⊢
  simp only [nameC, small, digit, Bool.or_eq_true, Bool.and_eq_true, decide_eq_true_eq] at h1
  by_cases h45 : c = 45
  · exact .inr h45
  · left
    refine ⟨?_, ?_, h45⟩
    · rintro rfl
      rcases h1 with h | ⟨_, h | h⟩ <;> revert h <;> decide
    · rintro rfl
      rcases h1 with h | ⟨_, h | h⟩ <;> revert h <;> decide
theorem name_no {s : ByteArray} (h : nameB s = true) : (∀ c ∈ s.data.toList, c ≠ 32) ∧ (∀ c ∈ s.data.toList, c ≠ 10) ∧ s.data.toList ≠ [] := by
  refine ⟨fun c hc => ?_, fun c hc => ?_, fun he => ?_⟩
  · rcases name_bytes h c hc with h | h
    · exact h.1
    · rw [h]; decide
  · rcases name_bytes h c hc with h | h
    · exact h.2.1
    · rw [h]; decide
  · have := (nameB_bd h).1
    rw [← bsz, he] at this
    simp at this
theorem dec_no {n : Int} (h0 : -1000000000000000000 < n) (h1 : n < 1000000000000000000) : (∀ c ∈ (dec n).data.toList, c ≠ 32) ∧ (∀ c ∈ (dec n).data.toList, c ≠ 10) ∧ (dec n).data.toList ≠ [] := by
  have hb := dec_bytes h0 h1
  have hd : ∀ c : UInt8, digit c = true ∨ (c.toNat : Int) = 45 → c ≠ 32 ∧ c ≠ 10 := by
    intro c hc
    refine ⟨?_, ?_⟩ <;> rintro rfl <;> rcases hc with h | h <;> revert h <;> decide
  refine ⟨fun c hc => (hd c (hb.1 c hc)).1, fun c hc => (hd c (hb.1 c hc)).2, fun he => ?_⟩
  have := hb.2.1
  rw [← bsz, he] at this
  simp at this
theorem ewords_len {x : Entry} (h : vEntry x = true) : (ewords x).size ≤ 52 := by
  obtain ⟨a, b, c, d, e⟩ := vEntry_inv h
  have h1 := (dec_bytes (n := x.day) (by omega) (by omega)).2.2
  have h2 := (dec_bytes (n := x.value) (by omega) (by omega)).2.2
  have h3 := (nameB_bd c).2
  have e1 : (⟨#[32]⟩ : ByteArray).size = 1 := rfl
  simp only [ewords, ByteArray.size_append]
  omega
theorem lineP_len {x : Entry} (h : vEntry x = true) {st : Int} (h0 : 0 ≤ st) (h1 : st < 65519) : (lineP x st).size ≤ 72 := by
  have h2 := (dec_bytes (n := st) (by omega) (by omega)).2.2
  have h3 := ewords_len h
  have e1 : (⟨#[32]⟩ : ByteArray).size = 1 := rfl
  simp only [lineP, ByteArray.size_append]
  omega
def wAt (w : List ByteArray) (i : Nat) : ByteArray := w.getD i ByteArray.empty
def eOf (w : List ByteArray) : Entry := ⟨(rdR (wAt w 0)).1, wAt w 1, (rdR (wAt w 2)).1⟩
def takeB (d0 st0 : Int) (line : ByteArray) (w : List ByteArray) : Bool :=
  decide (w.length = 4) && ((rdR (wAt w 0)).2 && ((rdR (wAt w 2)).2 && (vEntry (eOf w) && (decide (d0 ≤ (eOf w).day) && decide (lineP (eOf w) (stampP st0 (eOf w)) = line)))))
/-- the next entry of a log, with its stamp -/
def takeOf (d0 st0 : Int) (line : ByteArray) (w : List ByteArray) : Option (Entry × Int) := if takeB d0 st0 line w then some (eOf w, stampP st0 (eOf w)) else none
theorem four_words {x : Entry} (h : vEntry x = true) {st : Int} (h0 : 0 ≤ st) (h1 : st < 65519) :
    splitA 32 [] (lineP x st).data.toList = [dec x.day, x.what, dec x.value, dec st] ∧ wordsA [] (lineP x st).data.toList = [dec x.day, x.what, dec x.value, dec st] := by
  obtain ⟨a, b, c, d, e⟩ := vEntry_inv h
  have n1 := dec_no (n := x.day) (by omega) (by omega)
  have n2 := name_no c
  have n3 := dec_no (n := x.value) (by omega) (by omega)
  have n4 := dec_no (n := st) (by omega) (by omega)
  rw [lineP_list]
  constructor
  · rw [splitA_part _ _ n1.1, splitA_part _ _ n2.1, splitA_part _ _ n3.1, splitA_last _ n4.1, bs_of, bs_of, bs_of, bs_of]
  · rw [wordsA_part _ _ n1.1 n1.2.2, wordsA_part _ _ n2.1 n2.2.2, wordsA_part _ _ n3.1 n3.2.2, wordsA_last _ n4.1 n4.2.2, bs_of, bs_of, bs_of, bs_of]
theorem takeB_inv {d0 st0 : Int} {line : ByteArray} {w : List ByteArray} (h : takeB d0 st0 line w = true) :
    w.length = 4 ∧ (rdR (wAt w 0)).2 = true ∧ (rdR (wAt w 2)).2 = true ∧ vEntry (eOf w) = true ∧ d0 ≤ (eOf w).day ∧ lineP (eOf w) (stampP st0 (eOf w)) = line := by
  simpa only [takeB, Bool.and_eq_true, decide_eq_true_eq] using h
theorem takeB_both (d0 st0 : Int) (line : ByteArray) : takeB d0 st0 line (splitA 32 [] line.data.toList) = true ∨ takeB d0 st0 line (wordsA [] line.data.toList) = true → splitA 32 [] line.data.toList = wordsA [] line.data.toList := by
  rintro (h | h)
  all_goals
    obtain ⟨_, _, _, hv, _, hl⟩ := takeB_inv h
    have hb := stampP_bd st0
    obtain ⟨f1, f2⟩ := four_words hv (hb _).1 (hb _).2
    rw [hl] at f1 f2
    exact f1.trans f2.symm
theorem takeOf_same (d0 st0 : Int) (line : ByteArray) : takeOf d0 st0 line (splitA 32 [] line.data.toList) = takeOf d0 st0 line (wordsA [] line.data.toList) := by
  cases h1 : takeB d0 st0 line (splitA 32 [] line.data.toList)
  · cases h2 : takeB d0 st0 line (wordsA [] line.data.toList)
    · rw [takeOf, takeOf, h1, h2]; rfl
    · rw [takeB_both d0 st0 line (.inr h2)]
  · rw [takeB_both d0 st0 line (.inl h1)]
theorem takeOf_none {d0 st0 : Int} {line : ByteArray} {w : List ByteArray} (h : takeB d0 st0 line w = false) : takeOf d0 st0 line w = none := by rw [takeOf, h]; rfl
theorem takeOf_some {d0 st0 : Int} {line : ByteArray} {w : List ByteArray} (h : takeB d0 st0 line w = true) : takeOf d0 st0 line w = some (eOf w, stampP st0 (eOf w)) := by rw [takeOf, h]; rfl
/-- what makes it fail, in the order in which it is asked -/
theorem takeB_1 {d0 st0 : Int} {line : ByteArray} {w : List ByteArray} (h : ¬ w.length = 4) : takeB d0 st0 line w = false := by rw [takeB, decide_eq_false h]; rfl
theorem takeB_2 {d0 st0 : Int} {line : ByteArray} {w : List ByteArray} (h : (rdR (wAt w 0)).2 = false) : takeB d0 st0 line w = false := by simp [takeB, h]
theorem takeB_3 {d0 st0 : Int} {line : ByteArray} {w : List ByteArray} (h : (rdR (wAt w 2)).2 = false) : takeB d0 st0 line w = false := by simp [takeB, h]
theorem takeB_4 {d0 st0 : Int} {line : ByteArray} {w : List ByteArray} (h : vEntry (eOf w) = false) : takeB d0 st0 line w = false := by simp [takeB, h]
theorem takeB_5 {d0 st0 : Int} {line : ByteArray} {w : List ByteArray} (h : ¬ d0 ≤ (eOf w).day) : takeB d0 st0 line w = false := by simp [takeB, h]
theorem takeB_6 {d0 st0 : Int} {line : ByteArray} {w : List ByteArray} (h : ¬ lineP (eOf w) (stampP st0 (eOf w)) = line) : takeB d0 st0 line w = false := by simp [takeB, h]
theorem takeB_0 {d0 st0 : Int} {line : ByteArray} {w : List ByteArray} (h1 : w.length = 4) (h2 : (rdR (wAt w 0)).2 = true) (h3 : (rdR (wAt w 2)).2 = true) (h4 : vEntry (eOf w) = true) (h5 : d0 ≤ (eOf w).day) (h6 : lineP (eOf w) (stampP st0 (eOf w)) = line) : takeB d0 st0 line w = true := by
  simp [takeB, h1, h2, h3, h4, h5, h6]
def eat (l : List Entry) (i : Nat) : Entry := l.getD i ⟨0, ByteArray.empty, 0⟩
/-- the day of the last entry -/
def dayL (l : List Entry) : Int := if l.length = 0 then 0 else (eat l (l.length - 1)).day
/-- reading goes on from: the entries read, the last stamp, the bytes read -/
def logF : Nat → List Entry → Int → Nat → List UInt8 → List Entry × Int × Nat
  | 0, l, st, sz, _ => (l, st, sz)
  | k + 1, l, st, sz, rest =>
    if (cutA 10 [] rest).2.2 then
      match takeOf (dayL l) st (cutA 10 [] rest).1 (wordsA [] (cutA 10 [] rest).1.data.toList) with
      | some r => logF k (l ++ [r.1]) r.2 (sz + (cutA 10 [] rest).1.size + 1) (cutA 10 [] rest).2.1.data.toList
      | none => (l, st, sz)
    else (l, st, sz)
theorem logF_end {k : Nat} {l : List Entry} {st : Int} {sz : Nat} {rest : List UInt8} (h : (cutA 10 [] rest).2.2 = false) : logF k l st sz rest = (l, st, sz) := by
  cases k with
  | zero => rfl
  | succ k => rw [logF, if_neg (by rw [h]; simp)]
theorem logF_bad {k : Nat} {l : List Entry} {st : Int} {sz : Nat} {rest : List UInt8} (h : takeOf (dayL l) st (cutA 10 [] rest).1 (wordsA [] (cutA 10 [] rest).1.data.toList) = none) : logF k l st sz rest = (l, st, sz) := by
  cases k with
  | zero => rfl
  | succ k =>
    rw [logF, h]
    split <;> rfl
theorem logF_go {k : Nat} {l : List Entry} {st : Int} {sz : Nat} {rest : List UInt8} {x : Entry} {st' : Int} (h1 : (cutA 10 [] rest).2.2 = true)
    (h : takeOf (dayL l) st (cutA 10 [] rest).1 (wordsA [] (cutA 10 [] rest).1.data.toList) = some (x, st')) :
    logF (k + 1) l st sz rest = logF k (l ++ [x]) st' (sz + (cutA 10 [] rest).1.size + 1) (cutA 10 [] rest).2.1.data.toList := by
  rw [logF, if_pos h1, h]
/-- a log, read -/
def logR (s : ByteArray) : List Entry × Int × Nat := logF (s.size + 1) [] 0 0 s.data.toList
theorem cut_drop {L : List UInt8} {sz : Nat} (hsz : sz ≤ L.length) (h : (cutA 10 [] (L.drop sz)).2.2 = true) :
    sz + (cutA 10 [] (L.drop sz)).1.size + 1 ≤ L.length ∧ (cutA 10 [] (L.drop sz)).2.1.data.toList = L.drop (sz + (cutA 10 [] (L.drop sz)).1.size + 1) := by
  have hj := cutA_join 10 (L.drop sz) [] h
  rw [List.nil_append] at hj
  have hl := congrArg List.length hj
  rw [List.length_append, List.length_cons, List.length_drop, bsz, bsz] at hl
  refine ⟨by omega, ?_⟩
  generalize (cutA 10 [] (L.drop sz)).1 = p at *
  generalize (cutA 10 [] (L.drop sz)).2.1.data.toList = q at *
  rw [show sz + p.size + 1 = sz + (p.data.toList ++ [10]).length by rw [List.length_append, bsz]; rfl, ← List.drop_drop, ← hj,
    show p.data.toList ++ 10 :: q = (p.data.toList ++ [10]) ++ q by simp, List.drop_left]
/-- how far it has read, and what its entries are -/
theorem logF_inv (L : List UInt8) : ∀ (k : Nat) (l : List Entry) (st : Int) (sz : Nat), sz ≤ L.length → l.length ≤ sz → 0 ≤ st → st < 65519 → (∀ x ∈ l, vEntry x = true) →
    (logF k l st sz (L.drop sz)).2.2 ≤ L.length ∧ (logF k l st sz (L.drop sz)).1.length ≤ (logF k l st sz (L.drop sz)).2.2 ∧ (0 ≤ (logF k l st sz (L.drop sz)).2.1 ∧ (logF k l st sz (L.drop sz)).2.1 < 65519) ∧ ∀ x ∈ (logF k l st sz (L.drop sz)).1, vEntry x = true
  | 0, l, st, sz, h1, h2, h3, h4, h5 => ⟨h1, h2, ⟨h3, h4⟩, h5⟩
  | k + 1, l, st, sz, h1, h2, h3, h4, h5 => by
    cases hc : (cutA 10 [] (L.drop sz)).2.2
    · rw [logF_end hc]; exact ⟨h1, h2, ⟨h3, h4⟩, h5⟩
    · cases ht : takeB (dayL l) st (cutA 10 [] (L.drop sz)).1 (wordsA [] (cutA 10 [] (L.drop sz)).1.data.toList)
      · rw [logF_bad (takeOf_none ht)]; exact ⟨h1, h2, ⟨h3, h4⟩, h5⟩
      · rw [logF_go hc (takeOf_some ht)]
        obtain ⟨c1, c2⟩ := cut_drop h1 hc
        obtain ⟨_, _, _, hv, _, _⟩ := takeB_inv ht
        have hb := stampP_bd st (eOf (wordsA [] (cutA 10 [] (L.drop sz)).1.data.toList))
        rw [c2]
        refine logF_inv L k _ _ _ c1 (by rw [List.length_append, List.length_singleton]; omega) hb.1 hb.2 fun x hx => ?_
        rw [List.mem_append, List.mem_singleton] at hx
        rcases hx with hx | rfl
        · exact h5 x hx
        · exact hv
theorem logR_inv (s : ByteArray) : (logR s).2.2 ≤ s.size ∧ (logR s).1.length ≤ (logR s).2.2 ∧ (0 ≤ (logR s).2.1 ∧ (logR s).2.1 < 65519) ∧ ∀ x ∈ (logR s).1, vEntry x = true := by
  have := logF_inv s.data.toList (s.size + 1) [] 0 0 (by omega) (by simp) (by omega) (by omega) (by simp)
  simpa [logR, bsz] using this
end Go.Proofs.YtbianlkenallaaaDoor
