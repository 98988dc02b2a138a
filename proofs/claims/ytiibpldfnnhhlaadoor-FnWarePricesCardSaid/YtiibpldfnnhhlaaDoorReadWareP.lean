/-
  A ware read from its text: plain facts. No program. No condition but what stands at each.
-/
import Derived.Test.YtiibpldfnnhhlaaDoorWareText
import Derived.Test.YtiibpldfnnhhlaaDoorSplitP
namespace Go.Proofs.YtiibpldfnnhhlaaDoor
open Go.RowKit
/-- a break's word, as bytes -/
def wordL (b : Brk) : List UInt8 := (dec b.fr).data.toList ++ 58 :: (dec b.pr).data.toList
/-- what stands behind the name -/
def txtL : List Brk → List UInt8
  | [] => []
  | b :: t => 32 :: (wordL b ++ txtL t)
theorem txtL_snoc (b : Brk) : ∀ l : List Brk, txtL (l ++ [b]) = txtL l ++ (32 :: wordL b)
  | [] => by simp [txtL]
  | a :: l => by simp [txtL, txtL_snoc b l]
theorem wTextN_list (x : Ware) (k : Nat) (hk : k ≤ x.brs.length) : (wTextN x k).data.toList = x.name.data.toList ++ txtL (x.brs.take k) := by
  induction k with
  | zero => simp [wTextN, txtL]
  | succ k ih =>
    have e : x.brs.take (k + 1) = x.brs.take k ++ [brk x k] := by rw [List.take_succ_eq_append_getElem (by omega), brk_eq (by omega)]
    rw [e, txtL_snoc, ← List.append_assoc, ← ih (by omega)]
    simp [wTextN, wordL, ByteArray.data_append]
def bdB (b : Brk) : Prop := (-1000000000000000000 < b.fr ∧ b.fr < 1000000000000000000) ∧ (-1000000000000000000 < b.pr ∧ b.pr < 1000000000000000000)
theorem dec_free {n : Int} (h0 : -1000000000000000000 < n) (h1 : n < 1000000000000000000) : ∀ c ∈ (dec n).data.toList, c ≠ 32 ∧ c ≠ 58 := fun c hc => by
  rcases (dec_bytes h0 h1).1 c hc with h | h
  · exact ⟨by rintro rfl; revert h; decide, by rintro rfl; revert h; decide⟩
  · exact ⟨by rintro rfl; revert h; decide, by rintro rfl; revert h; decide⟩
theorem word_free {b : Brk} (h : bdB b) : ∀ c ∈ wordL b, c ≠ 32 := fun c hc => by
  rw [wordL, List.mem_append, List.mem_cons] at hc
  rcases hc with hc | rfl | hc
  · exact (dec_free h.1.1 h.1.2 c hc).1
  · decide
  · exact (dec_free h.2.1 h.2.2 c hc).1
theorem word_ne (b : Brk) : wordL b ≠ [] := by simp [wordL]
/-- one word: the program's way -/
def okWI (p : ByteArray) : Bool := (cutA 58 [] p.data.toList).2.2 && ((rdR (cutA 58 [] p.data.toList).1).2 && (rdR (cutA 58 [] p.data.toList).2.1).2)
def bWI (p : ByteArray) : Brk := ⟨(rdR (cutA 58 [] p.data.toList).1).1, (rdR (cutA 58 [] p.data.toList).2.1).1⟩
/-- one word: the reference's way -/
def vS (p : ByteArray) : List ByteArray := splitA 58 [] p.data.toList
def vAt (p : ByteArray) (i : Nat) : ByteArray := (vS p).getD i ByteArray.empty
def okWS (p : ByteArray) : Bool := decide ((vS p).length = 2) && ((rdR (vAt p 0)).2 && (rdR (vAt p 1)).2)
def bWS (p : ByteArray) : Brk := ⟨(rdR (vAt p 0)).1, (rdR (vAt p 1)).1⟩
theorem bWI_bd (p : ByteArray) : bdB (bWI p) := ⟨rdR_bd _, rdR_bd _⟩
theorem bWS_bd (p : ByteArray) : bdB (bWS p) := ⟨rdR_bd _, rdR_bd _⟩
theorem okWI_text {p : ByteArray} (h : okWI p = true) : p.data.toList = wordL (bWI p) := by
  simp only [okWI, Bool.and_eq_true] at h
  obtain ⟨h1, h2, h3⟩ := h
  have j := cutA_join 58 p.data.toList [] h1
  rw [List.nil_append] at j
  rw [← j, wordL]
  have e1 : (cutA 58 [] p.data.toList).1 = dec (bWI p).fr := rdR_true h2
  have e2 : (cutA 58 [] p.data.toList).2.1 = dec (bWI p).pr := rdR_true h3
  rw [← e1, ← e2]
theorem okWS_text {p : ByteArray} (h : okWS p = true) : p.data.toList = wordL (bWS p) := by
  simp only [okWS, Bool.and_eq_true, decide_eq_true_eq] at h
  obtain ⟨h1, h2, h3⟩ := h
  have hv : vS p = [vAt p 0, vAt p 1] := by
    unfold vAt
    match hh : vS p, h1 with
    | [a, b], _ => rfl
  have j := join_split 58 p.data.toList []
  rw [show splitA 58 [] p.data.toList = [vAt p 0, vAt p 1] from hv, List.nil_append, joinL, joinL] at j
  have e1 : vAt p 0 = dec (bWS p).fr := rdR_true h2
  have e2 : vAt p 1 = dec (bWS p).pr := rdR_true h3
  rw [← j, wordL, ← e1, ← e2]
theorem text_okW {p : ByteArray} {b : Brk} (hb : bdB b) (h : p.data.toList = wordL b) : (okWI p = true ∧ bWI p = b) ∧ okWS p = true ∧ bWS p = b := by
  have hc : cutA 58 [] p.data.toList = (dec b.fr, dec b.pr, true) := by
    rw [h, wordL, cutA_part _ _ (fun c hc => (dec_free hb.1.1 hb.1.2 c hc).2), bs_of, bs_of]
  have hv : vS p = [dec b.fr, dec b.pr] := by
    rw [vS, h, wordL, splitA_part _ _ (fun c hc => (dec_free hb.1.1 hb.1.2 c hc).2), splitA_last _ (fun c hc => (dec_free hb.2.1 hb.2.2 c hc).2), bs_of, bs_of]
  have v0 : vAt p 0 = dec b.fr := by rw [vAt, hv]; rfl
  have v1 : vAt p 1 = dec b.pr := by rw [vAt, hv]; rfl
  have r1 := rdR_dec hb.1.1 hb.1.2
  have r2 := rdR_dec hb.2.1 hb.2.2
  refine ⟨⟨?_, ?_⟩, ?_, ?_⟩
  · rw [okWI, hc]; simp only [r1, r2]; rfl
  · rw [bWI, hc]; simp only [r1, r2]
  · rw [okWS, v0, v1, r1, r2, hv]; rfl
  · rw [bWS, v0, v1, r1, r2]
theorem okW_same (p : ByteArray) : okWS p = okWI p ∧ (okWI p = true → bWS p = bWI p) := by
  cases hi : okWI p
  · refine ⟨?_, fun h => by cases h⟩
    cases hs : okWS p
    · rfl
    · have := (text_okW (bWS_bd p) (okWS_text hs)).1.1
      rw [hi] at this; cases this
  · have := (text_okW (bWI_bd p) (okWI_text hi)).2
    exact ⟨this.1, fun _ => this.2⟩
/-- the words behind the name -/
def allW (ws : List ByteArray) : Bool := ws.all okWI
def brsW (ws : List ByteArray) : List Brk := ws.map bWI
theorem join_txt : ∀ (ws : List ByteArray) (p : ByteArray), allW ws = true → joinL 32 (p :: ws) = p.data.toList ++ txtL (brsW ws)
  | [], p, _ => by simp [joinL, brsW, txtL]
  | q :: r, p, h => by
    simp only [allW, List.all_cons, Bool.and_eq_true] at h
    rw [joinL, join_txt r q h.2, okWI_text h.1]
    simp [brsW, txtL]
theorem split_txt : ∀ (l : List Brk) (a : List UInt8), (∀ c ∈ a, c ≠ 32) → (∀ b ∈ l, bdB b) → splitA 32 [] (a ++ txtL l) = bs a :: l.map fun b => bs (wordL b)
  | [], a, h, _ => by rw [txtL, List.append_nil, splitA_last a h]; rfl
  | b :: t, a, h, hb => by
    rw [txtL, splitA_part a _ h, split_txt t (wordL b) (word_free (hb b (by simp))) (fun x hx => hb x (by simp [hx]))]
    rfl
theorem words_txt : ∀ (l : List Brk) (a : List UInt8), (∀ c ∈ a, c ≠ 32) → a ≠ [] → (∀ b ∈ l, bdB b) → wordsA [] (a ++ txtL l) = bs a :: l.map fun b => bs (wordL b)
  | [], a, h, hn, _ => by rw [txtL, List.append_nil, wordsA_last a h hn]; rfl
  | b :: t, a, h, hn, hb => by
    rw [txtL, wordsA_part a _ h hn, words_txt t (wordL b) (word_free (hb b (by simp))) (word_ne b) (fun x hx => hb x (by simp [hx]))]
    rfl
theorem all_words {l : List Brk} (hb : ∀ b ∈ l, bdB b) : allW (l.map fun b => bs (wordL b)) = true ∧ brsW (l.map fun b => bs (wordL b)) = l := by
  induction l with
  | nil => exact ⟨rfl, rfl⟩
  | cons b t ih =>
    obtain ⟨i1, i2⟩ := ih (fun x hx => hb x (by simp [hx]))
    obtain ⟨⟨h1, h2⟩, _⟩ := text_okW (p := bs (wordL b)) (hb b (by simp)) (bs_list _)
    refine ⟨?_, ?_⟩
    · rw [allW, List.map_cons, List.all_cons, h1, Bool.true_and]; exact i1
    · rw [brsW, List.map_cons, List.map_cons, h2]; exact congrArg _ i2
/-- the program's way -/
def wI (s : ByteArray) : List ByteArray := wordsA [] s.data.toList
def xWI (s : ByteArray) : Ware := ⟨(wI s).headD ByteArray.empty, brsW (wI s).tail⟩
def okRI (s : ByteArray) : Bool := !(wI s).isEmpty && (allW (wI s).tail && decide (wText (xWI s) = s))
/-- the reference's way -/
def wS (s : ByteArray) : List ByteArray := splitA 32 [] s.data.toList
def xWS (s : ByteArray) : Ware := ⟨(wS s).headD ByteArray.empty, brsW (wS s).tail⟩
def okRS (s : ByteArray) : Bool := allW (wS s).tail && vWare (xWS s)
theorem name_free {x : ByteArray} (h : nameB x = true) : (∀ c ∈ x.data.toList, c ≠ 32) ∧ x.data.toList ≠ [] := by
  have hb := nameB_bd h
  simp only [nameB, Bool.and_eq_true, List.all_eq_true, List.mem_range] at h
  refine ⟨fun c hc => ?_, fun e => by have := bsz x; rw [e] at this; simp at this; omega⟩
  obtain ⟨i, hi, e⟩ := List.getElem_of_mem hc
  have := h.2 i hi
  have hbt : byteAt x i = c := by rw [byteAt, List.getD_eq_getElem?_getD, List.getElem?_eq_getElem hi, e]; rfl
  rw [hbt] at this
  rintro rfl
  have h1 : small 32 = false := by decide
  have h2 : digit 32 = false := by decide
  simp [nameC, h1, h2] at this
theorem ware_bd {x : Ware} (h : vWare x = true) : ∀ b ∈ x.brs, bdB b := fun b hb => by
  obtain ⟨i, hi, e⟩ := List.getElem_of_mem hb
  have := brkAt_bd ((vWare_inv h).2.2.2 i hi)
  rw [← brk_eq hi, e] at this
  unfold bdB
  omega
theorem text_list {x : Ware} (h : vWare x = true) : (wText x).data.toList = x.name.data.toList ++ txtL x.brs := by
  rw [wText_ok h, wTextN_list x _ (Nat.le_refl _), List.take_length]
theorem text_okR {x : Ware} (h : vWare x = true) : (okRI (wText x) = true ∧ xWI (wText x) = x) ∧ okRS (wText x) = true ∧ xWS (wText x) = x := by
  obtain ⟨n1, n2⟩ := name_free (vWare_inv h).1
  have hb := ware_bd h
  obtain ⟨a1, a2⟩ := all_words hb
  have hI : wI (wText x) = x.name :: x.brs.map fun b => bs (wordL b) := by rw [wI, text_list h, words_txt _ _ n1 n2 hb, bs_of]
  have hS : wS (wText x) = x.name :: x.brs.map fun b => bs (wordL b) := by rw [wS, text_list h, split_txt _ _ n1 hb, bs_of]
  have eI : xWI (wText x) = x := by rw [xWI, hI]; show (⟨x.name, brsW (x.brs.map fun b => bs (wordL b))⟩ : Ware) = x; rw [a2]
  have eS : xWS (wText x) = x := by rw [xWS, hS]; show (⟨x.name, brsW (x.brs.map fun b => bs (wordL b))⟩ : Ware) = x; rw [a2]
  refine ⟨⟨?_, eI⟩, ?_, eS⟩
  · rw [okRI, eI, hI]
    show (!false && (allW (x.brs.map fun b => bs (wordL b)) && decide (wText x = wText x))) = true
    rw [a1]; simp
  · rw [okRS, eS, hS]
    show (allW (x.brs.map fun b => bs (wordL b)) && vWare x) = true
    rw [a1, h]; rfl
theorem okRI_text {s : ByteArray} (h : okRI s = true) : vWare (xWI s) = true ∧ s = wText (xWI s) := by
  simp only [okRI, Bool.and_eq_true, decide_eq_true_eq] at h
  obtain ⟨h1, h2, h3⟩ := h
  refine ⟨?_, h3.symm⟩
  cases hv : vWare (xWI s)
  · rw [wText_no hv] at h3
    rw [← h3] at h1
    exact absurd h1 (by decide)
  · rfl
theorem okRS_text {s : ByteArray} (h : okRS s = true) : vWare (xWS s) = true ∧ s = wText (xWS s) := by
  simp only [okRS, Bool.and_eq_true] at h
  obtain ⟨h1, h2⟩ := h
  refine ⟨h2, ba_ext ?_⟩
  rw [text_list h2]
  have j := join_split 32 s.data.toList []
  rw [List.nil_append] at j
  unfold xWS
  unfold wS at h1 ⊢
  cases hh : splitA 32 [] s.data.toList with
  | nil => exact absurd hh (splitA_ne 32 _ _)
  | cons p r =>
    rw [hh] at j h1
    rw [← j]
    exact join_txt r p h1
theorem okR_same (s : ByteArray) : okRS s = okRI s ∧ (okRI s = true → xWS s = xWI s) := by
  cases hi : okRI s
  · refine ⟨?_, fun h => by cases h⟩
    cases hs : okRS s
    · rfl
    · obtain ⟨hv, he⟩ := okRS_text hs
      have := (text_okR hv).1.1
      rw [← he, hi] at this; cases this
  · obtain ⟨hv, he⟩ := okRI_text hi
    have := (text_okR hv).2
    rw [← he] at this
    exact ⟨this.1, fun _ => this.2⟩
def rwR (s : ByteArray) : Ware × Bool := if okRI s then (xWI s, true) else (⟨⟨#[]⟩, []⟩, false)
theorem rwR_no {s : ByteArray} (h : okRI s = false) : rwR s = (⟨⟨#[]⟩, []⟩, false) := by rw [rwR, h]; rfl
theorem rwR_ok {s : ByteArray} (h : okRI s = true) : rwR s = (xWI s, true) := by rw [rwR, h]; rfl
theorem rwS_no {s : ByteArray} (h : okRS s = false) : rwR s = (⟨⟨#[]⟩, []⟩, false) := rwR_no (by rw [← (okR_same s).1]; exact h)
theorem rwS_ok {s : ByteArray} (h : okRS s = true) : rwR s = (xWS s, true) := by
  have h' : okRI s = true := by rw [← (okR_same s).1]; exact h
  rw [rwR_ok h', (okR_same s).2 h']
end Go.Proofs.YtiibpldfnnhhlaaDoor
