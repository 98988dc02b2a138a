/-
  A hire read from its text: plain facts. No program. No condition but what stands at each.
-/
import Derived.Test.YtiagckbdofeecaaDoorHireText
import Derived.Test.YtiagckbdofeecaaDoorSplitP
namespace Go.Proofs.YtiagckbdofeecaaDoor
open Go.RowKit
theorem hText_list (x : Hire) : (hTextV x).data.toList = 35 :: ((dec x.m).data.toList ++ 32 :: ((dec x.f).data.toList ++ 45 :: (dec x.t).data.toList)) := by
  simp [hTextV, ByteArray.data_append]
theorem dec_nn {n : Int} (h : 0 ≤ n) : ∀ c ∈ (dec n).data.toList, digit c = true := by
  obtain ⟨N, rfl⟩ : ∃ N : Nat, n = (N : Int) := ⟨n.toNat, by omega⟩
  rw [dec_list, Lib.itoa_nonneg]
  exact (dec_digits N).1
theorem dig_no {c : UInt8} (h : digit c = true) : c ≠ 32 ∧ c ≠ 45 ∧ c ≠ 58 := by
  refine ⟨?_, ?_, ?_⟩ <;> rintro rfl <;> revert h <;> decide
/-- the program's way: cut twice -/
def cM (s : ByteArray) : ByteArray × ByteArray × Bool := cutA 32 [] (s.data.toList.drop 1)
def cF (s : ByteArray) : ByteArray × ByteArray × Bool := cutA 45 [] (cM s).2.1.data.toList
def xI (s : ByteArray) : Hire := ⟨(rdR (cM s).1).1, (rdR (cF s).1).1, (rdR (cF s).2.1).1⟩
def sharp (s : ByteArray) : Bool := decide (0 < s.size ∧ ((byteAt s 0).toNat : Int) = 35)
def okI (s : ByteArray) : Bool := sharp s && ((cM s).2.2 && ((cF s).2.2 && ((rdR (cM s).1).2 && ((rdR (cF s).1).2 && ((rdR (cF s).2.1).2 && vHire (xI s))))))
def rhR (s : ByteArray) : Hire × Bool := if okI s then (xI s, true) else (⟨0, 0, 0⟩, false)
theorem rhR_no {s : ByteArray} (h : okI s = false) : rhR s = (⟨0, 0, 0⟩, false) := by rw [rhR, h]; rfl
theorem rhR_ok {s : ByteArray} (h : okI s = true) : rhR s = (xI s, true) := by rw [rhR, h]; rfl
theorem sharp_inv {s : ByteArray} (h : sharp s = true) : s.data.toList = 35 :: s.data.toList.drop 1 := by
  obtain ⟨h1, h2⟩ := of_decide_eq_true h
  have hl : s.data.toList.length = s.size := bsz s
  cases hs : s.data.toList with
  | nil => rw [hs] at hl; simp at hl; omega
  | cons c t =>
    unfold byteAt at h2
    rw [hs] at h2
    have h3 : (c.toNat : Int) = 35 := h2
    have : c = 35 := UInt8.toNat_inj.1 (by simp; omega)
    rw [this]; rfl
theorem okI_inv {s : ByteArray} (h : okI s = true) : sharp s = true ∧ (cM s).2.2 = true ∧ (cF s).2.2 = true ∧ (rdR (cM s).1).2 = true ∧ (rdR (cF s).1).2 = true ∧ (rdR (cF s).2.1).2 = true ∧ vHire (xI s) = true := by
  simpa only [okI, Bool.and_eq_true] using h
theorem okI_mk {s : ByteArray} (h1 : sharp s = true) (h2 : (cM s).2.2 = true) (h3 : (cF s).2.2 = true) (h4 : (rdR (cM s).1).2 = true) (h5 : (rdR (cF s).1).2 = true) (h6 : (rdR (cF s).2.1).2 = true) (h7 : vHire (xI s) = true) : okI s = true := by
  simp [okI, h1, h2, h3, h4, h5, h6, h7]
theorem okI_text {s : ByteArray} (h : okI s = true) : s = hTextV (xI s) := by
  obtain ⟨h1, h2, h3, h4, h5, h6, h7⟩ := okI_inv h
  have j1 := cutA_join 32 (s.data.toList.drop 1) [] h2
  have j2 := cutA_join 45 (cM s).2.1.data.toList [] h3
  have e1 : (cM s).1 = dec (xI s).m := rdR_true h4
  have e2 : (cF s).1 = dec (xI s).f := rdR_true h5
  have e3 : (cF s).2.1 = dec (xI s).t := rdR_true h6
  apply ba_ext
  rw [hText_list, sharp_inv h1]
  rw [List.nil_append] at j1 j2
  rw [← j1]
  show 35 :: ((cM s).1.data.toList ++ 32 :: (cM s).2.1.data.toList) = _
  rw [← j2]
  show 35 :: ((cM s).1.data.toList ++ 32 :: ((cF s).1.data.toList ++ 45 :: (cF s).2.1.data.toList)) = _
  rw [e1, e2, e3]
theorem text_okI {x : Hire} (hv : vHire x = true) : okI (hTextV x) = true ∧ xI (hTextV x) = x := by
  obtain ⟨⟨b1, b2⟩, b3, b4, b5⟩ := vHire_inv hv
  have hl := hText_list x
  have hd : (hTextV x).data.toList.drop 1 = (dec x.m).data.toList ++ 32 :: ((dec x.f).data.toList ++ 45 :: (dec x.t).data.toList) := by rw [hl]; rfl
  have hm : cM (hTextV x) = (dec x.m, bs ((dec x.f).data.toList ++ 45 :: (dec x.t).data.toList), true) := by
    rw [cM, hd, cutA_part _ _ (fun c hc => (dig_no (dec_nn b1 c hc)).1), bs_of]
  have hf : cF (hTextV x) = (dec x.f, dec x.t, true) := by
    rw [cF, hm]
    show cutA 45 [] (bs _).data.toList = _
    rw [bs_list, cutA_part _ _ (fun c hc => (dig_no (dec_nn b3 c hc)).2.1), bs_of, bs_of]
  have r1 := rdR_dec (n := x.m) (by omega) (by omega)
  have r2 := rdR_dec (n := x.f) (by omega) (by omega)
  have r3 := rdR_dec (n := x.t) (by omega) (by omega)
  have hx : xI (hTextV x) = x := by rw [xI, hm, hf]; simp only [r1, r2, r3]
  have hs : sharp (hTextV x) = true := by
    refine decide_eq_true ⟨?_, ?_⟩
    · rw [← bsz, hl]; simp
    · unfold byteAt; rw [hl]; rfl
  refine ⟨okI_mk hs (by rw [hm]) (by rw [hf]) (by rw [hm]; simp only [r1]) (by rw [hf]; simp only [r2]) (by rw [hf]; simp only [r3]) (by rw [hx]; exact hv), hx⟩
/-- the reference's way: split twice -/
def pAt (w : List ByteArray) (i : Nat) : ByteArray := w.getD i ByteArray.empty
def w1 (s : ByteArray) : List ByteArray := splitA 32 [] s.data.toList
def w2 (s : ByteArray) : List ByteArray := splitA 45 [] (pAt (w1 s) 1).data.toList
def mS (s : ByteArray) : ByteArray := (pAt (w1 s) 0).extract 1 (pAt (w1 s) 0).size
def xS (s : ByteArray) : Hire := ⟨(rdR (mS s)).1, (rdR (pAt (w2 s) 0)).1, (rdR (pAt (w2 s) 1)).1⟩
def okS (s : ByteArray) : Bool := decide ((w1 s).length = 2) && (decide (2 ≤ (pAt (w1 s) 0).size) && (sharp (pAt (w1 s) 0) && (decide ((w2 s).length = 2) && ((rdR (mS s)).2 && ((rdR (pAt (w2 s) 0)).2 && ((rdR (pAt (w2 s) 1)).2 && vHire (xS s)))))))
theorem okS_inv {s : ByteArray} (h : okS s = true) : (w1 s).length = 2 ∧ 2 ≤ (pAt (w1 s) 0).size ∧ sharp (pAt (w1 s) 0) = true ∧ (w2 s).length = 2 ∧ (rdR (mS s)).2 = true ∧ (rdR (pAt (w2 s) 0)).2 = true ∧ (rdR (pAt (w2 s) 1)).2 = true ∧ vHire (xS s) = true := by
  simpa only [okS, Bool.and_eq_true, decide_eq_true_eq] using h
theorem okS_mk {s : ByteArray} (h1 : (w1 s).length = 2) (h2 : 2 ≤ (pAt (w1 s) 0).size) (h3 : sharp (pAt (w1 s) 0) = true) (h4 : (w2 s).length = 2) (h5 : (rdR (mS s)).2 = true) (h6 : (rdR (pAt (w2 s) 0)).2 = true) (h7 : (rdR (pAt (w2 s) 1)).2 = true) (h8 : vHire (xS s) = true) : okS s = true := by
  simp [okS, h1, h2, h3, h4, h5, h6, h7, h8]
theorem two_parts {w : List ByteArray} (h : w.length = 2) : w = [pAt w 0, pAt w 1] := by
  match w, h with
  | [a, b], _ => rfl
theorem mS_list (s : ByteArray) : (mS s).data.toList = (pAt (w1 s) 0).data.toList.drop 1 := by
  rw [mS, bs_extract, bs_list, List.take_of_length_le (by rw [List.length_drop, bsz]; omega)]
theorem join2 {b : UInt8} {l : List UInt8} {p q : ByteArray} (h : splitA b [] l = [p, q]) : l = p.data.toList ++ b :: q.data.toList := by
  have j := join_split b l []
  rw [h, List.nil_append, joinL, joinL] at j
  exact j.symm
theorem w1_eq (s : ByteArray) (h : (w1 s).length = 2) : splitA 32 [] s.data.toList = [pAt (w1 s) 0, pAt (w1 s) 1] := two_parts (w := w1 s) h
theorem w2_eq (s : ByteArray) (h : (w2 s).length = 2) : splitA 45 [] (pAt (w1 s) 1).data.toList = [pAt (w2 s) 0, pAt (w2 s) 1] := two_parts (w := w2 s) h
theorem okS_text' {s p q u v m : ByteArray} {a b c : Int} (j1 : s.data.toList = p.data.toList ++ 32 :: q.data.toList) (j2 : q.data.toList = u.data.toList ++ 45 :: v.data.toList) (e0 : p.data.toList = 35 :: p.data.toList.drop 1) (hm : m.data.toList = p.data.toList.drop 1)
    (e1 : m = dec a) (e2 : u = dec b) (e3 : v = dec c) : s = hTextV ⟨a, b, c⟩ := by
  apply ba_ext
  rw [hText_list, j1, j2, e0, ← hm, e1, e2, e3, List.cons_append]
theorem okS_text {s : ByteArray} (h : okS s = true) : s = hTextV (xS s) := by
  obtain ⟨h1, h2, h3, h4, h5, h6, h7, h8⟩ := okS_inv h
  exact okS_text' (join2 (w1_eq s h1)) (join2 (w2_eq s h4)) (sharp_inv h3) (mS_list s) (rdR_true h5) (rdR_true h6) (rdR_true h7)
theorem text_okS {x : Hire} (hv : vHire x = true) : okS (hTextV x) = true ∧ xS (hTextV x) = x := by
  obtain ⟨⟨b1, b2⟩, b3, b4, b5⟩ := vHire_inv hv
  have hl := hText_list x
  have r1 := rdR_dec (n := x.m) (by omega) (by omega)
  have r2 := rdR_dec (n := x.f) (by omega) (by omega)
  have r3 := rdR_dec (n := x.t) (by omega) (by omega)
  have n1 : ∀ c ∈ (35 :: (dec x.m).data.toList), c ≠ 32 := fun c hc => by
    rw [List.mem_cons] at hc
    rcases hc with rfl | hc
    · decide
    · exact (dig_no (dec_nn b1 c hc)).1
  have n2 : ∀ c ∈ ((dec x.f).data.toList ++ 45 :: (dec x.t).data.toList), c ≠ 32 := fun c hc => by
    rw [List.mem_append, List.mem_cons] at hc
    rcases hc with hc | rfl | hc
    · exact (dig_no (dec_nn b3 c hc)).1
    · decide
    · exact (dig_no (dec_nn (n := x.t) (by omega) c hc)).1
  have hw1 : w1 (hTextV x) = [bs (35 :: (dec x.m).data.toList), bs ((dec x.f).data.toList ++ 45 :: (dec x.t).data.toList)] := by
    rw [w1, hl, show 35 :: ((dec x.m).data.toList ++ 32 :: ((dec x.f).data.toList ++ 45 :: (dec x.t).data.toList)) = (35 :: (dec x.m).data.toList) ++ 32 :: ((dec x.f).data.toList ++ 45 :: (dec x.t).data.toList) from rfl, splitA_part _ _ n1, splitA_last _ n2]
  have hw2 : w2 (hTextV x) = [dec x.f, dec x.t] := by
    rw [w2, hw1]
    show splitA 45 [] (bs _).data.toList = _
    rw [bs_list, splitA_part _ _ (fun c hc => (dig_no (dec_nn b3 c hc)).2.1), splitA_last _ (fun c hc => (dig_no (dec_nn (n := x.t) (by omega) c hc)).2.1), bs_of, bs_of]
  have hm : mS (hTextV x) = dec x.m := by
    apply ba_ext
    rw [mS_list, hw1]
    show (bs _).data.toList.drop 1 = _
    rw [bs_list]; rfl
  have hx : xS (hTextV x) = x := by
    rw [xS, hm, hw2]
    show (⟨(rdR (dec x.m)).1, (rdR (dec x.f)).1, (rdR (dec x.t)).1⟩ : Hire) = x
    rw [r1, r2, r3]
  have hd1 := (dec_bytes (n := x.m) (by omega) (by omega)).2.1
  refine ⟨okS_mk (by rw [hw1]; rfl) ?_ ?_ (by rw [hw2]; rfl) (by rw [hm, r1]) (by rw [hw2]; show (rdR (dec x.f)).2 = true; rw [r2]) (by rw [hw2]; show (rdR (dec x.t)).2 = true; rw [r3]) (by rw [hx]; exact hv), hx⟩
  · rw [hw1]
    show 2 ≤ (bs _).size
    rw [bs_size, List.length_cons, bsz]; omega
  · rw [hw1]
    show sharp (bs _) = true
    refine decide_eq_true ⟨?_, ?_⟩
    · rw [bs_size]; simp
    · unfold byteAt; rw [bs_list]; rfl
/-- the two ways agree -/
theorem ok_same (s : ByteArray) : okS s = okI s ∧ (okI s = true → xS s = xI s) := by
  cases hi : okI s
  · refine ⟨?_, fun h => by cases h⟩
    cases hs : okS s
    · rfl
    · have he := okS_text hs
      have hv := (okS_inv hs).2.2.2.2.2.2.2
      have := (text_okI hv).1
      rw [← he, hi] at this; cases this
  · have he := okI_text hi
    have hv := (okI_inv hi).2.2.2.2.2.2
    have := text_okS hv
    rw [← he] at this
    exact ⟨this.1, fun _ => this.2⟩
end Go.Proofs.YtiagckbdofeecaaDoor
