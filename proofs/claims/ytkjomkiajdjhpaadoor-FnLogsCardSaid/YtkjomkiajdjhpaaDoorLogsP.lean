/-
  A log that is cut off: plain facts. No program. No condition but what stands at each.
-/
import Derived.Test.YtkjomkiajdjhpaaDoorRoundP
namespace Go.Proofs.YtkjomkiajdjhpaaDoor
open Go.RowKit
theorem logF_grows : ∀ (k : Nat) (l : List Entry) (st : Int) (sz : Nat) (rest : List UInt8), l.length ≤ (logF k l st sz rest).1.length ∧ sz ≤ (logF k l st sz rest).2.2
  | 0, l, st, sz, rest => ⟨Nat.le_refl _, Nat.le_refl _⟩
  | k + 1, l, st, sz, rest => by
    cases hc : (cutA 10 [] rest).2.2
    · rw [logF_end hc]; exact ⟨Nat.le_refl _, Nat.le_refl _⟩
    · cases ht : takeB (dayL l) st (cutA 10 [] rest).1 (wordsA [] (cutA 10 [] rest).1.data.toList)
      · rw [logF_bad (takeOf_none ht)]; exact ⟨Nat.le_refl _, Nat.le_refl _⟩
      · rw [logF_go hc (takeOf_some ht)]
        have := logF_grows k (l ++ [eOf (wordsA [] (cutA 10 [] rest).1.data.toList)]) (stampP st (eOf (wordsA [] (cutA 10 [] rest).1.data.toList))) (sz + (cutA 10 [] rest).1.size + 1) (cutA 10 [] rest).2.1.data.toList
        rw [List.length_append, List.length_singleton] at this
        omega
theorem cut_split {rest : List UInt8} (h : (cutA 10 [] rest).2.2 = true) : rest = (cutA 10 [] rest).1.data.toList ++ 10 :: (cutA 10 [] rest).2.1.data.toList ∧ ∀ c ∈ (cutA 10 [] rest).1.data.toList, c ≠ 10 :=
  ⟨(by have := cutA_join 10 rest [] h; rw [List.nil_append] at this; exact this.symm), cutA_free 10 rest [] (fun c hc => by cases hc)⟩
theorem cut_app {a b : List UInt8} (h : (cutA 10 [] a).2.2 = true) : cutA 10 [] (a ++ b) = ((cutA 10 [] a).1, bs ((cutA 10 [] a).2.1.data.toList ++ b), true) := by
  obtain ⟨e, hf⟩ := cut_split h
  generalize cutA 10 [] a = C at *
  obtain ⟨p, q, r⟩ := C
  rw [e, List.append_assoc, List.cons_append, cutA_part _ _ hf, bs_of]
/-- a beginning has no more entries -/
theorem logF_pre (b : List UInt8) : ∀ (k k' : Nat) (l : List Entry) (st : Int) (sz : Nat) (a : List UInt8), k ≤ k' → (logF k l st sz a).1.length ≤ (logF k' l st sz (a ++ b)).1.length
  | 0, k', l, st, sz, a, _ => (logF_grows k' l st sz (a ++ b)).1
  | k + 1, 0, l, st, sz, a, h => by omega
  | k + 1, k' + 1, l, st, sz, a, h => by
    cases hc : (cutA 10 [] a).2.2
    · rw [logF_end hc]; exact (logF_grows _ l st sz (a ++ b)).1
    · cases ht : takeB (dayL l) st (cutA 10 [] a).1 (wordsA [] (cutA 10 [] a).1.data.toList)
      · rw [logF_bad (takeOf_none ht)]; exact (logF_grows _ l st sz (a ++ b)).1
      · have hp := cut_app (b := b) hc
        rw [logF_go hc (takeOf_some ht), logF_go (rest := a ++ b) (x := eOf (wordsA [] (cutA 10 [] a).1.data.toList)) (st' := stampP st (eOf (wordsA [] (cutA 10 [] a).1.data.toList))) (by rw [hp]) (by rw [hp]; exact takeOf_some ht), hp]
        show _ ≤ (logF k' _ _ _ (bs _).data.toList).1.length
        rw [bs_list]
        exact logF_pre b k k' _ _ _ _ (by omega)
theorem take_cut (p q : List UInt8) (m n : Nat) (hn : n = p.length + (m + 1)) : (p ++ 10 :: q).take n = p ++ 10 :: q.take m := by
  subst hn
  rw [List.take_length_add_append, List.take_succ_cons]
/-- what has been read is read again alone -/
theorem logF_cut : ∀ (k k' : Nat) (l : List Entry) (st : Int) (sz : Nat) (rest : List UInt8), k ≤ k' → logF k' l st sz (rest.take ((logF k l st sz rest).2.2 - sz)) = logF k l st sz rest
  | 0, k', l, st, sz, rest, _ => by
    show logF k' l st sz (rest.take (sz - sz)) = (l, st, sz)
    rw [Nat.sub_self, List.take_zero, logF_end rfl]
  | k + 1, 0, l, st, sz, rest, h => by omega
  | k + 1, k' + 1, l, st, sz, rest, h => by
    cases hc : (cutA 10 [] rest).2.2
    · rw [logF_end hc]
      show logF (k' + 1) l st sz (rest.take (sz - sz)) = (l, st, sz)
      rw [Nat.sub_self, List.take_zero, logF_end rfl]
    · cases ht : takeB (dayL l) st (cutA 10 [] rest).1 (wordsA [] (cutA 10 [] rest).1.data.toList)
      · rw [logF_bad (takeOf_none ht)]
        show logF (k' + 1) l st sz (rest.take (sz - sz)) = (l, st, sz)
        rw [Nat.sub_self, List.take_zero, logF_end rfl]
      · rw [logF_go hc (takeOf_some ht)]
        obtain ⟨e, hf⟩ := cut_split hc
        have hg := (logF_grows k (l ++ [eOf (wordsA [] (cutA 10 [] rest).1.data.toList)]) (stampP st (eOf (wordsA [] (cutA 10 [] rest).1.data.toList))) (sz + (cutA 10 [] rest).1.size + 1) (cutA 10 [] rest).2.1.data.toList).2
        have ih := logF_cut k k' (l ++ [eOf (wordsA [] (cutA 10 [] rest).1.data.toList)]) (stampP st (eOf (wordsA [] (cutA 10 [] rest).1.data.toList))) (sz + (cutA 10 [] rest).1.size + 1) (cutA 10 [] rest).2.1.data.toList (by omega)
        generalize hm : (logF k (l ++ [eOf (wordsA [] (cutA 10 [] rest).1.data.toList)]) (stampP st (eOf (wordsA [] (cutA 10 [] rest).1.data.toList))) (sz + (cutA 10 [] rest).1.size + 1) (cutA 10 [] rest).2.1.data.toList) = M at *
        have htk : rest.take (M.2.2 - sz) = (cutA 10 [] rest).1.data.toList ++ 10 :: (cutA 10 [] rest).2.1.data.toList.take (M.2.2 - (sz + (cutA 10 [] rest).1.size + 1)) := by
          have h9 := take_cut (cutA 10 [] rest).1.data.toList (cutA 10 [] rest).2.1.data.toList (M.2.2 - (sz + (cutA 10 [] rest).1.size + 1)) (M.2.2 - sz) (by rw [bsz]; omega)
          rw [← e] at h9
          exact h9
        have hcc : cutA 10 [] (rest.take (M.2.2 - sz)) = ((cutA 10 [] rest).1, bs ((cutA 10 [] rest).2.1.data.toList.take (M.2.2 - (sz + (cutA 10 [] rest).1.size + 1))), true) := by
          rw [htk, cutA_part _ _ hf, bs_of]
        rw [logF_go (x := eOf (wordsA [] (cutA 10 [] rest).1.data.toList)) (st' := stampP st (eOf (wordsA [] (cutA 10 [] rest).1.data.toList))) (by rw [hcc]) (by rw [hcc]; exact takeOf_some ht), hcc]
        show logF k' _ _ _ (bs _).data.toList = M
        rw [bs_list]
        exact ih
theorem ex_list (s : ByteArray) (n : Nat) : (s.extract 0 n).data.toList = s.data.toList.take n := by
  rw [bs_extract, bs_list, List.drop_zero, Nat.sub_zero]
theorem logF_fuel : ∀ (k k' : Nat) (l : List Entry) (st : Int) (sz : Nat) (rest : List UInt8), rest.length < k → k ≤ k' → logF k' l st sz rest = logF k l st sz rest
  | 0, k', l, st, sz, rest, h, _ => by omega
  | k + 1, 0, l, st, sz, rest, _, h => by omega
  | k + 1, k' + 1, l, st, sz, rest, h1, h => by
    cases hc : (cutA 10 [] rest).2.2
    · rw [logF_end hc, logF_end hc]
    · cases ht : takeB (dayL l) st (cutA 10 [] rest).1 (wordsA [] (cutA 10 [] rest).1.data.toList)
      · rw [logF_bad (takeOf_none ht), logF_bad (takeOf_none ht)]
      · rw [logF_go hc (takeOf_some ht), logF_go hc (takeOf_some ht)]
        have hl := congrArg List.length (cut_split hc).1
        rw [List.length_append, List.length_cons] at hl
        exact logF_fuel k k' _ _ _ _ (by omega) (by omega)
/-- a log cut off at n bytes: what is kept of it is a log with no more entries -/
theorem kept_ok {s : ByteArray} (hs : s.size ≤ 4000) : codeL (s.extract 0 (logR s).2.2) = 0 ∧ entsL (s.extract 0 (logR s).2.2) = (logR s).1 := by
  have hi := (logR_inv s).1
  have hz : (s.extract 0 (logR s).2.2).size = (logR s).2.2 := by rw [ByteArray.size_extract]; omega
  have h1 := logF_cut (s.size + 1) (s.size + 1) [] 0 0 s.data.toList (Nat.le_refl _)
  rw [Nat.sub_zero] at h1
  have h2 : logR (s.extract 0 (logR s).2.2) = logR s := by
    show logF ((s.extract 0 (logR s).2.2).size + 1) [] 0 0 (s.extract 0 (logR s).2.2).data.toList = logF (s.size + 1) [] 0 0 s.data.toList
    rw [ex_list, hz]
    rw [← logF_fuel ((logR s).2.2 + 1) (s.size + 1) [] 0 0 (s.data.toList.take (logR s).2.2) (by rw [List.length_take]; omega) (by omega)]
    exact h1
  refine ⟨codeL_0 (by omega) (by rw [h2, hz]), by rw [entsL, h2]⟩
theorem cut_len {l : List Entry} (hv : ∀ x ∈ l, vEntry x = true) (hs : sortE l) (n : Nat) (hn : n ≤ (mkB l).1.size) : (logR ((mkB l).1.extract 0 n)).1.length ≤ l.length := by
  have h1 := logR_mk hv hs
  have hz : ((mkB l).1.extract 0 n).size = n := by rw [ByteArray.size_extract]; omega
  have h2 := logF_pre ((mkB l).1.data.toList.drop n) (n + 1) ((mkB l).1.size + 1) [] 0 0 ((mkB l).1.data.toList.take n) (by omega)
  rw [List.take_append_drop] at h2
  have h3 : logF ((mkB l).1.size + 1) [] 0 0 (mkB l).1.data.toList = (l, (mkB l).2, (mkB l).1.size) := h1
  rw [h3] at h2
  show (logF (((mkB l).1.extract 0 n).size + 1) [] 0 0 ((mkB l).1.extract 0 n).data.toList).1.length ≤ l.length
  rw [ex_list, hz]
  exact h2
/-- the steps -/
theorem mkB_pre (l : List Entry) (k : Nat) : (mkB l).1.extract 0 (mkB (l.take k)).1.size = (mkB (l.take k)).1 := by
  have h : mkB l = (l.drop k).foldl mk1 (mkB (l.take k)) := by
    unfold mkB
    rw [← List.foldl_append, List.take_append_drop]
  have h2 := (mkF_pre (l.drop k) (mkB (l.take k)).1 (mkB (l.take k)).2).1
  apply ba_ext
  rw [ex_list, h]
  show List.take _ ((l.drop k).foldl mk1 ((mkB (l.take k)).1, (mkB (l.take k)).2)).1.data.toList = _
  rw [h2, ← bsz, List.take_left]
theorem step_add {l : List Entry} (hv : ∀ x ∈ l, vEntry x = true) (hs : sortE l) (hz : (mkB l).1.size ≤ 4000) {k : Nat} (h : k < l.length) : adR (mkB (l.take k)).1 l[k] = ((mkB (l.take (k + 1))).1, 0) := by
  have hvk : ∀ x ∈ l.take k, vEntry x = true := fun x hx => hv x (List.mem_of_mem_take hx)
  have hsk : sortE (l.take k) := fun i hi => by
    rw [List.getElem_take, List.getElem_take]
    rw [List.length_take] at hi
    exact hs i (by omega)
  obtain ⟨c1, c2, c3⟩ := code_mk hvk hsk (Nat.le_trans (mkB_mono l k) hz)
  have e : (mkB (l.take k)).1 ++ newLine (stL (mkB (l.take k)).1) l[k] = (mkB (l.take (k + 1))).1 := by rw [c3, mkB_take h]
  have hlt := last_day hs h (hv _ (List.getElem_mem h))
  rw [adR_0 c1 (hv _ (List.getElem_mem h)) (by rw [c2]; exact hlt) (by rw [e]; exact Nat.le_trans (mkB_mono l (k + 1)) hz), e]
end Go.Proofs.YtkjomkiajdjhpaaDoor
