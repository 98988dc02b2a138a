/-
  The console stays valid; lines one after the other: plain facts. No program. No condition but what stands at each.
-/
import Derived.Test.YtbianlkenallaaaGreatDoorMgC
import Derived.Test.YtbianlkenallaaaGreatDoorLogsP
set_option linter.all false
namespace Go.Proofs.YtbianlkenallaaaGreatDoor
open Go.RowKit
/-- what a log that is read to its end tells of one that goes on -/
theorem logF_on (b : List UInt8) : ∀ (k k' : Nat) (l : List Entry) (st : Int) (sz : Nat) (a : List UInt8), (logF k l st sz a).2.2 = sz + a.length → a.length + b.length < k' → ∃ k2, b.length < k2 ∧ logF k' l st sz (a ++ b) = logF k2 (logF k l st sz a).1 (logF k l st sz a).2.1 (sz + a.length) b
  | 0, k', l, st, sz, a, h, hk => by
    have ha : a = [] := List.eq_nil_of_length_eq_zero (by rw [logF] at h; simp at h; simpa using h)
    subst ha
    exact ⟨k', by simpa using hk, rfl⟩
  | k + 1, k', l, st, sz, a, h, hk => by
    obtain ⟨k', rfl⟩ : ∃ j, k' = j + 1 := ⟨k' - 1, by omega⟩
    cases hc : (cutA 10 [] a).2.2
    · rw [logF_end hc] at h ⊢
      have ha : a = [] := List.eq_nil_of_length_eq_zero (by simp at h; simpa using h)
      subst ha
      exact ⟨k' + 1, by simpa using hk, rfl⟩
    · cases ht : takeB (dayL l) st (cutA 10 [] a).1 (wordsA [] (cutA 10 [] a).1.data.toList)
      · rw [logF_bad (takeOf_none ht)] at h ⊢
        have ha : a = [] := List.eq_nil_of_length_eq_zero (by simp at h; simpa using h)
        subst ha
        exact ⟨k' + 1, by simpa using hk, rfl⟩
      · have hp := cut_app (b := b) hc
        have hl := congrArg List.length (cut_split hc).1
        rw [List.length_append, List.length_cons] at hl
        rw [logF_go hc (takeOf_some ht)] at h ⊢
        rw [logF_go (rest := a ++ b) (x := eOf (wordsA [] (cutA 10 [] a).1.data.toList)) (st' := stampP st (eOf (wordsA [] (cutA 10 [] a).1.data.toList))) (by rw [hp]) (by rw [hp]; exact takeOf_some ht), hp]
        have e : sz + a.length = (sz + (cutA 10 [] a).1.size + 1) + (cutA 10 [] a).2.1.data.toList.length := by rw [bsz] at hl; omega
        rw [e] at h ⊢
        exact logF_on b k k' _ _ _ _ h (by omega)
theorem adR_valid {s : ByteArray} {x : Entry} (h : (adR s x).2 = 0) : codeL (adR s x).1 = 0 := by
  by_cases h1 : codeL s = 0
  · cases h2 : vEntry x with
    | false => rw [adR_7 h1 h2] at h; cases h
    | true =>
      by_cases h3 : x.day < dayL (entsL s)
      · rw [adR_6 h1 h2 h3] at h; cases h
      · by_cases h4 : (s ++ newLine (stL s) x).size ≤ 4000
        · rw [adR_0 h1 h2 h3 h4]
          have hb := stampP_bd (stL s) x
          obtain ⟨_, hz⟩ := codeL_inv h1
          have hnl : (newLine (stL s) x).data.toList = (lineP x (stampP (stL s) x)).data.toList ++ 10 :: [] := by simp [newLine, ByteArray.data_append]
          have hsz : (newLine (stL s) x).size = (lineP x (stampP (stL s) x)).size + 1 := by rw [← bsz, hnl, List.length_append, bsz]; rfl
          have hl : (s ++ newLine (stL s) x).data.toList = s.data.toList ++ (newLine (stL s) x).data.toList := by rw [ByteArray.data_append, Array.toList_append]
          obtain ⟨k2, hk2, e⟩ := logF_on (newLine (stL s) x).data.toList (s.size + 1) ((s ++ newLine (stL s) x).size + 1) [] 0 0 s.data.toList (by rw [Nat.zero_add, bsz]; exact hz) (by rw [bsz, bsz, ByteArray.size_append]; omega)
          have hr : logR (s ++ newLine (stL s) x) = logF k2 (entsL s) (stL s) (0 + s.data.toList.length) (newLine (stL s) x).data.toList := by
            rw [← hl] at e
            exact e
          obtain ⟨k3, rfl⟩ : ∃ k3, k2 = k3 + 1 := ⟨k2 - 1, by omega⟩
          have hc : cutA 10 [] (newLine (stL s) x).data.toList = (lineP x (stampP (stL s) x), bs [], true) := by
            rw [hnl, cutA_part _ _ (lineP_no h2 hb.1 hb.2), bs_of]
          have ht := take_line h2 (d0 := dayL (entsL s)) (st := stL s) (by omega)
          rw [logF_go (x := x) (st' := stampP (stL s) x) (by rw [hc]) (by rw [hc]; exact ht), hc] at hr
          have hr2 : logR (s ++ newLine (stL s) x) = (entsL s ++ [x], stampP (stL s) x, 0 + s.data.toList.length + (lineP x (stampP (stL s) x)).size + 1) := by
            rw [hr]; exact logF_end rfl
          refine codeL_0 h4 ?_
          rw [hr2, ByteArray.size_append, hsz, bsz]
          simp only
          omega
        · rw [adR_5 h1 h2 h3 h4] at h; cases h
  · rw [adR_1 h1] at h; exact absurd h h1
theorem drl_snoc_lt {l : List Drill} {x : Drill} {i : Nat} (h : i < l.length) : drl (l ++ [x]) i = drl l i := by
  rw [drl, drl, List.getD_eq_getElem?_getD, List.getD_eq_getElem?_getD, List.getElem?_append_left h]
theorem drl_snoc_eq {l : List Drill} {x : Drill} : drl (l ++ [x]) l.length = x := by
  rw [drl, List.getD_eq_getElem?_getD, List.getElem?_append_right (Nat.le_refl _), Nat.sub_self]; rfl
theorem addD_valid {l : List Drill} {x : Drill} (h : (addD l x).2 = 0) : vDrills (addD l x).1 = true := by
  unfold addD at h ⊢
  split at h
  · rename_i h1
    split at h
    · rename_i h2
      split at h
      · cases h
      · rename_i h3
        split at h
        · cases h
        · rename_i h4
          rw [if_pos h1, if_pos h2, if_neg h3, if_neg h4]
          obtain ⟨hl, hi⟩ := vDrills_inv h1
          have hn : ∀ k, k < l.length → (drl l k).name ≠ x.name := fun k hk he => h3 (by
            rw [hasName, List.any_eq_true]
            exact ⟨l[k], List.getElem_mem hk, by rw [drl_eq hk]; exact decide_eq_true he⟩)
          refine vDrills_true (by rw [List.length_append, List.length_singleton]; omega) fun i hi2 => ?_
          rw [List.length_append, List.length_singleton] at hi2
          rcases Nat.lt_or_ge i l.length with hlt | hge
          · refine okD_true (by rw [drl_snoc_lt hlt]; exact (hi i hlt).1) fun k hk => ?_
            rw [drl_snoc_lt hlt, drl_snoc_lt (Nat.lt_trans hk hlt)]
            exact (hi i hlt).2 k hk
          · obtain rfl : i = l.length := by omega
            refine okD_true (by rw [drl_snoc_eq]; exact h2) fun k hk => ?_
            rw [drl_snoc_eq, drl_snoc_lt hk]
            exact hn k hk
    · cases h
  · cases h
theorem vDesk_of {d : DeskD} (h1 : vBsk d.b = true) (h2 : vStops d.stops = true) (h3 : vDrills d.drills = true) (h4 : codeL d.log = 0) : vDesk d = true := by
  rw [vDesk_4 h1 h2 h3, h4]; rfl
theorem sent_len (r : ByteArray × Int) : 1 ≤ (sent r).length := by unfold sent; split <;> simp
theorem nmb_len (r : Int × Int) : 1 ≤ (nmb r).length := by unfold nmb; split <;> simp
theorem codeOut_len (r : ByteArray × Int) : 1 ≤ (codeOut r).length := by
  unfold codeOut
  split
  · simp
  · exact sent_len _
/-- a command that fits keeps the state valid, and says something -/
theorem doK_ok (two : List ByteArray → ByteArray × Int) {d : DeskD} (ws : List ByteArray) (k : Nat) (hv : vDesk d = true) : vDesk (doK two d ws k).1 = true ∧ 1 ≤ (doK two d ws k).2.length := by
  obtain ⟨v1, v2, v3, v4⟩ := vDesk_inv hv
  unfold doK
  split
  · exact ⟨hv, sent_len _⟩
  · split
    · exact ⟨hv, by simp⟩
    · split
      · rename_i h
        exact ⟨vDesk_of h v2 v3 v4, by simp⟩
      · exact ⟨hv, by simp⟩
  · exact ⟨hv, codeOut_len _⟩
  · split
    · exact ⟨hv, by simp⟩
    · split
      · rename_i h
        exact ⟨vDesk_of v1 v2 (addD_valid h) v4, by simp⟩
      · exact ⟨hv, by simp⟩
  · exact ⟨hv, by simp⟩
  · split
    · exact ⟨hv, by simp⟩
    · split
      · rename_i h
        exact ⟨vDesk_of v1 v2 v3 (adR_valid h), nmb_len _⟩
      · exact ⟨hv, by simp⟩
  · split
    · exact ⟨hv, by simp⟩
    · exact ⟨hv, nmb_len _⟩
  · split
    · split
      · exact ⟨hv, by simp⟩
      · exact ⟨hv, sent_len _⟩
    · exact ⟨hv, by simp⟩
  · exact ⟨hv, by simp⟩
  · exact ⟨hv, nmb_len _⟩
  · exact ⟨hv, sent_len _⟩
  · split
    · exact ⟨hv, sent_len _⟩
    · exact ⟨hv, by simp⟩
  · split
    · exact ⟨hv, by simp⟩
    · split
      · rename_i h
        exact ⟨vDesk_of v1 h v3 v4, by simp⟩
      · exact ⟨hv, by simp⟩
  · split
    · exact ⟨hv, by simp⟩
    · exact ⟨hv, nmb_len _⟩
theorem doL_ok (two : List ByteArray → ByteArray × Int) {d : DeskD} {s : ByteArray} {r : DeskD × List ByteArray} (hv : vDesk d = true) (h : doL two d s = some r) : vDesk r.1 = true ∧ 1 ≤ r.2.length := by
  unfold doL at h
  split at h
  · injection h with h
    rw [← h]
    exact doK_ok two _ _ hv
  · cases h
theorem dkSz_of {d : DeskD} {e : Nat} (hv : vDesk d = true) (he : d.drills.length ≤ e) : DkSz d e := by
  obtain ⟨v1, v2, v3, v4⟩ := vDesk_inv hv
  have h1 := (vStops_inv v2).1
  have h2 := vDrills_inv v3
  have h3 := (codeL_inv v4).1
  refine ⟨by omega, by omega, fun i hi => ?_, by omega, he⟩
  obtain ⟨a, b, c, _⟩ := vDrill_inv (h2.2 i hi).1
  have := (nameB_bd a).2
  have := (txtB_inv c).1
  omega
theorem dk0_ok : vDesk dk0 = true := by
  refine vDesk_of (by decide) (by decide) (by decide) ?_
  refine codeL_0 (by decide) ?_
  rfl
/-- the lines of a text -/
theorem linesOf_nil : linesOf ⟨#[]⟩ = [] := by rfl
theorem linesOf_cut {s : ByteArray} (h : (cutA 10 [] s.data.toList).2.2 = true) : linesOf s = (cutA 10 [] s.data.toList).1 :: linesOf (cutA 10 [] s.data.toList).2.1 := by
  obtain ⟨e, hf⟩ := cut_split h
  generalize (cutA 10 [] s.data.toList).1 = a at *
  generalize (cutA 10 [] s.data.toList).2.1 = r at *
  have h1 : splitA 10 [] s.data.toList = a :: splitA 10 [] r.data.toList := by rw [e, splitA_part _ _ hf, bs_of]
  unfold linesOf
  rw [h1]
  cases hr : splitA 10 [] r.data.toList with
  | nil => exact absurd hr (splitA_ne _ _ _)
  | cons x t =>
    rw [List.getLast?_cons_cons, List.dropLast_cons_cons]
    split <;> rfl
theorem linesOf_last {s : ByteArray} (h : (cutA 10 [] s.data.toList).2.2 = false) (hs : s.data.toList ≠ []) : linesOf s = [s] := by
  have h1 := splitA_last _ (cutA_no 10 _ _ h)
  rw [bs_of] at h1
  unfold linesOf
  rw [h1, if_neg]
  rw [List.getLast?_singleton]
  intro he
  injection he with he
  exact hs (by rw [he])
theorem outB_snoc (l : List ByteArray) (s : ByteArray) : outB (l ++ [s]) = outB l ++ (s.data.toList ++ [10]) := by simp [outB]
theorem linesOf_join : ∀ (l : List ByteArray), (∀ s ∈ l, ∀ c ∈ s.data.toList, c ≠ 10) → linesOf ⟨(outB l).toArray⟩ = l
  | [], _ => linesOf_nil
  | s :: l, h => by
    have h1 : (outB (s :: l)) = s.data.toList ++ 10 :: outB l := by simp [outB]
    have hc : cutA 10 [] (⟨(outB (s :: l)).toArray⟩ : ByteArray).data.toList = (s, bs (outB l), true) := by
      rw [h1]
      show cutA 10 [] (bs _).data.toList = _
      rw [bs_list, cutA_part _ _ (h s (by simp)), bs_of]
    rw [linesOf_cut (by rw [hc]), hc]
    exact congrArg _ (linesOf_join l fun t ht => h t (by simp [ht]))
theorem runL_none {two : List ByteArray → ByteArray × Int} {n : Nat} {d : DeskD} {x : ByteArray} {l : List ByteArray} (h : doL two d x = none) : runL two (n + 1) d (x :: l) = (63 :: 10 :: []) ++ runL two n d l := by rw [runL, h]; rfl
theorem runL_some {two : List ByteArray → ByteArray × Int} {n : Nat} {d : DeskD} {x : ByteArray} {l : List ByteArray} {r : DeskD × List ByteArray} (h : doL two d x = some r) : runL two (n + 1) d (x :: l) = outB r.2 ++ runL two n r.1 l := by rw [runL, h]
end Go.Proofs.YtbianlkenallaaaGreatDoor
