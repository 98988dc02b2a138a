/-
  Common parts, put together: DcAll, LogOfP, RoundP, LogsP, ConsL, ConsZ, OwnT, Own8, RunDesk, WordF, CodeR, CodeT1.
-/
import Derived.Test.YtbianlkenallaaaGreatDoorMgE
import Derived.Test.YtbianlkenallaaaGreatDoorMgB
import Derived.Test.YtbianlkenallaaaGreatDoorMgC
import Derived.Test.YtbianlkenallaaaGreatDoorMgD
import Derived.Test.YtbianlkenallaaaGreatDoorMgA
import Derived.Deep.DeepMust
import Derived.Deep.DeepCutAuto
import Derived.Laws.OwnMore
set_option linter.all false
set_option maxHeartbeats 8000000
set_option maxRecDepth 10000
namespace Go.Proofs.YtbianlkenallaaaGreatDoor
open Go.RowKit
def dcPost (o : Option (DeskD × List ByteArray)) (w : World) (r : Ending) (w' : World) : Prop := match o with
 | none => dcNo w r w'
 | some x => dcYes x.1 x.2 w r w'
theorem deskCmd_any {two : List ByteArray → ByteArray × Int} (h2 : TwoOk two) (d : DeskD) (A B : Option Addr) (c e : Nat) (s : ByteArray) (w : World) (hs : s.size ≤ 1048576) (hS : DSee w d A B) (hz : DkSz d e) (hv : vDesk d = true) (ht : Tab w) :
  Calls Tryz.prog 9 #[dkv d A B c e, .string s] w fun r w' => dcPost (doL two d s) w r w' := by
 cases hf : fitK (kindOf (wd (splitA 32 [] s.data.toList) 0)) (splitA 32 [] s.data.toList).length with
 | false =>
  have hd : doL two d s = none := by rw [doL, hf]; rfl
  rw [hd]
  exact dcNo_any d A B c e s w hs hS hz hv ht hf
 | true =>
  have hd : doL two d s = some (doK two d (splitA 32 [] s.data.toList) (kindOf (wd (splitA 32 [] s.data.toList) 0))) := by rw [doL, hf]; rfl
  rw [hd]
  show Calls Tryz.prog 9 #[dkv d A B c e, .string s] w fun r w' => dcYes (doK two d (splitA 32 [] s.data.toList) (kindOf (wd (splitA 32 [] s.data.toList) 0))).1 (doK two d (splitA 32 [] s.data.toList) (kindOf (wd (splitA 32 [] s.data.toList) 0))).2 w r w'
  obtain ⟨W, hW⟩ : ∃ W, splitA 32 [] s.data.toList = W := ⟨_, rfl⟩
  rw [hW] at hf ⊢
  obtain ⟨k, hk⟩ : ∃ k, kindOf (wd W 0) = k := ⟨_, rfl⟩
  have hle := kind_le (wd W 0)
  rw [hk] at hle ⊢
  have h15 : k = 0 ∨ k = 1 ∨ k = 2 ∨ k = 3 ∨ k = 4 ∨ k = 5 ∨ k = 6 ∨ k = 7 ∨ k = 8 ∨ k = 9 ∨ k = 10 ∨ k = 11 ∨ k = 12 ∨ k = 13 ∨ k = 14 := by omega
  rcases h15 with rfl | rfl | rfl | rfl | rfl | rfl | rfl | rfl | rfl | rfl | rfl | rfl | rfl | rfl | rfl
  ·exact dcAlign_any d A B c e s w W hs hS hz hv ht hW hf hk
  ·exact dcKN_any h2 d A B c e s w W hs hS hz hv ht hW hf 1 (by omega) hk
  ·exact dcKT_any h2 d A B c e s w W hs hS hz hv ht hW hf 2 (by omega) hk
  ·exact dcKT_any h2 d A B c e s w W hs hS hz hv ht hW hf 3 (by omega) hk
  ·exact dcList_any d A B c e s w W hs hS hz hv ht hW hf 4 (.inl rfl) hk _ fun A1 B1 c1 e1 V h1 h2 h3 => listDrills_any d A1 B1 c1 e1 _ V h1 h2 hk h3
  ·exact dcK5_any h2 d A B c e s w W hs hS hz hv ht hW hf hk
  ·exact dcKN_any h2 d A B c e s w W hs hS hz hv ht hW hf 6 (by omega) hk
  ·have e7 : doK two d W 7 = (d, lineR d.drills (wd W 1) (wd W 2)) := by
    simp only [doK, lineR]
    cases numB (wd W 2) with
    | false => rfl
    | true => cases findD d.drills (wd W 1) <;> rfl
   rw [e7]
   exact dcK7_any h2 d A B c e s w W hs hS hz hv ht hW hf hk
  ·exact dcList_any d A B c e s w W hs hS hz hv ht hW hf 8 (.inr rfl) hk _ fun A1 B1 c1 e1 V h1 h2 h3 => listLog_any d A1 B1 c1 e1 _ V h2 hk hv h3
  ·exact dcMark_any d A B c e s w W hs hS hz hv ht hW hf hk
  ·exact dcKT_any h2 d A B c e s w W hs hS hz hv ht hW hf 10 (by omega) hk
  ·have e11 : doK two d W 11 = (d, if numB (wd W 1) then sent (setR (wordsA [] (restW W 2).data.toList) (sval (wd W 1))) else [errL 7]) := by
    simp only [doK]
    cases numB (wd W 1) <;> rfl
   rw [e11]
   exact dcK11_any h2 d A B c e s w W hs hS hz hv ht hW hf hk
  ·exact dcKN_any h2 d A B c e s w W hs hS hz hv ht hW hf 12 (by omega) hk
  ·exact dcKN_any h2 d A B c e s w W hs hS hz hv ht hW hf 13 (by omega) hk
  ·rw [hk] at hf
   simp [fitK] at hf
theorem lineP_no {x : Entry} (h : vEntry x = true) {st : Int} (h0 : 0 ≤ st) (h1 : st < 65519) : ∀ c ∈ (lineP x st).data.toList, c ≠ 10 := by
 obtain ⟨a, b, c, d, e⟩ := vEntry_inv h
 have n1 := (dec_no (n := x.day) (by omega) (by omega)).2.1
 have n2 := (name_no c).2.1
 have n3 := (dec_no (n := x.value) (by omega) (by omega)).2.1
 have n4 := (dec_no (n := st) (by omega) (by omega)).2.1
 intro y hy
 rw [lineP_list, List.mem_append, List.mem_cons, List.mem_append, List.mem_cons, List.mem_append, List.mem_cons] at hy
 rcases hy with hy | rfl | hy | rfl | hy | rfl | hy
 ·exact n1 y hy
 ·decide
 ·exact n2 y hy
 ·decide
 ·exact n3 y hy
 ·decide
 ·exact n4 y hy
theorem take_line {x : Entry} (h : vEntry x = true) {d0 st : Int} (hd : d0 ≤ x.day) : takeOf d0 st (lineP x (stampP st x)) (wordsA [] (lineP x (stampP st x)).data.toList) = some (x, stampP st x) := by
 obtain ⟨a, b, c, d, e⟩ := vEntry_inv h
 have hb := stampP_bd st x
 have hw := (four_words h hb.1 hb.2).2
 have r1 := rdR_dec (n := x.day) (by omega) (by omega)
 have r3 := rdR_dec (n := x.value) (by omega) (by omega)
 have he : eOf (wordsA [] (lineP x (stampP st x)).data.toList) = x := by
  rw [hw]
  show (⟨(rdR (dec x.day)).1, x.what, (rdR (dec x.value)).1⟩ : Entry) = x
  rw [r1, r3]
 have ht : takeB d0 st (lineP x (stampP st x)) (wordsA [] (lineP x (stampP st x)).data.toList) = true := by
  refine takeB_0 (by rw [hw]; rfl) ?_ ?_ (by rw [he]; exact h) (by rw [he]; exact hd) (by rw [he])
  ·rw [hw]; show (rdR (dec x.day)).2 = true; rw [r1]
  ·rw [hw]; show (rdR (dec x.value)).2 = true; rw [r3]
 rw [takeOf_some ht, he]
theorem cut_split {rest : List UInt8} (h : (cutA 10 [] rest).2.2 = true) : rest = (cutA 10 [] rest).1.data.toList ++ 10 :: (cutA 10 [] rest).2.1.data.toList ∧ ∀ c ∈ (cutA 10 [] rest).1.data.toList, c ≠ 10 :=
 ⟨(by have := cutA_join 10 rest [] h; rw [List.nil_append] at this; exact this.symm), cutA_free 10 rest [] (fun c hc => by cases hc)⟩
theorem cut_app {a b : List UInt8} (h : (cutA 10 [] a).2.2 = true) : cutA 10 [] (a ++ b) = ((cutA 10 [] a).1, bs ((cutA 10 [] a).2.1.data.toList ++ b), true) := by
 obtain ⟨e, hf⟩ := cut_split h
 generalize cutA 10 [] a = C at *
 obtain ⟨p, q, r⟩ := C
 rw [e, List.append_assoc, List.cons_append, cutA_part _ _ hf, bs_of]
theorem logF_on (b : List UInt8) : ∀ (k k' : Nat) (l : List Entry) (st : Int) (sz : Nat) (a : List UInt8), (logF k l st sz a).2.2 = sz + a.length → a.length + b.length < k' → ∃ k2, b.length < k2 ∧ logF k' l st sz (a ++ b) = logF k2 (logF k l st sz a).1 (logF k l st sz a).2.1 (sz + a.length) b
 | 0, k', l, st, sz, a, h, hk => by
  have ha : a = [] := List.eq_nil_of_length_eq_zero (by rw [logF] at h; simp at h; simpa using h)
  subst ha
  exact ⟨k', by simpa using hk, rfl⟩
 | k + 1, k', l, st, sz, a, h, hk => by
  obtain ⟨k', rfl⟩ : ∃ j, k' = j + 1 := ⟨k' - 1, by omega⟩
  cases hc : (cutA 10 [] a).2.2
  ·rw [logF_end hc] at h ⊢
   have ha : a = [] := List.eq_nil_of_length_eq_zero (by simp at h; simpa using h)
   subst ha
   exact ⟨k' + 1, by simpa using hk, rfl⟩
  ·cases ht : takeB (dayL l) st (cutA 10 [] a).1 (wordsA [] (cutA 10 [] a).1.data.toList)
   ·rw [logF_bad (takeOf_none ht)] at h ⊢
    have ha : a = [] := List.eq_nil_of_length_eq_zero (by simp at h; simpa using h)
    subst ha
    exact ⟨k' + 1, by simpa using hk, rfl⟩
   ·have hp := cut_app (b := b) hc
    have hl := congrArg List.length (cut_split hc).1
    rw [List.length_append, List.length_cons] at hl
    rw [logF_go hc (takeOf_some ht)] at h ⊢
    rw [logF_go (rest := a ++ b) (x := eOf (wordsA [] (cutA 10 [] a).1.data.toList)) (st' := stampP st (eOf (wordsA [] (cutA 10 [] a).1.data.toList))) (by rw [hp]) (by rw [hp]; exact takeOf_some ht), hp]
    have e : sz + a.length = (sz + (cutA 10 [] a).1.size + 1) + (cutA 10 [] a).2.1.data.toList.length := by rw [bsz] at hl; omega
    rw [e] at h ⊢
    exact logF_on b k k' _ _ _ _ h (by omega)
theorem adR_valid {s : ByteArray} {x : Entry} (h : (adR s x).2 = 0) : codeL (adR s x).1 = 0 := by
 by_cases h1 : codeL s = 0
 ·cases h2 : vEntry x with
  | false => rw [adR_7 h1 h2] at h; cases h
  | true =>
   by_cases h3 : x.day < dayL (entsL s)
   ·rw [adR_6 h1 h2 h3] at h; cases h
   ·by_cases h4 : (s ++ newLine (stL s) x).size ≤ 4000
    ·rw [adR_0 h1 h2 h3 h4]
     have hb := stampP_bd (stL s) x
     obtain ⟨_, hz⟩ := codeL_inv h1
     have hnl : (newLine (stL s) x).data.toList = (lineP x (stampP (stL s) x)).data.toList ++ 10 :: [] := by simp [newLine, ByteArray.data_append]
     have hsz : (newLine (stL s) x).size = (lineP x (stampP (stL s) x)).size + 1 := by rw [← bsz, hnl, List.length_append, bsz]; rfl
     have hl : (s ++ newLine (stL s) x).data.toList = s.data.toList ++ (newLine (stL s) x).data.toList := by rw [ByteArray.data_append, Array.toList_append]
     obtain ⟨k2, hk2, e⟩ := logF_on (newLine (stL s) x).data.toList (s.size + 1) ((s ++ newLine (stL s) x).size + 1) [] 0 0 s.data.toList (by rw [Nat.zero_add, bsz]; exact hz) (by rw [bsz, bsz, ByteArray.size_append]; omega)
     have hr : logR (s ++ newLine (stL s) x) = logF k2 (entsL s) (stL s) (0 + s.data.toList.length) (newLine (stL s) x).data.toList := by
      rw [← hl] at e
      exact e
     obtain ⟨k3, rfl⟩ : ∃ k3, k2 = k3 + 1 := ⟨k2 - 1, by omega⟩
     have hc : cutA 10 [] (newLine (stL s) x).data.toList = (lineP x (stampP (stL s) x), bs [], true) := by
      rw [hnl, cutA_part _ _ (lineP_no h2 hb.1 hb.2), bs_of]
     have ht := take_line h2 (d0 := dayL (entsL s)) (st := stL s) (by omega)
     rw [logF_go (x := x) (st' := stampP (stL s) x) (by rw [hc]) (by rw [hc]; exact ht), hc] at hr
     have hr2 : logR (s ++ newLine (stL s) x) = (entsL s ++ [x], stampP (stL s) x, 0 + s.data.toList.length + (lineP x (stampP (stL s) x)).size + 1) := by
      rw [hr]; exact logF_end rfl
     refine codeL_0 h4 ?_
     rw [hr2, ByteArray.size_append, hsz, bsz]
     simp only
     omega
    ·rw [adR_5 h1 h2 h3 h4] at h; cases h
 ·rw [adR_1 h1] at h; exact absurd h h1
theorem drl_snoc_lt {l : List Drill} {x : Drill} {i : Nat} (h : i < l.length) : drl (l ++ [x]) i = drl l i := by
 rw [drl, drl, List.getD_eq_getElem?_getD, List.getD_eq_getElem?_getD, List.getElem?_append_left h]
theorem drl_snoc_eq {l : List Drill} {x : Drill} : drl (l ++ [x]) l.length = x := by
 rw [drl, List.getD_eq_getElem?_getD, List.getElem?_append_right (Nat.le_refl _), Nat.sub_self]; rfl
theorem addD_valid {l : List Drill} {x : Drill} (h : (addD l x).2 = 0) : vDrills (addD l x).1 = true := by
 unfold addD at h ⊢
 split at h
 ·rename_i h1
  split at h
  ·rename_i h2
   split at h
   ·cases h
   ·rename_i h3
    split at h
    ·cases h
    ·rename_i h4
     rw [if_pos h1, if_pos h2, if_neg h3, if_neg h4]
     obtain ⟨hl, hi⟩ := vDrills_inv h1
     have hn : ∀ k, k < l.length → (drl l k).name ≠ x.name := fun k hk he => h3 (by
      rw [hasName, List.any_eq_true]
      exact ⟨l[k], List.getElem_mem hk, by rw [drl_eq hk]; exact decide_eq_true he⟩)
     refine vDrills_true (by rw [List.length_append, List.length_singleton]; omega) fun i hi2 => ?_
     rw [List.length_append, List.length_singleton] at hi2
     rcases Nat.lt_or_ge i l.length with hlt | hge
     ·refine okD_true (by rw [drl_snoc_lt hlt]; exact (hi i hlt).1) fun k hk => ?_
      rw [drl_snoc_lt hlt, drl_snoc_lt (Nat.lt_trans hk hlt)]
      exact (hi i hlt).2 k hk
     ·obtain rfl : i = l.length := by omega
      refine okD_true (by rw [drl_snoc_eq]; exact h2) fun k hk => ?_
      rw [drl_snoc_eq, drl_snoc_lt hk]
      exact hn k hk
  ·cases h
 ·cases h
theorem vDesk_of {d : DeskD} (h1 : vBsk d.b = true) (h2 : vStops d.stops = true) (h3 : vDrills d.drills = true) (h4 : codeL d.log = 0) : vDesk d = true := by
 rw [vDesk_4 h1 h2 h3, h4]; rfl
theorem sent_len (r : ByteArray × Int) : 1 ≤ (sent r).length := by unfold sent; split <;> simp
theorem nmb_len (r : Int × Int) : 1 ≤ (nmb r).length := by unfold nmb; split <;> simp
theorem codeOut_len (r : ByteArray × Int) : 1 ≤ (codeOut r).length := by
 unfold codeOut
 split
 ·simp
 ·exact sent_len _
theorem doK_ok (two : List ByteArray → ByteArray × Int) {d : DeskD} (ws : List ByteArray) (k : Nat) (hv : vDesk d = true) : vDesk (doK two d ws k).1 = true ∧ 1 ≤ (doK two d ws k).2.length := by
 obtain ⟨v1, v2, v3, v4⟩ := vDesk_inv hv
 unfold doK
 split
 ·exact ⟨hv, sent_len _⟩
 ·split
  ·exact ⟨hv, by simp⟩
  ·split
   ·rename_i h
    exact ⟨vDesk_of h v2 v3 v4, by simp⟩
   ·exact ⟨hv, by simp⟩
 ·exact ⟨hv, codeOut_len _⟩
 ·split
  ·exact ⟨hv, by simp⟩
  ·split
   ·rename_i h
    exact ⟨vDesk_of v1 v2 (addD_valid h) v4, by simp⟩
   ·exact ⟨hv, by simp⟩
 ·exact ⟨hv, by simp⟩
 ·split
  ·exact ⟨hv, by simp⟩
  ·split
   ·rename_i h
    exact ⟨vDesk_of v1 v2 v3 (adR_valid h), nmb_len _⟩
   ·exact ⟨hv, by simp⟩
 ·split
  ·exact ⟨hv, by simp⟩
  ·exact ⟨hv, nmb_len _⟩
 ·split
  ·split
   ·exact ⟨hv, by simp⟩
   ·exact ⟨hv, sent_len _⟩
  ·exact ⟨hv, by simp⟩
 ·exact ⟨hv, by simp⟩
 ·exact ⟨hv, nmb_len _⟩
 ·exact ⟨hv, sent_len _⟩
 ·split
  ·exact ⟨hv, sent_len _⟩
  ·exact ⟨hv, by simp⟩
 ·split
  ·exact ⟨hv, by simp⟩
  ·split
   ·rename_i h
    exact ⟨vDesk_of v1 h v3 v4, by simp⟩
   ·exact ⟨hv, by simp⟩
 ·split
  ·exact ⟨hv, by simp⟩
  ·exact ⟨hv, nmb_len _⟩
theorem doL_ok (two : List ByteArray → ByteArray × Int) {d : DeskD} {s : ByteArray} {r : DeskD × List ByteArray} (hv : vDesk d = true) (h : doL two d s = some r) : vDesk r.1 = true ∧ 1 ≤ r.2.length := by
 unfold doL at h
 split at h
 ·injection h with h
  rw [← h]
  exact doK_ok two _ _ hv
 ·cases h
theorem dkSz_of {d : DeskD} {e : Nat} (hv : vDesk d = true) (he : d.drills.length ≤ e) : DkSz d e := by
 obtain ⟨v1, v2, v3, v4⟩ := vDesk_inv hv
 have h1 := (vStops_inv v2).1
 have h2 := vDrills_inv v3
 have h3 := (codeL_inv v4).1
 refine ⟨by omega, by omega, fun i hi => ?_, by omega, he⟩
 obtain ⟨a, b, c, _⟩ := vDrill_inv (h2.2 i hi).1
 have := (nameB_bd a).2
 have := (txtB_inv c).1
 omega
theorem dk0_ok : vDesk dk0 = true := by
 refine vDesk_of (by decide) (by decide) (by decide) ?_
 refine codeL_0 (by decide) ?_
 rfl
theorem linesOf_nil : linesOf ⟨#[]⟩ = [] := by rfl
theorem linesOf_cut {s : ByteArray} (h : (cutA 10 [] s.data.toList).2.2 = true) : linesOf s = (cutA 10 [] s.data.toList).1 :: linesOf (cutA 10 [] s.data.toList).2.1 := by
 obtain ⟨e, hf⟩ := cut_split h
 generalize (cutA 10 [] s.data.toList).1 = a at *
 generalize (cutA 10 [] s.data.toList).2.1 = r at *
 have h1 : splitA 10 [] s.data.toList = a :: splitA 10 [] r.data.toList := by rw [e, splitA_part _ _ hf, bs_of]
 unfold linesOf
 rw [h1]
 cases hr : splitA 10 [] r.data.toList with
 | nil => exact absurd hr (splitA_ne _ _ _)
 | cons x t =>
  rw [List.getLast?_cons_cons, List.dropLast_cons_cons]
  split <;> rfl
theorem linesOf_last {s : ByteArray} (h : (cutA 10 [] s.data.toList).2.2 = false) (hs : s.data.toList ≠ []) : linesOf s = [s] := by
 have h1 := splitA_last _ (cutA_no 10 _ _ h)
 rw [bs_of] at h1
 unfold linesOf
 rw [h1, if_neg]
 rw [List.getLast?_singleton]
 intro he
 injection he with he
 exact hs (by rw [he])
theorem outB_snoc (l : List ByteArray) (s : ByteArray) : outB (l ++ [s]) = outB l ++ (s.data.toList ++ [10]) := by simp [outB]
theorem runL_none {two : List ByteArray → ByteArray × Int} {n : Nat} {d : DeskD} {x : ByteArray} {l : List ByteArray} (h : doL two d x = none) : runL two (n + 1) d (x :: l) = (63 :: 10 :: []) ++ runL two n d l := by rw [runL, h]; rfl
theorem runL_some {two : List ByteArray → ByteArray × Int} {n : Nat} {d : DeskD} {x : ByteArray} {l : List ByteArray} {r : DeskD × List ByteArray} (h : doL two d x = some r) : runL two (n + 1) d (x :: l) = outB r.2 ++ runL two n r.1 l := by rw [runL, h]
def SS (W : List (List UInt8)) (n : Nat) (r : List UInt8) : Prop := ∃ t, Rst W r t ∧ t.length ≤ 8 * n + 8
theorem SS.closed {W : List (List UInt8)} (h8 : ∀ w ∈ W, w.length ≤ 8) (n : Nat) (h : ∀ r, SS W (n + 1) r → SS W n r) {r t : List UInt8} (hr : Rst W r t) : SS W n r := by
 induction hr with
 | base hik hu hv hp => exact ⟨_, .base hik hu hv hp, by have := h8 _ (List.mem_of_getElem? hv); omega⟩
 | step h1 hr hw he ih =>
  obtain ⟨t0, h2, hl⟩ := ih
  refine h _ ⟨_, .step h2 hr hw he, ?_⟩
  rw [List.length_append]
  have := exR_len he (h8 _ hw)
  omega
theorem SS.many {W : List (List UInt8)} (h8 : ∀ w ∈ W, w.length ≤ 8) : ∀ n, (∃ r t, Rst W r t ∧ ¬ SS W n r) → ∃ L : List (List UInt8), L.length = n ∧ L.Nodup ∧ ∀ x ∈ L, SS W n x
 | 0, _ => ⟨[], rfl, by simp, fun x hx => by cases hx⟩
 | n + 1, ⟨r, t, hr, hn⟩ => by
  have mono : ∀ x, SS W n x → SS W (n + 1) x := fun x ⟨t, h, hl⟩ => ⟨t, h, by omega⟩
  obtain ⟨L, h1, h2, h3⟩ := SS.many h8 n ⟨r, t, hr, fun h => hn (mono _ h)⟩
  by_cases hc : ∀ x, SS W (n + 1) x → SS W n x
  ·exact absurd (mono _ (SS.closed h8 n hc hr)) hn
  ·obtain ⟨x, hx⟩ := Classical.not_forall.1 hc
   obtain ⟨hx1, hx2⟩ := Classical.not_imp.1 hx
   refine ⟨x :: L, by simp [h1], by rw [List.nodup_cons]; exact ⟨fun hm => hx2 (h3 x hm), h2⟩, fun y hy => ?_⟩
   rcases List.mem_cons.1 hy with rfl | hy
   ·exact hx1
   ·exact mono _ (h3 y hy)
theorem SS.all {W : List (List UInt8)} (h8 : ∀ w ∈ W, w.length ≤ 8) (h10 : W.length ≤ 10) {r t : List UInt8} (hr : Rst W r t) : SS W 91 r := by
 by_cases h : SS W 91 r
 ·exact h
 ·obtain ⟨L, h1, h2, h3⟩ := SS.many h8 91 ⟨r, t, hr, h⟩
  have h4 := nodup_le (l := L) (m := sfxs W) h2 fun x hx => by
   obtain ⟨t, ht, _⟩ := h3 x hx
   exact ht.sfx
  have h5 := sfxs_len h8 h10
  omega
theorem Bst.short {W : List (List UInt8)} (h8 : ∀ w ∈ W, w.length ≤ 8) (h10 : W.length ≤ 10) {r t : List UInt8} (h : Bst W r t) : t.length ≤ 736 := by
 obtain ⟨s, hs, hl⟩ := SS.all h8 h10 h.1
 have h2 := h.2 s hs
 by_cases hlt : s.length < t.length
 ·have : lessT s t = true := lessT_iff.2 (.inl hlt)
  unfold leT at h2
  rw [this] at h2; cases h2
 ·omega
theorem two_size {two : List ByteArray → ByteArray × Int} (h2 : TwoOk two) (ws : List ByteArray) : (two ws).1.size ≤ 1000 := by
 cases hv : vCode ws with
 | false => rw [(h2 ws).2 hv]; decide
 | true =>
  obtain ⟨h1, h3⟩ := vCode_inv hv
  have h8 : ∀ w ∈ lists ws, w.length ≤ 8 := fun w hw => by
   rw [lists, List.mem_map] at hw
   obtain ⟨s, hs, rfl⟩ := hw
   obtain ⟨i, hi, rfl⟩ := List.getElem_of_mem hs
   rw [wd_eq hi, bsz]
   exact (txtB_inv (h3 i hi).2.1).1
  have h10 : (lists ws).length ≤ 10 := by simpa [lists] using h1
  rcases (h2 ws).1 hv with ⟨_, hb⟩ | ⟨_, he, _⟩
  ·have := hb.short h8 h10
   rw [bsz] at this
   omega
  ·have := congrArg List.length he
   rw [bsz] at this
   rw [this]
   simp
theorem errL_size (c : Int) : (errL c).size ≤ 100 := by
 have := cnm_size c
 have e : (⟨#[101, 114, 114, 111, 114, 32]⟩ : ByteArray).size = 6 := rfl
 rw [errL, ByteArray.size_append]
 omega
def szB (l : List ByteArray) : Prop := (outB l).length ≤ 500000
theorem outB_cons (x : ByteArray) (l : List ByteArray) : outB (x :: l) = x.data.toList ++ [10] ++ outB l := by simp [outB]
theorem outB_le {m : Nat} : ∀ {l : List ByteArray}, (∀ x ∈ l, x.size ≤ m) → (outB l).length ≤ (m + 1) * l.length
 | [], _ => by simp [outB]
 | x :: l, h => by
  have h1 := outB_le (l := l) fun y hy => h y (List.mem_cons_of_mem _ hy)
  have h2 := h x (by simp)
  have e : (m + 1) * (x :: l).length = (m + 1) * l.length + (m + 1) := by rw [List.length_cons, Nat.mul_add, Nat.mul_one]
  rw [outB_cons, List.length_append, List.length_append, bsz, e, List.length_singleton]
  omega
theorem szB_many {l : List ByteArray} (h1 : l.length ≤ 4001) (h2 : ∀ x ∈ l, x.size ≤ 100) : szB l := by
 have := outB_le h2
 unfold szB
 have h3 : (100 + 1) * l.length ≤ 101 * 4001 := by omega
 omega
theorem szB_one {x : ByteArray} (h : x.size ≤ 100000) : szB [x] := by
 unfold szB
 rw [outB_cons, List.length_append, List.length_append, bsz]
 simp [outB]
 omega
theorem errL_szB (c : Int) : szB [errL c] := szB_one (by have := errL_size c; omega)
theorem sent_szB {r : ByteArray × Int} (h : r.1.size ≤ 100000) : szB (sent r) := by
 unfold sent
 split
 ·exact szB_one h
 ·exact errL_szB _
theorem nmb_szB {r : Int × Int} (h0 : -9223372036854775808 ≤ r.1) (h1 : r.1 ≤ 9223372036854775807) : szB (nmb r) := by
 unfold nmb
 split
 ·exact szB_one (by have := dec_len h0 h1; omega)
 ·exact errL_szB _
theorem okLine_size {n : Nat} (h : n ≤ 100000) : (okLine n).size ≤ 100 := by
 have := dec_len (n := (n : Int)) (by omega) (by omega)
 have e : (⟨#[111, 107, 32]⟩ : ByteArray).size = 3 := rfl
 rw [okLine, ByteArray.size_append]
 omega
theorem dkTextV_size {d : DeskD} (hv : vDesk d = true) : (dkTextV d).size ≤ 100 := by
 obtain ⟨v1, v2, v3, v4⟩ := vDesk_inv hv
 have b1 := vBsk_bars v1
 have b2 := (vStops_inv v2).1
 have b3 := (vDrills_inv v3).1
 have hz1 := dec_len (n := d.b.bars) (by omega) (by omega)
 have hz2 := dec_len (n := (d.stops.length : Int)) (by omega) (by omega)
 have hz3 := dec_len (n := (d.drills.length : Int)) (by omega) (by omega)
 have z1 : (⟨#[32, 98, 97, 114, 115, 44, 32]⟩ : ByteArray).size = 7 := rfl
 have z2 : (⟨#[32, 115, 116, 111, 112, 115, 44, 32]⟩ : ByteArray).size = 8 := rfl
 have z3 : (⟨#[32, 100, 114, 105, 108, 108, 115]⟩ : ByteArray).size = 7 := rfl
 simp only [dkTextV, ByteArray.size_append]
 omega
theorem dkText_szB {d : DeskD} (hv : vDesk d = true) : szB [dkText d] := szB_one (by rw [dkText_ok hv]; have := dkTextV_size hv; omega)
theorem bs_sz (l : List UInt8) : (⟨l.toArray⟩ : ByteArray).size = l.length := bs_size l
theorem alnR_size (a b : ByteArray) : (alnR a b).1.size ≤ 1000 := by
 unfold alnR
 split
 ·rename_i h
  rw [Bool.and_eq_true] at h
  have h1 := (txtB_inv h.1).1
  have h2 := (txtB_inv h.2).1
  have := alnA_len a b 0 0
  rw [bs_sz]; omega
 ·decide
theorem rowR_size (l : List Int) (s : ByteArray) : (rowR l s).1.size ≤ 1000 := by
 unfold rowR
 split
 ·split
  ·rename_i h
   have h1 := isRow_len h
   have h2 := rowA_len l s.data.toList 0 0 (by omega) (by rw [bsz]; omega)
   rw [bsz] at h2
   rw [bs_sz]; omega
  ·decide
 ·decide
theorem dlR_size (d : Drill) (n : Int) : (dlR d n).1.size ≤ 1000 := by
 unfold dlR
 split
 ·split
  ·rename_i h
   have h1 := btw_true h
   rw [bs_sz]
   unfold dlA
   split
   ·rw [dlU_len]; omega
   ·rw [dlU_len]; omega
  ·decide
 ·decide
theorem setU_size {ws : List ByteArray} {left gaps : Int} (h0 : 0 ≤ left) (h1 : left ≤ 1000) (h2 : 1 ≤ gaps) (hw : ∀ i, i < ws.length → (wd ws i).size ≤ 100) : ∀ i, i < ws.length → (setU ws left gaps i).length ≤ 100 + 1200 * i
 | 0, h => by rw [setU, bsz]; exact hw 0 h
 | i + 1, h => by
  have ih := setU_size h0 h1 h2 hw i (by omega)
  have h3 := hw (i + 1) h
  have h4 : left / gaps ≤ 1000 := Int.le_trans (Int.ediv_le_self _ h0) h1
  have h5 : gapN left gaps (i + 1) ≤ 1002 := by unfold gapN; split <;> omega
  rw [setU, List.length_append, List.length_append, List.length_replicate, bsz]
  omega
theorem setR_size (ws : List ByteArray) (n : Int) : (setR ws n).1.size ≤ 100000 := by
 unfold setR
 split
 ·rename_i hv
  simp only [vText, Bool.and_eq_true, decide_eq_true_eq, List.all_eq_true, List.mem_range] at hv
  obtain ⟨⟨h1, h2⟩, h3⟩ := hv
  have h1 := btw_true h1
  have hw : ∀ i, i < ws.length → (wd ws i).size ≤ 100 := fun i hi => by
   have := h3 i hi
   simp only [wordB, Bool.and_eq_true, decide_eq_true_eq] at this
   omega
  split
  ·decide
  ·split
   ·decide
   ·rename_i h4 h5
    have hl : 0 ≤ longL ws := by unfold longL; split <;> omega
    rw [bs_sz]
    unfold setA
    split
    ·rename_i h6
     have := hw 0 (by omega)
     rw [List.length_append, List.length_replicate, bsz]
     omega
    ·have := setU_size (left := n - longL ws) (gaps := (ws.length : Int) - 1) (by omega) (by omega) (by omega) hw (ws.length - 1) (by omega)
     omega
 ·decide
theorem codeOut_szB {two : List ByteArray → ByteArray × Int} (h2 : TwoOk two) (ws : List ByteArray) : szB (codeOut (two ws)) := by
 unfold codeOut
 split
 ·exact szB_one (by decide)
 ·exact sent_szB (by have := two_size h2 ws; omega)
theorem mrkR_bd2 (a b : ByteArray) : 0 ≤ (mrkR a b).1 ∧ (mrkR a b).1 ≤ 10 := by
 have key : ∀ (e n : Int) (f : Nat) (t m : Int), m ≤ markL e n f t m ∧ markL e n f t m ≤ m + f := fun e n f => by
  induction f with
  | zero => intro t m; exact ⟨Int.le_refl _, by simp [markL]⟩
  | succ f ih => intro t m; have := ih (t * 2) (m + 1); rw [markL]; split <;> omega
 have h := key (cst a b 0 0) a.size 5 1 1
 have e : mrk a b = markL (cst a b 0 0) a.size 5 1 1 := rfl
 unfold mrkR
 (repeat' split) <;> (try rw [e]) <;> (first | decide | omega)
theorem ents_szB {d : DeskD} (hv : vDesk d = true) : szB ((entsL d.log).map ewords ++ [okLine (entsL d.log).length]) := by
 have h1 := entsL_len (vDesk_inv hv).2.2.2
 refine szB_many (by rw [List.length_append, List.length_map, List.length_singleton]; omega) fun x hx => ?_
 rw [List.mem_append, List.mem_singleton] at hx
 rcases hx with hx | rfl
 ·rw [List.mem_map] at hx
  obtain ⟨y, hy, rfl⟩ := hx
  have := ewords_len (entsL_ok _ y hy)
  omega
 ·have := okLine_size (n := (entsL d.log).length) (by omega)
  omega
theorem drs_szB {d : DeskD} (hv : vDesk d = true) : szB (d.drills.map drText ++ [okLine d.drills.length]) := by
 have h1 := (vDrills_inv (vDesk_inv hv).2.2.1).1
 refine szB_many (by rw [List.length_append, List.length_map, List.length_singleton]; omega) fun x hx => ?_
 rw [List.mem_append, List.mem_singleton] at hx
 rcases hx with hx | rfl
 ·rw [List.mem_map] at hx
  obtain ⟨y, hy, rfl⟩ := hx
  unfold drText
  split
  ·rename_i h
   have := drTextV_len h
   omega
  ·decide
 ·have := okLine_size (n := d.drills.length) (by omega)
  omega
theorem doK_size {two : List ByteArray → ByteArray × Int} (h2 : TwoOk two) {d : DeskD} (ws : List ByteArray) (k : Nat) (hv : vDesk d = true) : szB (doK two d ws k).2 := by
 obtain ⟨v1, v2, v3, v4⟩ := vDesk_inv hv
 unfold doK
 split
 ·exact sent_szB (by have := alnR_size (wd ws 1) (wd ws 2); omega)
 ·split
  ·exact errL_szB _
  ·split
   ·rename_i h
    exact dkText_szB (vDesk_of h v2 v3 v4)
   ·exact errL_szB _
 ·exact codeOut_szB h2 _
 ·split
  ·exact errL_szB _
  ·split
   ·rename_i h
    exact dkText_szB (vDesk_of v1 v2 (addD_valid h) v4)
   ·exact errL_szB _
 ·exact drs_szB hv
 ·split
  ·exact errL_szB _
  ·rename_i l hl
   split
   ·have h9 := vaR_bd (adR d.log ⟨num l 0, wd ws 2, num l 1⟩).1 (wd ws 2)
    have hb := sumI'_bd (B := 1000000000) (by omega) h9.2 _ (Nat.le_refl _)
    rw [sumI', List.take_length] at hb
    generalize vaR (adR d.log ⟨num l 0, wd ws 2, num l 1⟩).1 (wd ws 2) = V at h9 hb ⊢
    have h10 : (1000000000 : Int) * (V.1.length : Int) ≤ 1000000000 * 4000 := by omega
    exact nmb_szB (by show _ ≤ sumI V.1; omega) (by show sumI V.1 ≤ _; omega)
   ·exact errL_szB _
 ·split
  ·exact errL_szB _
  ·rename_i l hl
   have := tfR_bd d.b l
   exact nmb_szB (by omega) (by omega)
 ·split
  ·split
   ·exact errL_szB _
   ·rename_i x hx
    exact sent_szB (by have := dlR_size x (sval (wd ws 2)); omega)
  ·exact errL_szB _
 ·exact ents_szB hv
 ·have := mrkR_bd2 (wd ws 1) (wd ws 2)
  exact nmb_szB (by omega) (by omega)
 ·exact sent_szB (by have := rowR_size d.stops (restW ws 1); omega)
 ·split
  ·exact sent_szB (setR_size _ _)
  ·exact errL_szB _
 ·split
  ·exact errL_szB _
  ·split
   ·rename_i h
    exact dkText_szB (vDesk_of v1 h v3 v4)
   ·exact errL_szB _
 ·split
  ·exact errL_szB _
  ·rename_i l hl
   have := mwR_bd d.b (num l 0) (num l 1)
   exact nmb_szB (by omega) (by omega)
theorem doL_size {two : List ByteArray → ByteArray × Int} (h2 : TwoOk two) {d : DeskD} {s : ByteArray} {r : DeskD × List ByteArray} (hv : vDesk d = true) (h : doL two d s = some r) : szB r.2 := by
 unfold doL at h
 split at h
 ·injection h with h
  rw [← h]
  exact doK_size h2 _ _ hv
 ·cases h
theorem own_tne {w : World} {B B' e e' size size' n n' : Nat} {v v' : Value} {xs xs' : List Value} (h : w.ownsRow B e size v n xs) (h' : w.ownsRow B' e' size' v' n' xs') (hne : e ≠ e') : v.ownBlock = none ∨ v.ownBlock ≠ v'.ownBlock := by
 rcases h.2 with ⟨rfl, _⟩ | ⟨g, cap, cur, rfl, _, hgg, _⟩
 ·exact .inl rfl
 ·rcases h'.2 with ⟨rfl, _⟩ | ⟨g', cap', cur', rfl, _, hgg', _⟩
  ·exact .inr (by simp [Value.ownBlock])
  ·refine .inr fun he => ?_
   simp only [Value.ownBlock, Option.some.injEq] at he
   subst he
   rw [hgg] at hgg'
   simp only [Option.some.injEq, Obj.cells.injEq] at hgg'
   exact hne hgg'.2.1
theorem blk_tne {w : World} {B e size n p : Nat} {t : TypeId} {v : Value} {xs : List Value} {cs : Array Value} (hb : Blk w p t cs) (h : w.ownsRow B e size v n xs) (hne : e ≠ t) : some p ≠ v.ownBlock := by
 rcases h.2 with ⟨rfl, _⟩ | ⟨g, cap, cur, rfl, _, hgg, _⟩
 ·simp [Value.ownBlock]
 ·intro he
  simp only [Value.ownBlock, Option.some.injEq] at he
  subst he
  unfold Blk at hb
  rw [hgg] at hb
  simp only [Option.some.injEq, Obj.cells.injEq] at hb
  exact hne hb.2.1
theorem wpl_appG {P : Program} {w : World} {ops : Array Oper} {rest : List Oper} {o : Oper} {a : Act} {Q : Exit → Act → World → Prop} (hgd : o.guard = none) (sl x : Operand) (t u : TypeId)
  (ho : o.op = .call { callee := .builtin .append, args := #[sl, x], argTypes := #[t, u] })
  (base : Nat) (e : TypeId) (el : ElemOf P t e (.int .u8 0) 1 1) (hu : P.underlying u = some .string)
  (A : Option Addr) (c : Nat) (l : List UInt8) (hs : a.eval sl = .slice A l.length c) (hown : w.ownsRow base e 1 (.slice A l.length c) l.length (Lib.byteCells l)) (s : ByteArray) (hx : a.eval x = .string s)
  (h63 : l.length + s.size ≤ 100000000) (hbase : base ≤ w.heap.size)
  (h : ∀ A' c' l' w', Hid (l' = l ++ s.data.toList) → w'.ownsRow base e 1 (.slice A' l'.length c') l'.length (Lib.byteCells l') → w.grownBy w' (Value.slice A l.length c).ownBlock → wpList P ops Q rest (a.put o.dst (.slice A' l'.length c')) w') : wpList P ops Q (o :: rest) a w := by
 obtain ⟨ht, _, _, i, hi, hz, hsize, hby⟩ := el
 refine Lib.wpList_append_own_string (w := w) hgd sl x t u ho base e i ht hu hi hz hsize hby _ _ _ hs hown s hx (by unfold maxLen; omega) (by omega) hbase fun v' w' h2 h3 _ => ?_
 obtain ⟨A', c', rfl⟩ := own_shape h2
 have e1 : l.length + s.size = (l ++ s.data.toList).length := by rw [List.length_append]; rfl
 have e2 : Lib.byteCells l ++ Lib.strCells s = Lib.byteCells (l ++ s.data.toList) := by
  rw [Lib.strCells_eq]; simp [Lib.byteCells]
 rw [e1, e2] at h2
 rw [e1]
 exact h A' c' _ w' (hd_ rfl) h2 h3
theorem wpl_appW {w : World} {ops : Array Oper} {rest : List Oper} {o : Oper} {a : Act} {Q : Exit → Act → World → Prop} (hgd : o.guard = none) (sl x : Operand)
  (ho : o.op = .call { callee := .builtin .append, args := #[sl, x], argTypes := #[24, 24] })
  (base : Nat) (A : Option Addr) (c : Nat) (l : List ByteArray) (hs : a.eval sl = .slice A l.length c) (hown : w.ownsRow base 9 1 (.slice A l.length c) l.length (strs l)) (s : ByteArray) (p : Nat) (hx : a.eval x = .slice (some ⟨p, 0, none⟩) 1 1)
  (hp : w.cell? ⟨p, 0, none⟩ = some (.string s)) (h63 : l.length ≤ 100000000) (hbase : base ≤ w.heap.size) (H : Nat) (hH : w.heap.size = H)
  (h : ∀ g c' l' w', Hid (l' = l ++ [s]) → w'.ownsRow base 9 1 (.slice (some ⟨g, 0, none⟩) l'.length c') l'.length (strs l') → w.grownBy w' (Value.slice A l.length c).ownBlock → ((Value.slice A l.length c).ownBlock = some g ∨ g = H) → g < w'.heap.size → wpList Tryz.prog ops Q rest (a.put o.dst (.slice (some ⟨g, 0, none⟩) l'.length c')) w') : wpList Tryz.prog ops Q (o :: rest) a w := by
 obtain ⟨ht, hzs, hsz, i, hi, hz, hsize, hby⟩ := el_str
 refine wpList_append_lies w hgd sl x 24 ho base 9 i _ 1 16 ht hi hz hsize hby hzs hsz _ _ _ hs hown ⟨p, 0, none⟩ 1 1 [.string s] hx rfl (fun j u hj => ?_) (fun u hu => by simp at hu; subst hu; rfl) (by omega) (by unfold maxLen; omega) (by omega) hbase H hH fun g cap w' h2 h3 h4 h5 => ?_
 ·cases j with
  | zero => simp at hj; subst hj; exact hp
  | succ j => simp at hj
 ·have e1 : l.length + 1 = (l ++ [s]).length := by simp
  have e2 : strs l ++ [Value.string s] = strs (l ++ [s]) := by simp [strs]
  rw [e1, e2] at h2
  rw [e1]
  exact h g cap _ w' (hd_ rfl) h2 h3 h4 h5
theorem blk_all8 {V : World} {q : Nat} {t : TypeId} {x0 x1 x2 x3 x4 x5 x6 x7 : Value} (h : Blk V q t #[x0, x1, x2, x3, x4, x5, x6, x7]) (u0 u1 u2 u3 u4 u5 u6 u7 : Value) : Blk (put8 V q u0 u1 u2 u3 u4 u5 u6 u7) q t #[u0, u1, u2, u3, u4, u5, u6, u7] := by
 have h0 : Blk _ q t #[u0, x1, x2, x3, x4, x5, x6, x7] := h.put 0 u0
 have h1 : Blk _ q t #[u0, u1, x2, x3, x4, x5, x6, x7] := h0.put 1 u1
 have h2 : Blk _ q t #[u0, u1, u2, x3, x4, x5, x6, x7] := h1.put 2 u2
 have h3 : Blk _ q t #[u0, u1, u2, u3, x4, x5, x6, x7] := h2.put 3 u3
 have h4 : Blk _ q t #[u0, u1, u2, u3, u4, x5, x6, x7] := h3.put 4 u4
 have h5 : Blk _ q t #[u0, u1, u2, u3, u4, u5, x6, x7] := h4.put 5 u5
 have h6 : Blk _ q t #[u0, u1, u2, u3, u4, u5, u6, x7] := h5.put 6 u6
 exact h6.put 7 u7
theorem put8_far (V : World) {b q : Nat} (hb : b ≠ q) (u0 u1 u2 u3 u4 u5 u6 u7 : Value) : (put8 V q u0 u1 u2 u3 u4 u5 u6 u7).heap[b]? = V.heap[b]? := by
 unfold put8
 rw [Below.heap_setCell _ _ _ b hb, Below.heap_setCell _ _ _ b hb, Below.heap_setCell _ _ _ b hb, Below.heap_setCell _ _ _ b hb, Below.heap_setCell _ _ _ b hb, Below.heap_setCell _ _ _ b hb, Below.heap_setCell _ _ _ b hb, Below.heap_setCell _ _ _ b hb]
theorem own_put8 {V : World} {base e size n q : Nat} {t : TypeId} {v : Value} {xs : List Value} {cs : Array Value} (h : V.ownsRow base e size v n xs) (hb : Blk V q t cs) (hne : e ≠ t) (u0 u1 u2 u3 u4 u5 u6 u7 : Value) : (put8 V q u0 u1 u2 u3 u4 u5 u6 u7).ownsRow base e size v n xs := by
 have h9 := blk_tne hb h hne
 refine ⟨h.1, ?_⟩
 rcases h.2 with h2 | ⟨g, cap, cur, rfl, hg, hgg, r⟩
 ·exact .inl h2
 ·refine .inr ⟨g, cap, cur, rfl, hg, ?_, r⟩
  rw [put8_far V (fun e => h9 (by rw [e]; rfl))]
  exact hgg
structure RK (w V : World) (p : Nat) (D : DeskD) (A1 B1 : Option Addr) (c1 e1 : Nat) (A : Option Addr) (c : Nat) (O : List UInt8) : Prop where
 bx : Blk V p 31 (dkcs D A1 B1 c1 e1)
 dw : DOwn w.heap.size V D A1 B1 c1 e1
 ow : V.ownsRow w.heap.size 5 1 (.slice A O.length c) O.length (Lib.byteCells O)
 up : UpOf w V
 hp : w.heap.size ≤ p
section
variable {w V V' : World} {p : Nat} {D : DeskD} {A1 B1 : Option Addr} {c1 e1 : Nat} {A : Option Addr} {c : Nat} {O : List UInt8}
theorem RK.below (h : RK w V p D A1 B1 c1 e1 A c O) (hb : Below V.heap.size V V') : RK w V' p D A1 B1 c1 e1 A c O :=
 ⟨h.bx.up ⟨V', hb⟩, ⟨own_below h.dw.1 hb, own_below h.dw.2 hb⟩, own_below h.ow hb, h.up.tr hb, h.hp⟩
theorem RK.app {A' : Option Addr} {c' : Nat} {O' : List UInt8} (h : RK w V p D A1 B1 c1 e1 A c O) (hg : V.grownBy V' (Value.slice A O.length c).ownBlock)
  (ho : V'.ownsRow w.heap.size 5 1 (.slice A' O'.length c') O'.length (Lib.byteCells O')) : RK w V' p D A1 B1 c1 e1 A' c' O' :=
 ⟨h.bx.grown hg (blk_tne h.bx h.ow (by decide)), ⟨h.dw.1.kept hg (own_tne h.dw.1 h.ow (by decide)), h.dw.2.kept hg (own_tne h.dw.2 h.ow (by decide))⟩, ho,
  up_of_grown h.up.below hg fun k hk => (h.ow.lt k hk).1, h.hp⟩
theorem RK.put {D' : DeskD} {A' B' : Option Addr} {c' e' : Nat} (h : RK w V p D A1 B1 c1 e1 A c O) (hd : DOwn w.heap.size V D' A' B' c' e') :
  RK w (put8 V p (i64 D'.b.bars) (i64 D'.b.rise) (i64 D'.b.fall) (i64 D'.b.clr) (i64 D'.b.near) (.slice A' D'.stops.length c') (.slice B' D'.drills.length e') (.string D'.log)) p D' A' B' c' e' A c O :=
 ⟨blk_all8 h.bx _ _ _ _ _ _ _ _, ⟨own_put8 hd.1 h.bx (by decide) _ _ _ _ _ _ _ _, own_put8 hd.2 h.bx (by decide) _ _ _ _ _ _ _ _⟩, own_put8 h.ow h.bx (by decide) _ _ _ _ _ _ _ _, put8_up h.up h.hp _ _ _ _ _ _ _ _, h.hp⟩
theorem RK.rows {X : Option Addr} {n : Nat} {L : List ByteArray} (h : RK w V p D A1 B1 c1 e1 A c O) (hg : V.grownBy V' (Value.slice A O.length c).ownBlock)
  (hx : V.ownsRow w.heap.size 9 1 (.slice X L.length n) L.length (strs L)) : V'.ownsRow w.heap.size 9 1 (.slice X L.length n) L.length (strs L) := hx.kept hg (own_tne hx h.ow (by decide))
end
theorem outB_drop {L : List ByteArray} {j : Nat} (h : j < L.length) : outB (L.drop j) = (wd L j).data.toList ++ [10] ++ outB (L.drop (j + 1)) := by
 rw [List.drop_eq_getElem_cons h, outB_cons, wd_eq h]
theorem outB_ge : ∀ l : List ByteArray, l.length ≤ (outB l).length
 | [] => by simp
 | x :: l => by
  have := outB_ge l
  rw [outB_cons, List.length_append, List.length_append, List.length_cons, List.length_singleton]
  omega
theorem runDesk_any {two : List ByteArray → ByteArray × Int} (h2 : TwoOk two) (s : ByteArray) (w : World) (hs : s.size ≤ 1048576) (ht : Tab w) :
  Calls Tryz.prog 12 #[.string s] w fun e w' => e = .returned (.string (runR two s)) ∧ UpOf w w' := by
 have HT := hd_ ht
 obtain ⟨FIN, hFIN⟩ : ∃ F, runL two 60 dk0 (linesOf s) = F := ⟨_, rfl⟩
 have hRR : runR two s = ⟨FIN.toArray⟩ := by rw [runR, hFIN]
 rw [hRR]
 have HFIN0 := hd_ hFIN
 clear hRR hFIN ht
 go_enter Tryz.func12, Tryz.ntmps12
 go_upto_region 2 with (go_at_call 8; refine (newDeskI_any _).mono ?_; rintro r w' ⟨rfl, g0, rfl⟩; have hB9 : Blk (up w ((g0.al (.cells #[] 5)).al (.cells zc 31))) ((up w g0).heap.size + 1) 31 zc := blk_new1' _ _ _ _; obtain ⟨hp9, x0, x1, x2, x3, x4, x5, x6, x7⟩ := hB9.eight; obtain ⟨f0, f1, f2, f3, f4, f5, f6, f7⟩ := hB9.open8)
 obtain ⟨p, hp⟩ : ∃ p, (up w g0).heap.size + 1 = p := ⟨_, rfl⟩
 have hb0 : Blk ((((up w g0).alloc (.cells #[] 5)).alloc (.cells zc 31))) p 31 zc := by
  rw [← hp]; exact blk_new1' _ _ _ _
 have ho0 : ((((up w g0).alloc (.cells #[] 5)).alloc (.cells zc 31))).ownsRow w.heap.size 5 1 (.slice (some ⟨(up w g0).heap.size, 0, none⟩) 0 0) 0 [] := own_below (World.ownsRow_lit (base := w.heap.size) (e := 5) (size := 1) (up w g0) #[] 0 (up_below w g0).size (by unfold maxLen; omega) rfl) (bl_alloc (Below.refl _ _) _)
 have hpw : w.heap.size ≤ p := by have := (up_below w g0).size; omega
 have hu0 : UpOf w ((((up w g0).alloc (.cells #[] 5)).alloc (.cells zc 31))) := uw_
 have RK0 := hd_ (show RK w (put8 ((((up w g0).alloc (.cells #[] 5)).alloc (.cells zc 31))) p (i64 dk0.b.bars) (i64 dk0.b.rise) (i64 dk0.b.fall) (i64 dk0.b.clr) (i64 dk0.b.near) (.slice none dk0.stops.length 0) (.slice none dk0.drills.length 0) (.string dk0.log)) p dk0 none none 0 0 (some ⟨(up w g0).heap.size, 0, none⟩) 0 [] from
  ⟨blk_all8 hb0 _ _ _ _ _ _ _ _, ⟨own_put8 ⟨rfl, .inl ⟨rfl, rfl⟩⟩ hb0 (by decide) _ _ _ _ _ _ _ _, own_put8 ⟨rfl, .inl ⟨rfl, rfl⟩⟩ hb0 (by decide) _ _ _ _ _ _ _ _⟩, own_put8 ho0 hb0 (by decide) _ _ _ _ _ _ _ _, put8_up hu0 hpw _ _ _ _ _ _ _ _, hpw⟩)
 refine wpg (R := fun U => Hid (RK w U p dk0 none none 0 0 (some ⟨(up w g0).heap.size, 0, none⟩) 0 [])) (by rw [hp]; exact RK0) (fun U HK0 => ?_)
 generalize (some (⟨(up w g0).heap.size, 0, none⟩ : Addr)) = A0 at HK0 ⊢
 rw [hp]
 clear RK0 hu0 hpw ho0 hb0 hp hB9 hp9 x0 x1 x2 x3 x4 x5 x6 x7 f0 f1 f2 f3 f4 f5 f6 f7 g0
 go_wp2_with fail
 go_loopw [0, 4, 5] (fun tx o k wr => ∃ (T : ByteArray) (A : Option Addr) (c : Nat) (O : List UInt8) (n : Nat) (D : DeskD) (A1 B1 : Option Addr) (c1 e1 : Nat), tx = .string T ∧ o = .slice A O.length c ∧ k = i64 n ∧ n ≤ 60 ∧ T.size ≤ 1048576 ∧ Hid (O.length ≤ 500000 * n) ∧ Hid (vDesk D = true) ∧ Hid (FIN = O ++ runL two (60 - n) D (linesOf T)) ∧ Hid (RK w wr p D A1 B1 c1 e1 A c O)) (fun _ _ k _ => 61 - (intOf k).toNat)
 case atStart => exact ⟨s, A0, 0, [], 0, dk0, none, none, 0, 0, rfl, rfl, rfl, by omega, hs, hd_ (by simp), hd_ dk0_ok, hd_ (by rw [HFIN0.out]; rfl), HK0⟩
 case round =>
  obtain ⟨T, A, c, O, n, D, A1, B1, c1, e1, rfl, rfl, rfl, hn, hT, HOS, HV, HFIN, HK⟩ := hrel
  clear HK0 HFIN0
  by_cases hT0 : T.size = 0
  ·have he := isEmpty_yes hT0
   have hT1 : T = ⟨#[]⟩ := ba_ext (by
    have : T.data.toList = [] := List.eq_nil_of_length_eq_zero (by rw [bsz]; exact hT0)
    rw [this])
   have hF : Hid (FIN = O) := hd_ (by
    have := HFIN.out
    rw [hT1, linesOf_nil] at this
    rw [this]
    unfold runL
    simp)
   have cv := conv_own (w := wr) (w1 := wr) HK.out.ow rfl (Below.refl _ _)
   clear hT1
   go_wp2_with fail
   go_ret
   rw [hF.out]
   exact ⟨rfl, HK.out.up⟩
  ·have he := isEmpty_no (s := T) (by omega)
   by_cases hn60 : n = 60
   ·subst hn60
    have hF : Hid (FIN = O ++ outB [errL 5]) := hd_ (by
     rw [HFIN.out]
     refine congrArg _ ?_
     cases hl : linesOf T with
     | nil =>
      exfalso
      cases hc : (cutA 10 [] T.data.toList).2.2 with
      | true => rw [linesOf_cut hc] at hl; cases hl
      | false => rw [linesOf_last hc (fun e => hT0 (by rw [← bsz, e]; rfl))] at hl; cases hl
     | cons x l => rfl)
    have cv := conv_own (w := wr) (w1 := wr) HK.out.ow rfl (Below.refl _ _)
    have hOl := HOS.out
    have es : ∀ V, (Op.stringOp .add (⟨O.toArray⟩ : ByteArray) ⟨#[101, 114, 114, 111, 114, 32, 102, 117, 108, 108, 10]⟩).run Tryz.prog V = .ok (.string ((⟨O.toArray⟩ : ByteArray) ++ ⟨#[101, 114, 114, 111, 114, 32, 102, 117, 108, 108, 10]⟩)) V := fun V => run_string_add_sum V _ _ (by rw [bs_sz]; have : (⟨#[101, 114, 114, 111, 114, 32, 102, 117, 108, 108, 10]⟩ : ByteArray).size = 11 := rfl; omega)
    clear hOl
    go_wp2_with fail
    go_ret
    refine ⟨?_, HK.out.up⟩
    rw [hF.out]
    refine congrArg Ending.returned (congrArg Value.string (ba_ext ?_))
    simp [ByteArray.data_append]
    rfl
   ·have hn59 : n < 60 := by omega
    have hnb : ((n : Int) == 60) = false := by rw [beq_eq_false_iff_ne]; omega
    have HN60 := hd_ hn59
    obtain ⟨X0, hX0⟩ : ∃ X, (cutA 10 [] T.data.toList).1 = X := ⟨_, rfl⟩
    obtain ⟨T2, hT2⟩ : ∃ X, (cutA 10 [] T.data.toList).2.1 = X := ⟨_, rfl⟩
    obtain ⟨F, hF⟩ : ∃ X, (cutA 10 [] T.data.toList).2.2 = X := ⟨_, rfl⟩
    have HCUT : Hid (∀ V, Calls Tryz.prog 42 #[.string T, .string ⟨#[10]⟩] V fun e w' => e = .returned (.tuple #[.string X0, .string T2, .bool F]) ∧ UpOf V w') := hd_ fun V => by
     have := cut_any T ⟨#[10]⟩ 10 rfl V (by omega)
     rw [hX0, hT2, hF] at this
     exact this
    have hsz := cutA_size 10 T.data.toList []
    rw [hX0, hT2, bsz] at hsz
    simp only [List.length_nil, Nat.zero_add] at hsz
    obtain ⟨hX0s, hT2s⟩ := hsz
    have HL : Hid (linesOf T = X0 :: linesOf T2) := hd_ (by
     cases F with
     | true => rw [linesOf_cut hF, hX0, hT2]
     | false =>
      have h9 := cutA_none _ (cutA_no 10 _ _ hF)
      rw [h9] at hX0 hT2
      rw [linesOf_last hF (fun e => hT0 (by rw [← bsz, e]; rfl)), ← hX0, ← hT2, bs_of]
      rfl)
    have HXT : Hid ((F = true ∧ ¬ X0 = T) ∨ (F = false ∧ X0 = T ∧ T2 = ⟨#[]⟩)) := hd_ (by
     cases F with
     | true =>
      refine .inl ⟨rfl, fun e => ?_⟩
      have h9 := congrArg List.length (cut_split hF).1
      rw [List.length_append, List.length_cons, hX0, e] at h9
      omega
     | false =>
      have h9 := cutA_none _ (cutA_no 10 _ _ hF)
      rw [h9] at hX0 hT2
      exact .inr ⟨rfl, by rw [← hX0, bs_of], hT2.symm⟩)
    clear hX0 hT2 hF
    go_upto_if 33 with (go_at_call 42; refine (HCUT.out _).mono ?_; rintro r w' ⟨rfl, g1, rfl⟩)
    have HK1 := hd_ (HK.out.below (up_below wr g1))
    go_cut [7] (fun z V => z = .string T2 ∧ Hid (RK w V p D A1 B1 c1 e1 A c O))
    case first =>
     rcases HXT.out with ⟨hF9, hne⟩ | ⟨hF9, he2, hT9⟩
     ·have hq := tl_tne hne
      clear hF9 hne
      rw [hq]
      go_wp2_with fail
      go_meet
      exact ⟨rfl, HK1⟩
     ·have hq := tl_teq he2
      have HT9 := hd_ hT9
      clear hF9 he2 hT9
      rw [hq]
      go_wp2_with fail
      go_meet
      exact ⟨by rw [HT9.out], HK1⟩
    case rest =>
     obtain ⟨rfl, HK2⟩ := hcut
     clear HK HK1 HCUT HXT he hT0
     obtain ⟨hpV, x0, x1, x2, x3, x4, x5, x6, x7⟩ := HK2.out.bx.eight
     have HDC := hd_ (deskCmd_any h2 D A1 B1 c1 e1 X0 wc (by omega) (DOwn.see HK2.out.dw) (dkSz_of HV.out (own_capD HK2.out.dw.2)) HV.out (HT.out.below HK2.out.up.below))
     have HEQ0 : Hid (runL two (60 - n) D (linesOf T) = runL two (59 - n + 1) D (X0 :: linesOf T2)) := hd_ (by rw [HL.out, show 60 - n = 59 - n + 1 by omega])
     clear HL
     cases hdo : doL two D X0 with
     | none =>
      obtain ⟨L2, hL2⟩ : ∃ L : List ByteArray, L = [⟨#[63]⟩] := ⟨_, rfl⟩
      have HEQ : Hid (runL two (60 - n) D (linesOf T) = outB L2 ++ runL two (60 - (n + 1)) D (linesOf T2)) := hd_ (by
       rw [HEQ0.out, hL2, show 60 - (n + 1) = 59 - n by omega, runL, hdo])
      have HSZ : Hid (szB L2) := hd_ (by rw [hL2]; exact szB_one (by decide))
      have HV2 := HV
      clear HEQ0
      go_wp2_with fail
      refine HDC.out.mono ?_
      rintro r w' hr
      rw [hdo] at hr
      obtain ⟨rfl, g2, rfl⟩ := hr
      go_upto_if 43 with (fail)
      refine wpg (R := fun U => Hid (RK w U p D A1 B1 c1 e1 A c O)) (hd_ (HK2.out.below bw_)) (fun U HK3 => ?_)
      generalize (up wc g2).heap.size = q9
      clear HDC HK2 x0 x1 x2 x3 x4 x5 x6 x7 hpV g2
      go_cut [10] (fun z V => ∃ X nX, z = .slice X L2.length nX ∧ Hid (RK w V p D A1 B1 c1 e1 A c O) ∧ Hid (V.ownsRow w.heap.size 9 1 (.slice X L2.length nX) L2.length (strs L2)))
      case first =>
       go_wp2_with fail
       go_meet
       exact ⟨some ⟨U.heap.size, 0, none⟩, 1, by rw [hL2]; rfl, hd_ (HK3.out.below bw_), hd_ (by rw [hL2]; exact World.ownsRow_lit (base := w.heap.size) (e := 9) (size := 1) U #[.string ⟨#[63]⟩] 1 HK3.out.up.below.size (by unfold maxLen; omega) rfl)⟩
      case rest =>
       clear HK3 hL2
       obtain ⟨X, nX, rfl, HK, HX⟩ := hcut
       have hL2n : L2.length ≤ 500000 := Nat.le_trans (outB_ge L2) HSZ.out
       go_wp2_with fail
       go_loopw [4, 48] (fun o k wr => ∃ (j : Nat) (A' : Option Addr) (c' : Nat) (O' : List UInt8), j ≤ L2.length ∧ k = i64 j ∧ o = .slice A' O'.length c' ∧ Hid (O' ++ outB (L2.drop j) = O ++ outB L2) ∧ Hid (RK w wr p (D) A1 B1 c1 e1 A' c' O') ∧ Hid (wr.ownsRow w.heap.size 9 1 (.slice X L2.length nX) L2.length (strs L2))) (fun _ k _ => L2.length - (intOf k).toNat)
       case atStart => exact ⟨0, A, c, O, by omega, rfl, rfl, hd_ rfl, HK, HX⟩
       case round =>
        obtain ⟨j, A', c', O', hj, rfl, rfl, HE, HKr, HXr⟩ := hrel
        clear HK HX
        by_cases hlt : j < L2.length
        ·have hlt' : (j : Int) < (L2.length : Int) := by omega
         obtain ⟨bX, oX, rfl, hbX, hcX⟩ := wd_at (Rds.of_own HXr.out) hlt
         have hc0 := hcX j hlt
         have hE2 := HE.out
         rw [outB_drop hlt, ← List.append_assoc, ← List.append_assoc] at hE2
         have HEN := hd_ hE2
         have hsz : O'.length + (wd L2 j).size + 1 ≤ 100000000 := by
          have h1 := congrArg List.length hE2
          simp only [List.length_append, List.length_singleton, bsz] at h1
          have h2 := HSZ.out
          simp only [szB] at h2
          have h3 := HOS.out
          have h4 := HN60.out
          omega
         clear hE2 hcX
         obtain ⟨S, hS⟩ : ∃ S, wd L2 j = S := ⟨_, rfl⟩
         rw [hS] at hc0 hsz HEN
         clear hS
         go_wp2_with (first | (at_builtin; (refine wpl_appG rfl _ _ 22 9 rfl w.heap.size 5 el_byte Tryz.underlying9 A' c' O' rfl HKr.out.ow S rfl (by omega) HKr.out.up.below.size ?_); intro A3 c3 O3 W3 HO3 o3 g3; have HK3 := hd_ (HKr.out.app g3 o3); have HX3 := hd_ (HKr.out.rows g3 HXr.out); clear o3 g3 hc0) | (at_builtin; go_must (refine wpl_app rfl _ _ 22 rfl w.heap.size 5 (.int .u8 0) 1 1 el_byte (.slice A3 O3.length c3) O3.length (Lib.byteCells O3) rfl ((HK3.out.below (bl_alloc (Below.refl _ _) _)).ow) (some ⟨W3.heap.size, 0, none⟩) 1 1 [.int .u8 10] rfl (rds_new _ #[.int .u8 10] _ 1 1 rfl) (fun u hu => by simp at hu; subst hu; rfl) (by unfold maxLen; have h9 := congrArg List.length HO3.out; rw [List.length_append, bsz] at h9; omega) (by have h9 := congrArg List.length HO3.out; rw [List.length_append, bsz] at h9; omega) ((HK3.out.below (bl_alloc (Below.refl _ _) _)).up.below.size) ?_); intro A4 c4 W4 o4 g4))
         have HK4 := hd_ (show RK w W4 p (D) A1 B1 c1 e1 A4 c4 (O3 ++ [10]) from (HK3.out.below (bl_alloc (Below.refl _ _) _)).app g4 (by simpa [Lib.byteCells] using o4))
         have HX4 := hd_ ((HK3.out.below (bl_alloc (Below.refl _ _) _)).rows g4 (own_below HX3.out (bl_alloc (Below.refl _ _) _)))
         go_roundw
         case rel => exact ⟨j + 1, A4, c4, O3 ++ [10], by omega, by go_num, by rw [List.length_append]; rfl, hd_ (by rw [HO3.out]; exact HEN.out), HK4, HX4⟩
         case measure => (simp [intOf]; try omega)
        ·obtain rfl : j = L2.length := by omega
         have hE2 := HE.out
         rw [List.drop_length] at hE2
         have hE3 : O' = O ++ outB L2 := by rw [← hE2]; simp [outB]
         have HO' := hd_ hE3
         clear hE2 hE3
         go_wp2_with fail
         go_roundw
         case rel => exact ⟨T2, A', c', O', n + 1, D, A1, B1, c1, e1, rfl, rfl, by go_num, by omega, by omega, hd_ (by
           rw [HO'.out, List.length_append]
           have h2 := HSZ.out
           simp only [szB] at h2
           have h3 := HOS.out
           omega), HV2, hd_ (by rw [HFIN.out, HO'.out, List.append_assoc]; exact congrArg _ HEQ.out), HKr⟩
         case measure => (simp [intOf]; try omega)
     | some R =>
      obtain ⟨D2, L2⟩ := R
      have HEQ : Hid (runL two (60 - n) D (linesOf T) = outB L2 ++ runL two (60 - (n + 1)) D2 (linesOf T2)) := hd_ (by
       rw [HEQ0.out, show 60 - (n + 1) = 59 - n by omega, runL, hdo])
      have HSZ : Hid (szB L2) := hd_ (doL_size h2 HV.out hdo)
      have HV2 : Hid (vDesk D2 = true) := hd_ (doL_ok two HV.out hdo).1
      clear HEQ0
      go_wp2_with fail
      refine HDC.out.mono ?_
      rintro r w' hr
      rw [hdo] at hr
      obtain ⟨A2, B2, c2, e2, X2, nX2, rfl, do2, ox, g2, rfl⟩ := hr
      have hle := HK2.out.up.below.size
      have HDO := hd_ (show DOwn w.heap.size (up wc g2) D2 A2 B2 c2 e2 from ⟨own_mono do2.1 hle, own_mono do2.2 hle⟩)
      have HOX := hd_ (own_mono ox hle)
      obtain ⟨q, hq⟩ : ∃ q, (up wc g2).heap.size = q := ⟨_, rfl⟩
      have hbq : Blk ((up wc g2).alloc (.cells (dkcs D2 A2 B2 c2 e2) 31)) q 31 (dkcs D2 A2 B2 c2 e2) := by rw [← hq]; exact Blk.new _ _ _
      have HBQ := hd_ hbq
      have HQ := hd_ hq
      clear do2 ox hbq hle hq
      go_upto_if 43 with (fail)
      refine wpg (R := fun U => Hid (RK w U p D A1 B1 c1 e1 A c O) ∧ Hid (Blk U q 31 (dkcs D2 A2 B2 c2 e2)) ∧ Hid (DOwn w.heap.size U D2 A2 B2 c2 e2) ∧ Hid (U.ownsRow w.heap.size 9 1 (.slice X2 L2.length nX2) L2.length (strs L2))) ⟨hd_ (HK2.out.below bw_), HBQ, hd_ ⟨own_below HDO.out.1 bw_, own_below HDO.out.2 bw_⟩, hd_ (own_below HOX.out bw_)⟩ (fun U y => ?_)
      rw [HQ.out]
      obtain ⟨HK3, HBQ3, HD3, HX3⟩ := y
      clear HDC HK2 x0 x1 x2 x3 x4 x5 x6 x7 hpV HDO HOX HBQ HQ g2
      go_cut [10] (fun z V => ∃ X nX, z = .slice X L2.length nX ∧ Hid (RK w V p D2 A2 B2 c2 e2 A c O) ∧ Hid (V.ownsRow w.heap.size 9 1 (.slice X L2.length nX) L2.length (strs L2)))
      case first =>
       obtain ⟨hpV, x0, x1, x2, x3, x4, x5, x6, x7⟩ := HK3.out.bx.eight
       obtain ⟨f0, f1, f2, f3, f4, f5, f6, f7⟩ := HK3.out.bx.open8
       obtain ⟨hqV, y0, y1, y2, y3, y4, y5, y6, y7⟩ := HBQ3.out.eight
       go_wp2_with fail
       go_meet
       exact ⟨X2, nX2, rfl, hd_ (HK3.out.put HD3.out), hd_ (own_put8 HX3.out HK3.out.bx (by decide) _ _ _ _ _ _ _ _)⟩
      case rest =>
       clear HK3 HBQ3 HD3 HX3
       obtain ⟨X, nX, rfl, HK, HX⟩ := hcut
       have hL2n : L2.length ≤ 500000 := Nat.le_trans (outB_ge L2) HSZ.out
       go_wp2_with fail
       go_loopw [4, 48] (fun o k wr => ∃ (j : Nat) (A' : Option Addr) (c' : Nat) (O' : List UInt8), j ≤ L2.length ∧ k = i64 j ∧ o = .slice A' O'.length c' ∧ Hid (O' ++ outB (L2.drop j) = O ++ outB L2) ∧ Hid (RK w wr p (D2) A2 B2 c2 e2 A' c' O') ∧ Hid (wr.ownsRow w.heap.size 9 1 (.slice X L2.length nX) L2.length (strs L2))) (fun _ k _ => L2.length - (intOf k).toNat)
       case atStart => exact ⟨0, A, c, O, by omega, rfl, rfl, hd_ rfl, HK, HX⟩
       case round =>
        obtain ⟨j, A', c', O', hj, rfl, rfl, HE, HKr, HXr⟩ := hrel
        clear HK HX
        by_cases hlt : j < L2.length
        ·have hlt' : (j : Int) < (L2.length : Int) := by omega
         obtain ⟨bX, oX, rfl, hbX, hcX⟩ := wd_at (Rds.of_own HXr.out) hlt
         have hc0 := hcX j hlt
         have hE2 := HE.out
         rw [outB_drop hlt, ← List.append_assoc, ← List.append_assoc] at hE2
         have HEN := hd_ hE2
         have hsz : O'.length + (wd L2 j).size + 1 ≤ 100000000 := by
          have h1 := congrArg List.length hE2
          simp only [List.length_append, List.length_singleton, bsz] at h1
          have h2 := HSZ.out
          simp only [szB] at h2
          have h3 := HOS.out
          have h4 := HN60.out
          omega
         clear hE2 hcX
         obtain ⟨S, hS⟩ : ∃ S, wd L2 j = S := ⟨_, rfl⟩
         rw [hS] at hc0 hsz HEN
         clear hS
         go_wp2_with (first | (at_builtin; (refine wpl_appG rfl _ _ 22 9 rfl w.heap.size 5 el_byte Tryz.underlying9 A' c' O' rfl HKr.out.ow S rfl (by omega) HKr.out.up.below.size ?_); intro A3 c3 O3 W3 HO3 o3 g3; have HK3 := hd_ (HKr.out.app g3 o3); have HX3 := hd_ (HKr.out.rows g3 HXr.out); clear o3 g3 hc0) | (at_builtin; go_must (refine wpl_app rfl _ _ 22 rfl w.heap.size 5 (.int .u8 0) 1 1 el_byte (.slice A3 O3.length c3) O3.length (Lib.byteCells O3) rfl ((HK3.out.below (bl_alloc (Below.refl _ _) _)).ow) (some ⟨W3.heap.size, 0, none⟩) 1 1 [.int .u8 10] rfl (rds_new _ #[.int .u8 10] _ 1 1 rfl) (fun u hu => by simp at hu; subst hu; rfl) (by unfold maxLen; have h9 := congrArg List.length HO3.out; rw [List.length_append, bsz] at h9; omega) (by have h9 := congrArg List.length HO3.out; rw [List.length_append, bsz] at h9; omega) ((HK3.out.below (bl_alloc (Below.refl _ _) _)).up.below.size) ?_); intro A4 c4 W4 o4 g4))
         have HK4 := hd_ (show RK w W4 p (D2) A2 B2 c2 e2 A4 c4 (O3 ++ [10]) from (HK3.out.below (bl_alloc (Below.refl _ _) _)).app g4 (by simpa [Lib.byteCells] using o4))
         have HX4 := hd_ ((HK3.out.below (bl_alloc (Below.refl _ _) _)).rows g4 (own_below HX3.out (bl_alloc (Below.refl _ _) _)))
         go_roundw
         case rel => exact ⟨j + 1, A4, c4, O3 ++ [10], by omega, by go_num, by rw [List.length_append]; rfl, hd_ (by rw [HO3.out]; exact HEN.out), HK4, HX4⟩
         case measure => (simp [intOf]; try omega)
        ·obtain rfl : j = L2.length := by omega
         have hE2 := HE.out
         rw [List.drop_length] at hE2
         have hE3 : O' = O ++ outB L2 := by rw [← hE2]; simp [outB]
         have HO' := hd_ hE3
         clear hE2 hE3
         go_wp2_with fail
         go_roundw
         case rel => exact ⟨T2, A', c', O', n + 1, D2, A2, B2, c2, e2, rfl, rfl, by go_num, by omega, by omega, hd_ (by
           rw [HO'.out, List.length_append]
           have h2 := HSZ.out
           simp only [szB] at h2
           have h3 := HOS.out
           omega), HV2, hd_ (by rw [HFIN.out, HO'.out, List.append_assoc]; exact congrArg _ HEQ.out), HKr⟩
         case measure => (simp [intOf]; try omega)
def lastF (c : UInt8) (i n : Nat) : Nat := if c = 114 ∨ c = 108 then n else i + 2
def partF (c : UInt8) (i : Nat) (W : List ByteArray) : List ByteArray := (W.take (lastF c i W.length)).drop (i + 1)
def wF (W : List ByteArray) : List UInt8 → Nat → List Int → List ByteArray → Option (List Int × List ByteArray)
 | [], _, ns, ts => some (ns, ts)
 | c :: f, i, ns, ts => if c = 110 ∨ c = 108 then (match numsOf (partF c i W) with | none => none | some l => wF W f (i + 1) (ns ++ l) ts)
  else wF W f (i + 1) ns (ts ++ [⟨(joinL 32 (partF c i W)).toArray⟩])
theorem numsOf_nil : numsOf [] = some [] := rfl
theorem numsOf_cons (x : ByteArray) (l : List ByteArray) : numsOf (x :: l) = if numB x = true then (match numsOf l with | none => none | some r => some (sval x :: r)) else none := by
 unfold numsOf
 cases h : numB x
 ·simp [h]
 ·cases h2 : l.all numB <;> simp [h, h2]
theorem numsOf_app (a b : List ByteArray) : numsOf (a ++ b) = match numsOf a, numsOf b with | some x, some y => some (x ++ y) | _, _ => none := by
 unfold numsOf
 cases h : a.all numB <;> cases h2 : b.all numB <;> simp [List.all_append, h, h2]
theorem numsOf_snoc {a : List ByteArray} {x : ByteArray} {l : List Int} (h : numsOf a = some l) (hx : numB x = true) : numsOf (a ++ [x]) = some (l ++ [sval x]) := by
 rw [numsOf_app, h, numsOf_cons, if_pos hx, numsOf_nil]
theorem numsOf_bad {a b : List ByteArray} {x : ByteArray} (hx : numB x = false) : numsOf (a ++ x :: b) = none := by
 rw [numsOf_app, numsOf_cons, if_neg (by rw [hx]; simp)]
 cases numsOf a <;> rfl
theorem joinL_cons (b : UInt8) (x : ByteArray) {l : List ByteArray} (h : l ≠ []) : joinL b (x :: l) = x.data.toList ++ b :: joinL b l := by
 cases l with
 | nil => exact absurd rfl h
 | cons y l => rfl
theorem joinL_snoc (b : UInt8) : ∀ (l : List ByteArray) (x : ByteArray), l ≠ [] → joinL b (l ++ [x]) = joinL b l ++ (b :: x.data.toList)
 | [], x, h => absurd rfl h
 | [y], x, _ => by simp [joinL]
 | y :: z :: l, x, _ => by
  have h := joinL_snoc b (z :: l) x (by simp)
  rw [List.cons_append, joinL_cons b y (by simp), h, joinL_cons b y (by simp)]
  simp
theorem drop_one {W : List ByteArray} {i n : Nat} (h : i < n) (hn : n ≤ W.length) : (W.take n).drop i = wd W i :: (W.take n).drop (i + 1) := by
 rw [List.drop_eq_getElem_cons (by rw [List.length_take]; omega), List.getElem_take, wd_eq]
theorem part_snoc {W : List ByteArray} {j k : Nat} (h : j ≤ k) (hk : k < W.length) : (W.take (k + 1)).drop j = (W.take k).drop j ++ [wd W k] := by
 rw [List.take_add_one, List.getElem?_eq_getElem hk, Option.toList_some, wd_eq hk, List.drop_append_of_le_length]
 rw [List.length_take]; omega
theorem part_nil (W : List ByteArray) (j : Nat) : (W.take j).drop j = [] := by
 apply List.drop_eq_nil_of_le
 rw [List.length_take]; omega
theorem part_split {W : List ByteArray} {j k n : Nat} (h : j ≤ k) (hk : k < n) (hn : n ≤ W.length) : (W.take n).drop j = (W.take k).drop j ++ wd W k :: (W.take n).drop (k + 1) := by
 have e : W.take n = W.take k ++ (W.take n).drop k := by
  have h1 := List.take_append_drop k (W.take n)
  rw [List.take_take, Nat.min_eq_left (by omega)] at h1
  exact h1.symm
 rw [← drop_one hk hn]
 conv => lhs; rw [e]
 rw [List.drop_append_of_le_length]
 rw [List.length_take]; omega
def rk : List UInt8 → Nat
 | [] => 0
 | c :: t => (c.toNat + 1) * 257 ^ t.length + rk t
theorem rk_lt : ∀ t : List UInt8, rk t < 257 ^ t.length
 | [] => by simp [rk]
 | c :: t => by
  have ih := rk_lt t
  have hc : c.toNat + 2 ≤ 257 := by have := UInt8.toNat_lt c; omega
  have h2 : (c.toNat + 2) * 257 ^ t.length ≤ 257 * 257 ^ t.length := Nat.mul_le_mul_right _ hc
  have e : (c.toNat + 2) * 257 ^ t.length = (c.toNat + 1) * 257 ^ t.length + 257 ^ t.length := by rw [show c.toNat + 2 = (c.toNat + 1) + 1 from rfl, Nat.add_mul _ 1, Nat.one_mul]
  rw [rk, List.length_cons, Nat.pow_succ, Nat.mul_comm (257 ^ t.length) 257]
  omega
theorem rk_low (c : UInt8) (t : List UInt8) : 257 ^ t.length ≤ rk (c :: t) := by
 rw [rk]
 have : 1 * 257 ^ t.length ≤ (c.toNat + 1) * 257 ^ t.length := Nat.mul_le_mul_right _ (by omega)
 omega
theorem rk_bl : ∀ a b : List UInt8, a.length = b.length → Op.bytesLess a b = true → rk a < rk b
 | [], [], _, h => by simp [Op.bytesLess] at h
 | [], _ :: _, h, _ => by simp at h
 | _ :: _, [], h, _ => by simp at h
 | a :: x, b :: y, h, h2 => by
  have hl : x.length = y.length := by simpa using h
  simp only [Op.bytesLess, Bool.or_eq_true, Bool.and_eq_true, decide_eq_true_eq, beq_iff_eq] at h2
  rw [rk, rk, hl]
  rcases h2 with h2 | ⟨rfl, h2⟩
  ·have h3 := rk_lt x
   rw [hl] at h3
   have h4 : (a.toNat + 2) * 257 ^ y.length ≤ (b.toNat + 1) * 257 ^ y.length := Nat.mul_le_mul_right _ (by rw [UInt8.lt_iff_toNat_lt] at h2; omega)
   have e : (a.toNat + 2) * 257 ^ y.length = (a.toNat + 1) * 257 ^ y.length + 257 ^ y.length := by rw [show a.toNat + 2 = (a.toNat + 1) + 1 from rfl, Nat.add_mul _ 1, Nat.one_mul]
   omega
  ·have := rk_bl x y hl h2
   omega
theorem rk_less {a b : List UInt8} (h : lessT a b = true) : rk a < rk b := by
 rcases lessT_iff.1 h with h | ⟨h1, h2⟩
 ·cases b with
  | nil => simp at h
  | cons c t =>
   rw [List.length_cons] at h
   have h1 := rk_lt a
   have h2 : 257 ^ a.length ≤ 257 ^ t.length := Nat.pow_le_pow_right (by omega) (by omega)
   have h3 := rk_low c t
   omega
 ·exact rk_bl a b h1 h2
def bigN : Nat := 257 ^ 1000
theorem rk_big {t : List UInt8} (h : t.length ≤ 1000) : rk t < bigN := Nat.lt_of_lt_of_le (rk_lt t) (Nat.pow_le_pow_right (by omega) h)
def putR : List Amb → List UInt8 → List UInt8 → List Amb
 | [], r, t => [(r, t)]
 | p :: R, r, t => if p.1 = r then (if lessT t p.2 = true then (r, t) :: R else p :: R) else p :: putR R r t
def putB : List Amb → List UInt8 → List UInt8 → Bool
 | [], _, _ => true
 | p :: R, r, t => if p.1 = r then lessT t p.2 else putB R r t
theorem put_new : ∀ {R : List Amb} {r : List UInt8} (t : List UInt8), (∀ p ∈ R, p.1 ≠ r) → putR R r t = R ++ [(r, t)] ∧ putB R r t = true
 | [], r, t, _ => ⟨rfl, rfl⟩
 | p :: R, r, t, h => by
  obtain ⟨h1, h2⟩ := put_new (R := R) t fun q hq => h q (List.mem_cons_of_mem _ hq)
  rw [putR, putB, if_neg (h p (by simp)), if_neg (h p (by simp)), h1, h2]
  exact ⟨rfl, rfl⟩
theorem put_old : ∀ (A : List Amb) {r s : List UInt8} {B : List Amb} (t : List UInt8), (∀ p ∈ A, p.1 ≠ r) →
  putR (A ++ (r, s) :: B) r t = (if lessT t s = true then A ++ (r, t) :: B else A ++ (r, s) :: B) ∧ putB (A ++ (r, s) :: B) r t = lessT t s
 | [], r, s, B, t, _ => by
  rw [List.nil_append, List.nil_append, putR, putB, if_pos rfl, if_pos rfl]
  exact ⟨rfl, rfl⟩
 | p :: A, r, s, B, t, h => by
  obtain ⟨h1, h2⟩ := put_old A (r := r) (s := s) (B := B) t fun q hq => h q (List.mem_cons_of_mem _ hq)
  rw [List.cons_append, List.cons_append, putR, putB, if_neg (h p (by simp)), if_neg (h p (by simp)), h1, h2]
  refine ⟨?_, rfl⟩
  split <;> rfl
theorem key_split : ∀ {R : List Amb} {r : List UInt8}, (∃ p ∈ R, p.1 = r) → ∃ A s B, R = A ++ (r, s) :: B ∧ ∀ p ∈ A, p.1 ≠ r
 | [], r, ⟨p, hp, _⟩ => by cases hp
 | p :: R, r, h => by
  by_cases e : p.1 = r
  ·exact ⟨[], p.2, R, by rw [← e]; rfl, fun q hq => by cases hq⟩
  ·obtain ⟨q, hq, e2⟩ := h
   rcases List.mem_cons.1 hq with rfl | hq
   ·exact absurd e2 e
   ·obtain ⟨A, s, B, rfl, hA⟩ := key_split ⟨q, hq, e2⟩
    refine ⟨p :: A, s, B, rfl, fun x hx => ?_⟩
    rcases List.mem_cons.1 hx with rfl | hx
    ·exact e
    ·exact hA x hx
def Cov (R R' : List Amb) : Prop := ∀ p ∈ R, ∃ t, (p.1, t) ∈ R' ∧ leT t p.2
theorem Cov.refl (R : List Amb) : Cov R R := fun p hp => ⟨p.2, hp, leT_refl _⟩
structure RW (W : List (List UInt8)) (R : List Amb) : Prop where
 ok : ∀ p ∈ R, Rst W p.1 p.2
 nd : (R.map (·.1)).Nodup
 tb : ∀ p ∈ R, p.2.length ≤ 8 + 8 * R.length
def mu (R : List Amb) : Nat := (90 - R.length) * bigN + (R.map fun p => rk p.2).sum
section
variable {W : List (List UInt8)} {R R' R0 : List Amb} {r t : List UInt8}
theorem RW.rl (h : RW W R) (h8 : ∀ w ∈ W, w.length ≤ 8) (h10 : W.length ≤ 10) : R.length ≤ 90 := by
 have h1 := nodup_le (l := R.map (·.1)) (m := sfxs W) h.nd fun x hx => by
  rw [List.mem_map] at hx
  obtain ⟨p, hp, rfl⟩ := hx
  exact (h.ok p hp).sfx
 rw [List.length_map] at h1
 exact Nat.le_trans h1 (sfxs_len h8 h10)
structure Puts (W : List (List UInt8)) (R : List Amb) (r t : List UInt8) (R' : List Amb) (b : Bool) : Prop where
 rw : RW W R'
 cov : Cov R R'
 has : ∃ s, (r, s) ∈ R' ∧ leT s t
 lt : b = true → mu R' < mu R
 eq : b = false → R' = R
 ln : R.length ≤ R'.length
theorem RW.put (h : RW W R) (h8 : ∀ w ∈ W, w.length ≤ 8) (h10 : W.length ≤ 10) (hr : Rst W r t) (ht : t.length ≤ 16 + 8 * R.length) : Puts W R r t (putR R r t) (putB R r t) := by
 by_cases hx : ∃ p ∈ R, p.1 = r
 ·obtain ⟨A, s, B, rfl, hA⟩ := key_split hx
  obtain ⟨e1, e2⟩ := put_old A (s := s) (B := B) t hA
  cases hl : lessT t s with
  | false =>
   rw [hl, if_neg (by simp)] at e1
   rw [e1, e2, hl]
   exact ⟨h, Cov.refl _, ⟨s, by simp, hl⟩, fun h => (by cases h), fun _ => rfl, Nat.le_refl _⟩
  | true =>
   rw [hl, if_pos rfl] at e1
   rw [e1, e2, hl]
   have hle := leT_of_less hl
   have hsl : t.length ≤ s.length := by rcases lessT_iff.1 hl with h | ⟨h, _⟩ <;> omega
   refine ⟨⟨fun p hp => ?_, ?_, fun p hp => ?_⟩, fun p hp => ?_, ⟨t, by simp, leT_refl _⟩, fun _ => ?_, fun h => (by cases h), by simp⟩
   ·simp only [List.mem_append, List.mem_cons] at hp
    rcases hp with hp | rfl | hp
    ·exact h.ok p (by simp [hp])
    ·exact hr
    ·exact h.ok p (by simp [hp])
   ·have := h.nd
    simpa using this
   ·have hlen : (A ++ (r, t) :: B).length = (A ++ (r, s) :: B).length := by simp
    rw [hlen]
    simp only [List.mem_append, List.mem_cons] at hp
    rcases hp with hp | rfl | hp
    ·exact h.tb p (by simp [hp])
    ·have := h.tb (r, s) (by simp)
     exact Nat.le_trans hsl this
    ·exact h.tb p (by simp [hp])
   ·simp only [List.mem_append, List.mem_cons] at hp
    rcases hp with hp | rfl | hp
    ·exact ⟨p.2, by simp [hp], leT_refl _⟩
    ·exact ⟨t, by simp, hle⟩
    ·exact ⟨p.2, by simp [hp], leT_refl _⟩
   ·have h1 := rk_less hl
    unfold mu
    simp only [List.length_append, List.length_cons, List.map_append, List.map_cons, List.sum_append, List.sum_cons]
    omega
 ·have hA : ∀ p ∈ R, p.1 ≠ r := fun p hp e => hx ⟨p, hp, e⟩
  obtain ⟨e1, e2⟩ := put_new t hA
  rw [e1, e2]
  have hrw : RW W (R ++ [(r, t)]) := ⟨fun p hp => by
    rw [List.mem_append, List.mem_singleton] at hp
    rcases hp with hp | rfl
    ·exact h.ok p hp
    ·exact hr,
   by
    rw [List.map_append, List.nodup_append]
    refine ⟨h.nd, by simp, fun a ha b hb hab => ?_⟩
    simp only [List.map_cons, List.map_nil, List.mem_singleton] at hb
    subst hb hab
    rw [List.mem_map] at ha
    obtain ⟨p, hp, e⟩ := ha
    exact hA p hp e,
   fun p hp => by
    rw [List.length_append, List.length_singleton]
    rw [List.mem_append, List.mem_singleton] at hp
    rcases hp with hp | rfl
    ·have := h.tb p hp; omega
    ·show t.length ≤ _; omega⟩
  have hn := hrw.rl h8 h10
  rw [List.length_append, List.length_singleton] at hn
  refine ⟨hrw, fun p hp => ⟨p.2, by simp [hp], leT_refl _⟩, ⟨t, by simp, leT_refl _⟩, fun _ => ?_, fun h => (by cases h), by simp⟩
  have h1 := rk_big (t := t) (by omega)
  unfold mu
  simp only [List.length_append, List.length_singleton, List.map_append, List.map_cons, List.map_nil, List.sum_append, List.sum_cons, List.sum_nil]
  have e9 : (90 - R.length) * bigN = (90 - (R.length + 1)) * bigN + bigN := by
   rw [show 90 - R.length = (90 - (R.length + 1)) + 1 by omega, Nat.add_mul _ 1, Nat.one_mul]
  omega
theorem putR_keys (R : List Amb) (r t : List UInt8) : ((putR R r t).map (·.1) = R.map (·.1) ∧ (putR R r t).length = R.length) ∨ ((putR R r t).map (·.1) = R.map (·.1) ++ [r] ∧ (putR R r t).length = R.length + 1) := by
 by_cases hx : ∃ p ∈ R, p.1 = r
 ·obtain ⟨A, s, B, rfl, hA⟩ := key_split hx
  obtain ⟨e1, _⟩ := put_old A (s := s) (B := B) t hA
  rw [e1]
  left
  split <;> simp
 ·obtain ⟨e1, _⟩ := put_new t fun p hp e => hx ⟨p, hp, e⟩
  rw [e1]
  right
  simp
theorem om_key {i : Nat} (h : i < R.length) : (R.map (·.1))[i]? = some (om R i).1 := by
 rw [List.getElem?_map, List.getElem?_eq_getElem h, om, List.getD_eq_getElem?_getD, List.getElem?_eq_getElem h]; rfl
theorem putR_key (R : List Amb) (r t : List UInt8) {i : Nat} (h : i < R.length) : (om (putR R r t) i).1 = (om R i).1 ∧ i < (putR R r t).length := by
 have hl : i < (putR R r t).length := by rcases putR_keys R r t with h1 | h1 <;> omega
 refine ⟨?_, hl⟩
 have e1 := om_key hl
 have e2 := om_key h
 rcases putR_keys R r t with ⟨h1, _⟩ | ⟨h1, _⟩
 ·rw [h1, e2] at e1
  injection e1 with e1
  exact e1.symm
 ·rw [h1, List.getElem?_append_left (by rw [List.length_map]; exact h), e2] at e1
  injection e1 with e1
  exact e1.symm
def BA (W : List (List UInt8)) (R : List Amb) (i k : Nat) : Prop := ∀ (a b : Nat) (u v : List UInt8), (b < i ∨ (b = i ∧ a < k)) → a ≠ b → W[a]? = some u → W[b]? = some v → u.isPrefixOf v = true → ∃ t, (v.drop u.length, t) ∈ R ∧ leT t v
theorem BA.cov {i k : Nat} (h : BA W R i k) (hc : Cov R R') : BA W R' i k := fun a b u v h1 h2 h3 h4 h5 => by
 obtain ⟨t, ht, hle⟩ := h a b u v h1 h2 h3 h4 h5
 obtain ⟨s, hs, hle2⟩ := hc _ ht
 exact ⟨s, hs, leT_trans hle2 hle⟩
theorem BA.start (W : List (List UInt8)) : BA W [] 0 0 := fun a b u v h => by omega
theorem BA.row {i : Nat} (h : BA W R i W.length) : BA W R (i + 1) 0 := fun a b u v h1 h2 h3 h4 h5 =>
 h a b u v (by have := (List.getElem?_eq_some_iff.1 h3).1; omega) h2 h3 h4 h5
theorem BA.skip {i k : Nat} (h : BA W R i k) (hno : ∀ u v, i ≠ k → W[k]? = some u → W[i]? = some v → u.isPrefixOf v = false) : BA W R i (k + 1) := fun a b u v h1 h2 h3 h4 h5 => by
 by_cases e : b = i ∧ a = k
 ·obtain ⟨rfl, rfl⟩ := e
  rw [hno u v (fun e => h2 e.symm) h3 h4] at h5; cases h5
 ·exact h a b u v (by omega) h2 h3 h4 h5
theorem BA.add {i k : Nat} {u v : List UInt8} (h : BA W R i k) (hu : W[k]? = some u) (hv : W[i]? = some v) {b : Bool} (hp : Puts W R (v.drop u.length) v R' b) : BA W R' i (k + 1) := fun a b u' v' h1 h2 h3 h4 h5 => by
 by_cases e : b = i ∧ a = k
 ·obtain ⟨rfl, rfl⟩ := e
  rw [hu] at h3; injection h3 with h3
  rw [hv] at h4; injection h4 with h4
  subst h3 h4
  exact hp.has
 ·exact (h.cov hp.cov) a b u' v' (by omega) h2 h3 h4 h5
structure RB (W : List (List UInt8)) (R : List Amb) (i k : Nat) : Prop where
 rw : RW W R
 ba : BA W R i k
theorem RB.start (W : List (List UInt8)) : RB W [] 0 0 := ⟨⟨fun p hp => (by cases hp), by simp, fun p hp => (by cases hp)⟩, BA.start W⟩
theorem RB.row {i : Nat} (h : RB W R i W.length) : RB W R (i + 1) 0 := ⟨h.rw, h.ba.row⟩
theorem RB.skip {i k : Nat} (h : RB W R i k) (hno : ∀ u v, i ≠ k → W[k]? = some u → W[i]? = some v → u.isPrefixOf v = false) : RB W R i (k + 1) := ⟨h.rw, h.ba.skip hno⟩
theorem RB.add {i k : Nat} {u v : List UInt8} (h : RB W R i k) (h8 : ∀ w ∈ W, w.length ≤ 8) (h10 : W.length ≤ 10) (hik : i ≠ k) (hu : W[k]? = some u) (hv : W[i]? = some v) (hp : u.isPrefixOf v = true) : RB W (putR R (v.drop u.length) v) i (k + 1) := by
 have hq := h.rw.put h8 h10 (.base (fun e => hik e.symm) hu hv hp) (by have := h8 v (List.mem_of_getElem? hv); omega)
 exact ⟨hq.rw, h.ba.add hu hv hq⟩
def NX (W : List (List UInt8)) (R : List Amb) (i k : Nat) : Prop := ∀ (a b : Nat) (w : List UInt8), (a < i ∨ (a = i ∧ b < k)) → a < R.length → W[b]? = some w → (om R a).1 ≠ [] → ∀ m r', exR (om R a).1 w = some (m, r') → ∃ t, (r', t) ∈ R ∧ leT t ((om R a).2 ++ m)
structure RD (W : List (List UInt8)) (R0 R : List Amb) (more : Bool) (i k : Nat) : Prop where
 rw : RW W R
 ba : BA W R W.length 0
 le : mu R ≤ mu R0
 lt : more = true → mu R < mu R0
 nx : more = false → NX W R i k
theorem RD.start (h : RB W R W.length 0) : RD W R R false 0 0 := ⟨h.rw, h.ba, Nat.le_refl _, fun h => (by cases h), fun _ a b w h1 => by omega⟩
theorem RD.none {b : Bool} {i k : Nat} (h : RD W R0 R b i k) (hno : ∀ w, W[k]? = some w → exR (om R i).1 w = Option.none) : RD W R0 R b i (k + 1) := ⟨h.rw, h.ba, h.le, h.lt, fun hb a c w h1 h2 h3 h4 m r' h5 => by
 by_cases e : a = i ∧ c = k
 ·obtain ⟨rfl, rfl⟩ := e
  rw [hno w h3] at h5; cases h5
 ·exact h.nx hb a c w (by omega) h2 h3 h4 m r' h5⟩
theorem RD.row {b : Bool} {i k : Nat} (h : RD W R0 R b i k) (hk : k = W.length ∨ (om R i).1 = []) : RD W R0 R b (i + 1) 0 := ⟨h.rw, h.ba, h.le, h.lt, fun hb a c w h1 h2 h3 h4 m r' h5 => by
 have hc := (List.getElem?_eq_some_iff.1 h3).1
 rcases Nat.lt_or_ge a i with hlt | hge
 ·exact h.nx hb a c w (.inl hlt) h2 h3 h4 m r' h5
 ·obtain rfl : a = i := by omega
  rcases hk with rfl | hk
  ·exact h.nx hb a c w (.inr ⟨rfl, hc⟩) h2 h3 h4 m r' h5
  ·exact absurd hk h4⟩
theorem RD.put {b : Bool} {i k : Nat} (h : RD W R0 R b i k) (h8 : ∀ w ∈ W, w.length ≤ 8) (h10 : W.length ≤ 10) (hi : i < R.length) {w m r' : List UInt8} (hw : W[k]? = some w) (hr : (om R i).1 ≠ []) (he : exR (om R i).1 w = some (m, r')) :
  RD W R0 (putR R r' ((om R i).2 ++ m)) (b || putB R r' ((om R i).2 ++ m)) i (k + 1) := by
 have hm := om_mem hi
 have hwm := List.mem_of_getElem? hw
 have hl := exR_len he (h8 w hwm)
 have hq := h.rw.put (r := r') (t := (om R i).2 ++ m) h8 h10 (.step (h.rw.ok _ hm) hr hwm he) (by rw [List.length_append]; have := h.rw.tb _ hm; omega)
 refine ⟨hq.rw, h.ba.cov hq.cov, ?_, fun hb => ?_, fun hb => ?_⟩
 ·have := h.le
  cases hx : putB R r' ((om R i).2 ++ m) with
  | true => have := hq.lt hx; omega
  | false => rw [hq.eq hx]; exact this
 ·cases hx : putB R r' ((om R i).2 ++ m) with
  | true => have := hq.lt hx; have := h.le; omega
  | false =>
   rw [hx, Bool.or_false] at hb
   rw [hq.eq hx]; exact h.lt hb
 ·rw [Bool.or_eq_false_iff] at hb
  have hh := hq.has
  rw [hq.eq hb.2] at hh ⊢
  intro a c w' h1 h2 h3 h4 m' r'' h5
  by_cases e : a = i ∧ c = k
  ·obtain ⟨rfl, rfl⟩ := e
   rw [hw] at h3; injection h3 with h3
   subst h3
   rw [he] at h5; injection h5 with h5; injection h5 with h5 h6
   subst h5 h6
   exact hh
  ·exact h.nx hb.1 a c w' (by omega) h2 h3 h4 m' r'' h5
theorem RD.fix {k : Nat} (h : RD W R0 R false R.length k) : Fix W R where
 ok := h.rw.ok
 base := fun i k u v hik hu hv hp => h.ba i k u v (.inl (List.getElem?_eq_some_iff.1 hv).1) hik hu hv hp
 next := fun p hp hr w hw m r' he => by
  obtain ⟨i, hi, rfl⟩ := List.getElem_of_mem hp
  obtain ⟨j, hj, rfl⟩ := List.getElem_of_mem hw
  have e : R[i] = om R i := by rw [om, List.getD_eq_getElem?_getD, List.getElem?_eq_getElem hi]; rfl
  rw [e] at hr he ⊢
  exact h.nx rfl i j _ (.inl hi) hi (List.getElem?_eq_getElem hj) hr m r' he
theorem nodup_key (h : (R.map (·.1)).Nodup) : ∀ r s t, (r, s) ∈ R → (r, t) ∈ R → s = t := by
 induction R with
 | nil => intro r s t h1; cases h1
 | cons p R ih =>
  rw [List.map_cons, List.nodup_cons] at h
  intro r s t h1 h2
  have key : ∀ x, (p.1, x) ∈ R → False := fun x hx => h.1 (by rw [List.mem_map]; exact ⟨_, hx, rfl⟩)
  rcases List.mem_cons.1 h1 with e1 | h1
  ·rcases List.mem_cons.1 h2 with e2 | h2
   ·rw [← e2] at e1; injection e1
   ·exact absurd h2 (fun hx => key t (by rw [← e1]; exact hx))
  ·rcases List.mem_cons.1 h2 with e2 | h2
   ·exact absurd h1 (fun hx => key s (by rw [← e2]; exact hx))
   ·exact ih h.2 r s t h1 h2
end
def IdxIs (l : List ByteArray) (s : ByteArray) (i : Int) : Prop := (i = -1 ∧ ∀ j, j < l.length → wd l j ≠ s) ∨ ∃ k : Nat, i = k ∧ k < l.length ∧ wd l k = s ∧ ∀ j, j < k → wd l j ≠ s
theorem l17Index_any (A : Option Addr) (c : Nat) (l : List ByteArray) (s : ByteArray) (w : World) (h : Rds w 1 A l.length (strs l)) (hn : l.length ≤ 100000000) :
  Calls Tryz.prog 188 #[.slice A l.length c, .string s] w fun e w' => ∃ i : Int, e = .returned (i64 i) ∧ IdxIs l s i ∧ w = w' := by
 have HR := hd_ h
 clear h
 go_enter Tryz.func188, Tryz.ntmps188
 go_wp2_with fail
 go_loopw [5] (fun t5 wr => ∃ k : Nat, k ≤ l.length ∧ t5 = i64 k ∧ Hid (∀ j, j < k → wd l j ≠ s) ∧ wr = w) (fun t5 _ => l.length - (intOf t5).toNat)
 case atStart => exact ⟨0, by omega, rfl, fun j hj => absurd hj (by omega), rfl⟩
 case round =>
  obtain ⟨k, hk, rfl, HN, hw⟩ := hrel
  subst hw
  by_cases hlt : k < l.length
  ·have hlt' : (k : Int) < (l.length : Int) := by omega
   obtain ⟨b, off, rfl, hb, hc⟩ := wd_at HR.out hlt
   have c0 := hc k hlt
   clear hc
   by_cases he : wd l k = s
   ·have hq := tl_teq he
    go_wp2_with fail
    go_ret
    exact ⟨k, rfl, .inr ⟨k, rfl, hlt, he, HN.out⟩, rfl⟩
   ·have hq := tl_tne he
    go_wp2_with fail
    go_roundw
    case rel => exact ⟨k + 1, by omega, by go_num, hd_ fun j hj => by
     by_cases e : j = k
     ·rw [e]; exact he
     ·exact HN.out j (by omega), trivial⟩
    case measure => (simp [intOf]; try omega)
  ·obtain rfl : k = l.length := by omega
   go_wp2_with fail
   go_ret
   exact ⟨-1, rfl, .inl ⟨rfl, HN.out⟩, rfl⟩
theorem pre_iff {s t : ByteArray} : t.data.toList.isPrefixOf s.data.toList = true ↔ t.size ≤ s.size ∧ s.extract 0 t.size = t := by
 rw [List.isPrefixOf_iff_prefix]
 constructor
 ·rintro ⟨r, hr⟩
  have hl := congrArg List.length hr
  rw [List.length_append, bsz, bsz] at hl
  refine ⟨by omega, ba_ext ?_⟩
  rw [bs_extract, bs_list, List.drop_zero, Nat.sub_zero, ← hr, ← bsz, List.take_left]
 ·rintro ⟨_, h2⟩
  have h3 := congrArg (fun x : ByteArray => x.data.toList) h2
  simp only [bs_extract, List.drop_zero, Nat.sub_zero] at h3
  exact ⟨s.data.toList.drop t.size, by rw [← h3]; simp⟩
def begB (s t : ByteArray) : Bool := t.data.toList.isPrefixOf s.data.toList
theorem l17Begins_any (s t : ByteArray) (w : World) (hs : s.size ≤ 1000000000) (ht : t.size ≤ 1000000000) :
  Calls Tryz.prog 216 #[.string s, .string t] w fun e w' => e = .returned (.bool (begB s t)) ∧ w = w' := by
 by_cases h1 : t.size ≤ s.size
 ·have h1' : (t.size : Int) ≤ (s.size : Int) := by omega
  have hsl : ∀ wx : World, (Instr.slice 9 (.string s) none (some (i64 t.size)) none).run Tryz.prog wx = .ok (.string (s.extract 0 t.size)) wx := fun wx => by
   have := run_slice_string_to_if (P := Tryz.prog) wx 9 s .i64 (t.size : Int) Tryz.underlying9
   rw [if_pos (by omega)] at this
   simpa using this
  by_cases he : s.extract 0 t.size = t
  ·have hq := tl_teq he
   have hf := hd_ (show begB s t = true from pre_iff.2 ⟨h1, he⟩)
   go_enter Tryz.func216, Tryz.ntmps216
   go_wp2_with fail
   go_ret
   rw [hf.out]
   exact ⟨rfl, rfl⟩
  ·have hq := tl_tne he
   have hf := hd_ (show begB s t = false by
    rw [← Bool.not_eq_true]; exact fun h => he (pre_iff.1 h).2)
   go_enter Tryz.func216, Tryz.ntmps216
   go_wp2_with fail
   go_ret
   rw [hf.out]
   exact ⟨rfl, rfl⟩
 ·have h1' : ¬ (t.size : Int) ≤ (s.size : Int) := by omega
  have hf := hd_ (show begB s t = false by
   rw [← Bool.not_eq_true]; exact fun h => h1 (pre_iff.1 h).1)
  go_enter Tryz.func216, Tryz.ntmps216
  go_wp2_with fail
  go_ret
  rw [hf.out]
  exact ⟨rfl, rfl⟩
theorem own_someT {w : World} {base e size n c : Nat} {A : Option Addr} {xs : List Value} (h : w.ownsRow base e size (.slice A n c) n xs) (hn : 0 < n) : ∃ g, A = some ⟨g, 0, none⟩ := by
 obtain ⟨_, ⟨_, h2⟩ | ⟨g, cap, cur, h1, _⟩⟩ := h
 ·omega
 ·injection h1 with h1
  exact ⟨g, h1⟩
theorem own_set1 {V : World} {base e size n q : Nat} {t : TypeId} {v : Value} {xs : List Value} {cs : Array Value} (h : V.ownsRow base e size v n xs) (hb : Blk V q t cs) (hne : e ≠ t) (i : Nat) (u : Value) : (V.setCell ⟨q, i, none⟩ u).ownsRow base e size v n xs := by
 have h9 := blk_tne hb h hne
 refine ⟨h.1, ?_⟩
 rcases h.2 with h2 | ⟨g, cap, cur, rfl, hg, hgg, r⟩
 ·exact .inl h2
 ·refine .inr ⟨g, cap, cur, rfl, hg, ?_, r⟩
  rw [Below.heap_setCell _ _ _ g (fun e => h9 (by rw [show g = q from e]; rfl))]
  exact hgg
structure QK (w0 V : World) (rb : Nat) (K T : List ByteArray) (more : Bool) (A : Option Addr) (c : Nat) (E : Option Addr) (d : Nat) : Prop where
 bk : Blk V rb 204 #[.slice A K.length c, .slice E T.length d, .bool more]
 ka : V.ownsRow w0.heap.size 9 1 (.slice A K.length c) K.length (strs K)
 te : V.ownsRow w0.heap.size 9 1 (.slice E T.length d) T.length (strs T)
 ne : (Value.slice A K.length c).ownBlock = none ∨ (Value.slice A K.length c).ownBlock ≠ (Value.slice E T.length d).ownBlock
 lo : w0.heap.size ≤ rb
 up : UpOf w0 V
section
variable {w0 V V' : World} {rb : Nat} {K T : List ByteArray} {more : Bool} {A E : Option Addr} {c d : Nat}
theorem QK.below (h : QK w0 V rb K T more A c E d) (hb : Below V.heap.size V V') : QK w0 V' rb K T more A c E d :=
 ⟨h.bk.up ⟨V', hb⟩, own_below h.ka hb, own_below h.te hb, h.ne, h.lo, h.up.tr hb⟩
theorem QK.ne2 (h : QK w0 V rb K T more A c E d) : (Value.slice E T.length d).ownBlock = none ∨ (Value.slice E T.length d).ownBlock ≠ (Value.slice A K.length c).ownBlock := by
 cases he : (Value.slice E T.length d).ownBlock with
 | none => exact .inl rfl
 | some x =>
  refine .inr fun e => ?_
  rcases h.ne with h1 | h1
  ·rw [h1] at e; cases e
  ·exact h1 (by rw [he]; exact e.symm)
theorem QK.key {K' : List ByteArray} {g c' H : Nat} (h : QK w0 V rb K T more A c E d) (hg : V.grownBy V' (Value.slice A K.length c).ownBlock)
  (ho : V'.ownsRow w0.heap.size 9 1 (.slice (some ⟨g, 0, none⟩) K'.length c') K'.length (strs K')) (hl : (Value.slice A K.length c).ownBlock = some g ∨ g = H) (hH : V.heap.size = H) :
  QK w0 (V'.setCell ⟨rb, 0, none⟩ (.slice (some ⟨g, 0, none⟩) K'.length c')) rb K' T more (some ⟨g, 0, none⟩) c' E d := by
 have hb := h.bk.grown hg (blk_tne h.bk h.ka (by decide))
 have hu : UpOf w0 V' := up_of_grown h.up.below hg fun k hk => (h.ka.lt k hk).1
 refine ⟨hb.put 0 _, own_set1 ho hb (by decide) 0 _, own_set1 (h.te.kept hg h.ne2) hb (by decide) 0 _, .inr fun e => ?_, h.lo, UpOf.of (hu.below.setCell (p := ⟨rb, 0, none⟩) h.lo _)⟩
 have hlt := (h.te.lt g (by rw [← e]; rfl)).2
 rcases hl with hl | rfl
 ·rcases h.ne with h1 | h1
  ·rw [h1] at hl; cases hl
  ·exact h1 (by rw [hl, ← e]; rfl)
 ·omega
theorem QK.txt {T' : List ByteArray} {g d' H : Nat} (h : QK w0 V rb K T more A c E d) (hg : V.grownBy V' (Value.slice E T.length d).ownBlock)
  (ho : V'.ownsRow w0.heap.size 9 1 (.slice (some ⟨g, 0, none⟩) T'.length d') T'.length (strs T')) (hl : (Value.slice E T.length d).ownBlock = some g ∨ g = H) (hH : V.heap.size = H) :
  QK w0 (V'.setCell ⟨rb, 1, none⟩ (.slice (some ⟨g, 0, none⟩) T'.length d')) rb K T' more A c (some ⟨g, 0, none⟩) d' := by
 have hb := h.bk.grown hg (blk_tne h.bk h.te (by decide))
 have hu : UpOf w0 V' := up_of_grown h.up.below hg fun k hk => (h.te.lt k hk).1
 refine ⟨hb.put 1 _, own_set1 (h.ka.kept hg h.ne) hb (by decide) 1 _, own_set1 ho hb (by decide) 1 _, ?_, h.lo, UpOf.of (hu.below.setCell (p := ⟨rb, 1, none⟩) h.lo _)⟩
 cases ha : (Value.slice A K.length c).ownBlock with
 | none => exact .inl rfl
 | some x =>
  refine .inr fun e => ?_
  have e2 : x = g := by simpa [Value.ownBlock] using e
  subst e2
  have hlt := (h.ka.lt x ha).2
  rcases hl with hl | rfl
  ·rcases h.ne with h1 | h1
   ·rw [ha] at h1; cases h1
   ·exact h1 (by rw [ha, hl])
  ·omega
theorem QK.flag (h : QK w0 V rb K T more A c E d) (m : Bool) : QK w0 (V.setCell ⟨rb, 2, none⟩ (.bool m)) rb K T m A c E d :=
 ⟨h.bk.put 2 _, own_set1 h.ka h.bk (by decide) 2 _, own_set1 h.te h.bk (by decide) 2 _, h.ne, h.lo, UpOf.of (h.up.below.setCell (p := ⟨rb, 2, none⟩) h.lo _)⟩
theorem strs_set (T : List ByteArray) (k : Nat) (s : ByteArray) : (strs T).set k (.string s) = strs (T.set k s) := by simp [strs, List.map_set]
theorem QK.store {g k : Nat} {s : ByteArray} (h : QK w0 V rb K T more A c (some ⟨g, 0, none⟩) d) (hk : k < T.length) : QK w0 (V.setCell ⟨g, k, none⟩ (.string s)) rb K (T.set k s) more A c (some ⟨g, 0, none⟩) d := by
 have hgl := h.te.lt g rfl
 have hne : rb ≠ g := fun e => by
  have := blk_tne h.bk h.te (by decide)
  exact this (by rw [e]; rfl)
 have hte := (h.te.stored k (.string s)).1
 rw [strs_set] at hte
 have hkk : (V.setCell ⟨g, k, none⟩ (.string s)).ownsRow w0.heap.size 9 1 (.slice A K.length c) K.length (strs K) := by
  refine ⟨h.ka.1, ?_⟩
  rcases h.ka.2 with h2 | ⟨g2, cap, cur, e2, hg2, hgg, r⟩
  ·exact .inl h2
  ·refine .inr ⟨g2, cap, cur, e2, hg2, ?_, r⟩
   rw [Below.heap_setCell _ _ _ g2 (fun e => ?_)]
   ·exact hgg
   ·rcases h.ne with h1 | h1
    ·rw [e2] at h1; cases h1
    ·exact h1 (by rw [e2]; show some g2 = some g; rw [show g2 = g from e])
 exact ⟨by rw [List.length_set]; exact h.bk.far (p := ⟨g, k, none⟩) hne _, hkk, by rw [List.length_set]; exact hte, by rw [List.length_set]; exact h.ne, h.lo, UpOf.of (h.up.below.setCell (p := ⟨g, k, none⟩) hgl.1 _)⟩
end
end Go.Proofs.YtbianlkenallaaaGreatDoor
