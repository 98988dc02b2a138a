/-
  Common parts, put together: SplitS, WordsI, LogI, TakeI, CutI, ReadI, NumS, LogS, LineS, LineT, ReadS, LogC, AddEntry, AddEntry2, DeskV, DrillV, DrillV2, DrillV3, Vals, DeskOk, ConsP.
-/
import Derived.Test.YtbianlkenallaaaGreatDoorMgA
import Derived.Deep.DeepMust
import Derived.Test.YtbianlkenallaaaGreatDoorRows
import Derived.Deep.WholeRow
set_option linter.all false
set_option maxHeartbeats 4000000
set_option maxRecDepth 10000
namespace Go.Proofs.YtbianlkenallaaaGreatDoor
open Go.RowKit
theorem drop_at {l : List UInt8} {k : Nat} (h : k < l.length) : l.drop k = l.getD k 0 :: l.drop (k + 1) := by
 rw [List.drop_eq_getElem_cons h]
 simp [h]
theorem cur_snoc {l : List UInt8} {f k : Nat} (h : k < l.length) (hf : f ≤ k) : (l.drop f).take (k + 1 - f) = (l.drop f).take (k - f) ++ [l.getD k 0] := by
 rw [show k + 1 - f = (k - f) + 1 by omega, List.take_add_one, List.getElem?_drop, show f + (k - f) = k by omega, List.getElem?_eq_getElem h]
 simp [h]
theorem l01Split_any (s : ByteArray) (b : UInt8) (x : Int) (hx : (b.toNat : Int) = x) (w : World) (hs : s.size ≤ 1000000000) :
  Calls Tryz.prog 44 #[.string s, .int .u8 x] w fun e w' => ∃ A c, e = .returned (.slice A (splitA b [] s.data.toList).length c) ∧ w'.ownsRow w.heap.size 9 1 (.slice A (splitA b [] s.data.toList).length c) (splitA b [] s.data.toList).length (strs (splitA b [] s.data.toList)) ∧ UpOf w w' := by
 have hOwn := hd_ (World.ownsRow_lit (base := w.heap.size) (e := 9) (size := 1) w #[] 0 (Nat.le_refl _) (by unfold maxLen; omega) rfl)
 obtain ⟨L, hL⟩ : ∃ L, s.data.toList = L := ⟨_, rfl⟩
 have hLn := hd_ (show L.length = s.size by rw [← hL]; rfl)
 have HL := hd_ hL
 rw [hL]
 clear hL
 obtain ⟨R, hR⟩ : ∃ R, splitA b [] L = R := ⟨_, rfl⟩
 have HR := hd_ hR
 rw [hR]
 clear hR
 go_enter Tryz.func44, Tryz.ntmps44
 go_wp2_with fail
 go_loopw [5, 6, 7] (fun o f i wr => ∃ (k fr : Nat) (ws : List ByteArray) (A : Option Addr) (c : Nat), k ≤ s.size ∧ fr ≤ k ∧ ws.length ≤ k ∧ i = i64 k ∧ f = i64 fr ∧ o = .slice A ws.length c ∧ Hid (splitA b [] L = ws ++ splitA b ((L.drop fr).take (k - fr)) (L.drop k)) ∧ wr.ownsRow w.heap.size 9 1 (.slice A ws.length c) ws.length (strs ws) ∧ ∃ g : Up w, wr = up w g) (fun _ _ i _ => s.size - (intOf i).toNat)
 case atStart => exact ⟨0, 0, [], _, _, by omega, by omega, Nat.le_refl _, rfl, rfl, rfl, by show _ = _; simp, hOwn.out, ex_up bw_⟩
 case round =>
  obtain ⟨k, fr, ws, A, c, hk, hfr, hwl, rfl, rfl, rfl, hsp, hown, g, rfl⟩ := hrel
  by_cases hlt : k < s.size
  ·have hbt := hd_ (show s[k] = L.getD k 0 by rw [byteAt_eq hlt, byteAt, HL.out])
   have hkl : k < L.length := by rw [hLn.out]; exact hlt
   have hdr := hd_ (drop_at hkl)
   by_cases q : (s[k].toNat : Int) = x
   ·have qe : ((s[k].toNat : Int) == x) = true := by rw [beq_iff_eq]; exact q
    have hcb : s[k] = b := by
     have : s[k].toNat = b.toNat := by omega
     exact UInt8.toNat_inj.1 this
    have hsp2 := hd_ (show splitA b [] L = (ws ++ [s.extract fr k]) ++ splitA b ((L.drop (k + 1)).take (k + 1 - (k + 1))) (L.drop (k + 1)) by
     rw [hsp.out, hdr.out, ← hbt.out, hcb, splitA_hit, bs_extract, HL.out]; simp)
    clear q hcb hkl
    go_wp2_with (first | (at_builtin; go_must (refine wpl_appU rfl _ _ 24 rfl w w.heap.size 9 _ 1 16 el_str (.slice A ws.length c) ws.length (strs ws) rfl (own_below hown bw_) _ 1 1 [.string (s.extract fr k)] rfl (rds_new _ _ _ 1 1 rfl) (fun u hu => by simp at hu; subst hu; rfl) (by unfold maxLen; omega) (by omega) (up_below w _).size bw_ (Nat.le_refl _) ?_; intro A2 c2 g2 o2)))
    go_roundw
    case rel => exact ⟨k + 1, k + 1, ws ++ [s.extract fr k], A2, c2, by omega, by omega, by simp; omega, by go_num, by go_num, by simp, hsp2, by rw [List.length_append, strs_app]; exact o2, _, rfl⟩
    case measure => (simp [intOf]; try omega)
   ·have qe : ((s[k].toNat : Int) == x) = false := by rw [beq_eq_false_iff_ne]; exact q
    have hsp2 := hd_ (show splitA b [] L = ws ++ splitA b ((L.drop fr).take (k + 1 - fr)) (L.drop (k + 1)) by
     rw [hsp.out, hdr.out, cur_snoc hkl hfr, splitA, if_neg (by rw [← hbt.out]; intro he; exact q (by rw [he]; exact hx))])
    clear q hkl
    go_wp2_with fail
    go_roundw
    case rel => exact ⟨k + 1, fr, ws, A, c, by omega, by omega, by omega, by go_num, rfl, rfl, hsp2, hown, ex_up bw_⟩
    case measure => (simp [intOf]; try omega)
  ·obtain rfl : k = s.size := by omega
   have e0 : L.drop s.size = [] := List.drop_eq_nil_of_le (by rw [hLn.out]; exact Nat.le_refl _)
   have hsp2 := hd_ (show R = ws ++ [s.extract fr s.size] by
    rw [← HR.out, hsp.out, e0, splitA, bs_extract, HL.out])
   clear e0
   go_wp2_with (first | (at_builtin; go_must (refine wpl_appU rfl _ _ 24 rfl w w.heap.size 9 _ 1 16 el_str (.slice A ws.length c) ws.length (strs ws) rfl (own_below hown bw_) _ 1 1 [.string (s.extract fr s.size)] rfl (rds_new _ _ _ 1 1 rfl) (fun u hu => by simp at hu; subst hu; rfl) (by unfold maxLen; omega) (by omega) (up_below w _).size bw_ (Nat.le_refl _) ?_; intro A2 c2 g2 o2)))
   go_ret
   rw [hsp2.out, List.length_append, strs_app]
   exact ⟨A2, c2, rfl, o2, uw_⟩
def curW (L : List UInt8) (k : Nat) : Option Nat → List UInt8
 | none => []
 | some f => (L.drop f).take (k - f)
def stW : Option Nat → Value
 | none => i64 (-1)
 | some f => i64 f
theorem splitWords_any (s : ByteArray) (w : World) (hs : s.size ≤ 1000000000) :
  Calls Tryz.prog 76 #[.string s] w fun e w' => ∃ A c, e = .returned (.slice A (wordsA [] s.data.toList).length c) ∧ w'.ownsRow w.heap.size 9 1 (.slice A (wordsA [] s.data.toList).length c) (wordsA [] s.data.toList).length (strs (wordsA [] s.data.toList)) ∧ UpOf w w' := by
 have hOwn := hd_ (World.ownsRow_lit (base := w.heap.size) (e := 9) (size := 1) w #[] 0 (Nat.le_refl _) (by unfold maxLen; omega) rfl)
 obtain ⟨L, hL⟩ : ∃ L, s.data.toList = L := ⟨_, rfl⟩
 have hLn := hd_ (show L.length = s.size by rw [← hL]; rfl)
 have HL := hd_ hL
 rw [hL]
 clear hL
 obtain ⟨R, hR⟩ : ∃ R, wordsA [] L = R := ⟨_, rfl⟩
 have HR := hd_ hR
 rw [hR]
 clear hR
 go_enter Tryz.func76, Tryz.ntmps76
 go_wp2_with fail
 go_loopw [3, 4, 9] (fun o f i wr => ∃ (k : Nat) (st : Option Nat) (ws : List ByteArray) (A : Option Addr) (c : Nat), k ≤ s.size ∧ Hid (∀ f, st = some f → f < k) ∧ ws.length ≤ k ∧ i = i64 k ∧ f = stW st ∧ o = .slice A ws.length c ∧ Hid (wordsA [] L = ws ++ wordsA (curW L k st) (L.drop k)) ∧ wr.ownsRow w.heap.size 9 1 (.slice A ws.length c) ws.length (strs ws) ∧ ∃ g : Up w, wr = up w g) (fun _ _ i _ => s.size - (intOf i).toNat)
 case atStart => exact ⟨0, none, [], _, _, by omega, (by intro f hf; cases hf), Nat.le_refl _, rfl, rfl, rfl, by show _ = _; simp [curW], hOwn.out, ex_up bw_⟩
 case round =>
  obtain ⟨k, st, ws, A, c, hk, hst, hwl, rfl, rfl, rfl, hsp, hown, g, rfl⟩ := hrel
  by_cases hlt : k < s.size
  ·have hbt := hd_ (show s[k] = L.getD k 0 by rw [byteAt_eq hlt, byteAt, HL.out])
   have hkl : k < L.length := by rw [hLn.out]; exact hlt
   have hdr := hd_ (drop_at hkl)
   by_cases q : (s[k].toNat : Int) = 32
   ·have qe : ((s[k].toNat : Int) == 32) = true := by rw [beq_iff_eq]; exact q
    have hcb : s[k] = 32 := by
     have : s[k].toNat = (32 : UInt8).toNat := by simp; omega
     exact UInt8.toNat_inj.1 this
    cases st with
    | none =>
     have hsp2 := hd_ (show wordsA [] L = ws ++ wordsA (curW L (k + 1) none) (L.drop (k + 1)) by
      rw [hsp.out, hdr.out, ← hbt.out, hcb]; simp [curW, wordsA])
     clear q hcb hkl
     unfold stW
     go_wp2_with fail
     go_roundw
     case rel => exact ⟨k + 1, none, ws, A, c, by omega, (by intro f hf; cases hf), by omega, by go_num, rfl, rfl, hsp2, hown, ex_up bw_⟩
     case measure => (simp [intOf]; try omega)
    | some fr =>
     have hfr := hst.out fr rfl
     have hfr' := Nat.le_of_lt hfr
     have hcne : curW L k (some fr) ≠ [] := by
      intro he
      have := congrArg List.length he
      simp [curW] at this
      omega
     have hsp2 := hd_ (show wordsA [] L = (ws ++ [s.extract fr k]) ++ wordsA (curW L (k + 1) none) (L.drop (k + 1)) by
      rw [hsp.out, hdr.out, ← hbt.out, hcb, wordsA, if_pos rfl, if_neg hcne, bs_extract, HL.out]; simp [curW])
     clear q hcb hkl hcne
     unfold stW
     go_wp2_with (first | (at_builtin; go_must (refine wpl_appU rfl _ _ 24 rfl w w.heap.size 9 _ 1 16 el_str (.slice A ws.length c) ws.length (strs ws) rfl (own_below hown bw_) _ 1 1 [.string (s.extract fr k)] rfl (rds_new _ _ _ 1 1 rfl) (fun u hu => by simp at hu; subst hu; rfl) (by unfold maxLen; omega) (by omega) (up_below w _).size bw_ (Nat.le_refl _) ?_; intro A2 c2 g2 o2)))
     go_roundw
     case rel => exact ⟨k + 1, none, ws ++ [s.extract fr k], A2, c2, by omega, (by intro f hf; cases hf), by simp; omega, by go_num, rfl, by simp, hsp2, by rw [List.length_append, strs_app]; exact o2, _, rfl⟩
     case measure => (simp [intOf]; try omega)
   ·have qe : ((s[k].toNat : Int) == 32) = false := by rw [beq_eq_false_iff_ne]; exact q
    have qn : ((s[k].toNat : Int) != 32) = true := by rw [bne_iff_ne]; exact q
    have hne : ¬ s[k] = 32 := fun he => q (by rw [he]; rfl)
    cases st with
    | none =>
     have hsp2 := hd_ (show wordsA [] L = ws ++ wordsA (curW L (k + 1) (some k)) (L.drop (k + 1)) by
      have e2 := cur_snoc hkl (Nat.le_refl k)
      rw [hsp.out, hdr.out, wordsA, if_neg (by rw [← hbt.out]; exact hne)]
      show ws ++ wordsA ([] ++ [L.getD k 0]) _ = ws ++ wordsA ((L.drop k).take (k + 1 - k)) _
      rw [e2]; simp)
     clear q hne hkl
     unfold stW
     go_wp2_with fail
     go_roundw
     case rel => exact ⟨k + 1, some k, ws, A, c, by omega, (by intro f hf; injection hf; omega), by omega, by go_num, rfl, rfl, hsp2, hown, ex_up bw_⟩
     case measure => (simp [intOf]; try omega)
    | some fr =>
     have hfr := hst.out fr rfl
     have hfr' := Nat.le_of_lt hfr
     have hsp2 := hd_ (show wordsA [] L = ws ++ wordsA (curW L (k + 1) (some fr)) (L.drop (k + 1)) by
      have e2 := cur_snoc hkl (Nat.le_of_lt hfr)
      rw [hsp.out, hdr.out, wordsA, if_neg (by rw [← hbt.out]; exact hne)]
      show ws ++ wordsA ((L.drop fr).take (k - fr) ++ [L.getD k 0]) _ = ws ++ wordsA ((L.drop fr).take (k + 1 - fr)) _
      rw [e2])
     clear q hne hkl
     unfold stW
     go_wp2_with fail
     go_roundw
     case rel => exact ⟨k + 1, some fr, ws, A, c, by omega, (by intro f hf; injection hf; omega), by omega, by go_num, rfl, rfl, hsp2, hown, ex_up bw_⟩
     case measure => (simp [intOf]; try omega)
  ·obtain rfl : k = s.size := by omega
   have e0 : L.drop s.size = [] := List.drop_eq_nil_of_le (by rw [hLn.out]; exact Nat.le_refl _)
   cases st with
   | none =>
    have hsp2 := hd_ (show R = ws by rw [← HR.out, hsp.out, e0]; simp [curW, wordsA])
    clear e0
    unfold stW
    go_wp2_with fail
    go_ret
    rw [hsp2.out]
    exact ⟨A, c, rfl, own_below hown bw_, uw_⟩
   | some fr =>
    have hfr := hst.out fr rfl
    have hfr' := Nat.le_of_lt hfr
    have hcne : curW L s.size (some fr) ≠ [] := by
     intro he
     have := congrArg List.length he
     simp [curW, hLn.out] at this
     omega
    have hsp2 := hd_ (show R = ws ++ [s.extract fr s.size] by
     rw [← HR.out, hsp.out, e0, wordsA, if_neg hcne, bs_extract, HL.out]; rfl)
    clear e0 hcne
    unfold stW
    go_wp2_with (first | (at_builtin; go_must (refine wpl_appU rfl _ _ 24 rfl w w.heap.size 9 _ 1 16 el_str (.slice A ws.length c) ws.length (strs ws) rfl (own_below hown bw_) _ 1 1 [.string (s.extract fr s.size)] rfl (rds_new _ _ _ 1 1 rfl) (fun u hu => by simp at hu; subst hu; rfl) (by unfold maxLen; omega) (by omega) (up_below w _).size bw_ (Nat.le_refl _) ?_; intro A2 c2 g2 o2)))
    go_ret
    rw [hsp2.out, List.length_append, strs_app]
    exact ⟨A2, c2, rfl, o2, uw_⟩
def LI (base : Nat) (w : World) (rb : Nat) (l : List Entry) (st : Int) (sz : Nat) : Prop :=
 ∃ A c, Blk w rb 152 #[.slice A l.length c, i64 st, i64 sz] ∧ base ≤ rb ∧ w.ownsRow base 127 3 (.slice A l.length c) l.length (encs l) ∧ ((Value.slice A l.length c).ownBlock = none ∨ (Value.slice A l.length c).ownBlock ≠ some rb)
theorem LI.below {base rb sz : Nat} {w w' : World} {l : List Entry} {st : Int} (h : LI base w rb l st sz) (hb : Below w.heap.size w w') : LI base w' rb l st sz := by
 obtain ⟨A, c, h1, h2, h3, h4⟩ := h
 exact ⟨A, c, (hb.block rb h1.lt).trans h1, h2, own_below h3 hb, h4⟩
theorem LI.lt {base rb sz : Nat} {w : World} {l : List Entry} {st : Int} (h : LI base w rb l st sz) : base ≤ rb ∧ rb < w.heap.size := by
 obtain ⟨A, c, h1, h2, h3, h4⟩ := h
 exact ⟨h2, h1.lt⟩
theorem en_last {w : World} {A : Option Addr} {l : List Entry} {n : Nat} (h : Rds w 3 A l.length (encs l)) (hn : l.length = n + 1) :
  ∃ b off, A = some ⟨b, off, none⟩ ∧ b < w.heap.size ∧ w.cell? ⟨b, off + n * 3, none⟩ = some (i64 (dayL l)) := by
 obtain ⟨b, off, e, hb, c, _⟩ := en_at h (k := n) (by omega)
 refine ⟨b, off, e, hb, ?_⟩
 have e2 : l.getD n ⟨0, ByteArray.empty, 0⟩ = l[n] := by rw [List.getD_eq_getElem?_getD, List.getElem?_eq_getElem (by omega)]; rfl
 rw [dayL, if_neg (by omega), c, eat, show l.length - 1 = n by omega, e2]
theorem dayI_any (base rb sz : Nat) (l : List Entry) (st : Int) (w : World) (h : LI base w rb l st sz) (hn : l.length ≤ 1000000000) :
  Calls Tryz.prog 173 #[.pointer (some ⟨rb, 0, none⟩)] w fun e w' => e = .returned (i64 (dayL l)) ∧ UpOf w w' := by
 obtain ⟨A, c, h1, h2, h3, h4⟩ := h
 have c0 := h1.cell 0
 have hlt := h1.lt
 simp only [List.getElem?_toArray, List.getElem?_cons_zero] at c0
 obtain ⟨D, hD⟩ : ∃ D, dayL l = D := ⟨_, rfl⟩
 rw [hD]
 rcases Nat.eq_zero_or_pos l.length with h0 | h0
 ·have z : ((l.length : Int) == 0) = true := by rw [beq_iff_eq]; omega
  obtain rfl : D = 0 := by rw [← hD, dayL, if_pos h0]
  clear hD h1 h2 h3 h4
  go_enter Tryz.func173, Tryz.ntmps173
  go_wp2_with (first | ((with_reducible refine wru ?_); (repeat (go_big_quiet_step (fail))); refine wqn fun nq => ?_))
  go_ret
  exact ⟨rfl, uw_⟩
 ·obtain ⟨n, hn1⟩ : ∃ n, l.length = n + 1 := ⟨l.length - 1, by omega⟩
  obtain ⟨b, off, rfl, hb, cd⟩ := en_last (Rds.of_own h3) hn1
  rw [hD] at cd
  rw [hn1] at c0 hn
  have z : (((n + 1 : Nat) : Int) == 0) = false := by rw [beq_eq_false_iff_ne]; omega
  clear hD h1 h2 h3 h4 h0 hn1
  go_enter Tryz.func173, Tryz.ntmps173
  go_wp2_with (first | ((with_reducible refine wru ?_); (repeat (go_big_quiet_step (fail))); refine wqn fun nq => ?_))
  go_ret
  exact ⟨rfl, uw_⟩
theorem wAt_size {L : List UInt8} (i : Nat) : (wAt (wordsA [] L) i).size ≤ L.length := by
 unfold wAt
 rw [List.getD_eq_getElem?_getD]
 cases h : (wordsA [] L)[i]? with
 | none => exact Nat.zero_le _
 | some p =>
  have := words_size L [] p (List.mem_of_getElem? h)
  simpa using this
theorem words4 {w : World} {A : Option Addr} {W : List ByteArray} (h : Rds w 1 A W.length (strs W)) (h4 : W.length = 4) :
  ∃ b off, A = some ⟨b, off, none⟩ ∧ b < w.heap.size ∧ w.cell? ⟨b, off, none⟩ = some (.string (wAt W 0)) ∧ w.cell? ⟨b, off + 1, none⟩ = some (.string (wAt W 1)) ∧ w.cell? ⟨b, off + 2, none⟩ = some (.string (wAt W 2)) := by
 obtain ⟨b, off, e, hb, hc⟩ := str_at h (i := 0) (by omega)
 exact ⟨b, off, e, hb, hc 0 (by omega), hc 1 (by omega), hc 2 (by omega)⟩
theorem takeI_no (base rb sz : Nat) (l : List Entry) (st : Int) (line : ByteArray) (w : World) (h : LI base w rb l st sz) (ht : Tab w) (hline : line.size ≤ 1000000000) (hl : l.length ≤ 1000000000) (s0 : 0 ≤ st) (s1 : st < 65519)
  (hno : takeB (dayL l) st line (wordsA [] line.data.toList) = false) :
  Calls Tryz.prog 205 #[.pointer (some ⟨rb, 0, none⟩), .string line] w fun e w' => e = .returned (.bool false) ∧ UpOf w w' := by
 obtain ⟨W, hW⟩ : ∃ W, wordsA [] line.data.toList = W := ⟨_, rfl⟩
 have HS := hd_ (fun i => (show (wAt W i).size ≤ 9223372036854775807 by rw [← hW]; exact Nat.le_trans (wAt_size i) (by rw [bsz]; omega)))
 have cw : ∀ V, Calls Tryz.prog 76 #[.string line] V fun e w' => ∃ A c, e = .returned (.slice A W.length c) ∧ w'.ownsRow V.heap.size 9 1 (.slice A W.length c) W.length (strs W) ∧ UpOf V w' := fun V => by rw [← hW]; exact splitWords_any line V (by omega)
 have CW := hd_ cw
 have HT := hd_ ht
 have HL := hd_ h
 clear ht h cw
 rw [hW] at hno
 clear hW
 by_cases h1 : W.length = 4
 ·cases h2 : (rdR (wAt W 0)).2
  ·clear hno
   go_enter Tryz.func205, Tryz.ntmps205
   go_wp2_with fail
   refine (CW.out _).mono ?_
   rintro e w' ⟨A1, k1, rfl, o1, g1, rfl⟩
   obtain ⟨b1, p1, rfl, hb1, q0, q1, q2⟩ := words4 (Rds.of_own o1) h1
   clear o1
   rw [h1]
   obtain ⟨Al, cl, r1, r2, r3, r4⟩ := HL.out
   have hrlt := r1.lt
   go_wp2_with fail
   refine cg (R := fun V => (b1 < V.heap.size ∧ V.cell? ⟨b1, p1, none⟩ = some (.string (wAt W 0)) ∧ V.cell? ⟨b1, p1 + 1, none⟩ = some (.string (wAt W 1)) ∧ V.cell? ⟨b1, p1 + 2, none⟩ = some (.string (wAt W 2))) ∧ (rb < V.heap.size ∧ V.cell? ⟨rb, 1, none⟩ = some (i64 st)) ∧ LI base V rb l st sz ∧ Tab V ∧ UpOf w V)
    ⟨⟨hb1, q0, q1, q2⟩, ⟨(r1.up g1).lt, (r1.up g1).cell 1⟩, HL.out.below bw_, HT.out.below bw_, uw_⟩ (fun V s => ?_)
   clear hrlt q0 q1 q2 hb1 r1 r2 r3 r4 HL HT Al cl
   obtain ⟨⟨hb1, q0, q1, q2⟩, ⟨hr, qs⟩, hl, ht, hu⟩ := s
   have HL := hd_ hl
   have HT := hd_ ht
   have HU := hd_ hu
   clear hl ht hu
   refine (readDecimal_any _ _ (HS.out _) HT.out).mono ?_
   rintro e w' ⟨rfl, g2, rfl⟩
   go_wp2_with (first | (go_at_call 79; refine (readDecimal_any _ _ (HS.out _) (HT.out.below bw_)).mono ?_; rintro e w' ⟨rfl, g, rfl⟩) | ((with_reducible refine wru ?_); (repeat (go_big_quiet_step (fail))); refine wqn fun nq => ?_))
   go_ret
   exact ⟨rfl, HU.out.tr bw_⟩
  cases h3 : (rdR (wAt W 2)).2
  ·clear hno
   go_enter Tryz.func205, Tryz.ntmps205
   go_wp2_with fail
   refine (CW.out _).mono ?_
   rintro e w' ⟨A1, k1, rfl, o1, g1, rfl⟩
   obtain ⟨b1, p1, rfl, hb1, q0, q1, q2⟩ := words4 (Rds.of_own o1) h1
   clear o1
   rw [h1]
   obtain ⟨Al, cl, r1, r2, r3, r4⟩ := HL.out
   have hrlt := r1.lt
   go_wp2_with fail
   refine cg (R := fun V => (b1 < V.heap.size ∧ V.cell? ⟨b1, p1, none⟩ = some (.string (wAt W 0)) ∧ V.cell? ⟨b1, p1 + 1, none⟩ = some (.string (wAt W 1)) ∧ V.cell? ⟨b1, p1 + 2, none⟩ = some (.string (wAt W 2))) ∧ (rb < V.heap.size ∧ V.cell? ⟨rb, 1, none⟩ = some (i64 st)) ∧ LI base V rb l st sz ∧ Tab V ∧ UpOf w V)
    ⟨⟨hb1, q0, q1, q2⟩, ⟨(r1.up g1).lt, (r1.up g1).cell 1⟩, HL.out.below bw_, HT.out.below bw_, uw_⟩ (fun V s => ?_)
   clear hrlt q0 q1 q2 hb1 r1 r2 r3 r4 HL HT Al cl
   obtain ⟨⟨hb1, q0, q1, q2⟩, ⟨hr, qs⟩, hl, ht, hu⟩ := s
   have HL := hd_ hl
   have HT := hd_ ht
   have HU := hd_ hu
   clear hl ht hu
   refine (readDecimal_any _ _ (HS.out _) HT.out).mono ?_
   rintro e w' ⟨rfl, g2, rfl⟩
   go_wp2_with (first | (go_at_call 79; refine (readDecimal_any _ _ (HS.out _) (HT.out.below bw_)).mono ?_; rintro e w' ⟨rfl, g, rfl⟩) | ((with_reducible refine wru ?_); (repeat (go_big_quiet_step (fail))); refine wqn fun nq => ?_))
   go_ret
   exact ⟨rfl, HU.out.tr bw_⟩
  cases h4 : vEntry (eOf W)
  ·clear hno
   go_enter Tryz.func205, Tryz.ntmps205
   go_wp2_with fail
   refine (CW.out _).mono ?_
   rintro e w' ⟨A1, k1, rfl, o1, g1, rfl⟩
   obtain ⟨b1, p1, rfl, hb1, q0, q1, q2⟩ := words4 (Rds.of_own o1) h1
   clear o1
   rw [h1]
   obtain ⟨Al, cl, r1, r2, r3, r4⟩ := HL.out
   have hrlt := r1.lt
   go_wp2_with fail
   refine cg (R := fun V => (b1 < V.heap.size ∧ V.cell? ⟨b1, p1, none⟩ = some (.string (wAt W 0)) ∧ V.cell? ⟨b1, p1 + 1, none⟩ = some (.string (wAt W 1)) ∧ V.cell? ⟨b1, p1 + 2, none⟩ = some (.string (wAt W 2))) ∧ (rb < V.heap.size ∧ V.cell? ⟨rb, 1, none⟩ = some (i64 st)) ∧ LI base V rb l st sz ∧ Tab V ∧ UpOf w V)
    ⟨⟨hb1, q0, q1, q2⟩, ⟨(r1.up g1).lt, (r1.up g1).cell 1⟩, HL.out.below bw_, HT.out.below bw_, uw_⟩ (fun V s => ?_)
   clear hrlt q0 q1 q2 hb1 r1 r2 r3 r4 HL HT Al cl
   obtain ⟨⟨hb1, q0, q1, q2⟩, ⟨hr, qs⟩, hl, ht, hu⟩ := s
   have HL := hd_ hl
   have HT := hd_ ht
   have HU := hd_ hu
   clear hl ht hu
   refine (readDecimal_any _ _ (HS.out _) HT.out).mono ?_
   rintro e w' ⟨rfl, g2, rfl⟩
   go_wp2_with (first | (go_at_call 79; refine (readDecimal_any _ _ (HS.out _) (HT.out.below bw_)).mono ?_; rintro e w' ⟨rfl, g, rfl⟩) | (go_at_call 172; refine (ret_as (validEntryI_any (eOf W) _ (HS.out 1)) h4).mono ?_; rintro e w' ⟨rfl, g, rfl⟩) | ((with_reducible refine wru ?_); (repeat (go_big_quiet_step (fail))); refine wqn fun nq => ?_))
   go_ret
   exact ⟨rfl, HU.out.tr bw_⟩
  by_cases h5 : dayL l ≤ (eOf W).day
  ·have hb := stampP_bd st (eOf W)
   have h5' : ¬ (rdR (wAt W 0)).1 < dayL l := Int.not_lt.2 h5
   have h6 : ¬ lineP (eOf W) (stampP st (eOf W)) = line := by
    intro he
    rw [takeB_0 h1 h2 h3 h4 h5 he] at hno
    cases hno
   have hne := tl_ne h6
   have hz1 := ewords_len h4
   have hz2 := dec_len (n := stampP st (eOf W)) (by omega) (by omega)
   have z1 : (⟨#[32]⟩ : ByteArray).size = 1 := rfl
   have e1 : ∀ w, (Op.stringOp .add (ewords (eOf W)) (⟨#[32]⟩ : ByteArray)).run Tryz.prog w = .ok (.string (ewords (eOf W) ++ ⟨#[32]⟩)) w := fun w => run_string_add_sum w _ _ (by omega)
   have e2 : ∀ w, (Op.stringOp .add (ewords (eOf W) ++ ⟨#[32]⟩) (dec (stampP st (eOf W)))).run Tryz.prog w = .ok (.string (lineP (eOf W) (stampP st (eOf W)))) w := fun w => run_string_add_sum w _ _ (by simp only [ByteArray.size_append]; omega)
   clear hz1 hz2 z1
   clear hno h5 h6
   go_enter Tryz.func205, Tryz.ntmps205
   go_wp2_with fail
   refine (CW.out _).mono ?_
   rintro e w' ⟨A1, k1, rfl, o1, g1, rfl⟩
   obtain ⟨b1, p1, rfl, hb1, q0, q1, q2⟩ := words4 (Rds.of_own o1) h1
   clear o1
   rw [h1]
   obtain ⟨Al, cl, r1, r2, r3, r4⟩ := HL.out
   have hrlt := r1.lt
   go_wp2_with fail
   refine cg (R := fun V => (b1 < V.heap.size ∧ V.cell? ⟨b1, p1, none⟩ = some (.string (wAt W 0)) ∧ V.cell? ⟨b1, p1 + 1, none⟩ = some (.string (wAt W 1)) ∧ V.cell? ⟨b1, p1 + 2, none⟩ = some (.string (wAt W 2))) ∧ (rb < V.heap.size ∧ V.cell? ⟨rb, 1, none⟩ = some (i64 st)) ∧ LI base V rb l st sz ∧ Tab V ∧ UpOf w V)
    ⟨⟨hb1, q0, q1, q2⟩, ⟨(r1.up g1).lt, (r1.up g1).cell 1⟩, HL.out.below bw_, HT.out.below bw_, uw_⟩ (fun V s => ?_)
   clear hrlt q0 q1 q2 hb1 r1 r2 r3 r4 HL HT Al cl
   obtain ⟨⟨hb1, q0, q1, q2⟩, ⟨hr, qs⟩, hl, ht, hu⟩ := s
   have HL := hd_ hl
   have HT := hd_ ht
   have HU := hd_ hu
   clear hl ht hu
   refine (readDecimal_any _ _ (HS.out _) HT.out).mono ?_
   rintro e w' ⟨rfl, g2, rfl⟩
   go_wp2_with (first | (go_at_call 79; refine (readDecimal_any _ _ (HS.out _) (HT.out.below bw_)).mono ?_; rintro e w' ⟨rfl, g, rfl⟩) | (go_at_call 172; refine (ret_as (validEntryI_any (eOf W) _ (HS.out 1)) h4).mono ?_; rintro e w' ⟨rfl, g, rfl⟩) | (go_at_call 173; refine (dayI_any _ _ _ _ _ _ (HL.out.below bw_) (by omega)).mono ?_; rintro e w' ⟨rfl, g, rfl⟩) | (go_at_call 90; refine (words_any (eOf W) h4 _ (HT.out.below bw_)).mono ?_; rintro e w' ⟨rfl, g, rfl⟩) | (go_at_call 41; refine (decI_any _ _ (by omega) (by omega) (HT.out.below bw_)).mono ?_; rintro e w' ⟨rfl, g, rfl⟩) | ((with_reducible refine wru ?_); (repeat (go_big_quiet_step (first | (go_at_call 174; exact uq_ (stamp_any (eOf W) h4 _ (by omega) (by omega) _ (HT.out.below bw_)))))); refine wqn fun nq => ?_))
   go_ret
   exact ⟨rfl, HU.out.tr bw_⟩
  ·have h5' : (rdR (wAt W 0)).1 < dayL l := by have : ¬ dayL l ≤ (rdR (wAt W 0)).1 := h5; omega
   clear hno h5
   go_enter Tryz.func205, Tryz.ntmps205
   go_wp2_with fail
   refine (CW.out _).mono ?_
   rintro e w' ⟨A1, k1, rfl, o1, g1, rfl⟩
   obtain ⟨b1, p1, rfl, hb1, q0, q1, q2⟩ := words4 (Rds.of_own o1) h1
   clear o1
   rw [h1]
   obtain ⟨Al, cl, r1, r2, r3, r4⟩ := HL.out
   have hrlt := r1.lt
   go_wp2_with fail
   refine cg (R := fun V => (b1 < V.heap.size ∧ V.cell? ⟨b1, p1, none⟩ = some (.string (wAt W 0)) ∧ V.cell? ⟨b1, p1 + 1, none⟩ = some (.string (wAt W 1)) ∧ V.cell? ⟨b1, p1 + 2, none⟩ = some (.string (wAt W 2))) ∧ (rb < V.heap.size ∧ V.cell? ⟨rb, 1, none⟩ = some (i64 st)) ∧ LI base V rb l st sz ∧ Tab V ∧ UpOf w V)
    ⟨⟨hb1, q0, q1, q2⟩, ⟨(r1.up g1).lt, (r1.up g1).cell 1⟩, HL.out.below bw_, HT.out.below bw_, uw_⟩ (fun V s => ?_)
   clear hrlt q0 q1 q2 hb1 r1 r2 r3 r4 HL HT Al cl
   obtain ⟨⟨hb1, q0, q1, q2⟩, ⟨hr, qs⟩, hl, ht, hu⟩ := s
   have HL := hd_ hl
   have HT := hd_ ht
   have HU := hd_ hu
   clear hl ht hu
   refine (readDecimal_any _ _ (HS.out _) HT.out).mono ?_
   rintro e w' ⟨rfl, g2, rfl⟩
   go_wp2_with (first | (go_at_call 79; refine (readDecimal_any _ _ (HS.out _) (HT.out.below bw_)).mono ?_; rintro e w' ⟨rfl, g, rfl⟩) | (go_at_call 172; refine (ret_as (validEntryI_any (eOf W) _ (HS.out 1)) h4).mono ?_; rintro e w' ⟨rfl, g, rfl⟩) | (go_at_call 173; refine (dayI_any _ _ _ _ _ _ (HL.out.below bw_) (by omega)).mono ?_; rintro e w' ⟨rfl, g, rfl⟩) | ((with_reducible refine wru ?_); (repeat (go_big_quiet_step (fail))); refine wqn fun nq => ?_))
   go_ret
   exact ⟨rfl, HU.out.tr bw_⟩
 ·have z : ((W.length : Int) != 4) = true := by rw [bne_iff_ne]; omega
  clear hno
  go_enter Tryz.func205, Tryz.ntmps205
  go_wp2_with fail
  refine (CW.out _).mono ?_
  rintro e w' ⟨A1, k1, rfl, o1, g1, rfl⟩
  go_wp2_with (first | ((with_reducible refine wru ?_); (repeat (go_big_quiet_step (fail))); refine wqn fun nq => ?_))
  go_ret
  exact ⟨rfl, uw_⟩
theorem Blk.below' {w w' : World} {b : Nat} {t : TypeId} {cs : Array Value} (h : Blk w b t cs) (hb : Below w.heap.size w w') : Blk w' b t cs := (hb.block b h.lt).trans h
theorem ne_row {v : Value} {rb : Nat} (h : v.ownBlock = none ∨ v.ownBlock ≠ some rb) : some rb ≠ v.ownBlock := by
 rcases h with h | h
 ·rw [h]; simp
 ·exact fun e => h e.symm
theorem el_entry : ElemOf Tryz.prog 100 127 (.agg #[i64 0, .string ByteArray.empty, i64 0]) 3 32 := elem_of Tryz.underlying100 (by kernel_rfl) rfl (by omega)
theorem wrap2 {a b : Nat} (ha : a ≤ 1000000000) (hb : b ≤ 1000000000) : IntKind.i64.wrap (IntKind.i64.wrap ((a : Int) + (b : Int)) + 1) = ((a + b + 1 : Nat) : Int) := by
 simp [IntKind.wrap, IntKind.signed, IntKind.bits]
 omega
theorem gb_ne {v : Value} {rb gb s : Nat} (h : v.ownBlock = none ∨ v.ownBlock ≠ some rb) (hat : v.ownBlock = some gb ∨ gb = s) (hs : rb < s) : gb ≠ rb := by
 rintro rfl
 rcases hat with h1 | h1
 ·rcases h with h | h
  ·rw [h] at h1; cases h1
  ·exact h h1
 ·omega
theorem Below.sets3 {B rb : Nat} {a w : World} (hr : B ≤ rb) (h : Below B a w) (u0 u1 u2 : Value) : Below B a (((w.setCell ⟨rb, 0, none⟩ u0).setCell ⟨rb, 1, none⟩ u1).setCell ⟨rb, 2, none⟩ u2) :=
 ((h.setCell (p := ⟨rb, 0, none⟩) hr u0).setCell (p := ⟨rb, 1, none⟩) hr u1).setCell (p := ⟨rb, 2, none⟩) hr u2
theorem LI.put {base rb sz : Nat} {l : List Entry} {st : Int} {w : World} {Al : Option Addr} {cl gb cap : Nat} {x : Entry} (b : Blk w rb 152 #[.slice Al l.length cl, i64 st, i64 sz]) (hb : base ≤ rb)
  (o : w.ownsRow base 127 3 (.slice (some ⟨gb, 0, none⟩) (l.length + 1) cap) (l.length + 1) (encs l ++ [i64 x.day, .string x.what, i64 x.value])) (hne : gb ≠ rb) (st' : Int) (sz' : Int) {n : Nat} (hn : sz' = (n : Int) := by rfl) :
  LI base (((w.setCell ⟨rb, 0, none⟩ (.slice (some ⟨gb, 0, none⟩) (l.length + 1) cap)).setCell ⟨rb, 1, none⟩ (i64 st')).setCell ⟨rb, 2, none⟩ (i64 sz')) rb (l ++ [x]) st' n := by
 subst hn
 have hne2 : (Value.slice (some ⟨gb, 0, none⟩) (l.length + 1) cap).ownBlock = none ∨ (Value.slice (some ⟨gb, 0, none⟩) (l.length + 1) cap).ownBlock ≠ some rb := .inr (fun e => by injection e with e; exact hne e)
 have b3 := ((b.put 0 (.slice (some ⟨gb, 0, none⟩) (l.length + 1) cap)).put 1 (i64 st')).put 2 (i64 n)
 have o3 := ((o.kept (grown_put w rb 0 (.slice (some ⟨gb, 0, none⟩) (l.length + 1) cap)) hne2).kept (grown_put _ rb 1 (i64 st')) hne2).kept (grown_put _ rb 2 (i64 n)) hne2
 refine ⟨some ⟨gb, 0, none⟩, cap, ?_, hb, ?_, ?_⟩
 ·rw [List.length_append, List.length_singleton]; exact b3
 ·rw [List.length_append, List.length_singleton, show encs (l ++ [x]) = encs l ++ [i64 x.day, .string x.what, i64 x.value] by simp [encs, Entry.cells]]; exact o3
 ·rw [List.length_append, List.length_singleton]; exact hne2
theorem takeI_ok (base rb sz : Nat) (l : List Entry) (st : Int) (line : ByteArray) (w : World) (h : LI base w rb l st sz) (ht : Tab w) (hline : line.size ≤ 1000000000) (hl : l.length ≤ 1000000000) (s0 : 0 ≤ st) (s1 : st < 65519) (hsz : sz ≤ 1000000000)
  (hok : takeB (dayL l) st line (wordsA [] line.data.toList) = true) :
  Calls Tryz.prog 205 #[.pointer (some ⟨rb, 0, none⟩), .string line] w fun e w' => e = .returned (.bool true) ∧ LI base w' rb (l ++ [eOf (wordsA [] line.data.toList)]) (stampP st (eOf (wordsA [] line.data.toList))) (sz + line.size + 1) ∧ Below base w w' := by
 have HB0 := hd_ (show base ≤ w.heap.size from Nat.le_trans h.lt.1 (Nat.le_of_lt h.lt.2))
 have HBR := hd_ h.lt.1
 obtain ⟨W, hW⟩ : ∃ W, wordsA [] line.data.toList = W := ⟨_, rfl⟩
 have HS := hd_ (fun i => (show (wAt W i).size ≤ 9223372036854775807 by rw [← hW]; exact Nat.le_trans (wAt_size i) (by rw [bsz]; omega)))
 have cw : ∀ V, Calls Tryz.prog 76 #[.string line] V fun e w' => ∃ A c, e = .returned (.slice A W.length c) ∧ w'.ownsRow V.heap.size 9 1 (.slice A W.length c) W.length (strs W) ∧ UpOf V w' := fun V => by rw [← hW]; exact splitWords_any line V (by omega)
 have CW := hd_ cw
 have HT := hd_ ht
 have HL := hd_ h
 clear ht h cw
 rw [hW] at hok ⊢
 clear hW
 obtain ⟨h1, h2, h3, h4, h5, h6⟩ := takeB_inv hok
 have hb := stampP_bd st (eOf W)
 have h5' : ¬ (rdR (wAt W 0)).1 < dayL l := Int.not_lt.2 h5
 have hne := tl_eq h6
 have hz1 := ewords_len h4
 have hz2 := dec_len (n := stampP st (eOf W)) (by omega) (by omega)
 have z1 : (⟨#[32]⟩ : ByteArray).size = 1 := rfl
 have e1 : ∀ w, (Op.stringOp .add (ewords (eOf W)) (⟨#[32]⟩ : ByteArray)).run Tryz.prog w = .ok (.string (ewords (eOf W) ++ ⟨#[32]⟩)) w := fun w => run_string_add_sum w _ _ (by omega)
 have e2 : ∀ w, (Op.stringOp .add (ewords (eOf W) ++ ⟨#[32]⟩) (dec (stampP st (eOf W)))).run Tryz.prog w = .ok (.string (lineP (eOf W) (stampP st (eOf W)))) w := fun w => run_string_add_sum w _ _ (by simp only [ByteArray.size_append]; omega)
 clear hz1 hz2 z1
 clear hok h5 h6
 go_enter Tryz.func205, Tryz.ntmps205
 go_wp2_with fail
 refine (CW.out _).mono ?_
 rintro e w' ⟨A1, k1, rfl, o1, g1, rfl⟩
 obtain ⟨b1, p1, rfl, hb1, q0, q1, q2⟩ := words4 (Rds.of_own o1) h1
 clear o1
 rw [h1]
 obtain ⟨Al, cl, r1, r2, r3, r4⟩ := HL.out
 have hrlt := r1.lt
 go_wp2_with fail
 refine cg (R := fun V => (b1 < V.heap.size ∧ V.cell? ⟨b1, p1, none⟩ = some (.string (wAt W 0)) ∧ V.cell? ⟨b1, p1 + 1, none⟩ = some (.string (wAt W 1)) ∧ V.cell? ⟨b1, p1 + 2, none⟩ = some (.string (wAt W 2))) ∧ (rb < V.heap.size ∧ V.cell? ⟨rb, 1, none⟩ = some (i64 st)) ∧ LI base V rb l st sz ∧ Tab V ∧ UpOf w V)
  ⟨⟨hb1, q0, q1, q2⟩, ⟨(r1.up g1).lt, (r1.up g1).cell 1⟩, HL.out.below bw_, HT.out.below bw_, uw_⟩ (fun V s => ?_)
 clear hrlt q0 q1 q2 hb1 r1 r2 r3 r4 HL HT Al cl
 obtain ⟨⟨hb1, q0, q1, q2⟩, ⟨hr, qs⟩, hl, ht, hu⟩ := s
 have HL := hd_ hl
 have HT := hd_ ht
 have HU := hd_ hu
 clear hl ht hu
 refine (readDecimal_any _ _ (HS.out _) HT.out).mono ?_
 rintro e w' ⟨rfl, g2, rfl⟩
 go_wp2_with fail
 refine (readDecimal_any _ _ (HS.out _) (HT.out.below bw_)).mono ?_
 rintro e w' ⟨rfl, g3, rfl⟩
 go_wp2_with fail
 refine cg (R := fun V2 => (V2.cell? ⟨(up V (g2.tr g3)).heap.size, 0, none⟩ = some (i64 (rdR (wAt W 0)).1) ∧ V2.cell? ⟨(up V (g2.tr g3)).heap.size, 1, none⟩ = some (.string (wAt W 1)) ∧ V2.cell? ⟨(up V (g2.tr g3)).heap.size, 2, none⟩ = some (i64 (rdR (wAt W 2)).1) ∧ (up V (g2.tr g3)).heap.size < V2.heap.size) ∧ (rb < V2.heap.size ∧ V2.cell? ⟨rb, 1, none⟩ = some (i64 st)) ∧ LI base V2 rb l st sz ∧ Tab V2 ∧ UpOf w V2)
  ⟨⟨by simp, by simp, by simp, by simp⟩, ⟨(HL.out.below (w' := _) bw_).lt.2, by simp [hr, qs]⟩, HL.out.below bw_, HT.out.below bw_, HU.out.tr bw_⟩ (fun V2 s => ?_)
 clear q0 q1 q2 hb1 hr qs HL HT HU
 generalize (up V (g2.tr g3)).heap.size = q at *
 obtain ⟨⟨e0, e1', e2', hq⟩, ⟨hr, qs⟩, hl', ht', hu⟩ := s
 have HL := hd_ hl'
 have HT := hd_ ht'
 have HU := hd_ hu
 clear hl' ht' hu
 refine (ret_as (validEntryI_any (eOf W) _ (HS.out 1)) h4).mono ?_
 rintro e w' ⟨rfl, g4, rfl⟩
 go_wp2_with (first | (go_at_call 173; refine (dayI_any _ _ _ _ _ _ (HL.out.below bw_) (by omega)).mono ?_; rintro e w' ⟨rfl, g, rfl⟩) | (go_at_call 90; refine (words_any (eOf W) h4 _ (HT.out.below bw_)).mono ?_; rintro e w' ⟨rfl, g, rfl⟩) | (go_at_call 41; refine (decI_any _ _ (by omega) (by omega) (HT.out.below bw_)).mono ?_; rintro e w' ⟨rfl, g, rfl⟩) | ((with_reducible refine wru ?_); (repeat (go_big_quiet_step (first | (go_at_call 174; exact uq_ (stamp_any (eOf W) h4 _ (by omega) (by omega) _ (HT.out.below bw_)))))); refine wqn fun nq => ?_))
 refine wpg (R := fun V3 => (V3.cell? ⟨q, 0, none⟩ = some (i64 (rdR (wAt W 0)).1) ∧ V3.cell? ⟨q, 1, none⟩ = some (.string (wAt W 1)) ∧ V3.cell? ⟨q, 2, none⟩ = some (i64 (rdR (wAt W 2)).1) ∧ q < V3.heap.size) ∧ LI base V3 rb l st sz ∧ UpOf w V3)
  ⟨⟨by simp [hq, e0], by simp [hq, e1'], by simp [hq, e2'], by simp [hq]⟩, HL.out.below bw_, HU.out.tr bw_⟩ (fun V3 s => ?_)
 clear e0 e1' e2' hq hr qs HL HT HU e1 e2 HS CW
 obtain ⟨⟨e0, e1, e2, hq⟩, ⟨Al, cl, r1, r2, r3, r4⟩, hu⟩ := s
 have HU := hd_ hu
 have c0 := r1.cell 0
 have c1 := r1.cell 1
 have c2 := r1.cell 2
 have hrb := r1.lt
 simp only [List.getElem?_toArray, List.getElem?_cons_zero, List.getElem?_cons_succ] at c0 c1 c2
 have R1 := hd_ r1
 have R3 := hd_ r3
 have R4 := hd_ r4
 have HBS := hd_ (show base ≤ V3.heap.size from Nat.le_trans r2 (Nat.le_of_lt hrb))
 clear hu r1 r3 r4
 go_region_law (first | (go_must (refine step_appAt rfl _ _ 100 (by rfl) base 127 _ 3 32 el_entry (.slice Al l.length cl) l.length (encs l) (by rfl) (own_below R3.out bw_) _ 1 1 [i64 (rdR (wAt W 0)).1, .string (wAt W 1), i64 (rdR (wAt W 2)).1] (by rfl) (rds_new _ #[i64 (rdR (wAt W 0)).1, .string (wAt W 1), i64 (rdR (wAt W 2)).1] _ 3 1 rfl) (fun u hu => by simp at hu; rcases hu with rfl | rfl | rfl <;> rfl) (by omega) (by unfold maxLen; omega) (by omega) (Nat.le_trans HBS.out (Below.size (B := V3.heap.size) (w := V3) bw_)) ?_); intro gb cap w4 o4 hg4 hat4; have b4 := (R1.out.below' bw_).grown hg4 (ne_row R4.out); have d0 := b4.cell 0; have d1 := b4.cell 1; have d2 := b4.cell 2; have f0 := b4.free 0; have f1 := b4.free 1; have f2 := b4.free 2; simp only [List.getElem?_toArray, List.getElem?_cons_zero, List.getElem?_cons_succ] at d0 d1 d2))
 all_goals
  rw [wrap2 hsz hline]
  go_wp2_with (first | ((with_reducible refine wru ?_); (repeat (go_big_quiet_step (fail))); refine wqn fun nq => ?_))
  go_ret
  exact ⟨rfl, LI.put b4 HBR.out o4 (gb_ne R4.out hat4 (Nat.lt_of_lt_of_le hrb (Below.size (B := V3.heap.size) (w := V3) bw_))) _ _, Below.sets3 HBR.out (((HU.out.below.mono HB0.out).trans ((show Below V3.heap.size V3 _ from bw_).mono HBS.out)).grown hg4 (Nat.le_trans HBS.out (Below.size (B := V3.heap.size) (w := V3) bw_)) (fun k hk => (R3.out.lt k hk).1)) _ _ _⟩
theorem tl_teq {a b : ByteArray} (h : a = b) : (a.toList == b.toList) = true := by subst h; simp
theorem tl_tne {a b : ByteArray} (h : ¬ a = b) : (a.toList == b.toList) = false := by
 have := tl_ne h
 simpa using this
theorem one_byte (s : ByteArray) {L : List UInt8} (hL : s.data.toList = L) {k : Nat} (hk : k < L.length) : s.extract k (k + 1) = bs [L.getD k 0] := by
 rw [bs_extract, hL, drop_at hk, show k + 1 - k = 1 by omega]; rfl
theorem cut_any (s t : ByteArray) (b : UInt8) (ht : t = ⟨#[b]⟩) (w : World) (hs : s.size ≤ 1000000000) :
  Calls Tryz.prog 42 #[.string s, .string t] w fun e w' => e = .returned (.tuple #[.string (cutA b [] s.data.toList).1, .string (cutA b [] s.data.toList).2.1, .bool (cutA b [] s.data.toList).2.2]) ∧ UpOf w w' := by
 have hts : t.size = 1 := by rw [ht]; rfl
 have htb : t = bs [b] := ht
 obtain ⟨L, hL⟩ : ∃ L, s.data.toList = L := ⟨_, rfl⟩
 have hLn := hd_ (show L.length = s.size by rw [← hL]; rfl)
 have HL := hd_ hL
 rw [hL]
 obtain ⟨R, hR⟩ : ∃ R, cutA b [] L = R := ⟨_, rfl⟩
 have HR := hd_ hR
 rw [hR]
 have HT := hd_ htb
 clear hR hL ht htb
 go_enter Tryz.func42, Tryz.ntmps42
 go_wp2_with (first | ((with_reducible refine wru ?_); (repeat (go_big_quiet_step (fail))); refine wqn fun nq => ?_))
 go_loopw [7] (fun i wr => ∃ (k : Nat), k ≤ s.size ∧ i = i64 k ∧ Hid (cutA b [] L = cutA b (L.take k) (L.drop k)) ∧ ∃ g : Up w, wr = up w g) (fun i _ => s.size - (intOf i).toNat)
 case atStart => exact ⟨0, by omega, rfl, rfl, ex_up bw_⟩
 case round =>
  obtain ⟨k, hk, rfl, hsp, g, rfl⟩ := hrel
  by_cases hlt : k < s.size
  ·have hkl : k < L.length := by rw [hLn.out]; exact hlt
   have h1 : (k : Int) + 1 ≤ (s.size : Int) := by omega
   have hob := hd_ (one_byte s HL.out hkl)
   have hdr := hd_ (drop_at hkl)
   have hsl : ∀ wx : World, (Instr.slice 9 (.string s) (some (i64 k)) (some (.int .i64 ((k : Int) + 1))) none).run Tryz.prog wx = .ok (.string (s.extract k (k + 1))) wx := fun wx => by
    have := run_slice_string (P := Tryz.prog) wx 9 s .i64 .i64 (k : Int) ((k + 1 : Nat) : Int) Tryz.underlying9 (by omega) (by omega) (by omega)
    simpa using this
   by_cases q : L.getD k 0 = b
   ·have qe := tl_teq (show s.extract k (k + 1) = t by rw [hob.out, q, HT.out])
    have hR2 := hd_ (show R = (s.extract 0 k, s.extract (k + 1) s.size, true) by
     rw [← HR.out, hsp.out, hdr.out, cutA, if_pos q, bs_extract, bs_extract, HL.out, List.drop_zero, Nat.sub_zero, List.take_of_length_le (l := L.drop (k + 1)) (by rw [List.length_drop, hLn.out]; omega)])
    clear q hkl
    go_wp2_with (first | ((with_reducible refine wru ?_); (repeat (go_big_quiet_step (fail))); refine wqn fun nq => ?_))
    go_ret3
    rw [hR2.out]
    exact ⟨rfl, uw_⟩
   ·have qe := tl_tne (show ¬ s.extract k (k + 1) = t by rw [hob.out, HT.out]; intro he; exact q (by have := bs_inj he; injection this))
    have hsp2 := hd_ (show cutA b [] L = cutA b (L.take (k + 1)) (L.drop (k + 1)) by
     rw [hsp.out, hdr.out, cutA, if_neg q, take_snoc hkl])
    clear q hkl
    go_wp2_with (first | ((with_reducible refine wru ?_); (repeat (go_big_quiet_step (fail))); refine wqn fun nq => ?_))
    go_roundw
    case rel => exact ⟨k + 1, by omega, by go_num, hsp2, ex_up bw_⟩
    case measure => (simp [intOf]; try omega)
  ·obtain rfl : k = s.size := by omega
   have e0 : L.drop s.size = [] := List.drop_eq_nil_of_le (by rw [hLn.out]; exact Nat.le_refl _)
   have e1 : L.take s.size = L := List.take_of_length_le (by rw [hLn.out]; exact Nat.le_refl _)
   have hR2 := hd_ (show R = (s, ⟨#[]⟩, false) by
    rw [← HR.out, hsp.out, e0, e1, cutA, ← HL.out, bs_of])
   clear e0 e1
   go_wp2_with (first | ((with_reducible refine wru ?_); (repeat (go_big_quiet_step (fail))); refine wqn fun nq => ?_))
   go_ret3
   rw [hR2.out]
   exact ⟨rfl, uw_⟩
theorem LI.new (w : World) : LI w.heap.size ((w.alloc (.cells #[] 127)).alloc (.cells #[.slice (some ⟨w.heap.size, 0, none⟩) 0 0, i64 0, i64 0] 152)) (w.heap.size + 1) [] 0 0 := by
 have h1 : (w.alloc (.cells #[] 127)).heap.size = w.heap.size + 1 := by simp
 refine ⟨some ⟨w.heap.size, 0, none⟩, 0, ?_, by omega, ?_, .inr (fun e => by injection e with e; exact absurd e (Nat.ne_of_lt (Nat.lt_succ_self _)))⟩
 ·have := Blk.new (w.alloc (.cells #[] 127)) 152 #[.slice (some ⟨w.heap.size, 0, none⟩) 0 0, i64 0, i64 0]
  rw [h1] at this
  exact this
 ·have := World.ownsRow_lit (base := w.heap.size) (e := 127) (size := 3) w #[] 0 (Nat.le_refl _) (by unfold maxLen; omega) rfl
  exact own_below this (Below.alloc (Below.refl _ _) (Nat.le_refl _) _)
theorem LI.cells {base rb sz : Nat} {w : World} {l : List Entry} {st : Int} (h : LI base w rb l st sz) : w.cell? ⟨rb, 2, none⟩ = some (i64 sz) := by
 obtain ⟨A, c, h1, _⟩ := h
 exact h1.cell 2
theorem readLogI_any (s : ByteArray) (w : World) (ht : Tab w) (hs : s.size ≤ 4000) :
  Calls Tryz.prog 166 #[.string s] w fun e w' => ∃ rb, e = .returned (.pointer (some ⟨rb, 0, none⟩)) ∧ LI w.heap.size w' rb (logR s).1 (logR s).2.1 (logR s).2.2 ∧ UpOf w w' := by
 have HT := hd_ ht
 have HN := hd_ (LI.new w)
 have hinv := logR_inv s
 clear ht
 obtain ⟨L, hL⟩ : ∃ L, s.data.toList = L := ⟨_, rfl⟩
 have hLn := hd_ (show L.length = s.size by rw [← hL]; rfl)
 have HL := hd_ hL
 obtain ⟨R, hR⟩ : ∃ R, logR s = R := ⟨_, rfl⟩
 rw [hR]
 have HR := hd_ (show logF (s.size + 1) [] 0 0 L = R by rw [← hR, logR, hL])
 clear hR hL hinv
 go_enter Tryz.func166, Tryz.ntmps166
 go_wp2_with fail
 refine wpg (R := fun V => LI w.heap.size V (w.heap.size + 1) [] 0 0 ∧ UpOf w V) ⟨HN.out, uw_⟩ (fun V st => ?_)
 have ST := hd_ st
 clear st HN
 generalize hp : w.heap.size + 1 = rb
 rw [hp] at ST
 have hrb : w.heap.size ≤ rb := by omega
 clear hp
 go_loopw [4] (fun u wr => ∃ (l : List Entry) (st : Int) (sz k : Nat), LI w.heap.size wr rb l st sz ∧ sz ≤ s.size ∧ l.length ≤ sz ∧ 0 ≤ st ∧ st < 65519 ∧ Hid (logF k l st sz (L.drop sz) = R) ∧ s.size - sz < k ∧ UpOf w wr) (fun _ wr => s.size - (intOf ((wr.cell? ⟨rb, 2, none⟩).getD undef)).toNat)
 case atStart => exact ⟨[], 0, 0, s.size + 1, ST.out.1, by omega, by simp, by omega, by omega, by rw [List.drop_zero]; exact HR, by omega, ST.out.2⟩
 case round =>
  obtain ⟨l, st, sz, k, hl, hsz, hll, s0, s1, hf, hk, hup⟩ := hrel
  have hc2 := hl.cells
  have hrl := hl.lt.2
  obtain ⟨C, hC⟩ : ∃ C, cutA 10 [] (L.drop sz) = C := ⟨_, rfl⟩
  obtain ⟨line, post, ok⟩ := C
  have hls : line.size ≤ 4000 := by
   have := (cutA_size 10 (L.drop sz) []).1
   rw [hC] at this
   simp [hLn.out] at this
   omega
  have cw : ∀ V, Calls Tryz.prog 42 #[.string (s.extract sz s.size), .string ⟨#[10]⟩] V fun e w' => e = .returned (.tuple #[.string line, .string post, .bool ok]) ∧ UpOf V w' := fun V => by
   have := cut_any (s.extract sz s.size) ⟨#[10]⟩ 10 rfl V (by rw [ByteArray.size_extract]; omega)
   rw [show (s.extract sz s.size).data.toList = L.drop sz by rw [bs_extract, bs_list, HL.out, List.take_of_length_le (by rw [List.length_drop, hLn.out]; exact Nat.le_refl _)], hC] at this
   exact this
  have CW := hd_ cw
  have HC := hd_ hC
  have HLI := hd_ hl
  have HTB := hd_ (HT.out.below hup.below)
  have HUP := hd_ hup
  clear cw hC hl hup
  cases ok with
  | false =>
   have hR2 := hd_ (show R = (l, st, sz) by rw [← hf.out, logF_end (by rw [HC.out])])
   go_wp2_with (first | (go_at_call 42; refine (CW.out _).mono ?_; rintro e w' ⟨rfl, g, rfl⟩))
   go_ret
   exact ⟨rb, rfl, by rw [hR2.out]; exact HLI.out.below bw_, HUP.out.tr bw_⟩
  | true =>
   obtain ⟨cd1, cd2⟩ := cut_drop (L := L) (sz := sz) (by rw [hLn.out]; exact hsz) (by rw [HC.out])
   rw [HC.out] at cd1 cd2
   have CD1 : sz + line.size + 1 ≤ s.size := by rw [← hLn.out]; exact cd1
   have CD2 := hd_ (show post.data.toList = L.drop (sz + line.size + 1) from cd2)
   clear cd1 cd2
   cases htk : takeB (dayL l) st line (wordsA [] line.data.toList)
   ·have hR2 := hd_ (show R = (l, st, sz) by rw [← hf.out, logF_bad (by rw [HC.out]; exact takeOf_none htk)])
    go_wp2_with (first | (go_at_call 42; refine (CW.out _).mono ?_; rintro e w' ⟨rfl, g, rfl⟩) | (go_at_call 205; refine (takeI_no _ _ _ l st line _ (HLI.out.below bw_) (HTB.out.below bw_) (by omega) (by omega) s0 s1 htk).mono ?_; rintro e w' ⟨rfl, g, rfl⟩))
    go_ret
    exact ⟨rb, rfl, by rw [hR2.out]; exact HLI.out.below bw_, HUP.out.tr bw_⟩
   ·obtain ⟨k', rfl⟩ : ∃ k', k = k' + 1 := ⟨k - 1, by omega⟩
    have hgo := hd_ (show logF k' (l ++ [eOf (wordsA [] line.data.toList)]) (stampP st (eOf (wordsA [] line.data.toList))) (sz + line.size + 1) (L.drop (sz + line.size + 1)) = R by
     rw [← hf.out, logF_go (x := eOf (wordsA [] line.data.toList)) (st' := stampP st (eOf (wordsA [] line.data.toList))) (by rw [HC.out]) (by rw [HC.out]; exact takeOf_some htk), HC.out, CD2.out])
    have hsb := hd_ (stampP_bd st (eOf (wordsA [] line.data.toList)))
    go_wp2_with fail
    refine (CW.out _).mono ?_
    rintro e w' ⟨rfl, g1, rfl⟩
    go_wp2_with fail
    refine (takeI_ok _ _ _ l st line _ (HLI.out.below bw_) (HTB.out.below bw_) (by omega) (by omega) s0 s1 (by omega) htk).mono ?_
    rintro e w2 ⟨rfl, hl2, hb2⟩
    have HL2 := hd_ hl2
    have hB2 := hd_ (show UpOf w w2 from .of ((HUP.out.tr (V' := up wr g1) bw_).below.trans hb2))
    have hc3 := hl2.cells
    clear hl2 hb2
    go_wp2_with fail
    refine ⟨⟨_, _, _, _, HL2.out, CD1, by rw [List.length_append, List.length_singleton]; omega, hsb.out.1, hsb.out.2, hgo, by omega, hB2.out⟩, ?_⟩
    rw [hc3, hc2]
    simp [intOf]
    omega
theorem l01Number_any (s : ByteArray) (w : World) (hs : s.size ≤ 9223372036854775807) :
  Calls Tryz.prog 146 #[.string s] w fun e w' => e = .returned (.tuple #[i64 (rdR s).1, .bool (rdR s).2]) ∧ UpOf w w' := by
 by_cases h0 : 0 < s.size
 ·have hb := hd_ (byteAt_eq h0)
  have ze := isEmpty_no h0
  by_cases h45 : (s[0].toNat : Int) = 45
  ·have hg := hd_ (show negS s = true by unfold negS; rw [← hb.out]; exact decide_eq_true ⟨h0, h45⟩)
   obtain ⟨t, ht⟩ : ∃ t, s.extract 1 s.size = t := ⟨_, rfl⟩
   have htl : t.data.toList = digs s := by
    rw [digs, if_pos hg.out, ← ht, bs_extract s 1 s.size, bs_list, List.take_of_length_le (by simp)]
   obtain ⟨m, htm⟩ : ∃ m, t.size = m := ⟨_, rfl⟩
   have hms : m < s.size := by rw [← htm, ← ht, ByteArray.size_extract]; omega
   obtain ⟨T, hT0⟩ : ∃ T, digs s = T := ⟨_, rfl⟩
   have HTL := hd_ hT0
   have HTT := hd_ (htl.trans hT0)
   have hT := hd_ (show T.length = m by rw [← hT0, ← htl, ← htm]; rfl)
   clear htl hT0
   go_enter Tryz.func146, Tryz.ntmps146
   by_cases hl : 1 ≤ m ∧ m ≤ 18
   ·obtain ⟨l1, l2⟩ := hl
    have z : ((m : Int) == 0) = false := by rw [beq_eq_false_iff_ne]; omega
    have L12 := hd_ (show 1 ≤ (digs s).length ∧ (digs s).length ≤ 18 by rw [HTL.out, hT.out]; exact ⟨l1, l2⟩)
    go_wp2_with fail
    go_loopw [5, 6] (fun n i wr => ∃ (k v : Nat), k ≤ m ∧ i = i64 k ∧ n = i64 v ∧ Hid (valL 0 (T.take k) = v) ∧ Hid (∀ j, j < k → digit (T.getD j 0) = true) ∧ ∃ g : Up w, wr = up w g) (fun _ i _ => m - (intOf i).toNat)
    case atStart => exact ⟨0, 0, by omega, rfl, rfl, rfl, fun j hj => by omega, ex_up bw_⟩
    case round =>
     obtain ⟨k, v, hk, rfl, rfl, hv, hall, g, rfl⟩ := hrel
     by_cases hlt : k < m
     ·have hlt' : k < t.size := by omega
      have hbt := hd_ (show t[k] = T.getD k 0 by rw [byteAt_eq hlt', byteAt, HTT.out])
      cases q : digit t[k]
      ·have HF := hd_ (rdR_no (numB_digit (s := s) (by rw [HTL.out]; exact all_no (by rw [hT.out]; exact hlt) (by rw [← hbt.out]; exact q))))
       go_wp2_with (first | (go_at_call 183; refine (ret_as (l01Digit_any _ _) q).mono ?_; rintro e w' ⟨rfl, rfl⟩))
       go_ret2
       exact ⟨by rw [HF.out] <;> rfl, uw_⟩
      ·have hv0 := valL_take_bd hall.out (by omega) (by rw [hT.out]; omega)
       rw [hv.out] at hv0
       have hds := dig_sub q
       have hdl := dval_lt q
       have hq := of_decide_eq_true q
       have hv2 := hd_ (show valL 0 (T.take (k + 1)) = 10 * v + dval t[k] by rw [take_snoc (by rw [hT.out]; exact hlt), valL_snoc, hv.out, hbt.out])
       have hall2 := hd_ (lt_ext (P := fun j => digit (T.getD j 0) = true) hall.out (by rw [← hbt.out]; exact q))
       go_wp2_with (first | (go_at_call 183; refine (ret_as (l01Digit_any _ _) q).mono ?_; rintro e w' ⟨rfl, rfl⟩))
       go_roundw
       case rel => exact ⟨k + 1, 10 * v + dval t[k], by omega, by go_num, by go_num, hv2, hall2, ex_up bw_⟩
       case measure => (simp [intOf]; try omega)
     ·obtain rfl : k = m := by omega
      have HA := hd_ (show (digs s).all digit = true by rw [HTL.out]; exact all_of_at (by rw [hT.out]; exact hall.out))
      have HV := hd_ (show sval s = -(v : Int) by rw [sval, if_pos hg.out, HTL.out, ← hv.out, List.take_of_length_le (by rw [hT.out]; omega)])
      have HB := hd_ (sval_bd L12.out.2 HA.out)
      rw [HV.out] at HB
      have hB := HB.out
      by_cases hd : dec (-(v : Int)) = s
      ·have HF := hd_ (rdR_ok (numB_ok L12.out HA.out (by rw [HV.out]; exact hd)))
       have hne := tl_eq hd
       go_wp2_with (first | (go_at_call 157; refine (l01Dec_any _ _ (by omega) (by omega)).mono ?_; rintro e w' ⟨rfl, g, rfl⟩))
       go_ret2
       exact ⟨by rw [HF.out, HV.out] <;> rfl, uw_⟩
      ·have HF := hd_ (rdR_no (numB_dec (s := s) (by rw [HV.out]; exact hd)))
       have hne := tl_ne hd
       go_wp2_with (first | (go_at_call 157; refine (l01Dec_any _ _ (by omega) (by omega)).mono ?_; rintro e w' ⟨rfl, g, rfl⟩))
       go_ret2
       exact ⟨by rw [HF.out] <;> rfl, uw_⟩
   ·have HF := hd_ (rdR_no (numB_len (s := s) (by rw [HTL.out, hT.out]; exact hl)))
    by_cases l0 : m = 0
    ·first
      | (exfalso; omega)
      | (go_wp2_with fail
        go_ret2
        exact ⟨by rw [HF.out] <;> rfl, uw_⟩)
    ·have z : ((m : Int) == 0) = false := by rw [beq_eq_false_iff_ne]; omega
     have l3 : 18 < m := by omega
     go_wp2_with fail
     go_ret2
     exact ⟨by rw [HF.out] <;> rfl, uw_⟩
  ·have hg := hd_ (show negS s = false by unfold negS; rw [← hb.out]; exact decide_eq_false fun h => h45 h.2)
   obtain ⟨t, rfl⟩ : ∃ t, s = t := ⟨_, rfl⟩
   have htl : s.data.toList = digs s := by rw [digs, if_neg (by rw [hg.out]; simp)]
   obtain ⟨m, htm⟩ : ∃ m, s.size = m := ⟨_, rfl⟩
   obtain ⟨T, hT0⟩ : ∃ T, digs s = T := ⟨_, rfl⟩
   have HTL := hd_ hT0
   have HTT := hd_ (htl.trans hT0)
   have hT := hd_ (show T.length = m by rw [← hT0, ← htl, ← htm]; rfl)
   clear htl hT0
   obtain ⟨c0, hc0⟩ : ∃ c, s[0] = c := ⟨_, rfl⟩
   rw [hc0] at h45
   have z45 : ((c0.toNat : Int) == 45) = false := by rw [beq_eq_false_iff_ne]; exact h45
   go_enter Tryz.func146, Tryz.ntmps146
   by_cases hl : 1 ≤ m ∧ m ≤ 18
   ·obtain ⟨l1, l2⟩ := hl
    have z : ((m : Int) == 0) = false := by rw [beq_eq_false_iff_ne]; omega
    have L12 := hd_ (show 1 ≤ (digs s).length ∧ (digs s).length ≤ 18 by rw [HTL.out, hT.out]; exact ⟨l1, l2⟩)
    go_wp2_with fail
    go_loopw [5, 6] (fun n i wr => ∃ (k v : Nat), k ≤ m ∧ i = i64 k ∧ n = i64 v ∧ Hid (valL 0 (T.take k) = v) ∧ Hid (∀ j, j < k → digit (T.getD j 0) = true) ∧ ∃ g : Up w, wr = up w g) (fun _ i _ => m - (intOf i).toNat)
    case atStart => exact ⟨0, 0, by omega, rfl, rfl, rfl, fun j hj => by omega, ex_up bw_⟩
    case round =>
     obtain ⟨k, v, hk, rfl, rfl, hv, hall, g, rfl⟩ := hrel
     by_cases hlt : k < m
     ·have hlt' : k < s.size := by omega
      have hbt := hd_ (show s[k] = T.getD k 0 by rw [byteAt_eq hlt', byteAt, HTT.out])
      cases q : digit s[k]
      ·have HF := hd_ (rdR_no (numB_digit (s := s) (by rw [HTL.out]; exact all_no (by rw [hT.out]; exact hlt) (by rw [← hbt.out]; exact q))))
       go_wp2_with (first | (go_at_call 183; refine (ret_as (l01Digit_any _ _) q).mono ?_; rintro e w' ⟨rfl, rfl⟩))
       go_ret2
       exact ⟨by rw [HF.out] <;> rfl, uw_⟩
      ·have hv0 := valL_take_bd hall.out (by omega) (by rw [hT.out]; omega)
       rw [hv.out] at hv0
       have hds := dig_sub q
       have hdl := dval_lt q
       have hq := of_decide_eq_true q
       have hv2 := hd_ (show valL 0 (T.take (k + 1)) = 10 * v + dval s[k] by rw [take_snoc (by rw [hT.out]; exact hlt), valL_snoc, hv.out, hbt.out])
       have hall2 := hd_ (lt_ext (P := fun j => digit (T.getD j 0) = true) hall.out (by rw [← hbt.out]; exact q))
       go_wp2_with (first | (go_at_call 183; refine (ret_as (l01Digit_any _ _) q).mono ?_; rintro e w' ⟨rfl, rfl⟩))
       go_roundw
       case rel => exact ⟨k + 1, 10 * v + dval s[k], by omega, by go_num, by go_num, hv2, hall2, ex_up bw_⟩
       case measure => (simp [intOf]; try omega)
     ·obtain rfl : k = m := by omega
      have HA := hd_ (show (digs s).all digit = true by rw [HTL.out]; exact all_of_at (by rw [hT.out]; exact hall.out))
      have HV := hd_ (show sval s = (v : Int) by rw [sval, if_neg (by rw [hg.out]; simp), HTL.out, ← hv.out, List.take_of_length_le (by rw [hT.out]; omega)])
      have HB := hd_ (sval_bd L12.out.2 HA.out)
      rw [HV.out] at HB
      have hB := HB.out
      by_cases hd : dec ((v : Int)) = s
      ·have HF := hd_ (rdR_ok (numB_ok L12.out HA.out (by rw [HV.out]; exact hd)))
       have hne := tl_eq hd
       go_wp2_with (first | (go_at_call 157; refine (l01Dec_any _ _ (by omega) (by omega)).mono ?_; rintro e w' ⟨rfl, g, rfl⟩))
       go_ret2
       exact ⟨by rw [HF.out, HV.out] <;> rfl, uw_⟩
      ·have HF := hd_ (rdR_no (numB_dec (s := s) (by rw [HV.out]; exact hd)))
       have hne := tl_ne hd
       go_wp2_with (first | (go_at_call 157; refine (l01Dec_any _ _ (by omega) (by omega)).mono ?_; rintro e w' ⟨rfl, g, rfl⟩))
       go_ret2
       exact ⟨by rw [HF.out] <;> rfl, uw_⟩
   ·have HF := hd_ (rdR_no (numB_len (s := s) (by rw [HTL.out, hT.out]; exact hl)))
    by_cases l0 : m = 0
    ·first
      | (exfalso; omega)
      | (go_wp2_with fail
        go_ret2
        exact ⟨by rw [HF.out] <;> rfl, uw_⟩)
    ·have z : ((m : Int) == 0) = false := by rw [beq_eq_false_iff_ne]; omega
     have l3 : 18 < m := by omega
     go_wp2_with fail
     go_ret2
     exact ⟨by rw [HF.out] <;> rfl, uw_⟩
 ·have h1 : s.size = 0 := by omega
  have ze := isEmpty_yes h1
  have HF := hd_ (rdR_no (numB_len (s := s) (by
   have : digs s = [] := by
    have h2 : s.data.toList = [] := List.eq_nil_of_length_eq_zero (by rw [bsz]; exact h1)
    rw [digs, h2]; simp
   rw [this]; simp)))
  go_enter Tryz.func146, Tryz.ntmps146
  go_wp2_with fail
  go_ret2
  exact ⟨by rw [HF.out] <;> rfl, uw_⟩
def LS (base : Nat) (w : World) (rb : Nat) (s : ByteArray) (l : List Entry) (st : Int) (sz : Nat) : Prop :=
 ∃ A c, Blk w rb 171 #[.string s, i64 sz, i64 st, .slice A l.length c] ∧ base ≤ rb ∧ w.ownsRow base 127 3 (.slice A l.length c) l.length (encs l) ∧ ((Value.slice A l.length c).ownBlock = none ∨ (Value.slice A l.length c).ownBlock ≠ some rb)
theorem LS.below {base rb sz : Nat} {w w' : World} {s : ByteArray} {l : List Entry} {st : Int} (h : LS base w rb s l st sz) (hb : Below w.heap.size w w') : LS base w' rb s l st sz := by
 obtain ⟨A, c, h1, h2, h3, h4⟩ := h
 exact ⟨A, c, (hb.block rb h1.lt).trans h1, h2, own_below h3 hb, h4⟩
theorem LS.lt {base rb sz : Nat} {w : World} {s : ByteArray} {l : List Entry} {st : Int} (h : LS base w rb s l st sz) : base ≤ rb ∧ rb < w.heap.size := by
 obtain ⟨A, c, h1, h2, h3, h4⟩ := h
 exact ⟨h2, h1.lt⟩
theorem LS.cells {base rb sz : Nat} {w : World} {s : ByteArray} {l : List Entry} {st : Int} (h : LS base w rb s l st sz) :
  w.cell? ⟨rb, 0, none⟩ = some (.string s) ∧ w.cell? ⟨rb, 1, none⟩ = some (i64 sz) ∧ w.cell? ⟨rb, 2, none⟩ = some (i64 st) := by
 obtain ⟨A, c, h1, h2, h3, h4⟩ := h
 exact ⟨h1.cell 0, h1.cell 1, h1.cell 2⟩
theorem dayS_any (base rb sz : Nat) (s : ByteArray) (l : List Entry) (st : Int) (w : World) (h : LS base w rb s l st sz) (hn : l.length ≤ 1000000000) :
  Calls Tryz.prog 190 #[.pointer (some ⟨rb, 0, none⟩)] w fun e w' => e = .returned (i64 (dayL l)) ∧ UpOf w w' := by
 obtain ⟨A, c, h1, h2, h3, h4⟩ := h
 have c0 := h1.cell 3
 have hlt := h1.lt
 simp only [List.getElem?_toArray, List.getElem?_cons_zero, List.getElem?_cons_succ] at c0
 obtain ⟨D, hD⟩ : ∃ D, dayL l = D := ⟨_, rfl⟩
 rw [hD]
 rcases Nat.eq_zero_or_pos l.length with h0 | h0
 ·have z : ((l.length : Int) == 0) = true := by rw [beq_iff_eq]; omega
  obtain rfl : D = 0 := by rw [← hD, dayL, if_pos h0]
  clear hD h1 h2 h3 h4
  go_enter Tryz.func190, Tryz.ntmps190
  go_wp2_with (first | ((with_reducible refine wru ?_); (repeat (go_big_quiet_step (fail))); refine wqn fun nq => ?_))
  go_ret
  exact ⟨rfl, uw_⟩
 ·obtain ⟨n, hn1⟩ : ∃ n, l.length = n + 1 := ⟨l.length - 1, by omega⟩
  obtain ⟨b, off, rfl, hb, cd⟩ := en_last (Rds.of_own h3) hn1
  rw [hD] at cd
  rw [hn1] at c0 hn
  have z : (((n + 1 : Nat) : Int) == 0) = false := by rw [beq_eq_false_iff_ne]; omega
  clear hD h1 h2 h3 h4 h0 hn1
  go_enter Tryz.func190, Tryz.ntmps190
  go_wp2_with (first | ((with_reducible refine wru ?_); (repeat (go_big_quiet_step (fail))); refine wqn fun nq => ?_))
  go_ret
  exact ⟨rfl, uw_⟩
theorem l27Line_any (x : Entry) (hv : vEntry x = true) (st : Int) (h0 : 0 ≤ st) (h1 : st < 65519) (b o : Nat) (w : World) (h : EAt w b o x) :
  Calls Tryz.prog 191 #[i64 st, .pointer (some ⟨b, o, none⟩)] w fun e w' => e = .returned (.string (lineP x st ++ ⟨#[10]⟩)) ∧ UpOf w w' := by
 have hz1 := ewords_len hv
 have hz2 := dec_len (n := st) (by omega) (by omega)
 have hz3 := lineP_len hv h0 h1
 have z1 : (⟨#[32]⟩ : ByteArray).size = 1 := rfl
 have z2 : (⟨#[10]⟩ : ByteArray).size = 1 := rfl
 have e1 : ∀ w, (Op.stringOp .add (ewords x) (⟨#[32]⟩ : ByteArray)).run Tryz.prog w = .ok (.string (ewords x ++ ⟨#[32]⟩)) w := fun w => run_string_add_sum w _ _ (by omega)
 have e2 : ∀ w, (Op.stringOp .add (ewords x ++ ⟨#[32]⟩) (dec st)).run Tryz.prog w = .ok (.string (lineP x st)) w := fun w => run_string_add_sum w _ _ (by simp only [ByteArray.size_append]; omega)
 have e3 : ∀ w, (Op.stringOp .add (lineP x st) (⟨#[10]⟩ : ByteArray)).run Tryz.prog w = .ok (.string (lineP x st ++ ⟨#[10]⟩)) w := fun w => run_string_add_sum w _ _ (by omega)
 clear hz1 hz2 hz3 z1 z2
 go_enter Tryz.func191, Tryz.ntmps191
 go_wp2_with (first | (go_at_call 161; refine (l27Words_any x hv _ _ _ (h.below bw_)).mono ?_; rintro e w' ⟨rfl, g, rfl⟩) | (go_at_call 157; refine (l01Dec_any _ _ (by omega) (by omega)).mono ?_; rintro e w' ⟨rfl, g, rfl⟩))
 go_ret
 exact ⟨rfl, uw_⟩
theorem sAt_size {L : List UInt8} (i : Nat) : (wAt (splitA 32 [] L) i).size ≤ L.length := by
 unfold wAt
 rw [List.getD_eq_getElem?_getD]
 cases h : (splitA 32 [] L)[i]? with
 | none => exact Nat.zero_le _
 | some p =>
  have := split_size 32 L [] p (List.mem_of_getElem? h)
  simpa using this
theorem app_inj {a b : ByteArray} (h : a ++ ⟨#[10]⟩ = b ++ ⟨#[10]⟩) : a = b := by
 have h1 := congrArg (fun x : ByteArray => x.data.toList) h
 simp only [ByteArray.data_append, Array.toList_append] at h1
 exact ba_ext (List.append_cancel_right h1)
theorem lineS_no (base rb sz : Nat) (s : ByteArray) (l : List Entry) (st : Int) (line post : ByteArray) (ok : Bool) (w : World) (h : LS base w rb s l st sz) (hC : cutA 10 [] (s.data.toList.drop sz) = (line, post, ok)) (hsz : sz ≤ s.size) (hs : s.size ≤ 1000000) (hl : l.length ≤ 1000000) (s0 : 0 ≤ st) (s1 : st < 65519)
  (hno : ok = false ∨ takeB (dayL l) st line (splitA 32 [] line.data.toList) = false) :
  Calls Tryz.prog 175 #[.pointer (some ⟨rb, 0, none⟩)] w fun e w' => e = .returned (.bool false) ∧ UpOf w w' := by
 obtain ⟨L, hL⟩ : ∃ L, s.data.toList = L := ⟨_, rfl⟩
 have hLn := hd_ (show L.length = s.size by rw [← hL]; rfl)
 have HL := hd_ hL
 rw [hL] at hC
 have HC := hd_ hC
 have hls : line.size ≤ 1000000 := by
  have := (cutA_size 10 (L.drop sz) []).1
  rw [hC] at this
  simp [hLn.out] at this
  omega
 clear hL hC
 obtain ⟨W, hW⟩ : ∃ W, splitA 32 [] line.data.toList = W := ⟨_, rfl⟩
 have HS := hd_ (fun i => (show (wAt W i).size ≤ 9223372036854775807 by rw [← hW]; exact Nat.le_trans (sAt_size i) (by rw [bsz]; omega)))
 have cw : ∀ V, Calls Tryz.prog 44 #[.string line, .int .u8 32] V fun e w' => ∃ A c, e = .returned (.slice A W.length c) ∧ w'.ownsRow V.heap.size 9 1 (.slice A W.length c) W.length (strs W) ∧ UpOf V w' := fun V => by rw [← hW]; exact l01Split_any line 32 32 rfl V (by omega)
 have CW := hd_ cw
 obtain ⟨c0, c1, c2⟩ := h.cells
 have hrb := h.lt.2
 have HLS := hd_ h
 clear h cw
 rw [hW] at hno
 clear hW
 go_enter Tryz.func175, Tryz.ntmps175
 go_wp2_with (first | ((with_reducible refine wru ?_); (repeat (go_big_quiet_step (fail))); refine wqn fun nq => ?_))
 go_loopw [3] (fun e wr => ∃ k : Nat, sz ≤ k ∧ k ≤ s.size ∧ e = i64 k ∧ Hid (cutA 10 ((L.drop sz).take (k - sz)) (L.drop k) = (line, post, ok)) ∧ ∃ g : Up w, wr = up w g) (fun e _ => s.size - (intOf e).toNat)
 case atStart => exact ⟨sz, Nat.le_refl _, hsz, rfl, by rw [Nat.sub_self, List.take_zero]; exact HC, ex_up bw_⟩
 case round =>
  obtain ⟨k, hk0, hk, rfl, hsp, g, rfl⟩ := hrel
  by_cases hlt : k < s.size
  ·have hbt := hd_ (show s[k] = L.getD k 0 by rw [byteAt_eq hlt, byteAt, HL.out])
   have hkl : k < L.length := by rw [hLn.out]; exact hlt
   have hdr := hd_ (drop_at hkl)
   by_cases q : s[k] = 10
   ·have qe : ((s[k].toNat : Int) != 10) = false := by rw [q]; rfl
    have hres := hsp.out
    rw [hdr.out, ← hbt.out, q, cutA, if_pos rfl] at hres
    have hline := hd_ (show s.extract sz k = line by rw [bs_extract, HL.out]; exact congrArg Prod.fst hres)
    have hpost := hd_ (show bs (L.drop (k + 1)) = post from congrArg (fun x => x.2.1) hres)
    have hokk : true = ok := congrArg (fun x => x.2.2) hres
    have hksz := hd_ (show k = sz + line.size by rw [← hline.out, ByteArray.size_extract]; omega)
    have hl2 := hd_ (show s.extract sz (k + 1) = line ++ ⟨#[10]⟩ by
     apply ba_ext
     rw [ByteArray.data_append, Array.toList_append, ← hline.out, bs_extract, bs_extract, bs_list, bs_list, HL.out, cur_snoc hkl hk0, ← hbt.out, q])
    have hs1 : ∀ wx : World, (Instr.slice 9 (.string s) (some (i64 sz)) (some (i64 k)) none).run Tryz.prog wx = .ok (.string line) wx := fun wx => by
     have := run_slice_string (P := Tryz.prog) wx 9 s .i64 .i64 (sz : Int) (k : Int) Tryz.underlying9 (by omega) (by omega) (by omega)
     simpa [hline.out] using this
    have hs2 : ∀ wx : World, (Instr.slice 9 (.string s) (some (i64 sz)) (some (.int .i64 ((k : Int) + 1))) none).run Tryz.prog wx = .ok (.string (line ++ ⟨#[10]⟩)) wx := fun wx => by
     have := run_slice_string (P := Tryz.prog) wx 9 s .i64 .i64 (sz : Int) ((k + 1 : Nat) : Int) Tryz.underlying9 (by omega) (by omega) (by omega)
     simpa [hl2.out] using this
    clear hres q hkl hsp
    subst hokk
    have hno := hno.resolve_left (by simp)
    by_cases h1 : W.length = 4
    ·cases h2 : (rdR (wAt W 0)).2
     ·clear hno
      go_wp2_with fail
      refine wpg (R := fun V => (V.cell? ⟨rb, 0, none⟩ = some (.string s) ∧ V.cell? ⟨rb, 1, none⟩ = some (i64 sz) ∧ V.cell? ⟨rb, 2, none⟩ = some (i64 st) ∧ rb < V.heap.size) ∧ LS base V rb s l st sz ∧ UpOf w V)
       ⟨⟨by simp [hrb, c0], by simp [hrb, c1], by simp [hrb, c2], (HLS.out.below (w' := _) bw_).lt.2⟩, HLS.out.below bw_, uw_⟩ (fun V z => ?_)
      clear c0 c1 c2 hrb HLS
      obtain ⟨⟨c0, c1, c2, hrb⟩, hls', hu⟩ := z
      have HLS := hd_ hls'
      have HU := hd_ hu
      clear hls' hu
      go_region_held3 (fun w' => (V).heap.size ≤ w'.heap.size ∧ ∀ b o, b < (V).heap.size → w'.cell? ⟨b, o, none⟩ = (V).cell? ⟨b, o, none⟩) (exact sm_of bw_) (first | (go_at_call 44; refine (CW.out _).mono ?_; rintro e w' ⟨A1, k1, rfl, o1, g1, rfl⟩))
      obtain ⟨b1, p1, rfl, hb1, q0, q1, q2⟩ := words4 (Rds.of_own o1) h1
      clear o1
      go_wp2_with fail
      refine cg (R := fun V2 => (b1 < V2.heap.size ∧ V2.cell? ⟨b1, p1, none⟩ = some (.string (wAt W 0)) ∧ V2.cell? ⟨b1, p1 + 1, none⟩ = some (.string (wAt W 1)) ∧ V2.cell? ⟨b1, p1 + 2, none⟩ = some (.string (wAt W 2))) ∧ LS base V2 rb s l st sz ∧ UpOf w V2)
       ⟨⟨hb1, q0, q1, q2⟩, HLS.out.below bw_, HU.out.tr bw_⟩ (fun V2 z => ?_)
      clear q0 q1 q2 hb1 c0 c1 c2 hrb HLS HU
      obtain ⟨⟨hb1, q0, q1, q2⟩, hls', hu⟩ := z
      obtain ⟨c0, c1, c2⟩ := hls'.cells
      have hrb := hls'.lt.2
      have HLS := hd_ hls'
      have HU := hd_ hu
      clear hls' hu
      refine (l01Number_any _ _ (HS.out _)).mono ?_
      rintro e w' ⟨rfl, g2, rfl⟩
      go_wp2_with fail
      refine (l01Number_any _ _ (HS.out _)).mono ?_
      rintro e w' ⟨rfl, g3, rfl⟩
      go_wp2_with fail
      refine wpg (R := fun V3 => EAt V3 (up V2 (g2.tr g3)).heap.size 0 (eOf W) ∧ LS base V3 rb s l st sz ∧ UpOf w V3)
       ⟨⟨by simp, by simp [eOf], by simp [eOf], by simp [eOf]⟩, HLS.out.below bw_, HU.out.tr bw_⟩ (fun V3 z => ?_)
      clear q0 q1 q2 hb1 c0 c1 c2 hrb HLS HU
      generalize (up V2 (g2.tr g3)).heap.size = q at *
      obtain ⟨he, hls', hu⟩ := z
      obtain ⟨c0, c1, c2⟩ := hls'.cells
      have hrb := hls'.lt.2
      obtain ⟨hq, e0, e1, e2⟩ := id he
      have HE := hd_ he
      have HLS := hd_ hls'
      have HU := hd_ hu
      clear he hls' hu
      go_wp2_with (first | ((with_reducible refine wru ?_); (repeat (go_big_quiet_step (fail))); refine wqn fun nq => ?_))
      go_ret
      exact ⟨rfl, HU.out.tr bw_⟩
     cases h3 : (rdR (wAt W 2)).2
     ·clear hno
      go_wp2_with fail
      refine wpg (R := fun V => (V.cell? ⟨rb, 0, none⟩ = some (.string s) ∧ V.cell? ⟨rb, 1, none⟩ = some (i64 sz) ∧ V.cell? ⟨rb, 2, none⟩ = some (i64 st) ∧ rb < V.heap.size) ∧ LS base V rb s l st sz ∧ UpOf w V)
       ⟨⟨by simp [hrb, c0], by simp [hrb, c1], by simp [hrb, c2], (HLS.out.below (w' := _) bw_).lt.2⟩, HLS.out.below bw_, uw_⟩ (fun V z => ?_)
      clear c0 c1 c2 hrb HLS
      obtain ⟨⟨c0, c1, c2, hrb⟩, hls', hu⟩ := z
      have HLS := hd_ hls'
      have HU := hd_ hu
      clear hls' hu
      go_region_held3 (fun w' => (V).heap.size ≤ w'.heap.size ∧ ∀ b o, b < (V).heap.size → w'.cell? ⟨b, o, none⟩ = (V).cell? ⟨b, o, none⟩) (exact sm_of bw_) (first | (go_at_call 44; refine (CW.out _).mono ?_; rintro e w' ⟨A1, k1, rfl, o1, g1, rfl⟩))
      obtain ⟨b1, p1, rfl, hb1, q0, q1, q2⟩ := words4 (Rds.of_own o1) h1
      clear o1
      go_wp2_with fail
      refine cg (R := fun V2 => (b1 < V2.heap.size ∧ V2.cell? ⟨b1, p1, none⟩ = some (.string (wAt W 0)) ∧ V2.cell? ⟨b1, p1 + 1, none⟩ = some (.string (wAt W 1)) ∧ V2.cell? ⟨b1, p1 + 2, none⟩ = some (.string (wAt W 2))) ∧ LS base V2 rb s l st sz ∧ UpOf w V2)
       ⟨⟨hb1, q0, q1, q2⟩, HLS.out.below bw_, HU.out.tr bw_⟩ (fun V2 z => ?_)
      clear q0 q1 q2 hb1 c0 c1 c2 hrb HLS HU
      obtain ⟨⟨hb1, q0, q1, q2⟩, hls', hu⟩ := z
      obtain ⟨c0, c1, c2⟩ := hls'.cells
      have hrb := hls'.lt.2
      have HLS := hd_ hls'
      have HU := hd_ hu
      clear hls' hu
      refine (l01Number_any _ _ (HS.out _)).mono ?_
      rintro e w' ⟨rfl, g2, rfl⟩
      go_wp2_with fail
      refine (l01Number_any _ _ (HS.out _)).mono ?_
      rintro e w' ⟨rfl, g3, rfl⟩
      go_wp2_with fail
      refine wpg (R := fun V3 => EAt V3 (up V2 (g2.tr g3)).heap.size 0 (eOf W) ∧ LS base V3 rb s l st sz ∧ UpOf w V3)
       ⟨⟨by simp, by simp [eOf], by simp [eOf], by simp [eOf]⟩, HLS.out.below bw_, HU.out.tr bw_⟩ (fun V3 z => ?_)
      clear q0 q1 q2 hb1 c0 c1 c2 hrb HLS HU
      generalize (up V2 (g2.tr g3)).heap.size = q at *
      obtain ⟨he, hls', hu⟩ := z
      obtain ⟨c0, c1, c2⟩ := hls'.cells
      have hrb := hls'.lt.2
      obtain ⟨hq, e0, e1, e2⟩ := id he
      have HE := hd_ he
      have HLS := hd_ hls'
      have HU := hd_ hu
      clear he hls' hu
      go_wp2_with (first | ((with_reducible refine wru ?_); (repeat (go_big_quiet_step (fail))); refine wqn fun nq => ?_))
      go_ret
      exact ⟨rfl, HU.out.tr bw_⟩
     cases h4 : vEntry (eOf W)
     ·clear hno
      go_wp2_with fail
      refine wpg (R := fun V => (V.cell? ⟨rb, 0, none⟩ = some (.string s) ∧ V.cell? ⟨rb, 1, none⟩ = some (i64 sz) ∧ V.cell? ⟨rb, 2, none⟩ = some (i64 st) ∧ rb < V.heap.size) ∧ LS base V rb s l st sz ∧ UpOf w V)
       ⟨⟨by simp [hrb, c0], by simp [hrb, c1], by simp [hrb, c2], (HLS.out.below (w' := _) bw_).lt.2⟩, HLS.out.below bw_, uw_⟩ (fun V z => ?_)
      clear c0 c1 c2 hrb HLS
      obtain ⟨⟨c0, c1, c2, hrb⟩, hls', hu⟩ := z
      have HLS := hd_ hls'
      have HU := hd_ hu
      clear hls' hu
      go_region_held3 (fun w' => (V).heap.size ≤ w'.heap.size ∧ ∀ b o, b < (V).heap.size → w'.cell? ⟨b, o, none⟩ = (V).cell? ⟨b, o, none⟩) (exact sm_of bw_) (first | (go_at_call 44; refine (CW.out _).mono ?_; rintro e w' ⟨A1, k1, rfl, o1, g1, rfl⟩))
      obtain ⟨b1, p1, rfl, hb1, q0, q1, q2⟩ := words4 (Rds.of_own o1) h1
      clear o1
      go_wp2_with fail
      refine cg (R := fun V2 => (b1 < V2.heap.size ∧ V2.cell? ⟨b1, p1, none⟩ = some (.string (wAt W 0)) ∧ V2.cell? ⟨b1, p1 + 1, none⟩ = some (.string (wAt W 1)) ∧ V2.cell? ⟨b1, p1 + 2, none⟩ = some (.string (wAt W 2))) ∧ LS base V2 rb s l st sz ∧ UpOf w V2)
       ⟨⟨hb1, q0, q1, q2⟩, HLS.out.below bw_, HU.out.tr bw_⟩ (fun V2 z => ?_)
      clear q0 q1 q2 hb1 c0 c1 c2 hrb HLS HU
      obtain ⟨⟨hb1, q0, q1, q2⟩, hls', hu⟩ := z
      obtain ⟨c0, c1, c2⟩ := hls'.cells
      have hrb := hls'.lt.2
      have HLS := hd_ hls'
      have HU := hd_ hu
      clear hls' hu
      refine (l01Number_any _ _ (HS.out _)).mono ?_
      rintro e w' ⟨rfl, g2, rfl⟩
      go_wp2_with fail
      refine (l01Number_any _ _ (HS.out _)).mono ?_
      rintro e w' ⟨rfl, g3, rfl⟩
      go_wp2_with fail
      refine wpg (R := fun V3 => EAt V3 (up V2 (g2.tr g3)).heap.size 0 (eOf W) ∧ LS base V3 rb s l st sz ∧ UpOf w V3)
       ⟨⟨by simp, by simp [eOf], by simp [eOf], by simp [eOf]⟩, HLS.out.below bw_, HU.out.tr bw_⟩ (fun V3 z => ?_)
      clear q0 q1 q2 hb1 c0 c1 c2 hrb HLS HU
      generalize (up V2 (g2.tr g3)).heap.size = q at *
      obtain ⟨he, hls', hu⟩ := z
      obtain ⟨c0, c1, c2⟩ := hls'.cells
      have hrb := hls'.lt.2
      obtain ⟨hq, e0, e1, e2⟩ := id he
      have HE := hd_ he
      have HLS := hd_ hls'
      have HU := hd_ hu
      clear he hls' hu
      go_wp2_with (first | ((with_reducible refine wru ?_); (repeat (go_big_quiet_step (first | (go_at_call 189; exact uq_ (ret_as (l27Ok_any (eOf W) _ _ _ (HE.out.below bw_) (HS.out 1)) h4))))); refine wqn fun nq => ?_))
      go_ret
      exact ⟨rfl, HU.out.tr bw_⟩
     by_cases h5 : dayL l ≤ (eOf W).day
     ·have hb := stampP_bd st (eOf W)
      have h5' : ¬ (eOf W).day < dayL l := Int.not_lt.2 h5
      have h6 : ¬ lineP (eOf W) (stampP st (eOf W)) = line := by
       intro he
       rw [takeB_0 h1 h2 h3 h4 h5 he] at hno
       cases hno
      have hne := tl_ne (fun he => h6 (app_inj he))
      have hwl := ewords_len h4
      clear hno h5 h6
      go_wp2_with fail
      refine wpg (R := fun V => (V.cell? ⟨rb, 0, none⟩ = some (.string s) ∧ V.cell? ⟨rb, 1, none⟩ = some (i64 sz) ∧ V.cell? ⟨rb, 2, none⟩ = some (i64 st) ∧ rb < V.heap.size) ∧ LS base V rb s l st sz ∧ UpOf w V)
       ⟨⟨by simp [hrb, c0], by simp [hrb, c1], by simp [hrb, c2], (HLS.out.below (w' := _) bw_).lt.2⟩, HLS.out.below bw_, uw_⟩ (fun V z => ?_)
      clear c0 c1 c2 hrb HLS
      obtain ⟨⟨c0, c1, c2, hrb⟩, hls', hu⟩ := z
      have HLS := hd_ hls'
      have HU := hd_ hu
      clear hls' hu
      go_region_held3 (fun w' => (V).heap.size ≤ w'.heap.size ∧ ∀ b o, b < (V).heap.size → w'.cell? ⟨b, o, none⟩ = (V).cell? ⟨b, o, none⟩) (exact sm_of bw_) (first | (go_at_call 44; refine (CW.out _).mono ?_; rintro e w' ⟨A1, k1, rfl, o1, g1, rfl⟩))
      obtain ⟨b1, p1, rfl, hb1, q0, q1, q2⟩ := words4 (Rds.of_own o1) h1
      clear o1
      go_wp2_with fail
      refine cg (R := fun V2 => (b1 < V2.heap.size ∧ V2.cell? ⟨b1, p1, none⟩ = some (.string (wAt W 0)) ∧ V2.cell? ⟨b1, p1 + 1, none⟩ = some (.string (wAt W 1)) ∧ V2.cell? ⟨b1, p1 + 2, none⟩ = some (.string (wAt W 2))) ∧ LS base V2 rb s l st sz ∧ UpOf w V2)
       ⟨⟨hb1, q0, q1, q2⟩, HLS.out.below bw_, HU.out.tr bw_⟩ (fun V2 z => ?_)
      clear q0 q1 q2 hb1 c0 c1 c2 hrb HLS HU
      obtain ⟨⟨hb1, q0, q1, q2⟩, hls', hu⟩ := z
      obtain ⟨c0, c1, c2⟩ := hls'.cells
      have hrb := hls'.lt.2
      have HLS := hd_ hls'
      have HU := hd_ hu
      clear hls' hu
      refine (l01Number_any _ _ (HS.out _)).mono ?_
      rintro e w' ⟨rfl, g2, rfl⟩
      go_wp2_with fail
      refine (l01Number_any _ _ (HS.out _)).mono ?_
      rintro e w' ⟨rfl, g3, rfl⟩
      go_wp2_with fail
      refine wpg (R := fun V3 => EAt V3 (up V2 (g2.tr g3)).heap.size 0 (eOf W) ∧ LS base V3 rb s l st sz ∧ UpOf w V3)
       ⟨⟨by simp, by simp [eOf], by simp [eOf], by simp [eOf]⟩, HLS.out.below bw_, HU.out.tr bw_⟩ (fun V3 z => ?_)
      clear q0 q1 q2 hb1 c0 c1 c2 hrb HLS HU
      generalize (up V2 (g2.tr g3)).heap.size = q at *
      obtain ⟨he, hls', hu⟩ := z
      obtain ⟨c0, c1, c2⟩ := hls'.cells
      have hrb := hls'.lt.2
      obtain ⟨hq, e0, e1, e2⟩ := id he
      have HE := hd_ he
      have HLS := hd_ hls'
      have HU := hd_ hu
      clear he hls' hu
      go_wp2_with (first | ((with_reducible refine wru ?_); (repeat (go_big_quiet_step (first | (go_at_call 189; exact uq_ (ret_as (l27Ok_any (eOf W) _ _ _ (HE.out.below bw_) (HS.out 1)) h4)) | (go_at_call 190; exact uq_ (dayS_any _ _ _ _ _ _ _ (HLS.out.below bw_) (by omega))) | (go_at_call 161; exact uq_ (l27Words_any (eOf W) h4 _ _ _ (HE.out.below bw_))) | (go_at_call 192; exact uq_ (l27Stamp_any _ hwl (eOf W) rfl _ (by omega) (by omega) _)) | (go_at_call 191; exact uq_ (l27Line_any (eOf W) h4 _ (by omega) (by omega) _ _ _ (HE.out.below bw_)))))); refine wqn fun nq => ?_))
      go_ret
      exact ⟨rfl, HU.out.tr bw_⟩
     ·have h5' : (eOf W).day < dayL l := by omega
      clear hno h5
      go_wp2_with fail
      refine wpg (R := fun V => (V.cell? ⟨rb, 0, none⟩ = some (.string s) ∧ V.cell? ⟨rb, 1, none⟩ = some (i64 sz) ∧ V.cell? ⟨rb, 2, none⟩ = some (i64 st) ∧ rb < V.heap.size) ∧ LS base V rb s l st sz ∧ UpOf w V)
       ⟨⟨by simp [hrb, c0], by simp [hrb, c1], by simp [hrb, c2], (HLS.out.below (w' := _) bw_).lt.2⟩, HLS.out.below bw_, uw_⟩ (fun V z => ?_)
      clear c0 c1 c2 hrb HLS
      obtain ⟨⟨c0, c1, c2, hrb⟩, hls', hu⟩ := z
      have HLS := hd_ hls'
      have HU := hd_ hu
      clear hls' hu
      go_region_held3 (fun w' => (V).heap.size ≤ w'.heap.size ∧ ∀ b o, b < (V).heap.size → w'.cell? ⟨b, o, none⟩ = (V).cell? ⟨b, o, none⟩) (exact sm_of bw_) (first | (go_at_call 44; refine (CW.out _).mono ?_; rintro e w' ⟨A1, k1, rfl, o1, g1, rfl⟩))
      obtain ⟨b1, p1, rfl, hb1, q0, q1, q2⟩ := words4 (Rds.of_own o1) h1
      clear o1
      go_wp2_with fail
      refine cg (R := fun V2 => (b1 < V2.heap.size ∧ V2.cell? ⟨b1, p1, none⟩ = some (.string (wAt W 0)) ∧ V2.cell? ⟨b1, p1 + 1, none⟩ = some (.string (wAt W 1)) ∧ V2.cell? ⟨b1, p1 + 2, none⟩ = some (.string (wAt W 2))) ∧ LS base V2 rb s l st sz ∧ UpOf w V2)
       ⟨⟨hb1, q0, q1, q2⟩, HLS.out.below bw_, HU.out.tr bw_⟩ (fun V2 z => ?_)
      clear q0 q1 q2 hb1 c0 c1 c2 hrb HLS HU
      obtain ⟨⟨hb1, q0, q1, q2⟩, hls', hu⟩ := z
      obtain ⟨c0, c1, c2⟩ := hls'.cells
      have hrb := hls'.lt.2
      have HLS := hd_ hls'
      have HU := hd_ hu
      clear hls' hu
      refine (l01Number_any _ _ (HS.out _)).mono ?_
      rintro e w' ⟨rfl, g2, rfl⟩
      go_wp2_with fail
      refine (l01Number_any _ _ (HS.out _)).mono ?_
      rintro e w' ⟨rfl, g3, rfl⟩
      go_wp2_with fail
      refine wpg (R := fun V3 => EAt V3 (up V2 (g2.tr g3)).heap.size 0 (eOf W) ∧ LS base V3 rb s l st sz ∧ UpOf w V3)
       ⟨⟨by simp, by simp [eOf], by simp [eOf], by simp [eOf]⟩, HLS.out.below bw_, HU.out.tr bw_⟩ (fun V3 z => ?_)
      clear q0 q1 q2 hb1 c0 c1 c2 hrb HLS HU
      generalize (up V2 (g2.tr g3)).heap.size = q at *
      obtain ⟨he, hls', hu⟩ := z
      obtain ⟨c0, c1, c2⟩ := hls'.cells
      have hrb := hls'.lt.2
      obtain ⟨hq, e0, e1, e2⟩ := id he
      have HE := hd_ he
      have HLS := hd_ hls'
      have HU := hd_ hu
      clear he hls' hu
      go_wp2_with (first | ((with_reducible refine wru ?_); (repeat (go_big_quiet_step (first | (go_at_call 189; exact uq_ (ret_as (l27Ok_any (eOf W) _ _ _ (HE.out.below bw_) (HS.out 1)) h4)) | (go_at_call 190; exact uq_ (dayS_any _ _ _ _ _ _ _ (HLS.out.below bw_) (by omega)))))); refine wqn fun nq => ?_))
      go_ret
      exact ⟨rfl, HU.out.tr bw_⟩
    ·have z : ((W.length : Int) != 4) = true := by rw [bne_iff_ne]; omega
     clear hno
     go_wp2_with fail
     refine wpg (R := fun V => (V.cell? ⟨rb, 0, none⟩ = some (.string s) ∧ V.cell? ⟨rb, 1, none⟩ = some (i64 sz) ∧ V.cell? ⟨rb, 2, none⟩ = some (i64 st) ∧ rb < V.heap.size) ∧ LS base V rb s l st sz ∧ UpOf w V)
      ⟨⟨by simp [hrb, c0], by simp [hrb, c1], by simp [hrb, c2], (HLS.out.below (w' := _) bw_).lt.2⟩, HLS.out.below bw_, uw_⟩ (fun V z => ?_)
     clear c0 c1 c2 hrb HLS
     obtain ⟨⟨c0, c1, c2, hrb⟩, hls', hu⟩ := z
     have HLS := hd_ hls'
     have HU := hd_ hu
     clear hls' hu
     go_region_held3 (fun w' => (V).heap.size ≤ w'.heap.size ∧ ∀ b o, b < (V).heap.size → w'.cell? ⟨b, o, none⟩ = (V).cell? ⟨b, o, none⟩) (exact sm_of bw_) (first | (go_at_call 44; refine (CW.out _).mono ?_; rintro e w' ⟨A1, k1, rfl, o1, g1, rfl⟩))
     go_wp2_with (first | ((with_reducible refine wru ?_); (repeat (go_big_quiet_step (fail))); refine wqn fun nq => ?_))
     go_ret
     exact ⟨rfl, HU.out.tr bw_⟩
   ·have qe : ((s[k].toNat : Int) != 10) = true := by rw [bne_iff_ne]; intro he; exact q (UInt8.toNat_inj.1 (by simp; omega))
    have hsp2 := hd_ (show cutA 10 ((L.drop sz).take (k + 1 - sz)) (L.drop (k + 1)) = (line, post, ok) by
     rw [← hsp.out, hdr.out, cutA, if_neg (by rw [← hbt.out]; exact q), cur_snoc hkl hk0])
    clear q hkl
    go_wp2_with (first | ((with_reducible refine wru ?_); (repeat (go_big_quiet_step (fail))); refine wqn fun nq => ?_))
    go_roundw
    case rel => exact ⟨k + 1, by omega, by omega, by go_num, hsp2, ex_up bw_⟩
    case measure => (simp [intOf]; try omega)
  ·obtain rfl : k = s.size := by omega
   have e0 : L.drop s.size = [] := List.drop_eq_nil_of_le (by rw [hLn.out]; exact Nat.le_refl _)
   have hokf : false = ok := by
    have := hsp.out
    rw [e0, cutA] at this
    exact congrArg (fun x => x.2.2) this
   clear e0
   subst hokf
   go_wp2_with (first | ((with_reducible refine wru ?_); (repeat (go_big_quiet_step (fail))); refine wqn fun nq => ?_))
   go_ret
   exact ⟨rfl, uw_⟩
theorem LS.put {base rb sz : Nat} {s : ByteArray} {l : List Entry} {st : Int} {w : World} {Al : Option Addr} {cl gb cap : Nat} {x : Entry} (b : Blk w rb 171 #[.string s, i64 sz, i64 st, .slice Al l.length cl]) (hb : base ≤ rb)
  (o : w.ownsRow base 127 3 (.slice (some ⟨gb, 0, none⟩) (l.length + 1) cap) (l.length + 1) (encs l ++ [i64 x.day, .string x.what, i64 x.value])) (hne : gb ≠ rb) (st' : Int) (sz' : Int) {n : Nat} (hn : sz' = (n : Int)) :
  LS base (((w.setCell ⟨rb, 3, none⟩ (.slice (some ⟨gb, 0, none⟩) (l.length + 1) cap)).setCell ⟨rb, 2, none⟩ (i64 st')).setCell ⟨rb, 1, none⟩ (i64 sz')) rb s (l ++ [x]) st' n := by
 subst hn
 have hne2 : (Value.slice (some ⟨gb, 0, none⟩) (l.length + 1) cap).ownBlock = none ∨ (Value.slice (some ⟨gb, 0, none⟩) (l.length + 1) cap).ownBlock ≠ some rb := .inr (fun e => by injection e with e; exact hne e)
 have b3 := ((b.put 3 (.slice (some ⟨gb, 0, none⟩) (l.length + 1) cap)).put 2 (i64 st')).put 1 (i64 n)
 have o3 := ((o.kept (grown_put w rb 3 (.slice (some ⟨gb, 0, none⟩) (l.length + 1) cap)) hne2).kept (grown_put _ rb 2 (i64 st')) hne2).kept (grown_put _ rb 1 (i64 n)) hne2
 refine ⟨some ⟨gb, 0, none⟩, cap, ?_, hb, ?_, ?_⟩
 ·rw [List.length_append, List.length_singleton]; exact b3
 ·rw [List.length_append, List.length_singleton, show encs (l ++ [x]) = encs l ++ [i64 x.day, .string x.what, i64 x.value] by simp [encs, Entry.cells]]; exact o3
 ·rw [List.length_append, List.length_singleton]; exact hne2
theorem Below.sets3s {B rb : Nat} {a w : World} (hr : B ≤ rb) (h : Below B a w) (u0 u1 u2 : Value) : Below B a (((w.setCell ⟨rb, 3, none⟩ u0).setCell ⟨rb, 2, none⟩ u1).setCell ⟨rb, 1, none⟩ u2) :=
 ((h.setCell (p := ⟨rb, 3, none⟩) hr u0).setCell (p := ⟨rb, 2, none⟩) hr u1).setCell (p := ⟨rb, 1, none⟩) hr u2
theorem lineS_ok (base rb sz : Nat) (s : ByteArray) (l : List Entry) (st : Int) (line post : ByteArray) (ok : Bool) (hok1 : ok = true) (w : World) (h : LS base w rb s l st sz) (hC : cutA 10 [] (s.data.toList.drop sz) = (line, post, ok)) (hsz : sz ≤ s.size) (hs : s.size ≤ 1000000) (hl : l.length ≤ 1000000) (s0 : 0 ≤ st) (s1 : st < 65519)
  (hok : takeB (dayL l) st line (splitA 32 [] line.data.toList) = true) :
  Calls Tryz.prog 175 #[.pointer (some ⟨rb, 0, none⟩)] w fun e w' => e = .returned (.bool true) ∧ LS base w' rb s (l ++ [eOf (splitA 32 [] line.data.toList)]) (stampP st (eOf (splitA 32 [] line.data.toList))) (sz + line.size + 1) ∧ Below base w w' := by
 have HB0 := hd_ (show base ≤ w.heap.size from Nat.le_trans h.lt.1 (Nat.le_of_lt h.lt.2))
 have HBR := hd_ h.lt.1
 obtain ⟨L, hL⟩ : ∃ L, s.data.toList = L := ⟨_, rfl⟩
 have hLn := hd_ (show L.length = s.size by rw [← hL]; rfl)
 have HL := hd_ hL
 rw [hL] at hC
 have HC := hd_ hC
 have hls : line.size ≤ 1000000 := by
  have := (cutA_size 10 (L.drop sz) []).1
  rw [hC] at this
  simp [hLn.out] at this
  omega
 clear hL hC
 obtain ⟨W, hW⟩ : ∃ W, splitA 32 [] line.data.toList = W := ⟨_, rfl⟩
 have HS := hd_ (fun i => (show (wAt W i).size ≤ 9223372036854775807 by rw [← hW]; exact Nat.le_trans (sAt_size i) (by rw [bsz]; omega)))
 have cw : ∀ V, Calls Tryz.prog 44 #[.string line, .int .u8 32] V fun e w' => ∃ A c, e = .returned (.slice A W.length c) ∧ w'.ownsRow V.heap.size 9 1 (.slice A W.length c) W.length (strs W) ∧ UpOf V w' := fun V => by rw [← hW]; exact l01Split_any line 32 32 rfl V (by omega)
 have CW := hd_ cw
 obtain ⟨c0, c1, c2⟩ := h.cells
 have hrb := h.lt.2
 have HLS := hd_ h
 clear h cw
 rw [hW] at hok ⊢
 clear hW
 obtain ⟨h1, h2, h3, h4, h5, h6⟩ := takeB_inv hok
 have hb := stampP_bd st (eOf W)
 have h5' : ¬ (eOf W).day < dayL l := Int.not_lt.2 h5
 have hne : (!((lineP (eOf W) (stampP st (eOf W)) ++ ⟨#[10]⟩).toList == (line ++ ⟨#[10]⟩ : ByteArray).toList)) = false := tl_eq (by rw [h6])
 clear hok h5 h6
 go_enter Tryz.func175, Tryz.ntmps175
 go_wp2_with (first | ((with_reducible refine wru ?_); (repeat (go_big_quiet_step (fail))); refine wqn fun nq => ?_))
 go_loopw [3] (fun e wr => ∃ k : Nat, sz ≤ k ∧ k ≤ s.size ∧ e = i64 k ∧ Hid (cutA 10 ((L.drop sz).take (k - sz)) (L.drop k) = (line, post, ok)) ∧ ∃ g : Up w, wr = up w g) (fun e _ => s.size - (intOf e).toNat)
 case atStart => exact ⟨sz, Nat.le_refl _, hsz, rfl, by rw [Nat.sub_self, List.take_zero]; exact HC, ex_up bw_⟩
 case round =>
  obtain ⟨k, hk0, hk, rfl, hsp, g, rfl⟩ := hrel
  by_cases hlt : k < s.size
  ·have hbt := hd_ (show s[k] = L.getD k 0 by rw [byteAt_eq hlt, byteAt, HL.out])
   have hkl : k < L.length := by rw [hLn.out]; exact hlt
   have hdr := hd_ (drop_at hkl)
   by_cases q : s[k] = 10
   ·have qe : ((s[k].toNat : Int) != 10) = false := by rw [q]; rfl
    have hres := hsp.out
    rw [hdr.out, ← hbt.out, q, cutA, if_pos rfl] at hres
    have hline := hd_ (show s.extract sz k = line by rw [bs_extract, HL.out]; exact congrArg Prod.fst hres)
    have hpost := hd_ (show bs (L.drop (k + 1)) = post from congrArg (fun x => x.2.1) hres)
    have hokk : true = ok := congrArg (fun x => x.2.2) hres
    have hksz := hd_ (show k = sz + line.size by rw [← hline.out, ByteArray.size_extract]; omega)
    have hl2 := hd_ (show s.extract sz (k + 1) = line ++ ⟨#[10]⟩ by
     apply ba_ext
     rw [ByteArray.data_append, Array.toList_append, ← hline.out, bs_extract, bs_extract, bs_list, bs_list, HL.out, cur_snoc hkl hk0, ← hbt.out, q])
    have hs1 : ∀ wx : World, (Instr.slice 9 (.string s) (some (i64 sz)) (some (i64 k)) none).run Tryz.prog wx = .ok (.string line) wx := fun wx => by
     have := run_slice_string (P := Tryz.prog) wx 9 s .i64 .i64 (sz : Int) (k : Int) Tryz.underlying9 (by omega) (by omega) (by omega)
     simpa [hline.out] using this
    have hs2 : ∀ wx : World, (Instr.slice 9 (.string s) (some (i64 sz)) (some (.int .i64 ((k : Int) + 1))) none).run Tryz.prog wx = .ok (.string (line ++ ⟨#[10]⟩)) wx := fun wx => by
     have := run_slice_string (P := Tryz.prog) wx 9 s .i64 .i64 (sz : Int) ((k + 1 : Nat) : Int) Tryz.underlying9 (by omega) (by omega) (by omega)
     simpa [hl2.out] using this
    clear hres q hkl hsp
    subst hokk
    have hwl := ewords_len h4
    go_wp2_with fail
    refine wpg (R := fun V => (V.cell? ⟨rb, 0, none⟩ = some (.string s) ∧ V.cell? ⟨rb, 1, none⟩ = some (i64 sz) ∧ V.cell? ⟨rb, 2, none⟩ = some (i64 st) ∧ rb < V.heap.size) ∧ LS base V rb s l st sz ∧ UpOf w V)
     ⟨⟨by simp [hrb, c0], by simp [hrb, c1], by simp [hrb, c2], (HLS.out.below (w' := _) bw_).lt.2⟩, HLS.out.below bw_, uw_⟩ (fun V z => ?_)
    clear c0 c1 c2 hrb HLS
    obtain ⟨⟨c0, c1, c2, hrb⟩, hls', hu⟩ := z
    have HLS := hd_ hls'
    have HU := hd_ hu
    clear hls' hu
    go_region_held3 (fun w' => (V).heap.size ≤ w'.heap.size ∧ ∀ b o, b < (V).heap.size → w'.cell? ⟨b, o, none⟩ = (V).cell? ⟨b, o, none⟩) (exact sm_of bw_) (first | (go_at_call 44; refine (CW.out _).mono ?_; rintro e w' ⟨A1, k1, rfl, o1, g1, rfl⟩))
    obtain ⟨b1, p1, rfl, hb1, q0, q1, q2⟩ := words4 (Rds.of_own o1) h1
    clear o1
    go_wp2_with fail
    refine cg (R := fun V2 => (b1 < V2.heap.size ∧ V2.cell? ⟨b1, p1, none⟩ = some (.string (wAt W 0)) ∧ V2.cell? ⟨b1, p1 + 1, none⟩ = some (.string (wAt W 1)) ∧ V2.cell? ⟨b1, p1 + 2, none⟩ = some (.string (wAt W 2))) ∧ LS base V2 rb s l st sz ∧ UpOf w V2)
     ⟨⟨hb1, q0, q1, q2⟩, HLS.out.below bw_, HU.out.tr bw_⟩ (fun V2 z => ?_)
    clear q0 q1 q2 hb1 c0 c1 c2 hrb HLS HU
    obtain ⟨⟨hb1, q0, q1, q2⟩, hls', hu⟩ := z
    obtain ⟨c0, c1, c2⟩ := hls'.cells
    have hrb := hls'.lt.2
    have HLS := hd_ hls'
    have HU := hd_ hu
    clear hls' hu
    refine (l01Number_any _ _ (HS.out _)).mono ?_
    rintro e w' ⟨rfl, g2, rfl⟩
    go_wp2_with fail
    refine (l01Number_any _ _ (HS.out _)).mono ?_
    rintro e w' ⟨rfl, g3, rfl⟩
    go_wp2_with fail
    refine wpg (R := fun V3 => EAt V3 (up V2 (g2.tr g3)).heap.size 0 (eOf W) ∧ LS base V3 rb s l st sz ∧ UpOf w V3)
     ⟨⟨by simp, by simp [eOf], by simp [eOf], by simp [eOf]⟩, HLS.out.below bw_, HU.out.tr bw_⟩ (fun V3 z => ?_)
    clear q0 q1 q2 hb1 c0 c1 c2 hrb HLS HU
    generalize (up V2 (g2.tr g3)).heap.size = q at *
    obtain ⟨he, hls', hu⟩ := z
    obtain ⟨c0, c1, c2⟩ := hls'.cells
    have hrb := hls'.lt.2
    obtain ⟨hq, e0, e1, e2⟩ := id he
    have HE := hd_ he
    have HLS := hd_ hls'
    have HU := hd_ hu
    clear he hls' hu
    go_wp2_with (first | ((with_reducible refine wru ?_); (repeat (go_big_quiet_step (first | (go_at_call 189; exact uq_ (ret_as (l27Ok_any (eOf W) _ _ _ (HE.out.below bw_) (HS.out 1)) h4)) | (go_at_call 190; exact uq_ (dayS_any _ _ _ _ _ _ _ (HLS.out.below bw_) (by omega))) | (go_at_call 161; exact uq_ (l27Words_any (eOf W) h4 _ _ _ (HE.out.below bw_))) | (go_at_call 192; exact uq_ (l27Stamp_any _ hwl (eOf W) rfl _ (by omega) (by omega) _)) | (go_at_call 191; exact uq_ (l27Line_any (eOf W) h4 _ (by omega) (by omega) _ _ _ (HE.out.below bw_)))))); refine wqn fun nq => ?_))
    refine wpg (R := fun V4 => EAt V4 q 0 (eOf W) ∧ LS base V4 rb s l st sz ∧ UpOf w V4) ⟨HE.out.below bw_, HLS.out.below bw_, HU.out.tr bw_⟩ (fun V4 z => ?_)
    clear c0 c1 c2 hrb e0 e1 e2 hq HE HLS HU hs1 hs2 HS CW
    obtain ⟨⟨hq, e0, e1, e2⟩, ⟨Al, cl, r1, r2, r3, r4⟩, hu⟩ := z
    have HU := hd_ hu
    have c0 := r1.cell 0
    have c1 := r1.cell 1
    have c2 := r1.cell 2
    have c3 := r1.cell 3
    have hrb := r1.lt
    simp only [List.getElem?_toArray, List.getElem?_cons_zero, List.getElem?_cons_succ] at c0 c1 c2 c3
    simp only [Nat.zero_add] at e1 e2
    have R1 := hd_ r1
    have R3 := hd_ r3
    have R4 := hd_ r4
    have HBS := hd_ (show base ≤ V4.heap.size from Nat.le_trans r2 (Nat.le_of_lt hrb))
    clear hu r1 r3 r4
    go_region_law (first | (go_must (refine step_appAt rfl _ _ 100 (by rfl) base 127 _ 3 32 el_entry (.slice Al l.length cl) l.length (encs l) (by rfl) (own_below R3.out bw_) _ 1 1 [i64 (eOf W).day, .string (eOf W).what, i64 (eOf W).value] (by rfl) (rds_new _ #[i64 (eOf W).day, .string (eOf W).what, i64 (eOf W).value] _ 3 1 rfl) (fun u hu => by simp at hu; rcases hu with rfl | rfl | rfl <;> rfl) (by omega) (by unfold maxLen; omega) (by omega) (Nat.le_trans HBS.out (Below.size (B := V4.heap.size) (w := V4) bw_)) ?_); intro gb cap w4 o4 hg4 hat4; have b4 := (R1.out.below' bw_).grown hg4 (ne_row R4.out); have d0 := b4.cell 0; have d1 := b4.cell 1; have d2 := b4.cell 2; have d3 := b4.cell 3; have f1 := b4.free 1; have f2 := b4.free 2; have f3 := b4.free 3; simp only [List.getElem?_toArray, List.getElem?_cons_zero, List.getElem?_cons_succ] at d0 d1 d2 d3))
    all_goals
     go_wp2_with (first | ((with_reducible refine wru ?_); (repeat (go_big_quiet_step (fail))); refine wqn fun nq => ?_))
     go_ret
     exact ⟨rfl, LS.put b4 HBR.out o4 (gb_ne R4.out hat4 (Nat.lt_of_lt_of_le hrb (Below.size (B := V4.heap.size) (w := V4) bw_))) _ _ (by have := hksz.out; omega), Below.sets3s HBR.out (((HU.out.below.mono HB0.out).trans ((show Below V4.heap.size V4 _ from bw_).mono HBS.out)).grown hg4 (Nat.le_trans HBS.out (Below.size (B := V4.heap.size) (w := V4) bw_)) (fun k hk => (R3.out.lt k hk).1)) _ _ _⟩
   ·have qe : ((s[k].toNat : Int) != 10) = true := by rw [bne_iff_ne]; intro he; exact q (UInt8.toNat_inj.1 (by simp; omega))
    have hsp2 := hd_ (show cutA 10 ((L.drop sz).take (k + 1 - sz)) (L.drop (k + 1)) = (line, post, ok) by
     rw [← hsp.out, hdr.out, cutA, if_neg (by rw [← hbt.out]; exact q), cur_snoc hkl hk0])
    clear q hkl
    go_wp2_with (first | ((with_reducible refine wru ?_); (repeat (go_big_quiet_step (fail))); refine wqn fun nq => ?_))
    go_roundw
    case rel => exact ⟨k + 1, by omega, by omega, by go_num, hsp2, ex_up bw_⟩
    case measure => (simp [intOf]; try omega)
  ·obtain rfl : k = s.size := by omega
   have e0 : L.drop s.size = [] := List.drop_eq_nil_of_le (by rw [hLn.out]; exact Nat.le_refl _)
   have hokf : false = ok := by
    have := hsp.out
    rw [e0, cutA] at this
    exact congrArg (fun x => x.2.2) this
   clear e0
   subst hokf
   cases hok1
theorem takeB_same (d0 st0 : Int) (line : ByteArray) : takeB d0 st0 line (splitA 32 [] line.data.toList) = takeB d0 st0 line (wordsA [] line.data.toList) := by
 cases h1 : takeB d0 st0 line (splitA 32 [] line.data.toList)
 ·cases h2 : takeB d0 st0 line (wordsA [] line.data.toList)
  ·rfl
  ·rw [takeB_both d0 st0 line (.inr h2), h2] at h1; cases h1
 ·rw [takeB_both d0 st0 line (.inl h1)] at h1; rw [h1]
theorem LS.new (w : World) (s : ByteArray) : LS w.heap.size ((w.alloc (.cells #[] 127)).alloc (.cells #[.string s, i64 0, i64 0, .slice (some ⟨w.heap.size, 0, none⟩) 0 0] 171)) (w.heap.size + 1) s [] 0 0 := by
 have h1 : (w.alloc (.cells #[] 127)).heap.size = w.heap.size + 1 := by simp
 refine ⟨some ⟨w.heap.size, 0, none⟩, 0, ?_, by omega, ?_, .inr (fun e => by injection e with e; exact absurd e (Nat.ne_of_lt (Nat.lt_succ_self _)))⟩
 ·have := Blk.new (w.alloc (.cells #[] 127)) 171 #[.string s, i64 0, i64 0, .slice (some ⟨w.heap.size, 0, none⟩) 0 0]
  rw [h1] at this
  exact this
 ·have := World.ownsRow_lit (base := w.heap.size) (e := 127) (size := 3) w #[] 0 (Nat.le_refl _) (by unfold maxLen; omega) rfl
  exact own_below this (Below.alloc (Below.refl _ _) (Nat.le_refl _) _)
theorem readLogS_any (s : ByteArray) (w : World) (hs : s.size ≤ 1000000) :
  Calls Tryz.prog 140 #[.string s] w fun e w' => ∃ rb, e = .returned (.pointer (some ⟨rb, 0, none⟩)) ∧ LS w.heap.size w' rb s (logR s).1 (logR s).2.1 (logR s).2.2 ∧ UpOf w w' := by
 have HN := hd_ (LS.new w s)
 obtain ⟨L, hL⟩ : ∃ L, s.data.toList = L := ⟨_, rfl⟩
 have hLn := hd_ (show L.length = s.size by rw [← hL]; rfl)
 have HL := hd_ hL
 obtain ⟨R, hR⟩ : ∃ R, logR s = R := ⟨_, rfl⟩
 rw [hR]
 have HR := hd_ (show logF (s.size + 1) [] 0 0 L = R by rw [← hR, logR, hL])
 clear hR hL
 go_enter Tryz.func140, Tryz.ntmps140
 go_wp2_with fail
 refine wpg (R := fun V => LS w.heap.size V (w.heap.size + 1) s [] 0 0 ∧ UpOf w V) ⟨HN.out, uw_⟩ (fun V st => ?_)
 have ST := hd_ st
 clear st HN
 generalize hp : w.heap.size + 1 = rb
 rw [hp] at ST
 have hrb : w.heap.size ≤ rb := by omega
 clear hp
 go_loopw [9] (fun u wr => ∃ (l : List Entry) (st : Int) (sz k : Nat), LS w.heap.size wr rb s l st sz ∧ sz ≤ s.size ∧ l.length ≤ sz ∧ 0 ≤ st ∧ st < 65519 ∧ Hid (logF k l st sz (L.drop sz) = R) ∧ s.size - sz < k ∧ UpOf w wr) (fun _ wr => s.size - (intOf ((wr.cell? ⟨rb, 1, none⟩).getD undef)).toNat)
 case atStart => exact ⟨[], 0, 0, s.size + 1, ST.out.1, by omega, by simp, by omega, by omega, by rw [List.drop_zero]; exact HR, by omega, ST.out.2⟩
 case round =>
  obtain ⟨l, st, sz, k, hl, hsz, hll, s0, s1, hf, hk, hup⟩ := hrel
  have hc2 := hl.cells.2.1
  have hrl := hl.lt.2
  obtain ⟨C, hC⟩ : ∃ C, cutA 10 [] (s.data.toList.drop sz) = C := ⟨_, rfl⟩
  obtain ⟨line, post, ok⟩ := C
  have HC := hd_ (show cutA 10 [] (L.drop sz) = (line, post, ok) by rw [← HL.out]; exact hC)
  have HC0 := hd_ hC
  have HLI := hd_ hl
  have HUP := hd_ hup
  clear hC hl hup
  cases hokc : ok with
  | false =>
   subst hokc
   have hR2 := hd_ (show R = (l, st, sz) by rw [← hf.out, logF_end (by rw [HC.out])])
   go_wp2_with fail
   refine (lineS_no _ _ _ s l st line post false _ HLI.out HC0.out hsz hs (by omega) s0 s1 (.inl rfl)).mono ?_
   rintro e w' ⟨rfl, g, rfl⟩
   go_wp2_with fail
   go_ret
   exact ⟨rb, rfl, by rw [hR2.out]; exact HLI.out.below bw_, HUP.out.tr bw_⟩
  | true =>
   subst hokc
   obtain ⟨cd1, cd2⟩ := cut_drop (L := L) (sz := sz) (by rw [hLn.out]; exact hsz) (by rw [HC.out])
   rw [HC.out] at cd1 cd2
   have CD1 : sz + line.size + 1 ≤ s.size := by rw [← hLn.out]; exact cd1
   have CD2 := hd_ (show post.data.toList = L.drop (sz + line.size + 1) from cd2)
   clear cd1 cd2
   cases htk : takeB (dayL l) st line (splitA 32 [] line.data.toList)
   ·have hR2 := hd_ (show R = (l, st, sz) by rw [← hf.out, logF_bad (by rw [HC.out]; exact takeOf_none (by rw [← takeB_same]; exact htk))])
    go_wp2_with fail
    refine (lineS_no _ _ _ s l st line post true _ HLI.out HC0.out hsz hs (by omega) s0 s1 (.inr htk)).mono ?_
    rintro e w' ⟨rfl, g, rfl⟩
    go_wp2_with fail
    go_ret
    exact ⟨rb, rfl, by rw [hR2.out]; exact HLI.out.below bw_, HUP.out.tr bw_⟩
   ·obtain ⟨k', rfl⟩ : ∃ k', k = k' + 1 := ⟨k - 1, by omega⟩
    have hww := takeB_both (dayL l) st line (.inl htk)
    have hgo := hd_ (show logF k' (l ++ [eOf (splitA 32 [] line.data.toList)]) (stampP st (eOf (splitA 32 [] line.data.toList))) (sz + line.size + 1) (L.drop (sz + line.size + 1)) = R by
     rw [← hf.out, logF_go (x := eOf (splitA 32 [] line.data.toList)) (st' := stampP st (eOf (splitA 32 [] line.data.toList))) (by rw [HC.out]) (by rw [HC.out, ← hww]; exact takeOf_some htk), HC.out, CD2.out])
    have hsb := hd_ (stampP_bd st (eOf (splitA 32 [] line.data.toList)))
    clear hww
    go_wp2_with fail
    refine (lineS_ok _ _ _ s l st line post true rfl _ HLI.out HC0.out hsz hs (by omega) s0 s1 htk).mono ?_
    rintro e w2 ⟨rfl, hl2, hb2⟩
    have HL2 := hd_ hl2
    have hB2 := hd_ (show UpOf w w2 from .of (HUP.out.below.trans hb2))
    have hc3 := hl2.cells.2.1
    clear hl2 hb2
    go_wp2_with fail
    refine ⟨⟨_, _, _, _, HL2.out, CD1, by rw [List.length_append, List.length_singleton]; omega, hsb.out.1, hsb.out.2, hgo, by omega, hB2.out⟩, ?_⟩
    rw [hc3, hc2]
    simp [intOf]
    omega
def codeL (s : ByteArray) : Int := if s.size ≤ 4000 then (if (logR s).2.2 = s.size then 0 else 8) else 5
theorem codeL_5 {s : ByteArray} (h : ¬ s.size ≤ 4000) : codeL s = 5 := by rw [codeL, if_neg h]
theorem codeL_8 {s : ByteArray} (h : s.size ≤ 4000) (h2 : ¬ (logR s).2.2 = s.size) : codeL s = 8 := by rw [codeL, if_pos h, if_neg h2]
theorem codeL_0 {s : ByteArray} (h : s.size ≤ 4000) (h2 : (logR s).2.2 = s.size) : codeL s = 0 := by rw [codeL, if_pos h, if_pos h2]
theorem codeL_inv {s : ByteArray} (h : codeL s = 0) : s.size ≤ 4000 ∧ (logR s).2.2 = s.size := by
 by_cases h1 : s.size ≤ 4000
 ·by_cases h2 : (logR s).2.2 = s.size
  ·exact ⟨h1, h2⟩
  ·rw [codeL_8 h1 h2] at h; cases h
 ·rw [codeL_5 h1] at h; cases h
def entsL (s : ByteArray) : List Entry := (logR s).1
theorem entsL_len {s : ByteArray} (h : codeL s = 0) : (entsL s).length ≤ 4000 := by
 have h1 := codeL_inv h
 have h2 := (logR_inv s).2.1
 unfold entsL
 omega
theorem entsL_ok (s : ByteArray) : ∀ x ∈ entsL s, vEntry x = true := (logR_inv s).2.2.2
theorem wholeI_no (s : ByteArray) (w : World) (hs : s.size ≤ 1048576) (ht : Tab w) (hc : ¬ codeL s = 0) :
  Calls Tryz.prog 120 #[.string s] w fun e w' => e = .returned (.tuple #[.pointer none, i64 (codeL s)]) ∧ UpOf w w' := by
 have HT := hd_ ht
 have hinv := (logR_inv s).1
 clear ht
 by_cases h1 : s.size ≤ 4000
 ·have h2 : ¬ (logR s).2.2 = s.size := fun h => hc (codeL_0 h1 h)
  have h3 : (logR s).2.2 < s.size := by omega
  have hf := hd_ (codeL_8 h1 h2)
  clear hc h2
  go_enter Tryz.func120, Tryz.ntmps120
  go_wp2_with fail
  refine (readLogI_any s _ (HT.out.below bw_) h1).mono ?_
  rintro e w' ⟨rb, rfl, hl, g, rfl⟩
  have hc := hl.cells
  have hrb := hl.lt.2
  have HL := hd_ hl
  clear hl
  go_wp2_with fail
  go_ret2
  exact ⟨by rw [hf.out] <;> rfl, uw_⟩
 ·have hf := hd_ (codeL_5 h1)
  have h2 : 4000 < s.size := by omega
  clear hc
  go_enter Tryz.func120, Tryz.ntmps120
  go_wp2_with fail
  go_ret2
  exact ⟨by rw [hf.out] <;> rfl, uw_⟩
theorem wholeI_ok (s : ByteArray) (w : World) (ht : Tab w) (hc : codeL s = 0) :
  Calls Tryz.prog 120 #[.string s] w fun e w' => ∃ rb, e = .returned (.tuple #[.pointer (some ⟨rb, 0, none⟩), i64 0]) ∧ LI w.heap.size w' rb (entsL s) (logR s).2.1 s.size ∧ UpOf w w' := by
 have HT := hd_ ht
 clear ht
 obtain ⟨h1, h2⟩ := codeL_inv hc
 clear hc
 go_enter Tryz.func120, Tryz.ntmps120
 go_wp2_with fail
 refine (readLogI_any s _ (HT.out.below bw_) h1).mono ?_
 rintro e w' ⟨rb, rfl, hl, g, rfl⟩
 have hc := hl.cells
 have hrb := hl.lt.2
 have HL := hd_ hl
 clear hl
 rw [h2] at hc
 go_wp2_with fail
 go_ret2
 exact ⟨rb, rfl, by rw [← h2]; exact HL.out.below bw_, uw_⟩
theorem codeS_no (s : ByteArray) (w : World) (hs : s.size ≤ 1048576) (hc : ¬ codeL s = 0) :
  Calls Tryz.prog 91 #[.string s] w fun e w' => ∃ p, e = .returned (.tuple #[.pointer p, i64 (codeL s)]) ∧ UpOf w w' := by
 by_cases h1 : s.size ≤ 4000
 ·have h2 : ¬ (logR s).2.2 = s.size := fun h => hc (codeL_0 h1 h)
  have z : ((((logR s).2.2 : Nat) : Int) != (s.size : Int)) = true := by rw [bne_iff_ne]; omega
  have hf := hd_ (codeL_8 h1 h2)
  clear hc h2
  go_enter Tryz.func91, Tryz.ntmps91
  go_wp2_with fail
  refine (readLogS_any s _ (by omega)).mono ?_
  rintro e w' ⟨rb, rfl, hl, g, rfl⟩
  have hc := hl.cells.2.1
  have hrb := hl.lt.2
  have HL := hd_ hl
  clear hl
  go_wp2_with fail
  go_ret2
  exact ⟨_, by rw [hf.out] <;> rfl, uw_⟩
 ·have hf := hd_ (codeL_5 h1)
  have h2 : 4000 < s.size := by omega
  clear hc
  go_enter Tryz.func91, Tryz.ntmps91
  go_wp2_with fail
  go_ret2
  exact ⟨_, by rw [hf.out] <;> rfl, uw_⟩
theorem codeS_ok (s : ByteArray) (w : World) (hc : codeL s = 0) :
  Calls Tryz.prog 91 #[.string s] w fun e w' => ∃ rb, e = .returned (.tuple #[.pointer (some ⟨rb, 0, none⟩), i64 0]) ∧ LS w.heap.size w' rb s (entsL s) (logR s).2.1 s.size ∧ UpOf w w' := by
 obtain ⟨h1, h2⟩ := codeL_inv hc
 clear hc
 have z : ((s.size : Int) != (s.size : Int)) = false := by simp
 go_enter Tryz.func91, Tryz.ntmps91
 go_wp2_with fail
 refine (readLogS_any s _ (by omega)).mono ?_
 rintro e w' ⟨rb, rfl, hl, g, rfl⟩
 have hc := hl.cells.2.1
 have hrb := hl.lt.2
 have HL := hd_ hl
 clear hl
 rw [h2] at hc
 go_wp2_with fail
 go_ret2
 exact ⟨rb, rfl, by rw [← h2]; exact HL.out.below bw_, uw_⟩
def newLine (st : Int) (x : Entry) : ByteArray := lineP x (stampP st x) ++ ⟨#[10]⟩
theorem newLine_len {x : Entry} (h : vEntry x = true) (st : Int) : (newLine st x).size ≤ 73 := by
 have hb := stampP_bd st x
 have := lineP_len h hb.1 hb.2
 have z : (⟨#[10]⟩ : ByteArray).size = 1 := rfl
 simp only [newLine, ByteArray.size_append]
 omega
def extR (log : ByteArray) (l : List Entry) (st : Int) (x : Entry) : ByteArray × Int :=
 if vEntry x = true then (if x.day < dayL l then (⟨#[]⟩, 6) else (log ++ newLine st x, 0)) else (⟨#[]⟩, 7)
theorem extR_7 {log : ByteArray} {l : List Entry} {st : Int} {x : Entry} (h : vEntry x = false) : extR log l st x = (⟨#[]⟩, 7) := by rw [extR, if_neg (by rw [h]; simp)]
theorem extR_6 {log : ByteArray} {l : List Entry} {st : Int} {x : Entry} (h : vEntry x = true) (h2 : x.day < dayL l) : extR log l st x = (⟨#[]⟩, 6) := by rw [extR, if_pos h, if_pos h2]
theorem LI.cells3 {base rb sz : Nat} {w : World} {l : List Entry} {st : Int} (h : LI base w rb l st sz) : w.cell? ⟨rb, 1, none⟩ = some (i64 st) ∧ rb < w.heap.size := by
 obtain ⟨A, c, h1, _⟩ := h
 exact ⟨h1.cell 1, h1.lt⟩
theorem LI.put2 {base rb sz : Nat} {l : List Entry} {st : Int} {w : World} {Al : Option Addr} {cl gb cap : Nat} {x : Entry} (b : Blk w rb 152 #[.slice Al l.length cl, i64 st, i64 sz]) (hb : base ≤ rb)
  (o : w.ownsRow base 127 3 (.slice (some ⟨gb, 0, none⟩) (l.length + 1) cap) (l.length + 1) (encs l ++ [i64 x.day, .string x.what, i64 x.value])) (hne : gb ≠ rb) (st' : Int) :
  LI base ((w.setCell ⟨rb, 0, none⟩ (.slice (some ⟨gb, 0, none⟩) (l.length + 1) cap)).setCell ⟨rb, 1, none⟩ (i64 st')) rb (l ++ [x]) st' sz := by
 have hne2 : (Value.slice (some ⟨gb, 0, none⟩) (l.length + 1) cap).ownBlock = none ∨ (Value.slice (some ⟨gb, 0, none⟩) (l.length + 1) cap).ownBlock ≠ some rb := .inr (fun e => by injection e with e; exact hne e)
 have b3 := (b.put 0 (.slice (some ⟨gb, 0, none⟩) (l.length + 1) cap)).put 1 (i64 st')
 have o3 := (o.kept (grown_put w rb 0 (.slice (some ⟨gb, 0, none⟩) (l.length + 1) cap)) hne2).kept (grown_put _ rb 1 (i64 st')) hne2
 refine ⟨some ⟨gb, 0, none⟩, cap, ?_, hb, ?_, ?_⟩
 ·rw [List.length_append, List.length_singleton]; exact b3
 ·rw [List.length_append, List.length_singleton, show encs (l ++ [x]) = encs l ++ [i64 x.day, .string x.what, i64 x.value] by simp [encs, Entry.cells]]; exact o3
 ·rw [List.length_append, List.length_singleton]; exact hne2
theorem pg {Q : Exit → Act → World → Prop} {e : Exit} {a : Act} {w : World} {R : World → Prop} (st : R w) (h : ∀ W, R W → Q e a W) : Q e a w := h w st
theorem EAt.grown {w w' : World} {b o : Nat} {x : Entry} {row : Option Nat} (a : EAt w b o x) (hg : w.grownBy w' row) (hne : some b ≠ row) : EAt w' b o x :=
 ⟨Nat.lt_of_lt_of_le a.1 hg.size, (hg.cell_far ⟨b, o, none⟩ a.1 hne).trans a.2.1, (hg.cell_far ⟨b, o + 1, none⟩ a.1 hne).trans a.2.2.1, (hg.cell_far ⟨b, o + 2, none⟩ a.1 hne).trans a.2.2.2⟩
theorem EAt.set {w : World} {b o rb i : Nat} {x : Entry} (a : EAt w b o x) (hne : b ≠ rb) (u : Value) : EAt (w.setCell ⟨rb, i, none⟩ u) b o x :=
 a.grown (grown_put w rb i u) (fun e => hne (by injection e))
theorem Below.sets2 {B rb : Nat} {a w : World} (hr : B ≤ rb) (h : Below B a w) (u0 u1 : Value) : Below B a ((w.setCell ⟨rb, 0, none⟩ u0).setCell ⟨rb, 1, none⟩ u1) :=
 (h.setCell (p := ⟨rb, 0, none⟩) hr u0).setCell (p := ⟨rb, 1, none⟩) hr u1
theorem ext_no (base rb sz : Nat) (l : List Entry) (st : Int) (log : ByteArray) (x : Entry) (w : World) (h : LI base w rb l st sz) (hl : l.length ≤ 1000000000) (hs : x.what.size ≤ 9223372036854775807)
  (hno : vEntry x = false ∨ x.day < dayL l) :
  Calls Tryz.prog 138 #[.pointer (some ⟨rb, 0, none⟩), .string log, env x] w fun e w' => e = .returned (.tuple #[.string (extR log l st x).1, i64 (extR log l st x).2]) ∧ UpOf w w' := by
 have HL := hd_ h
 clear h
 cases h1 : vEntry x
 ·have hf := hd_ (extR_7 (log := log) (l := l) (st := st) h1)
  clear hno
  go_enter Tryz.func138, Tryz.ntmps138
  go_wp2_with (first | (go_at_call 172; refine (ret_as (validEntryI_any x _ hs) h1).mono ?_; rintro e w' ⟨rfl, g, rfl⟩) | ((with_reducible refine wru ?_); (repeat (go_big_quiet_step (fail))); refine wqn fun nq => ?_))
  go_ret2
  exact ⟨by rw [hf.out] <;> rfl, uw_⟩
 ·have h2 : x.day < dayL l := hno.resolve_left (by rw [h1]; simp)
  have hf := hd_ (extR_6 (log := log) (st := st) h1 h2)
  clear hno
  go_enter Tryz.func138, Tryz.ntmps138
  go_wp2_with (first | (go_at_call 172; refine (ret_as (validEntryI_any x _ hs) h1).mono ?_; rintro e w' ⟨rfl, g, rfl⟩) | ((with_reducible refine wru ?_); (repeat (go_big_quiet_step (first | (go_at_call 173; exact uq_ (dayI_any _ _ _ _ _ _ (HL.out.below bw_) hl))))); refine wqn fun nq => ?_))
  go_ret2
  exact ⟨by rw [hf.out] <;> rfl, uw_⟩
theorem ext_ok (base rb sz : Nat) (l : List Entry) (st : Int) (log : ByteArray) (x : Entry) (w : World) (h : LI base w rb l st sz) (ht : ∀ W', Below base w W' → Tab W') (hl : l.length ≤ 1000000000) (hlog : log.size ≤ 1000000000) (s0 : 0 ≤ st) (s1 : st < 65519)
  (h1 : vEntry x = true) (h2 : ¬ x.day < dayL l) :
  Calls Tryz.prog 138 #[.pointer (some ⟨rb, 0, none⟩), .string log, env x] w fun e w' => e = .returned (.tuple #[.string (log ++ newLine st x), i64 0]) ∧ LI base w' rb (l ++ [x]) (stampP st x) sz ∧ Below base w w' := by
 have HB0 := hd_ (show base ≤ w.heap.size from Nat.le_trans h.lt.1 (Nat.le_of_lt h.lt.2))
 have HBR := hd_ h.lt.1
 have HL := hd_ h
 have HT := hd_ ht
 have hs : x.what.size ≤ 9223372036854775807 := by have := (nameB_bd (vEntry_inv h1).2.2.1).2; omega
 have hb := stampP_bd st x
 have hz1 := ewords_len h1
 have hz2 := dec_len (n := stampP st x) (by omega) (by omega)
 have z1 : (⟨#[32]⟩ : ByteArray).size = 1 := rfl
 have z2 : (⟨#[10]⟩ : ByteArray).size = 1 := rfl
 have e1 : ∀ w, (Op.stringOp .add log (ewords x)).run Tryz.prog w = .ok (.string (log ++ ewords x)) w := fun w => run_string_add_sum w _ _ (by omega)
 have e2 : ∀ w, (Op.stringOp .add (log ++ ewords x) (⟨#[32]⟩ : ByteArray)).run Tryz.prog w = .ok (.string (log ++ ewords x ++ ⟨#[32]⟩)) w := fun w => run_string_add_sum w _ _ (by simp only [ByteArray.size_append]; omega)
 have e3 : ∀ w, (Op.stringOp .add (log ++ ewords x ++ ⟨#[32]⟩) (dec (stampP st x))).run Tryz.prog w = .ok (.string (log ++ ewords x ++ ⟨#[32]⟩ ++ dec (stampP st x))) w := fun w => run_string_add_sum w _ _ (by simp only [ByteArray.size_append]; omega)
 have e4 : ∀ w, (Op.stringOp .add (log ++ ewords x ++ ⟨#[32]⟩ ++ dec (stampP st x)) (⟨#[10]⟩ : ByteArray)).run Tryz.prog w = .ok (.string (log ++ newLine st x)) w := fun w => by
  rw [run_string_add_sum w _ _ (by simp only [ByteArray.size_append]; omega)]
  rw [newLine, lineP]
  congr 2
  apply ba_ext
  simp [ByteArray.data_append]
 obtain ⟨Al, cl, r1, r2, r3, r4⟩ := h
 have R1 := hd_ r1
 have R3 := hd_ r3
 have R4 := hd_ r4
 have HLT := hd_ r1.lt
 have HOQ := hd_ (fun k hk => (r3.lt k hk).2)
 clear ht hz1 hz2 z1 z2 r1 r2 r3 r4
 go_enter Tryz.func138, Tryz.ntmps138
 go_wp2_with fail
 refine (ret_as (validEntryI_any x _ hs) h1).mono ?_
 rintro e w' ⟨rfl, g1, rfl⟩
 go_wp2_with fail
 refine wpg (R := fun V => EAt V w.heap.size 0 x ∧ LI base V rb l st sz ∧ UpOf w V) ⟨⟨by simp, by simp, by simp, by simp⟩, HL.out.below bw_, uw_⟩ (fun V z => ?_)
 clear HL
 obtain ⟨q, hqq⟩ : ∃ q, w.heap.size = q := ⟨_, rfl⟩
 rw [hqq] at z ⊢
 have HQQ := hd_ hqq
 clear hqq
 have HE := hd_ z.1
 obtain ⟨⟨hq, y0, y1, y2⟩, hl', hu⟩ := z
 obtain ⟨c1, hrb⟩ := hl'.cells3
 simp only [Nat.zero_add] at y1 y2
 have HL := hd_ hl'
 have HU := hd_ hu
 clear hl' hu
 go_wp2_with (first | ((with_reducible refine wru ?_); (repeat (go_big_quiet_step (first | (go_at_call 173; exact uq_ (dayI_any _ _ _ _ _ _ (HL.out.below bw_) hl)) | (go_at_call 174; exact uq_ (stamp_any x h1 _ s0 s1 _ (HT.out _ ((HU.out.tr bw_).below.mono HB0.out))))))); refine wqn fun nq => ?_))
 refine wpg (R := fun V3 => EAt V3 q 0 x ∧ UpOf w V3) ⟨HE.out.below bw_, HU.out.tr bw_⟩ (fun V3 z => ?_)
 clear y0 y1 y2 hq c1 hrb HL HU HE
 have HE := hd_ z.1
 have HU := hd_ z.2
 obtain ⟨hq, y0, y1, y2⟩ := z.1
 simp only [Nat.zero_add] at y1 y2
 have b3 := R1.out.below' z.2.below
 have c0 := b3.cell 0
 have c1 := b3.cell 1
 have hrb := b3.lt
 simp only [List.getElem?_toArray, List.getElem?_cons_zero, List.getElem?_cons_succ] at c0 c1
 have B3 := hd_ b3
 have O3 := hd_ (own_below R3.out z.2.below)
 have HBS := hd_ (show base ≤ V3.heap.size from Nat.le_trans HB0.out z.2.below.size)
 have HQN := hd_ (show some q ≠ (Value.slice Al l.length cl).ownBlock from fun e => by have := HOQ.out q e.symm; have := HQQ.out; omega)
 clear z b3
 go_region_law (first | (go_must (refine step_appAt rfl _ _ 100 (by rfl) base 127 _ 3 32 el_entry (.slice Al l.length cl) l.length (encs l) (by rfl) (own_below O3.out bw_) _ 1 1 [i64 x.day, .string x.what, i64 x.value] (by rfl) (rds_new _ #[i64 x.day, .string x.what, i64 x.value] _ 3 1 rfl) (fun u hu => by simp at hu; rcases hu with rfl | rfl | rfl <;> rfl) (by omega) (by unfold maxLen; omega) (by omega) (Nat.le_trans HBS.out (Below.size (B := V3.heap.size) (w := V3) bw_)) ?_); intro gb cap w4 o4 hg4 hat4; have b4 := (B3.out.below' bw_).grown hg4 (ne_row R4.out); have E4 := (HE.out.below bw_).grown hg4 HQN.out; have d0 := b4.cell 0; have d1 := b4.cell 1; have f0 := b4.free 0; have f1 := b4.free 1; simp only [List.getElem?_toArray, List.getElem?_cons_zero, List.getElem?_cons_succ] at d0 d1))
 all_goals
  refine pg (R := fun W5 => EAt W5 q 0 x ∧ LI base W5 rb (l ++ [x]) (stampP st x) sz ∧ Below base w W5)
   ⟨(E4.set (by have := HQQ.out; have := HLT.out; omega) _).set (by have := HQQ.out; have := HLT.out; omega) _, LI.put2 b4 HBR.out o4 (gb_ne R4.out hat4 (Nat.lt_of_lt_of_le hrb (Below.size (B := V3.heap.size) (w := V3) bw_))) _, Below.sets2 HBR.out (((HU.out.below.mono HB0.out).trans ((show Below V3.heap.size V3 _ from bw_).mono HBS.out)).grown hg4 (Nat.le_trans HBS.out (Below.size (B := V3.heap.size) (w := V3) bw_)) (fun k hk => (O3.out.lt k hk).1)) _ _⟩ (fun W5 z => ?_)
  clear y0 y1 y2 hq c0 c1 hrb d0 d1 f0 f1 b4 o4 hat4 hg4 E4
  obtain ⟨⟨hq, y0, y1, y2⟩, hl5, hb5⟩ := z
  simp only [Nat.zero_add] at y1 y2
  have HL5 := hd_ hl5
  have HB5 := hd_ hb5
  clear hl5 hb5
  go_wp2_with (first | (go_at_call 90; refine (words_any x h1 _ (HT.out _ (HB5.out.trans (Below.mono bw_ (Nat.le_trans HB0.out HB5.out.size))))).mono ?_; rintro e w' ⟨rfl, g, rfl⟩) | (go_at_call 41; refine (decI_any _ _ (by omega) (by omega) (HT.out _ (HB5.out.trans (Below.mono bw_ (Nat.le_trans HB0.out HB5.out.size))))).mono ?_; rintro e w' ⟨rfl, g, rfl⟩) | ((with_reducible refine wru ?_); (repeat (go_big_quiet_step (fail))); refine wqn fun nq => ?_))
  go_ret2
  exact ⟨rfl, HL5.out.below bw_, HB5.out.trans (Below.mono bw_ (Nat.le_trans HB0.out HB5.out.size))⟩
def stL (s : ByteArray) : Int := (logR s).2.1
theorem stL_bd (s : ByteArray) : 0 ≤ stL s ∧ stL s < 65519 := (logR_inv s).2.2.1
def adR (s : ByteArray) (x : Entry) : ByteArray × Int :=
 if codeL s = 0 then (if vEntry x = true then (if x.day < dayL (entsL s) then (⟨#[]⟩, 6) else if (s ++ newLine (stL s) x).size ≤ 4000 then (s ++ newLine (stL s) x, 0) else (⟨#[]⟩, 5)) else (⟨#[]⟩, 7)) else (⟨#[]⟩, codeL s)
theorem adR_1 {s : ByteArray} {x : Entry} (h : ¬ codeL s = 0) : adR s x = (⟨#[]⟩, codeL s) := by rw [adR, if_neg h]
theorem adR_7 {s : ByteArray} {x : Entry} (h : codeL s = 0) (h2 : vEntry x = false) : adR s x = (⟨#[]⟩, 7) := by rw [adR, if_pos h, if_neg (by rw [h2]; simp)]
theorem adR_6 {s : ByteArray} {x : Entry} (h : codeL s = 0) (h2 : vEntry x = true) (h3 : x.day < dayL (entsL s)) : adR s x = (⟨#[]⟩, 6) := by rw [adR, if_pos h, if_pos h2, if_pos h3]
theorem adR_5 {s : ByteArray} {x : Entry} (h : codeL s = 0) (h2 : vEntry x = true) (h3 : ¬ x.day < dayL (entsL s)) (h4 : ¬ (s ++ newLine (stL s) x).size ≤ 4000) : adR s x = (⟨#[]⟩, 5) := by rw [adR, if_pos h, if_pos h2, if_neg h3, if_neg h4]
theorem adR_0 {s : ByteArray} {x : Entry} (h : codeL s = 0) (h2 : vEntry x = true) (h3 : ¬ x.day < dayL (entsL s)) (h4 : (s ++ newLine (stL s) x).size ≤ 4000) : adR s x = (s ++ newLine (stL s) x, 0) := by rw [adR, if_pos h, if_pos h2, if_neg h3, if_pos h4]
theorem code_ne {s : ByteArray} (h : ¬ codeL s = 0) : ((codeL s) != 0) = true := by rw [bne_iff_ne]; exact h
theorem addEntryI_any (s : ByteArray) (x : Entry) (w : World) (hs : s.size ≤ 1048576) (hx : x.what.size ≤ 9223372036854775807) (ht : Tab w) :
  Calls Tryz.prog 85 #[.string s, env x] w fun e w' => e = .returned (.tuple #[.string (adR s x).1, i64 (adR s x).2]) ∧ UpOf w w' := by
 have HT := hd_ ht
 have hb := stL_bd s
 clear ht
 by_cases h1 : codeL s = 0
 ·have hl4 := entsL_len h1
  have hs4 := (codeL_inv h1).1
  cases h2 : vEntry x
  ·have hf := hd_ (adR_7 h1 h2)
   have z7 : (extR s (entsL s) (stL s) x) = (⟨#[]⟩, 7) := extR_7 h2
   go_enter Tryz.func85, Tryz.ntmps85
   go_wp2_with fail
   refine cg (R := fun V => EAt V w.heap.size 0 x ∧ UpOf w V) ⟨EAt.new, uw_⟩ (fun V0 z => ?_)
   obtain ⟨q, hqq⟩ : ∃ q, w.heap.size = q := ⟨_, rfl⟩
   rw [hqq] at z ⊢
   clear hqq
   have HE := hd_ z.1
   have HU := hd_ z.2
   clear z
   refine (wholeI_ok s _ (HT.out.below HU.out.below) h1).mono ?_
   rintro e V ⟨rb, rfl, hl, hup⟩
   have HL := hd_ hl
   have HUV := hd_ hup
   obtain ⟨hq, y0, y1, y2⟩ := HE.out.below hup.below
   simp only [Nat.zero_add] at y1 y2
   have HU2 := hd_ (HU.out.tr hup.below)
   clear hl hup
   go_wp2_with (first | (go_at_call 138; refine (ext_no _ _ _ (entsL s) (stL s) s x _ (HL.out.below bw_) (by omega) hx (.inl h2)).mono ?_; rintro e w' ⟨rfl, g, rfl⟩))
   go_ret2
   exact ⟨by rw [hf.out] <;> rfl, HU2.out.tr bw_⟩
  by_cases h3 : x.day < dayL (entsL s)
  ·have hf := hd_ (adR_6 h1 h2 h3)
   have z6 : (extR s (entsL s) (stL s) x) = (⟨#[]⟩, 6) := extR_6 h2 h3
   go_enter Tryz.func85, Tryz.ntmps85
   go_wp2_with fail
   refine cg (R := fun V => EAt V w.heap.size 0 x ∧ UpOf w V) ⟨EAt.new, uw_⟩ (fun V0 z => ?_)
   obtain ⟨q, hqq⟩ : ∃ q, w.heap.size = q := ⟨_, rfl⟩
   rw [hqq] at z ⊢
   clear hqq
   have HE := hd_ z.1
   have HU := hd_ z.2
   clear z
   refine (wholeI_ok s _ (HT.out.below HU.out.below) h1).mono ?_
   rintro e V ⟨rb, rfl, hl, hup⟩
   have HL := hd_ hl
   have HUV := hd_ hup
   obtain ⟨hq, y0, y1, y2⟩ := HE.out.below hup.below
   simp only [Nat.zero_add] at y1 y2
   have HU2 := hd_ (HU.out.tr hup.below)
   clear hl hup
   go_wp2_with (first | (go_at_call 138; refine (ext_no _ _ _ (entsL s) (stL s) s x _ (HL.out.below bw_) (by omega) hx (.inr h3)).mono ?_; rintro e w' ⟨rfl, g, rfl⟩))
   go_ret2
   exact ⟨by rw [hf.out] <;> rfl, HU2.out.tr bw_⟩
  have hn := newLine_len h2 (stL s)
  obtain ⟨T, hTT⟩ : ∃ T, s ++ newLine (stL s) x = T := ⟨_, rfl⟩
  by_cases h4 : T.size ≤ 4000
  ·have hf := hd_ (adR_0 h1 h2 h3 (by rw [hTT]; exact h4))
   have HTT := hd_ hTT
   go_enter Tryz.func85, Tryz.ntmps85
   go_wp2_with fail
   refine cg (R := fun V => EAt V w.heap.size 0 x ∧ UpOf w V) ⟨EAt.new, uw_⟩ (fun V0 z => ?_)
   obtain ⟨q, hqq⟩ : ∃ q, w.heap.size = q := ⟨_, rfl⟩
   rw [hqq] at z ⊢
   clear hqq
   have HE := hd_ z.1
   have HU := hd_ z.2
   clear z
   refine (wholeI_ok s _ (HT.out.below HU.out.below) h1).mono ?_
   rintro e V ⟨rb, rfl, hl, hup⟩
   have HL := hd_ hl
   have HUV := hd_ hup
   obtain ⟨hq, y0, y1, y2⟩ := HE.out.below hup.below
   simp only [Nat.zero_add] at y1 y2
   have HU2 := hd_ (HU.out.tr hup.below)
   clear hl hup
   go_wp2_with fail
   have cx := ext_ok _ _ _ (entsL s) (stL s) s x V HL.out (fun W' hW => HT.out.below (HU.out.below.trans ((HUV.out.below.trans hW).mono HU.out.below.size))) (by omega) (by omega) hb.1 hb.2 h2 (fun hlt => by omega)
   rw [HTT.out] at cx
   refine cx.mono ?_
   clear cx
   rintro e W ⟨rfl, hl2, hb2⟩
   have HW := hd_ (show UpOf w W from .of (HU.out.below.trans ((HUV.out.below.trans hb2).mono HU.out.below.size)))
   clear hl2 hb2
   go_wp2_with fail
   go_ret2
   exact ⟨by rw [hf.out, HTT.out] <;> rfl, HW.out.tr bw_⟩
  ·have hf := hd_ (adR_5 h1 h2 h3 (by rw [hTT]; exact h4))
   have HTT := hd_ hTT
   have h4' : 4000 < T.size := by omega
   go_enter Tryz.func85, Tryz.ntmps85
   go_wp2_with fail
   refine cg (R := fun V => EAt V w.heap.size 0 x ∧ UpOf w V) ⟨EAt.new, uw_⟩ (fun V0 z => ?_)
   obtain ⟨q, hqq⟩ : ∃ q, w.heap.size = q := ⟨_, rfl⟩
   rw [hqq] at z ⊢
   clear hqq
   have HE := hd_ z.1
   have HU := hd_ z.2
   clear z
   refine (wholeI_ok s _ (HT.out.below HU.out.below) h1).mono ?_
   rintro e V ⟨rb, rfl, hl, hup⟩
   have HL := hd_ hl
   have HUV := hd_ hup
   obtain ⟨hq, y0, y1, y2⟩ := HE.out.below hup.below
   simp only [Nat.zero_add] at y1 y2
   have HU2 := hd_ (HU.out.tr hup.below)
   clear hl hup
   go_wp2_with fail
   have cx := ext_ok _ _ _ (entsL s) (stL s) s x V HL.out (fun W' hW => HT.out.below (HU.out.below.trans ((HUV.out.below.trans hW).mono HU.out.below.size))) (by omega) (by omega) hb.1 hb.2 h2 (fun hlt => by omega)
   rw [HTT.out] at cx
   refine cx.mono ?_
   clear cx
   rintro e W ⟨rfl, hl2, hb2⟩
   have HW := hd_ (show UpOf w W from .of (HU.out.below.trans ((HUV.out.below.trans hb2).mono HU.out.below.size)))
   clear hl2 hb2
   go_wp2_with fail
   go_ret2
   exact ⟨by rw [hf.out] <;> rfl, HW.out.tr bw_⟩
 ·have hf := hd_ (adR_1 (x := x) h1)
  have z := code_ne h1
  go_enter Tryz.func85, Tryz.ntmps85
  go_wp2_with fail
  refine cg (R := fun V => EAt V w.heap.size 0 x ∧ UpOf w V) ⟨EAt.new, uw_⟩ (fun V0 z => ?_)
  obtain ⟨q, hqq⟩ : ∃ q, w.heap.size = q := ⟨_, rfl⟩
  rw [hqq] at z ⊢
  clear hqq
  have HE := hd_ z.1
  have HU := hd_ z.2
  clear z
  refine (wholeI_no s _ hs (HT.out.below HU.out.below) h1).mono ?_
  rintro e w' ⟨rfl, g, rfl⟩
  go_wp2_with fail
  go_ret2
  exact ⟨by rw [hf.out] <;> rfl, HU.out.tr bw_⟩
theorem addEntryS_any (s : ByteArray) (x : Entry) (w : World) (hs : s.size ≤ 1048576) (hx : x.what.size ≤ 9223372036854775807) :
  Calls Tryz.prog 155 #[.string s, env x] w fun e w' => e = .returned (.tuple #[.string (adR s x).1, i64 (adR s x).2]) ∧ UpOf w w' := by
 have hb := stL_bd s
 by_cases h1 : codeL s = 0
 ·have hl4 := entsL_len h1
  have hs4 := (codeL_inv h1).1
  cases h2 : vEntry x
  ·have hf := hd_ (adR_7 h1 h2)
   go_enter Tryz.func155, Tryz.ntmps155
   go_wp2_with fail
   refine cg (R := fun V => EAt V w.heap.size 0 x ∧ UpOf w V) ⟨EAt.new, uw_⟩ (fun V0 z => ?_)
   obtain ⟨q, hqq⟩ : ∃ q, w.heap.size = q := ⟨_, rfl⟩
   rw [hqq] at z ⊢
   clear hqq
   have HE := hd_ z.1
   have HU := hd_ z.2
   clear z
   refine (codeS_ok s _ h1).mono ?_
   rintro e V ⟨rb, rfl, hl, hup⟩
   have HL := hd_ hl
   have HE2 := hd_ (HE.out.below hup.below)
   have cs := hl.cells
   obtain ⟨c0, c1, c2⟩ := cs
   have hrb := hl.lt.2
   obtain ⟨hq, y0, y1, y2⟩ := HE.out.below hup.below
   simp only [Nat.zero_add] at y1 y2
   have HU2 := hd_ (HU.out.tr hup.below)
   clear hl hup
   go_wp2_with (first | (go_at_call 189; refine (ret_as (l27Ok_any x _ _ _ (HE2.out.below bw_) hx) h2).mono ?_; rintro e w' ⟨rfl, g, rfl⟩) | ((with_reducible refine wru ?_); (repeat (go_big_quiet_step (fail))); refine wqn fun nq => ?_))
   go_ret2
   exact ⟨by rw [hf.out] <;> rfl, HU2.out.tr bw_⟩
  by_cases h3 : x.day < dayL (entsL s)
  ·have hf := hd_ (adR_6 h1 h2 h3)
   go_enter Tryz.func155, Tryz.ntmps155
   go_wp2_with fail
   refine cg (R := fun V => EAt V w.heap.size 0 x ∧ UpOf w V) ⟨EAt.new, uw_⟩ (fun V0 z => ?_)
   obtain ⟨q, hqq⟩ : ∃ q, w.heap.size = q := ⟨_, rfl⟩
   rw [hqq] at z ⊢
   clear hqq
   have HE := hd_ z.1
   have HU := hd_ z.2
   clear z
   refine (codeS_ok s _ h1).mono ?_
   rintro e V ⟨rb, rfl, hl, hup⟩
   have HL := hd_ hl
   have HE2 := hd_ (HE.out.below hup.below)
   have cs := hl.cells
   obtain ⟨c0, c1, c2⟩ := cs
   have hrb := hl.lt.2
   obtain ⟨hq, y0, y1, y2⟩ := HE.out.below hup.below
   simp only [Nat.zero_add] at y1 y2
   have HU2 := hd_ (HU.out.tr hup.below)
   clear hl hup
   go_wp2_with (first | (go_at_call 189; refine (ret_as (l27Ok_any x _ _ _ (HE2.out.below bw_) hx) h2).mono ?_; rintro e w' ⟨rfl, g, rfl⟩) | ((with_reducible refine wru ?_); (repeat (go_big_quiet_step (first | (go_at_call 190; exact uq_ (dayS_any _ _ _ _ _ _ _ (HL.out.below bw_) (by omega)))))); refine wqn fun nq => ?_))
   go_ret2
   exact ⟨by rw [hf.out] <;> rfl, HU2.out.tr bw_⟩
  have hn := newLine_len h2 (stL s)
  have hsb := stampP_bd (stL s) x
  have hwl := ewords_len h2
  obtain ⟨T, hTT⟩ : ∃ T, s ++ newLine (stL s) x = T := ⟨_, rfl⟩
  have e1 : ∀ w, (Op.stringOp .add s (lineP x (stampP (stL s) x) ++ ⟨#[10]⟩)).run Tryz.prog w = .ok (.string T) w := fun w => by
   rw [← hTT]; exact run_string_add_sum w s (newLine (stL s) x) (by omega)
  by_cases h4 : T.size ≤ 4000
  ·have hf := hd_ (adR_0 h1 h2 h3 (by rw [hTT]; exact h4))
   have HTT := hd_ hTT
   clear hTT hn
   go_enter Tryz.func155, Tryz.ntmps155
   go_wp2_with fail
   refine cg (R := fun V => EAt V w.heap.size 0 x ∧ UpOf w V) ⟨EAt.new, uw_⟩ (fun V0 z => ?_)
   obtain ⟨q, hqq⟩ : ∃ q, w.heap.size = q := ⟨_, rfl⟩
   rw [hqq] at z ⊢
   clear hqq
   have HE := hd_ z.1
   have HU := hd_ z.2
   clear z
   refine (codeS_ok s _ h1).mono ?_
   rintro e V ⟨rb, rfl, hl, hup⟩
   have HL := hd_ hl
   have HE2 := hd_ (HE.out.below hup.below)
   have cs := hl.cells
   obtain ⟨c0, c1, c2⟩ := cs
   have hrb := hl.lt.2
   obtain ⟨hq, y0, y1, y2⟩ := HE.out.below hup.below
   simp only [Nat.zero_add] at y1 y2
   have HU2 := hd_ (HU.out.tr hup.below)
   clear hl hup
   go_wp2_with (first | (go_at_call 189; refine (ret_as (l27Ok_any x _ _ _ (HE2.out.below bw_) hx) h2).mono ?_; rintro e w' ⟨rfl, g, rfl⟩) | ((with_reducible refine wru ?_); (repeat (go_big_quiet_step (first | (go_at_call 190; exact uq_ (dayS_any _ _ _ _ _ _ _ (HL.out.below bw_) (by omega))) | (go_at_call 161; exact uq_ (l27Words_any x h2 _ _ _ (HE2.out.below bw_))) | (go_at_call 192; exact uq_ (l27Stamp_any _ hwl x rfl _ hb.1 hb.2 _)) | (go_at_call 191; exact uq_ (l27Line_any x h2 _ hsb.1 hsb.2 _ _ _ (HE2.out.below bw_)))))); refine wqn fun nq => ?_))
   go_ret2
   exact ⟨by rw [hf.out, HTT.out] <;> rfl, HU2.out.tr bw_⟩
  ·have hf := hd_ (adR_5 h1 h2 h3 (by rw [hTT]; exact h4))
   have h4' : 4000 < T.size := by omega
   clear hTT hn
   go_enter Tryz.func155, Tryz.ntmps155
   go_wp2_with fail
   refine cg (R := fun V => EAt V w.heap.size 0 x ∧ UpOf w V) ⟨EAt.new, uw_⟩ (fun V0 z => ?_)
   obtain ⟨q, hqq⟩ : ∃ q, w.heap.size = q := ⟨_, rfl⟩
   rw [hqq] at z ⊢
   clear hqq
   have HE := hd_ z.1
   have HU := hd_ z.2
   clear z
   refine (codeS_ok s _ h1).mono ?_
   rintro e V ⟨rb, rfl, hl, hup⟩
   have HL := hd_ hl
   have HE2 := hd_ (HE.out.below hup.below)
   have cs := hl.cells
   obtain ⟨c0, c1, c2⟩ := cs
   have hrb := hl.lt.2
   obtain ⟨hq, y0, y1, y2⟩ := HE.out.below hup.below
   simp only [Nat.zero_add] at y1 y2
   have HU2 := hd_ (HU.out.tr hup.below)
   clear hl hup
   go_wp2_with (first | (go_at_call 189; refine (ret_as (l27Ok_any x _ _ _ (HE2.out.below bw_) hx) h2).mono ?_; rintro e w' ⟨rfl, g, rfl⟩) | ((with_reducible refine wru ?_); (repeat (go_big_quiet_step (first | (go_at_call 190; exact uq_ (dayS_any _ _ _ _ _ _ _ (HL.out.below bw_) (by omega))) | (go_at_call 161; exact uq_ (l27Words_any x h2 _ _ _ (HE2.out.below bw_))) | (go_at_call 192; exact uq_ (l27Stamp_any _ hwl x rfl _ hb.1 hb.2 _)) | (go_at_call 191; exact uq_ (l27Line_any x h2 _ hsb.1 hsb.2 _ _ _ (HE2.out.below bw_)))))); refine wqn fun nq => ?_))
   go_ret2
   exact ⟨by rw [hf.out] <;> rfl, HU2.out.tr bw_⟩
 ·have hf := hd_ (adR_1 (x := x) h1)
  have z := code_ne h1
  go_enter Tryz.func155, Tryz.ntmps155
  go_wp2_with fail
  refine cg (R := fun V => EAt V w.heap.size 0 x ∧ UpOf w V) ⟨EAt.new, uw_⟩ (fun V0 z => ?_)
  obtain ⟨q, hqq⟩ : ∃ q, w.heap.size = q := ⟨_, rfl⟩
  rw [hqq] at z ⊢
  clear hqq
  have HE := hd_ z.1
  have HU := hd_ z.2
  clear z
  refine (codeS_no s _ hs h1).mono ?_
  rintro e V ⟨p, rfl, hup⟩
  have HU2 := hd_ (HU.out.tr hup.below)
  clear hup
  go_wp2_with (first | ((with_reducible refine wru ?_); (repeat (go_big_quiet_step (fail))); refine wqn fun nq => ?_))
  go_ret2
  exact ⟨by rw [hf.out] <;> rfl, HU2.out.tr bw_⟩
theorem validStops_any (A : Option Addr) (c : Nat) (l : List Int) (w : World) (h : Rds w 1 A l.length (ics l)) (hn : l.length ≤ 100000000) :
  Calls Tryz.prog 66 #[.slice A l.length c] w fun e w' => e = .returned (.bool (vStops l)) ∧ UpOf w w' := by
 by_cases h6 : l.length ≤ 6
 ·have HL := hd_ h6
  clear h6
  have h6' : (l.length : Int) ≤ 6 := by have := HL.out; omega
  go_enter Tryz.func66, Tryz.ntmps66
  go_wp2_with fail
  go_loopw [10] (fun i wr => ∃ k : Nat, k ≤ l.length ∧ i = i64 k ∧ Hid (∀ j, j < k → stopAt l j = true) ∧ ∃ g : Up w, wr = up w g) (fun i _ => l.length - (intOf i).toNat)
  case atStart => exact ⟨0, by omega, rfl, fun i hi => by omega, ex_up bw_⟩
  case round =>
   obtain ⟨k, hk, rfl, hok, g, rfl⟩ := hrel
   by_cases hlt : k < l.length
   ·obtain ⟨b, off, rfl, hb, c0⟩ := num_at h hlt
    cases p1 : btw (num l k) 1 30
    ·have hf := hd_ (vStops_at hlt (stopAt_1 p1))
     go_wp2_with (first | (go_at_call 118; refine (between_any _ _ _ _).mono ?_; rintro e w' ⟨rfl, rfl⟩) | (go_at_call 141; refine (in_any _ _ _ _).mono ?_; rintro e w' ⟨rfl, rfl⟩))
     go_ret
     exact ⟨ret_bool hf.out.symm, uw_⟩
    by_cases k0 : k = 0
    ·have hq := hd_ (stopAt_3 k0 p1)
     have hk0 : decide (0 < k) = false := by simp; omega
     clear k0
     go_wp2_with (first | (go_at_call 118; refine (between_any _ _ _ _).mono ?_; rintro e w' ⟨rfl, rfl⟩) | (go_at_call 141; refine (in_any _ _ _ _).mono ?_; rintro e w' ⟨rfl, rfl⟩))
     go_roundw
     case rel => have hx := lt_ext (P := fun j => stopAt l j = true) hok.out hq.out; exact ⟨k + 1, by omega, by go_num, hx, ex_up bw_⟩
     case measure => (simp [intOf]; try omega)
    ·obtain ⟨b', off', e', hb', d0⟩ := num_at h (k := k - 1) (by omega)
     injection e' with e'
     injection e' with e1 e2 _
     subst e1 e2
     have hk0 : decide (0 < k) = true := by simp; omega
     have hk1 : (1 : Int) ≤ (k : Int) := by omega
     by_cases p2 : num l (k - 1) < num l k
     ·have hq := hd_ (stopAt_4 p1 p2)
      have p3 : decide (num l k ≤ num l (k - 1)) = false := decide_eq_false (by omega)
      go_wp2_with (first | (go_at_call 118; refine (between_any _ _ _ _).mono ?_; rintro e w' ⟨rfl, rfl⟩) | (go_at_call 141; refine (in_any _ _ _ _).mono ?_; rintro e w' ⟨rfl, rfl⟩))
      go_roundw
      case rel => have hx := lt_ext (P := fun j => stopAt l j = true) hok.out hq.out; exact ⟨k + 1, by omega, by go_num, hx, ex_up bw_⟩
      case measure => (simp [intOf]; try omega)
     ·have hf := hd_ (vStops_at hlt (stopAt_2 (by omega) p2))
      have p3 : num l k ≤ num l (k - 1) := by omega
      go_wp2_with (first | (go_at_call 118; refine (between_any _ _ _ _).mono ?_; rintro e w' ⟨rfl, rfl⟩) | (go_at_call 141; refine (in_any _ _ _ _).mono ?_; rintro e w' ⟨rfl, rfl⟩))
      go_ret
      exact ⟨ret_bool hf.out.symm, uw_⟩
   ·have hf := hd_ (vStops_true HL.out (fun i hi => hok.out i (by omega)))
    go_wp2_with fail
    go_ret
    exact ⟨ret_bool hf.out.symm, uw_⟩
 ·have hf := hd_ (vStops_len h6)
  have h6' : (6 : Int) < (l.length : Int) := by omega
  go_enter Tryz.func66, Tryz.ntmps66
  go_wp2_with fail
  go_ret
  exact ⟨ret_bool hf.out.symm, uw_⟩
theorem l00Rises_any (A : Option Addr) (c : Nat) (l : List Int) (w : World) (h : Rds w 1 A l.length (ics l)) (hn : l.length ≤ 100000000) :
  Calls Tryz.prog 142 #[.slice A l.length c, i64 1, i64 30] w fun e w' => e = .returned (.bool (risesAll l)) ∧ UpOf w w' := by
 go_enter Tryz.func142, Tryz.ntmps142
 go_wp2_with (first | ((with_reducible refine wru ?_); (repeat (go_big_quiet_step (fail))); refine wqn fun nq => ?_))
 go_loopw [7] (fun i wr => ∃ k : Nat, k ≤ l.length ∧ i = i64 k ∧ Hid (∀ j, j < k → stopAt l j = true) ∧ ∃ g : Up w, wr = up w g) (fun i _ => l.length - (intOf i).toNat)
 case atStart => exact ⟨0, by omega, rfl, fun i hi => by omega, ex_up bw_⟩
 case round =>
  obtain ⟨k, hk, rfl, hok, g, rfl⟩ := hrel
  by_cases hlt : k < l.length
  ·obtain ⟨b, off, rfl, hb, c0⟩ := num_at h hlt
   cases p1 : btw (num l k) 1 30
   ·have hf := hd_ (rises_at hlt (stopAt_1 p1))
    go_wp2_with (first | (go_at_call 118; refine (between_any _ _ _ _).mono ?_; rintro e w' ⟨rfl, rfl⟩) | ((with_reducible refine wru ?_); (repeat (go_big_quiet_step (first | (go_at_call 141; exact uqs_ (in_any _ _ _ _))))); refine wqn fun nq => ?_))
    go_ret
    exact ⟨ret_bool hf.out.symm, uw_⟩
   by_cases k0 : k = 0
   ·have hq := hd_ (stopAt_3 k0 p1)
    have hk0 : decide (0 < k) = false := by simp; omega
    clear k0
    go_wp2_with (first | (go_at_call 118; refine (between_any _ _ _ _).mono ?_; rintro e w' ⟨rfl, rfl⟩) | ((with_reducible refine wru ?_); (repeat (go_big_quiet_step (first | (go_at_call 141; exact uqs_ (in_any _ _ _ _))))); refine wqn fun nq => ?_))
    go_roundw
    case rel => have hx := lt_ext (P := fun j => stopAt l j = true) hok.out hq.out; exact ⟨k + 1, by omega, by go_num, hx, ex_up bw_⟩
    case measure => (simp [intOf]; try omega)
   ·obtain ⟨b', off', e', hb', d0⟩ := num_at h (k := k - 1) (by omega)
    injection e' with e'
    injection e' with e1 e2 _
    subst e1 e2
    have hk0 : decide (0 < k) = true := by simp; omega
    have hk1 : (1 : Int) ≤ (k : Int) := by omega
    by_cases p2 : num l (k - 1) < num l k
    ·have hq := hd_ (stopAt_4 p1 p2)
     have p3 : decide (num l k ≤ num l (k - 1)) = false := decide_eq_false (by omega)
     go_wp2_with (first | (go_at_call 118; refine (between_any _ _ _ _).mono ?_; rintro e w' ⟨rfl, rfl⟩) | ((with_reducible refine wru ?_); (repeat (go_big_quiet_step (first | (go_at_call 141; exact uqs_ (in_any _ _ _ _))))); refine wqn fun nq => ?_))
     go_roundw
     case rel => have hx := lt_ext (P := fun j => stopAt l j = true) hok.out hq.out; exact ⟨k + 1, by omega, by go_num, hx, ex_up bw_⟩
     case measure => (simp [intOf]; try omega)
    ·have hf := hd_ (rises_at hlt (stopAt_2 (by omega) p2))
     have p3 : num l k ≤ num l (k - 1) := by omega
     go_wp2_with (first | (go_at_call 118; refine (between_any _ _ _ _).mono ?_; rintro e w' ⟨rfl, rfl⟩) | ((with_reducible refine wru ?_); (repeat (go_big_quiet_step (first | (go_at_call 141; exact uqs_ (in_any _ _ _ _))))); refine wqn fun nq => ?_))
     go_ret
     exact ⟨ret_bool hf.out.symm, uw_⟩
  ·have hf := hd_ (rises_true (l := l) (fun i hi => hok.out i (by omega)))
   go_wp2_with (first | ((with_reducible refine wru ?_); (repeat (go_big_quiet_step (fail))); refine wqn fun nq => ?_))
   go_ret
   exact ⟨ret_bool hf.out.symm, uw_⟩
theorem l11Ok_any (A : Option Addr) (c : Nat) (l : List Int) (w : World) (h : Rds w 1 A l.length (ics l)) (hn : l.length ≤ 100000000) :
  Calls Tryz.prog 93 #[.slice A l.length c] w fun e w' => e = .returned (.bool (vStops l)) ∧ UpOf w w' := by
 by_cases h6 : l.length ≤ 6
 ·have hf := hd_ (vStops_rises h6)
  have h6' : (l.length : Int) ≤ 6 := by omega
  go_enter Tryz.func93, Tryz.ntmps93
  go_wp2_with (first | (go_at_call 142; refine (l00Rises_any _ _ _ _ (h.below bw_) hn).mono ?_; rintro e w' ⟨rfl, g, rfl⟩))
  go_ret
  exact ⟨ret_bool hf.out.symm, uw_⟩
 ·have hf := hd_ (vStops_len h6)
  have h6' : decide ((l.length : Int) ≤ 6) = false := decide_eq_false (by omega)
  go_enter Tryz.func93, Tryz.ntmps93
  go_wp2_with fail
  go_ret
  exact ⟨ret_bool hf.out.symm, uw_⟩
theorem validBasket_any (b : Bsk) (w : World) : Calls Tryz.prog 65 #[bsv b] w fun e w' => e = .returned (.bool (vBsk b)) ∧ UpOf w w' := by
 have hd : vBsk b = (btw b.bars 2 60 && btw b.rise 1 100 && btw b.fall 1 100 && btw b.clr 1 100 && btw b.near 0 100) := rfl
 cases q1 : btw b.bars 2 60
 ·have hf := hd_ (show vBsk b = false by rw [hd, q1]; rfl)
  clear hd
  go_enter Tryz.func65, Tryz.ntmps65
  go_wp2_with (first | (go_at_call 118; refine (between_any _ _ _ _).mono ?_; rintro e w' ⟨rfl, rfl⟩))
  go_ret
  exact ⟨ret_bool hf.out.symm, uw_⟩
 cases q2 : btw b.rise 1 100
 ·have hf := hd_ (show vBsk b = false by rw [hd, q2, Bool.and_false]; rfl)
  clear hd
  go_enter Tryz.func65, Tryz.ntmps65
  go_wp2_with (first | (go_at_call 118; refine (between_any _ _ _ _).mono ?_; rintro e w' ⟨rfl, rfl⟩))
  go_ret
  exact ⟨ret_bool hf.out.symm, uw_⟩
 cases q3 : btw b.fall 1 100
 ·have hf := hd_ (show vBsk b = false by rw [hd, q3, Bool.and_false]; rfl)
  clear hd
  go_enter Tryz.func65, Tryz.ntmps65
  go_wp2_with (first | (go_at_call 118; refine (between_any _ _ _ _).mono ?_; rintro e w' ⟨rfl, rfl⟩))
  go_ret
  exact ⟨ret_bool hf.out.symm, uw_⟩
 cases q4 : btw b.clr 1 100
 ·have hf := hd_ (show vBsk b = false by rw [hd, q4, Bool.and_false]; rfl)
  clear hd
  go_enter Tryz.func65, Tryz.ntmps65
  go_wp2_with (first | (go_at_call 118; refine (between_any _ _ _ _).mono ?_; rintro e w' ⟨rfl, rfl⟩))
  go_ret
  exact ⟨ret_bool hf.out.symm, uw_⟩
 have hf := hd_ (show vBsk b = btw b.near 0 100 by rw [hd, q1, q2, q3, q4]; rfl)
 clear hd
 go_enter Tryz.func65, Tryz.ntmps65
 go_wp2_with (first | (go_at_call 118; refine (between_any _ _ _ _).mono ?_; rintro e w' ⟨rfl, rfl⟩))
 go_ret
 exact ⟨ret_bool hf.out.symm, uw_⟩
theorem l03Ok_any (b : Bsk) (w : World) : Calls Tryz.prog 92 #[bsv b] w fun e w' => e = .returned (.bool (vBsk b)) ∧ UpOf w w' := by
 have hd : vBsk b = (btw b.bars 2 60 && btw b.rise 1 100 && btw b.fall 1 100 && btw b.clr 1 100 && btw b.near 0 100) := rfl
 cases q1 : btw b.bars 2 60
 ·have hf := hd_ (show vBsk b = false by rw [hd, q1]; rfl)
  clear hd
  go_enter Tryz.func92, Tryz.ntmps92
  go_wp2_with (first | (go_at_call 141; refine (in_any _ _ _ _).mono ?_; rintro e w' ⟨rfl, rfl⟩))
  go_ret
  exact ⟨ret_bool hf.out.symm, uw_⟩
 cases q2 : btw b.rise 1 100
 ·have hf := hd_ (show vBsk b = false by rw [hd, q2, Bool.and_false]; rfl)
  clear hd
  go_enter Tryz.func92, Tryz.ntmps92
  go_wp2_with (first | (go_at_call 141; refine (in_any _ _ _ _).mono ?_; rintro e w' ⟨rfl, rfl⟩))
  go_ret
  exact ⟨ret_bool hf.out.symm, uw_⟩
 cases q3 : btw b.fall 1 100
 ·have hf := hd_ (show vBsk b = false by rw [hd, q3, Bool.and_false]; rfl)
  clear hd
  go_enter Tryz.func92, Tryz.ntmps92
  go_wp2_with (first | (go_at_call 141; refine (in_any _ _ _ _).mono ?_; rintro e w' ⟨rfl, rfl⟩))
  go_ret
  exact ⟨ret_bool hf.out.symm, uw_⟩
 cases q4 : btw b.clr 1 100
 ·have hf := hd_ (show vBsk b = false by rw [hd, q4, Bool.and_false]; rfl)
  clear hd
  go_enter Tryz.func92, Tryz.ntmps92
  go_wp2_with (first | (go_at_call 141; refine (in_any _ _ _ _).mono ?_; rintro e w' ⟨rfl, rfl⟩))
  go_ret
  exact ⟨ret_bool hf.out.symm, uw_⟩
 have hf := hd_ (show vBsk b = btw b.near 0 100 by rw [hd, q1, q2, q3, q4]; rfl)
 clear hd
 go_enter Tryz.func92, Tryz.ntmps92
 go_wp2_with (first | (go_at_call 141; refine (in_any _ _ _ _).mono ?_; rintro e w' ⟨rfl, rfl⟩))
 go_ret
 exact ⟨ret_bool hf.out.symm, uw_⟩
theorem isText_any (s : ByteArray) (lo most : Nat) (w : World) (hlo : lo ≤ 255) (hm : most ≤ 1000000) (hs : s.size ≤ 9223372036854775807) :
  Calls Tryz.prog 134 #[.string s, .int .u8 lo, i64 most] w fun e w' => e = .returned (.bool (txtB lo most s)) ∧ w = w' := by
 by_cases h1 : s.size ≤ most
 ·have h1' : (s.size : Int) ≤ (most : Int) := by omega
  go_enter Tryz.func134, Tryz.ntmps134
  go_wp2_with fail
  go_loop [14] (fun i => ∃ k : Nat, k ≤ s.size ∧ i = i64 k ∧ Hid (∀ j, j < k → txtC lo (byteAt s j) = true)) (fun i => s.size - (intOf i).toNat)
  case atStart => exact ⟨0, by omega, rfl, fun i hi => by omega⟩
  case round =>
   obtain ⟨k, hk, rfl, hok⟩ := hrel
   by_cases hlt : k < s.size
   ·have e := byteAt_eq hlt
    by_cases p1 : (byteAt s k).toNat < lo
    ·have hf := hd_ (txtB_at (lo := lo) (most := most) hlt (decide_eq_false (by omega)))
     have p1' : ((byteAt s k).toNat : Int) < (lo : Int) := by omega
     rw [← e] at p1'
     go_wp2_with fail
     go_ret
     exact ⟨ret_bool hf.out.symm, rfl⟩
    by_cases p2 : 126 < (byteAt s k).toNat
    ·have hf := hd_ (txtB_at (lo := lo) (most := most) hlt (decide_eq_false (by omega)))
     have p1' : (lo : Int) ≤ ((byteAt s k).toNat : Int) := by omega
     have p2' : 126 < ((byteAt s k).toNat : Int) := by omega
     rw [← e] at p1' p2'
     go_wp2_with fail
     go_ret
     exact ⟨ret_bool hf.out.symm, rfl⟩
    have hq := hd_ (show txtC lo (byteAt s k) = true from decide_eq_true (by omega))
    have p1' : (lo : Int) ≤ ((byteAt s k).toNat : Int) := by omega
    have p2' : ((byteAt s k).toNat : Int) ≤ 126 := by omega
    rw [← e] at p1' p2'
    go_wp2_with fail
    go_round
    case rel => have hx := lt_ext (P := fun j => txtC lo (byteAt s j) = true) hok.out hq.out; exact ⟨k + 1, by omega, by go_num, hx⟩
    case measure => (simp [intOf]; try omega)
   ·have hf := hd_ (txtB_true (lo := lo) h1 (fun i hi => hok.out i (by omega)))
    go_wp2_with fail
    go_ret
    exact ⟨ret_bool hf.out.symm, rfl⟩
 ·have hf := hd_ (txtB_len (lo := lo) h1)
  have h1' : (most : Int) < (s.size : Int) := by omega
  go_enter Tryz.func134, Tryz.ntmps134
  go_wp2_with fail
  go_ret
  exact ⟨ret_bool hf.out.symm, rfl⟩
def idxB (s : ByteArray) (c : UInt8) : Int := match (List.range s.size).find? (fun i => decide (byteAt s i = c)) with | some i => i | none => -1
theorem find_first {p : Nat → Bool} {m k : Nat} (hk : k < m) (hp : p k = true) (hn : ∀ j, j < k → p j = false) : (List.range m).find? p = some k := by
 rw [List.find?_eq_some_iff_getElem]
 refine ⟨hp, k, by rw [List.length_range]; exact hk, List.getElem_range _, fun j hj => ?_⟩
 rw [List.getElem_range]
 rw [hn j hj]; rfl
theorem idxB_at {s : ByteArray} {c : UInt8} {k : Nat} (hk : k < s.size) (h : byteAt s k = c) (hn : ∀ j, j < k → byteAt s j ≠ c) : idxB s c = k := by
 rw [idxB, find_first hk (decide_eq_true h) (fun j hj => decide_eq_false (hn j hj))]
theorem idxB_no {s : ByteArray} {c : UInt8} (hn : ∀ j, j < s.size → byteAt s j ≠ c) : idxB s c = -1 := by
 rw [idxB, List.find?_eq_none.2 (fun j hj => by rw [List.mem_range] at hj; simpa using hn j hj)]
theorem idxB_bd (s : ByteArray) (c : UInt8) : -1 ≤ idxB s c ∧ idxB s c < s.size + 1 := by
 unfold idxB
 split
 ·rename_i i hi
  have := List.mem_of_find?_eq_some hi
  rw [List.mem_range] at this
  omega
 ·omega
theorem idxB_new {s : ByteArray} {i : Nat} (hi : i < s.size) (h : newAt s i = true) : idxB s (byteAt s i) = i := by
 simp only [newAt, List.all_eq_true, List.mem_range, decide_eq_true_eq] at h
 exact idxB_at hi rfl h
theorem find_rangeD {p : Nat → Bool} {m : Nat} (h : ∃ n, n < m ∧ p n = true) : ∃ n, (List.range m).find? p = some n ∧ n < m ∧ p n = true ∧ ∀ j, j < n → p j = false := by
 cases hf : (List.range m).find? p with
 | none =>
  obtain ⟨n, hn, hp⟩ := h
  rw [List.find?_eq_none] at hf
  exact absurd hp (hf n (List.mem_range.2 hn))
 | some n =>
  have h1 := List.find?_some hf
  rw [List.find?_eq_some_iff_getElem] at hf
  obtain ⟨_, i, hi, he, hj⟩ := hf
  rw [List.length_range] at hi
  rw [List.getElem_range] at he
  subst he
  exact ⟨i, rfl, hi, h1, fun j hj' => by have := hj j hj'; rw [List.getElem_range] at this; simpa using this⟩
theorem idxB_old {s : ByteArray} {i : Nat} (hi : i < s.size) (h : newAt s i = false) : idxB s (byteAt s i) ≠ i := by
 intro he
 rw [← Bool.not_eq_true] at h
 refine h (newAt_yes fun j hj e => ?_)
 have : ∃ q, q ≤ j ∧ idxB s (byteAt s i) = (q : Nat) := by
  obtain ⟨m, h1, h2, h3, h4⟩ := (show ∃ n, (List.range s.size).find? (fun k => decide (byteAt s k = byteAt s i)) = some n ∧ n < s.size ∧ _ ∧ ∀ l, l < n → (fun k => decide (byteAt s k = byteAt s i)) l = false from find_rangeD ⟨j, by omega, decide_eq_true e⟩)
  refine ⟨m, ?_, by rw [idxB, h1]⟩
  by_cases hm : m ≤ j
  ·exact hm
  ·have h5 := h4 j (by omega)
   have h6 : byteAt s j ≠ byteAt s i := by simpa using h5
   exact absurd e h6
 obtain ⟨q, hq, e2⟩ := this
 omega
theorem l05Index_any (s : ByteArray) (c : UInt8) (x : Int) (hx : (c.toNat : Int) = x) (w : World) (hs : s.size ≤ 9223372036854775807) :
  Calls Tryz.prog 176 #[.string s, .int .u8 x] w fun e w' => e = .returned (i64 (idxB s c)) ∧ w = w' := by
 go_enter Tryz.func176, Tryz.ntmps176
 go_wp2_with fail
 go_loop [5] (fun i => ∃ k : Nat, k ≤ s.size ∧ i = i64 k ∧ Hid (∀ j, j < k → byteAt s j ≠ c)) (fun i => s.size - (intOf i).toNat)
 case atStart => exact ⟨0, by omega, rfl, fun i hi => by omega⟩
 case round =>
  obtain ⟨k, hk, rfl, hok⟩ := hrel
  by_cases hlt : k < s.size
  ·have e := hd_ (byteAt_eq hlt)
   by_cases p1 : (s[k].toNat : Int) = x
   ·have p1' : ((s[k].toNat : Int) == x) = true := by rw [beq_iff_eq]; exact p1
    have hf := hd_ (idxB_at hlt (show byteAt s k = c by rw [← e.out]; exact UInt8.toNat_inj.1 (by omega)) hok.out)
    clear p1
    go_wp2_with fail
    go_ret
    exact ⟨by rw [hf.out] <;> rfl, rfl⟩
   ·have p1' : ((s[k].toNat : Int) == x) = false := by rw [beq_eq_false_iff_ne]; exact p1
    have hq := hd_ (show byteAt s k ≠ c by rw [← e.out]; intro h; exact p1 (by rw [h]; exact hx))
    clear p1
    go_wp2_with fail
    go_round
    case rel => have hy := lt_ext (P := fun j => byteAt s j ≠ c) hok.out hq.out; exact ⟨k + 1, by omega, by go_num, hy⟩
    case measure => (simp [intOf]; try omega)
  ·have hf := hd_ (idxB_no (s := s) (c := c) (fun i hi => hok.out i (by omega)))
   go_wp2_with fail
   go_ret
   exact ⟨by rw [hf.out] <;> rfl, rfl⟩
theorem l17Text_any (s : ByteArray) (most : Nat) (w : World) (hm : most ≤ 1000000) (hs : s.size ≤ 9223372036854775807) :
  Calls Tryz.prog 178 #[.string s, i64 most] w fun e w' => e = .returned (.bool (txtB 33 most s)) ∧ w = w' := by
 go_enter Tryz.func178, Tryz.ntmps178
 go_wp2_with fail
 go_loop [5] (fun i => ∃ k : Nat, k ≤ s.size ∧ i = i64 k ∧ Hid (∀ j, j < k → txtC 33 (byteAt s j) = true)) (fun i => s.size - (intOf i).toNat)
 case atStart => exact ⟨0, by omega, rfl, fun i hi => by omega⟩
 case round =>
  obtain ⟨k, hk, rfl, hok⟩ := hrel
  by_cases hlt : k < s.size
  ·have e := byteAt_eq hlt
   by_cases p1 : (byteAt s k).toNat < 33
   ·have hf := hd_ (txtB_at (lo := 33) (most := most) hlt (decide_eq_false (by omega)))
    have p1' : ((byteAt s k).toNat : Int) < 33 := by omega
    rw [← e] at p1'
    go_wp2_with fail
    go_ret
    exact ⟨ret_bool hf.out.symm, rfl⟩
   by_cases p2 : 126 < (byteAt s k).toNat
   ·have hf := hd_ (txtB_at (lo := 33) (most := most) hlt (decide_eq_false (by omega)))
    have p1' : 33 ≤ ((byteAt s k).toNat : Int) := by omega
    have p2' : 126 < ((byteAt s k).toNat : Int) := by omega
    rw [← e] at p1' p2'
    go_wp2_with fail
    go_ret
    exact ⟨ret_bool hf.out.symm, rfl⟩
   have hq := hd_ (show txtC 33 (byteAt s k) = true from decide_eq_true (by omega))
   have p1' : 33 ≤ ((byteAt s k).toNat : Int) := by omega
   have p2' : ((byteAt s k).toNat : Int) ≤ 126 := by omega
   rw [← e] at p1' p2'
   go_wp2_with fail
   go_round
   case rel => have hx := lt_ext (P := fun j => txtC 33 (byteAt s j) = true) hok.out hq.out; exact ⟨k + 1, by omega, by go_num, hx⟩
   case measure => (simp [intOf]; try omega)
  ·have hall : ∀ i, i < s.size → txtC 33 (byteAt s i) = true := fun i hi => hok.out i (by omega)
   have hf : Hid (txtB 33 most s = decide (s.size ≤ most)) := by
    show _ = _
    by_cases h : s.size ≤ most
    ·rw [txtB_true h hall, decide_eq_true h]
    ·rw [txtB_len h, decide_eq_false h]
   clear hall
   go_wp2_with fail
   go_ret
   exact ⟨ret_bool (by rw [hf.out, decide_eq_decide] <;> omega), rfl⟩
theorem l21One_any (d : Drill) (w : World) (h1 : d.name.size ≤ 9223372036854775807) (h2 : d.letters.size ≤ 9223372036854775807) :
  Calls Tryz.prog 143 #[drv d] w fun e w' => e = .returned (.bool (vDrill d)) ∧ UpOf w w' := by
 go_enter Tryz.func143, Tryz.ntmps143
 go_upto_region 1 with (fail)
 refine wpg (R := fun V => Box V w.heap.size #[.string d.name, .string d.letters, i64 d.minutes] ∧ UpOf w V) ⟨Box.new _ _ _, uw_⟩ (fun V z => ?_)
 obtain ⟨⟨hq, hc⟩, hB⟩ := z
 have c0 := hc 0 _ rfl
 have c1 := hc 1 _ rfl
 have c2 := hc 2 _ rfl
 have HB := hd_ hB
 clear hc hB
 generalize w.heap.size = q at *
 go_wp2_with fail
 go_loopw [3] (fun i wr => ∃ k : Nat, k ≤ d.letters.size ∧ i = i64 k ∧ Hid (∀ j, j < k → newAt d.letters j = true) ∧ ∃ g : Up V, wr = up V g) (fun i _ => d.letters.size - (intOf i).toNat)
 case atStart => exact ⟨0, by omega, rfl, fun i hi => by omega, ex_up bw_⟩
 case round =>
  obtain ⟨k, hk, rfl, hok, g, rfl⟩ := hrel
  by_cases hlt : k < d.letters.size
  ·have e := hd_ (byteAt_eq hlt)
   have hi := idxB_bd d.letters (byteAt d.letters k)
   cases q0 : newAt d.letters k
   ·have hf := hd_ (vDrill_5 (newB_at hlt q0))
    have hne : (idxB d.letters (byteAt d.letters k) != (k : Int)) = true := by rw [bne_iff_ne]; exact idxB_old hlt q0
    clear q0
    have hcl := hd_ (fun (W : World) => l05Index_any d.letters (byteAt d.letters k) (d.letters[k].toNat) (by rw [e.out]) W h2)
    generalize idxB d.letters (byteAt d.letters k) = ix at *
    go_wp2_with (first | ((with_reducible refine wru ?_); (repeat (go_big_quiet_step (first | (go_at_call 176; exact uqs_ (hcl.out _))))); refine wqn fun nq => ?_))
    go_ret
    exact ⟨ret_bool hf.out.symm, HB.out.tr bw_⟩
   ·have hne : (idxB d.letters (byteAt d.letters k) != (k : Int)) = false := by rw [bne_eq_false_iff_eq]; exact idxB_new hlt q0
    have hq0 := hd_ q0
    clear q0
    have hcl := hd_ (fun (W : World) => l05Index_any d.letters (byteAt d.letters k) (d.letters[k].toNat) (by rw [e.out]) W h2)
    generalize idxB d.letters (byteAt d.letters k) = ix at *
    go_wp2_with (first | ((with_reducible refine wru ?_); (repeat (go_big_quiet_step (first | (go_at_call 176; exact uqs_ (hcl.out _))))); refine wqn fun nq => ?_))
    go_roundw
    case rel => have hx := lt_ext (P := fun j => newAt d.letters j = true) hok.out hq0.out; exact ⟨k + 1, by omega, by go_num, hx, ex_up bw_⟩
    case measure => (simp [intOf]; try omega)
  ·have hnew := hd_ (newB_true (s := d.letters) (fun i hi => hok.out i (by omega)))
   cases q1 : nameB d.name
   ·have hf := hd_ (vDrill_1 q1)
    go_wp2_with (first | (go_at_call 177; refine (ret_as (isNameS_any d.name _ h1) q1).mono ?_; rintro e w' ⟨rfl, rfl⟩) | (go_at_call 178; refine (ret_as (l17Text_any d.letters 8 _ (by omega) h2) (by assumption)).mono ?_; rintro e w' ⟨rfl, rfl⟩) | (go_at_call 141; refine (ret_as (in_any _ _ _ _) (by assumption)).mono ?_; rintro e w' ⟨rfl, rfl⟩) | ((with_reducible refine wru ?_); (repeat (go_big_quiet_step (fail))); refine wqn fun nq => ?_))
    go_ret
    exact ⟨ret_bool hf.out.symm, HB.out.tr bw_⟩
   by_cases q2 : 0 < d.letters.size
   rotate_left
   ·have hf := hd_ (vDrill_2 q2)
    have hz := isEmpty_yes (s := d.letters) (by omega)
    cases q3 : txtB 33 8 d.letters
    ·go_wp2_with (first | (go_at_call 177; refine (ret_as (isNameS_any d.name _ h1) q1).mono ?_; rintro e w' ⟨rfl, rfl⟩) | (go_at_call 178; refine (ret_as (l17Text_any d.letters 8 _ (by omega) h2) (by assumption)).mono ?_; rintro e w' ⟨rfl, rfl⟩) | (go_at_call 141; refine (ret_as (in_any _ _ _ _) (by assumption)).mono ?_; rintro e w' ⟨rfl, rfl⟩) | ((with_reducible refine wru ?_); (repeat (go_big_quiet_step (fail))); refine wqn fun nq => ?_))
     go_ret
     exact ⟨ret_bool hf.out.symm, HB.out.tr bw_⟩
    ·go_wp2_with (first | (go_at_call 177; refine (ret_as (isNameS_any d.name _ h1) q1).mono ?_; rintro e w' ⟨rfl, rfl⟩) | (go_at_call 178; refine (ret_as (l17Text_any d.letters 8 _ (by omega) h2) (by assumption)).mono ?_; rintro e w' ⟨rfl, rfl⟩) | (go_at_call 141; refine (ret_as (in_any _ _ _ _) (by assumption)).mono ?_; rintro e w' ⟨rfl, rfl⟩) | ((with_reducible refine wru ?_); (repeat (go_big_quiet_step (fail))); refine wqn fun nq => ?_))
     go_ret
     exact ⟨ret_bool hf.out.symm, HB.out.tr bw_⟩
   have hz := isEmpty_no q2
   cases q3 : txtB 33 8 d.letters
   ·have hf := hd_ (vDrill_3 q3)
    go_wp2_with (first | (go_at_call 177; refine (ret_as (isNameS_any d.name _ h1) q1).mono ?_; rintro e w' ⟨rfl, rfl⟩) | (go_at_call 178; refine (ret_as (l17Text_any d.letters 8 _ (by omega) h2) (by assumption)).mono ?_; rintro e w' ⟨rfl, rfl⟩) | (go_at_call 141; refine (ret_as (in_any _ _ _ _) (by assumption)).mono ?_; rintro e w' ⟨rfl, rfl⟩) | ((with_reducible refine wru ?_); (repeat (go_big_quiet_step (fail))); refine wqn fun nq => ?_))
    go_ret
    exact ⟨ret_bool hf.out.symm, HB.out.tr bw_⟩
   cases q4 : btw d.minutes 1 600
   ·have hf := hd_ (vDrill_4 q4)
    go_wp2_with (first | (go_at_call 177; refine (ret_as (isNameS_any d.name _ h1) q1).mono ?_; rintro e w' ⟨rfl, rfl⟩) | (go_at_call 178; refine (ret_as (l17Text_any d.letters 8 _ (by omega) h2) (by assumption)).mono ?_; rintro e w' ⟨rfl, rfl⟩) | (go_at_call 141; refine (ret_as (in_any _ _ _ _) (by assumption)).mono ?_; rintro e w' ⟨rfl, rfl⟩) | ((with_reducible refine wru ?_); (repeat (go_big_quiet_step (fail))); refine wqn fun nq => ?_))
    go_ret
    exact ⟨ret_bool hf.out.symm, HB.out.tr bw_⟩
   have hf := hd_ (vDrill_0 q1 q2 q3 q4 hnew.out)
   go_wp2_with (first | (go_at_call 177; refine (ret_as (isNameS_any d.name _ h1) q1).mono ?_; rintro e w' ⟨rfl, rfl⟩) | (go_at_call 178; refine (ret_as (l17Text_any d.letters 8 _ (by omega) h2) (by assumption)).mono ?_; rintro e w' ⟨rfl, rfl⟩) | (go_at_call 141; refine (ret_as (in_any _ _ _ _) (by assumption)).mono ?_; rintro e w' ⟨rfl, rfl⟩) | ((with_reducible refine wru ?_); (repeat (go_big_quiet_step (fail))); refine wqn fun nq => ?_))
   go_ret
   exact ⟨ret_bool hf.out.symm, HB.out.tr bw_⟩
def SeenAt (V : World) (q : Nat) (S : Nat → Bool) : Prop := q < V.heap.size ∧ ∀ c, c < 256 → V.cell? ⟨q, c, none⟩ = some (.bool (S c)) ∧ V.frozen? ⟨q, c, none⟩ = false
theorem zero256 : Tryz.zeroCells179 = Array.replicate 256 (.bool false) := by kernel_rfl
theorem seen_new (V : World) : SeenAt (V.alloc (.cells Tryz.zeroCells179 179)) V.heap.size (fun _ => false) :=
 ⟨by simp, fun c hc => ⟨by rw [World.cell?_alloc_new, zero256]; simp [hc], World.frozen?_alloc_new _ _ _ _⟩⟩
theorem SeenAt.put {V : World} {q : Nat} {S : Nat → Bool} (h : SeenAt V q S) (c : Nat) : SeenAt (V.setCell ⟨q, c, none⟩ (.bool true)) q (fun j => decide (j = c) || S j) := by
 refine ⟨by rw [World.size_setCell]; exact h.1, fun j hj => ⟨?_, by rw [World.frozen?_setCell]; exact (h.2 j hj).2⟩⟩
 by_cases e : j = c
 ·subst e
  rw [World.cell?_setCell_same (h := (h.2 j hj).1)]; simp
 ·rw [World.cell?_setCell_other (h := fun h2 => e (by injection h2 with _ h2; exact h2.symm)), (h.2 j hj).1]; show some (Value.bool (S j)) = some (Value.bool (decide (j = c) || S j)); rw [decide_eq_false e]; rfl
def seenF (s : ByteArray) (k c : Nat) : Bool := (List.range k).any fun j => decide ((byteAt s j).toNat = c)
theorem seenF_new (s : ByteArray) (k : Nat) : seenF s k (byteAt s k).toNat = !newAt s k := by
 rw [Bool.eq_iff_iff, Bool.not_eq_true', ← Bool.not_eq_true]
 simp only [seenF, newAt, List.any_eq_true, List.all_eq_true, List.mem_range, decide_eq_true_eq]
 constructor
 ·rintro ⟨j, hj, e⟩ h
  exact h j hj (UInt8.toNat_inj.1 e)
 ·intro h
  refine Classical.byContradiction fun hn => h fun j hj e => hn ⟨j, hj, by rw [e]⟩
theorem seenF_step (s : ByteArray) (k : Nat) : (fun j => decide (j = (byteAt s k).toNat) || seenF s k j) = seenF s (k + 1) := by
 funext j
 simp only [seenF, List.range_succ, List.any_append, List.any_cons, List.any_nil, Bool.or_false]
 rw [Bool.or_comm]
 congr 1
 rw [decide_eq_decide]
 exact eq_comm
theorem validDrill_any (d : Drill) (w : World) (h1 : d.name.size ≤ 9223372036854775807) (h2 : d.letters.size ≤ 9223372036854775807) :
  Calls Tryz.prog 119 #[drv d] w fun e w' => e = .returned (.bool (vDrill d)) ∧ UpOf w w' := by
 go_enter Tryz.func119, Tryz.ntmps119
 go_upto_region 1 with (fail)
 refine wpg (R := fun V => Box V w.heap.size #[.string d.name, .string d.letters, i64 d.minutes] ∧ UpOf w V) ⟨Box.new _ _ _, uw_⟩ (fun V z => ?_)
 obtain ⟨⟨hq, hc⟩, hB⟩ := z
 have c0 := hc 0 _ rfl
 have c1 := hc 1 _ rfl
 have c2 := hc 2 _ rfl
 have HB := hd_ hB
 clear hc hB
 generalize w.heap.size = q at *
 cases q1 : nameB d.name
 ·have hf := hd_ (vDrill_1 q1)
  go_wp2_with (first | (go_at_call 139; refine (ret_as (isNameI_any d.name _ h1) q1).mono ?_; rintro e w' ⟨rfl, rfl⟩) | (go_at_call 134; refine (ret_as (isText_any d.letters 33 8 _ (by omega) (by omega) h2) (by assumption)).mono ?_; rintro e w' ⟨rfl, rfl⟩) | (go_at_call 118; refine (ret_as (between_any _ _ _ _) (by assumption)).mono ?_; rintro e w' ⟨rfl, rfl⟩))
  go_ret
  exact ⟨ret_bool hf.out.symm, HB.out.tr bw_⟩
 by_cases q2 : 0 < d.letters.size
 rotate_left
 ·have hf := hd_ (vDrill_2 q2)
  have hz := isEmpty_yes (s := d.letters) (by omega)
  cases q3 : txtB 33 8 d.letters
  ·go_wp2_with (first | (go_at_call 139; refine (ret_as (isNameI_any d.name _ h1) q1).mono ?_; rintro e w' ⟨rfl, rfl⟩) | (go_at_call 134; refine (ret_as (isText_any d.letters 33 8 _ (by omega) (by omega) h2) (by assumption)).mono ?_; rintro e w' ⟨rfl, rfl⟩) | (go_at_call 118; refine (ret_as (between_any _ _ _ _) (by assumption)).mono ?_; rintro e w' ⟨rfl, rfl⟩))
   go_ret
   exact ⟨ret_bool hf.out.symm, HB.out.tr bw_⟩
  ·go_wp2_with (first | (go_at_call 139; refine (ret_as (isNameI_any d.name _ h1) q1).mono ?_; rintro e w' ⟨rfl, rfl⟩) | (go_at_call 134; refine (ret_as (isText_any d.letters 33 8 _ (by omega) (by omega) h2) (by assumption)).mono ?_; rintro e w' ⟨rfl, rfl⟩) | (go_at_call 118; refine (ret_as (between_any _ _ _ _) (by assumption)).mono ?_; rintro e w' ⟨rfl, rfl⟩))
   go_ret
   exact ⟨ret_bool hf.out.symm, HB.out.tr bw_⟩
 have hz := isEmpty_no q2
 cases q3 : txtB 33 8 d.letters
 ·have hf := hd_ (vDrill_3 q3)
  go_wp2_with (first | (go_at_call 139; refine (ret_as (isNameI_any d.name _ h1) q1).mono ?_; rintro e w' ⟨rfl, rfl⟩) | (go_at_call 134; refine (ret_as (isText_any d.letters 33 8 _ (by omega) (by omega) h2) (by assumption)).mono ?_; rintro e w' ⟨rfl, rfl⟩) | (go_at_call 118; refine (ret_as (between_any _ _ _ _) (by assumption)).mono ?_; rintro e w' ⟨rfl, rfl⟩))
  go_ret
  exact ⟨ret_bool hf.out.symm, HB.out.tr bw_⟩
 cases q4 : btw d.minutes 1 600
 ·have hf := hd_ (vDrill_4 q4)
  go_wp2_with (first | (go_at_call 139; refine (ret_as (isNameI_any d.name _ h1) q1).mono ?_; rintro e w' ⟨rfl, rfl⟩) | (go_at_call 134; refine (ret_as (isText_any d.letters 33 8 _ (by omega) (by omega) h2) (by assumption)).mono ?_; rintro e w' ⟨rfl, rfl⟩) | (go_at_call 118; refine (ret_as (between_any _ _ _ _) (by assumption)).mono ?_; rintro e w' ⟨rfl, rfl⟩))
  go_ret
  exact ⟨ret_bool hf.out.symm, HB.out.tr bw_⟩
 go_upto_region 3 with (first | (go_at_call 139; refine (ret_as (isNameI_any d.name _ h1) q1).mono ?_; rintro e w' ⟨rfl, rfl⟩) | (go_at_call 134; refine (ret_as (isText_any d.letters 33 8 _ (by omega) (by omega) h2) (by assumption)).mono ?_; rintro e w' ⟨rfl, rfl⟩) | (go_at_call 118; refine (ret_as (between_any _ _ _ _) (by assumption)).mono ?_; rintro e w' ⟨rfl, rfl⟩))
 have hst := fun W : World => run_storeCells_new (P := Tryz.prog) W 179 Tryz.zeroCells179 Tryz.zeroCells179 (by kernel_rfl) rfl (by kernel_rfl)
 go_upto_region 4 with (fail)
 refine wpg (R := fun U => Hid (SeenAt U V.heap.size (seenF d.letters 0)) ∧ Hid (Below V.heap.size V U)) ⟨hd_ (seen_new V), hd_ bw_⟩ (fun U z => ?_)
 obtain ⟨z1, z2⟩ := z
 have hqU : q < U.heap.size := Nat.lt_of_lt_of_le hq z2.out.size
 have d1 := (z2.out.cell (p := ⟨q, 1, none⟩) hq).trans c1
 obtain ⟨p, hp⟩ : ∃ p, V.heap.size = p := ⟨_, rfl⟩
 have HQ := hd_ (hp ▸ hq)
 have C1 := hd_ c1
 rw [hp]
 rw [hp] at z1 z2
 have HP := hd_ hp
 clear c0 c1 c2 hst hq hp
 go_wp2_with fail
 clear hqU d1
 go_loopw [30] (fun i wr => ∃ k : Nat, k ≤ d.letters.size ∧ i = i64 k ∧ Hid (∀ j, j < k → newAt d.letters j = true) ∧ Hid (SeenAt wr p (seenF d.letters k)) ∧ Hid (Below p V wr)) (fun i _ => d.letters.size - (intOf i).toNat)
 case atStart => exact ⟨0, by omega, rfl, fun i hi => by omega, z1, z2⟩
 case round =>
  obtain ⟨k, hk, rfl, hok, z1, z2⟩ := hrel
  have hqU : q < wr.heap.size := (by have := HQ.out; have := z2.out.size; have := HP.out; omega)
  have d1 := (z2.out.cell (p := ⟨q, 1, none⟩) HQ.out).trans C1.out
  have hpU := z1.out.1
  by_cases hlt : k < d.letters.size
  ·have e := hd_ (byteAt_eq hlt)
   have hb : d.letters[k].toNat < 256 := UInt8.toNat_lt _
   have x1 := (z1.out.2 _ hb).1
   have x2 := (z1.out.2 _ hb).2
   rw [e.out, seenF_new, ← e.out] at x1
   cases q0 : newAt d.letters k
   ·have hf := hd_ (vDrill_5 (newB_at hlt q0))
    rw [q0] at x1
    clear q0
    go_wp2_with fail
    go_ret
    exact ⟨ret_bool hf.out.symm, HB.out.tr (HP.out ▸ z2.out)⟩
   ·have hq0 := hd_ q0
    rw [q0] at x1
    clear q0
    go_wp2_with fail
    go_roundw
    case rel => have hx := lt_ext (P := fun j => newAt d.letters j = true) hok.out hq0.out; exact ⟨k + 1, by omega, by go_num, hx, hd_ (by rw [← seenF_step, ← e.out]; exact z1.out.put _), hd_ (z2.out.setCell (p := ⟨p, _, none⟩) (Nat.le_refl _) _)⟩
    case measure => (simp [intOf]; try omega)
  ·have hnew := hd_ (newB_true (s := d.letters) (fun i hi => hok.out i (by omega)))
   have hf := hd_ (vDrill_0 q1 q2 q3 q4 hnew.out)
   go_wp2_with fail
   go_ret
   exact ⟨ret_bool hf.out.symm, HB.out.tr (HP.out ▸ z2.out)⟩
def DBd (l : List Drill) : Prop := ∀ i, i < l.length → (drl l i).name.size ≤ 100000000 ∧ (drl l i).letters.size ≤ 100000000
def namesD (l : List Drill) (k : Nat) (S : List ByteArray) : Prop := ∀ s, s ∈ S ↔ ∃ j, j < k ∧ (drl l j).name = s
theorem namesD_step {l : List Drill} {k : Nat} {S : List ByteArray} (h : namesD l k S) : namesD l (k + 1) ((drl l k).name :: S) := by
 intro s
 rw [List.mem_cons, h s]
 constructor
 ·rintro (rfl | ⟨j, hj, e⟩)
  ·exact ⟨k, by omega, rfl⟩
  ·exact ⟨j, by omega, e⟩
 ·rintro ⟨j, hj, e⟩
  rcases Nat.lt_succ_iff_lt_or_eq.1 hj with h' | h'
  ·exact .inr ⟨j, h', e⟩
  ·subst h'; exact .inl e.symm
theorem okD_memB {l : List Drill} {k : Nat} {S : List ByteArray} (h : namesD l k S) (hm : memB S (drl l k).name = true) : okD l k = false := by
 obtain ⟨j, hj, e⟩ := (h _).1 (memB_iff.1 hm)
 exact okD_name hj e
theorem okD_fresh {l : List Drill} {k : Nat} {S : List ByteArray} (h : namesD l k S) (hv : vDrill (drl l k) = true) (hm : memB S (drl l k).name = false) : okD l k = true := by
 refine okD_true hv fun j hj e => ?_
 have := memB_iff.2 ((h _).2 ⟨j, hj, e⟩)
 rw [hm] at this
 cases this
theorem zeroBoolD (w : World) : (zeroValue 4).run Tryz.prog w = .ok (.bool false) w := by kernel_rfl
theorem validDrills_any (A : Option Addr) (c : Nat) (l : List Drill) (w : World) (h : Rds w 3 A l.length (drcs l)) (hn : l.length ≤ 100000000) (hf : DBd l) :
  Calls Tryz.prog 67 #[.slice A l.length c] w fun e w' => e = .returned (.bool (vDrills l)) ∧ UpOf w w' := by
 have HF := hd_ hf
 clear hf
 have hmm := @run_makeMap Tryz.prog
 go_enter Tryz.func67, Tryz.ntmps67
 go_wp2_with fail
 go_loopw [9] (fun i wr => ∃ k : Nat, k ≤ l.length ∧ i = i64 k ∧ Hid (∀ j, j < k → okD l j = true) ∧ ∃ S, SetAt wr Tryz.prog 9 4 w.heap.size k S ∧ Hid (namesD l k S) ∧ Below w.heap.size w wr) (fun i _ => l.length - (intOf i).toNat)
 case atStart => exact ⟨0, by omega, rfl, fun i hi => by omega, [], SetAt.made _ _ _ _, fun s => by simp, bw_⟩
 case round =>
  obtain ⟨k, hk, rfl, hok, S, hset, hnm, hbel⟩ := hrel
  by_cases hlt : k < l.length
  ·obtain ⟨b, off, rfl, hb, c0, c1, c2⟩ := drl_at (h.below hbel) hlt
   obtain ⟨f1, f2⟩ := HF.out k hlt
   have hBl := hset.lt
   have HSET := hd_ hset
   have HBEL := hd_ hbel
   cases b1 : vDrill (drl l k)
   ·have hf := hd_ (vDrills_at hlt (okD_no b1))
    clear h hset hbel
    refine as_up fun g0 => ?_
    go_wp2_with (first | (go_at_call 119; refine (ret_as (validDrill_any (drl l k) _ (by omega) (by omega)) b1).mono ?_; rintro e w' ⟨rfl, g, rfl⟩))
    go_ret
    exact ⟨ret_bool hf.out.symm, UpOf.of (HBEL.out.trans (Below.mono bw_ HBEL.out.size))⟩
   ·cases b2 : memB S (drl l k).name
    ·have hq := hd_ (okD_fresh hnm.out b1 b2)
     have hlook : ∀ g : Up wr, (Instr.lookup 146 (.map (some w.heap.size)) (.string (drl l k).name) false).run Tryz.prog (up wr g) = .ok (.bool false) (up wr g) := fun g => ((HSET.out.up g).look Tryz.underlying146 Tryz.underlying9 Tryz.underlying4 (zeroBoolD _) (drl l k).name (by unfold maxLen; omega)).trans (by rw [b2])
     clear h hset hbel
     refine as_up fun g0 => ?_
     go_wp2_with (first | (go_at_call 119; refine (ret_as (validDrill_any (drl l k) _ (by omega) (by omega)) b1).mono ?_; rintro e w' ⟨rfl, g, rfl⟩) | (at_mapUpdate; refine wpl_setPut _ rfl _ _ _ 146 rfl 9 4 Tryz.underlying146 Tryz.underlying9 Tryz.underlying4 w.heap.size k S rfl (HSET.out.below bw_) (by unfold maxLen; omega) (drl l k).name (by unfold maxLen; omega) rfl rfl ?_; intro w1 hset1 hgr1))
     go_roundw
     case rel =>
      have hx := lt_ext (P := fun j => okD l j = true) hok.out hq.out
      exact ⟨k + 1, by omega, by go_num, hx, _, hset1, namesD_step hnm.out, (HBEL.out.trans (Below.mono bw_ HBEL.out.size)).grown hgr1 (Nat.le_trans HBEL.out.size (up_below _ _).size) (fun j hj => by injection hj with hj; omega)⟩
     case measure => (simp [intOf]; try omega)
    ·have hf := hd_ (vDrills_at hlt (okD_memB hnm.out b2))
     have hlook : ∀ g : Up wr, (Instr.lookup 146 (.map (some w.heap.size)) (.string (drl l k).name) false).run Tryz.prog (up wr g) = .ok (.bool true) (up wr g) := fun g => ((HSET.out.up g).look Tryz.underlying146 Tryz.underlying9 Tryz.underlying4 (zeroBoolD _) (drl l k).name (by unfold maxLen; omega)).trans (by rw [b2])
     clear h hset hbel
     refine as_up fun g0 => ?_
     go_wp2_with (first | (go_at_call 119; refine (ret_as (validDrill_any (drl l k) _ (by omega) (by omega)) b1).mono ?_; rintro e w' ⟨rfl, g, rfl⟩))
     go_ret
     exact ⟨ret_bool hf.out.symm, UpOf.of (HBEL.out.trans (Below.mono bw_ HBEL.out.size))⟩
  ·obtain rfl : k = l.length := by omega
   by_cases q : l.length ≤ 10
   ·have hf := hd_ (vDrills_true q hok.out)
    go_wp2_with fail
    go_ret
    exact ⟨ret_bool (by rw [hf.out]; exact decide_eq_true (by omega)), UpOf.of hbel⟩
   ·have hf := hd_ (vDrills_len (l := l) (by omega))
    have q' : decide (l.length ≤ 10) = false := decide_eq_false q
    go_wp2_with fail
    go_ret
    exact ⟨ret_bool (by rw [hf.out]; exact decide_eq_false (by omega)), UpOf.of hbel⟩
theorem text_eqD {s t : ByteArray} (h : (s.toList == t.toList) = true) : s = t := by
 rw [beq_iff_eq, ByteArray.toList_eq, ByteArray.toList_eq] at h
 exact ba_ext h
theorem text_neD {s t : ByteArray} (h : (s.toList == t.toList) = false) : s ≠ t := by
 intro e
 subst e
 simp at h
def idxD (l : List Drill) (n : Nat) (s : ByteArray) : Int := match (List.range n).find? (fun i => decide ((drl l i).name = s)) with | some i => i | none => -1
theorem idxD_at {l : List Drill} {n k : Nat} {s : ByteArray} (hk : k < n) (h : (drl l k).name = s) (hn : ∀ j, j < k → (drl l j).name ≠ s) : idxD l n s = k := by
 rw [idxD, find_first hk (decide_eq_true h) (fun j hj => decide_eq_false (hn j hj))]
theorem idxD_no {l : List Drill} {n : Nat} {s : ByteArray} (hn : ∀ j, j < n → (drl l j).name ≠ s) : idxD l n s = -1 := by
 rw [idxD, List.find?_eq_none.2 (fun j hj => by rw [List.mem_range] at hj; simpa using hn j hj)]
theorem idxD_some (l : List Drill) (n : Nat) (s : ByteArray) : idxD l n s = -1 ∧ (∀ j, j < n → (drl l j).name ≠ s) ∨ ∃ k, k < n ∧ idxD l n s = (k : Nat) ∧ (drl l k).name = s ∧ ∀ j, j < k → (drl l j).name ≠ s := by
 by_cases h : ∃ j, j < n ∧ decide ((drl l j).name = s) = true
 ·obtain ⟨m, h1, h2, h3, h4⟩ := find_rangeD (p := fun j => decide ((drl l j).name = s)) h
  exact .inr ⟨m, h2, by rw [idxD, h1], of_decide_eq_true h3, fun j hj => of_decide_eq_false (h4 j hj)⟩
 ·have : ∀ j, j < n → (drl l j).name ≠ s := fun j hj e => h ⟨j, hj, decide_eq_true e⟩
  exact .inl ⟨idxD_no this, this⟩
theorem l21Find_any (A : Option Addr) (n c : Nat) (l : List Drill) (s : ByteArray) (w : World) (h : Rds w 3 A l.length (drcs l)) (hn : n ≤ l.length) (hl : l.length ≤ 100000000) :
  Calls Tryz.prog 144 #[.slice A n c, .string s] w fun e w' => e = .returned (i64 (idxD l n s)) ∧ w = w' := by
 go_enter Tryz.func144, Tryz.ntmps144
 go_wp2_with fail
 go_loop [5] (fun i => ∃ k : Nat, k ≤ n ∧ i = i64 k ∧ Hid (∀ j, j < k → (drl l j).name ≠ s)) (fun i => n - (intOf i).toNat)
 case atStart => exact ⟨0, by omega, rfl, fun i hi => by omega⟩
 case round =>
  obtain ⟨k, hk, rfl, hok⟩ := hrel
  by_cases hlt : k < n
  ·obtain ⟨b, off, rfl, hb, c0, c1, c2⟩ := drl_at h (show k < l.length by omega)
   cases p1 : ((drl l k).name.toList == s.toList)
   ·have hq := hd_ (text_neD p1)
    go_wp2_with fail
    go_round
    case rel => have hy := lt_ext (P := fun j => (drl l j).name ≠ s) hok.out hq.out; exact ⟨k + 1, by omega, by go_num, hy⟩
    case measure => (simp [intOf]; try omega)
   ·have hf := hd_ (idxD_at hlt (text_eqD p1) hok.out)
    go_wp2_with fail
    go_ret
    exact ⟨by rw [hf.out] <;> rfl, rfl⟩
  ·have hf := hd_ (idxD_no (l := l) (n := n) (s := s) (fun i hi => hok.out i (by omega)))
   go_wp2_with fail
   go_ret
   exact ⟨by rw [hf.out] <;> rfl, rfl⟩
theorem l21Ok_any (A : Option Addr) (c : Nat) (l : List Drill) (w : World) (h : Rds w 3 A l.length (drcs l)) (hc : l.length ≤ c) (hn : l.length ≤ 100000000) (hf : DBd l) :
  Calls Tryz.prog 94 #[.slice A l.length c] w fun e w' => e = .returned (.bool (vDrills l)) ∧ UpOf w w' := by
 have HF := hd_ hf
 clear hf
 go_enter Tryz.func94, Tryz.ntmps94
 go_wp2_with (first | ((with_reducible refine wru ?_); (repeat (go_big_quiet_step (fail))); refine wqn fun nq => ?_))
 go_loopw [3] (fun i wr => ∃ k : Nat, k ≤ l.length ∧ i = i64 k ∧ Hid (∀ j, j < k → okD l j = true) ∧ ∃ g : Up w, wr = up w g) (fun i _ => l.length - (intOf i).toNat)
 case atStart => exact ⟨0, by omega, rfl, fun i hi => by omega, ex_up bw_⟩
 case round =>
  obtain ⟨k, hk, rfl, hok, g, rfl⟩ := hrel
  by_cases hlt : k < l.length
  ·have HR := hd_ h
   obtain ⟨b, off, rfl, hb, c0, c1, c2⟩ := drl_at h hlt
   obtain ⟨f1, f2⟩ := HF.out k hlt
   clear h
   cases b1 : vDrill (drl l k)
   ·have hf := hd_ (vDrills_at hlt (okD_no b1))
    go_wp2_with (first | ((with_reducible refine wru ?_); (repeat (go_big_quiet_step (first | (go_at_call 143; exact uq_ (ret_as (l21One_any (drl l k) _ (by omega) (by omega)) b1))))); refine wqn fun nq => ?_))
    go_ret
    exact ⟨ret_bool hf.out.symm, uw_⟩
   ·have B1 := hd_ b1
    rcases idxD_some l k (drl l k).name with ⟨e1, e2⟩ | ⟨m, m1, e1, e2, _⟩
    ·have hq := hd_ (okD_true b1 e2)
     have hcl := hd_ (fun (W : World) (hW : Below w.heap.size w W) => show Calls Tryz.prog 144 #[.slice (some ⟨b, off, none⟩) k c, .string (drl l k).name] W fun e w' => e = .returned (i64 (-1)) ∧ W = w' from by have := l21Find_any (some ⟨b, off, none⟩) k c l (drl l k).name W (HR.out.below hW) (by omega) hn; rwa [e1] at this)
     clear e1 e2 b1
     go_wp2_with (first | ((with_reducible refine wru ?_); (repeat (go_big_quiet_step (first | (go_at_call 143; exact uq_ (ret_as (l21One_any (drl l k) _ (by omega) (by omega)) B1.out)) | (go_at_call 144; exact uqs_ (hcl.out _ bw_))))); refine wqn fun nq => ?_))
     go_roundw
     case rel => have hx := lt_ext (P := fun j => okD l j = true) hok.out hq.out; exact ⟨k + 1, by omega, by go_num, hx, ex_up bw_⟩
     case measure => (simp [intOf]; try omega)
    ·have hf := hd_ (vDrills_at hlt (okD_name m1 e2))
     have hcl := hd_ (fun (W : World) (hW : Below w.heap.size w W) => show Calls Tryz.prog 144 #[.slice (some ⟨b, off, none⟩) k c, .string (drl l k).name] W fun e w' => e = .returned (i64 m) ∧ W = w' from by have := l21Find_any (some ⟨b, off, none⟩) k c l (drl l k).name W (HR.out.below hW) (by omega) hn; rwa [e1] at this)
     clear e1 e2 b1
     go_wp2_with (first | ((with_reducible refine wru ?_); (repeat (go_big_quiet_step (first | (go_at_call 143; exact uq_ (ret_as (l21One_any (drl l k) _ (by omega) (by omega)) B1.out)) | (go_at_call 144; exact uqs_ (hcl.out _ bw_))))); refine wqn fun nq => ?_))
     go_ret
     exact ⟨ret_bool hf.out.symm, uw_⟩
  ·obtain rfl : k = l.length := by omega
   by_cases q : l.length ≤ 10
   ·have hf := hd_ (vDrills_true q hok.out)
    go_wp2_with (first | ((with_reducible refine wru ?_); (repeat (go_big_quiet_step (fail))); refine wqn fun nq => ?_))
    go_ret
    exact ⟨ret_bool (by rw [hf.out]; exact decide_eq_true (by omega)), uw_⟩
   ·have hf := hd_ (vDrills_len (l := l) (by omega))
    have q' : decide (l.length ≤ 10) = false := decide_eq_false q
    go_wp2_with (first | ((with_reducible refine wru ?_); (repeat (go_big_quiet_step (fail))); refine wqn fun nq => ?_))
    go_ret
    exact ⟨ret_bool (by rw [hf.out]; exact decide_eq_false (by omega)), uw_⟩
theorem el_int : ElemOf Tryz.prog 28 2 (i64 0) 1 8 := elem_of Tryz.underlying28 (by kernel_rfl) rfl (by omega)
theorem ics_app (l : List Int) (x : Int) : ics (l ++ [x]) = ics l ++ [i64 x] := by simp [ics]
theorem ents_take {l : List Entry} {k : Nat} (h : k < l.length) : l.take (k + 1) = l.take k ++ [l[k]] := by
 rw [List.take_add_one, List.getElem?_eq_getElem h]; rfl
def enR (s : ByteArray) : List Entry × Int := if codeL s = 0 then (entsL s, 0) else ([], codeL s)
theorem enR_no {s : ByteArray} (h : ¬ codeL s = 0) : enR s = ([], codeL s) := by rw [enR, if_neg h]
theorem enR_ok {s : ByteArray} (h : codeL s = 0) : enR s = (entsL s, 0) := by rw [enR, if_pos h]
theorem LI.list {base rb sz : Nat} {w : World} {l : List Entry} {st : Int} (h : LI base w rb l st sz) : ∃ A c, w.cell? ⟨rb, 0, none⟩ = some (.slice A l.length c) ∧ rb < w.heap.size ∧ w.ownsRow base 127 3 (.slice A l.length c) l.length (encs l) := by
 obtain ⟨A, c, h1, h2, h3, h4⟩ := h
 exact ⟨A, c, h1.cell 0, h1.lt, h3⟩
theorem LS.list {base rb sz : Nat} {w : World} {s : ByteArray} {l : List Entry} {st : Int} (h : LS base w rb s l st sz) : ∃ A c, w.cell? ⟨rb, 3, none⟩ = some (.slice A l.length c) ∧ rb < w.heap.size ∧ w.ownsRow base 127 3 (.slice A l.length c) l.length (encs l) := by
 obtain ⟨A, c, h1, h2, h3, h4⟩ := h
 exact ⟨A, c, h1.cell 3, h1.lt, h3⟩
theorem entriesOfI_any (s : ByteArray) (w : World) (hs : s.size ≤ 1048576) (ht : Tab w) :
  Calls Tryz.prog 68 #[.string s] w fun e w' => ∃ A' c', e = .returned (.tuple #[.slice A' (enR s).1.length c', i64 (enR s).2]) ∧ w'.ownsRow w.heap.size 127 3 (.slice A' (enR s).1.length c') (enR s).1.length (encs (enR s).1) ∧ UpOf w w' := by
 have HT := hd_ ht
 clear ht
 by_cases h1 : codeL s = 0
 ·have hf := hd_ (enR_ok h1)
  go_enter Tryz.func68, Tryz.ntmps68
  go_wp2_with fail
  refine (wholeI_ok s _ (HT.out.below bw_) h1).mono ?_
  rintro e w' ⟨rb, rfl, hl, g, rfl⟩
  obtain ⟨A, c, hc, hrb, hown⟩ := hl.list
  have HO := hd_ hown
  clear hl hown
  go_wp2_with fail
  go_ret2
  rw [hf.out]
  exact ⟨A, c, rfl, own_below HO.out bw_, uw_⟩
 ·have hf := hd_ (enR_no h1)
  have z := code_ne h1
  go_enter Tryz.func68, Tryz.ntmps68
  go_wp2_with (first | (go_at_call 120; refine (wholeI_no s _ hs (HT.out.below bw_) h1).mono ?_; rintro e w' ⟨rfl, g, rfl⟩))
  go_ret2
  rw [hf.out]
  exact ⟨none, 0, rfl, ⟨rfl, .inl ⟨rfl, rfl⟩⟩, uw_⟩
def vals (what : ByteArray) : List Entry → List Int
 | [] => []
 | x :: l => if x.what = what then x.value :: vals what l else vals what l
theorem vals_app (what : ByteArray) : ∀ (a b : List Entry), vals what (a ++ b) = vals what a ++ vals what b
 | [], b => rfl
 | x :: a, b => by
  rw [List.cons_append, vals, vals, vals_app what a b]
  split <;> rfl
theorem vals_yes {what : ByteArray} {l : List Entry} {k : Nat} (h : k < l.length) (q : l[k].what = what) : vals what (l.take (k + 1)) = vals what (l.take k) ++ [l[k].value] := by
 rw [ents_take h, vals_app, vals, if_pos q]; rfl
theorem vals_not {what : ByteArray} {l : List Entry} {k : Nat} (h : k < l.length) (q : ¬ l[k].what = what) : vals what (l.take (k + 1)) = vals what (l.take k) := by
 rw [ents_take h, vals_app, vals, if_neg q]; simp [vals]
theorem vals_len (what : ByteArray) : ∀ l : List Entry, (vals what l).length ≤ l.length
 | [] => Nat.le_refl _
 | x :: l => by
  rw [vals]
  have := vals_len what l
  split <;> simp <;> omega
def vaR (s what : ByteArray) : List Int × Int := if codeL s = 0 then (if nameB what = true then (vals what (entsL s), 0) else ([], 2)) else ([], codeL s)
theorem vaR_1 {s what : ByteArray} (h : ¬ codeL s = 0) : vaR s what = ([], codeL s) := by rw [vaR, if_neg h]
theorem vaR_2 {s what : ByteArray} (h : codeL s = 0) (h2 : nameB what = false) : vaR s what = ([], 2) := by rw [vaR, if_pos h, if_neg (by rw [h2]; simp)]
theorem vaR_0 {s what : ByteArray} (h : codeL s = 0) (h2 : nameB what = true) : vaR s what = (vals what (entsL s), 0) := by rw [vaR, if_pos h, if_pos h2]
def vDesk (d : DeskD) : Bool := (vBsk d.b && (vStops d.stops && vDrills d.drills)) && decide (codeL d.log = 0)
theorem vDesk_1 {d : DeskD} (h : vBsk d.b = false) : vDesk d = false := by simp [vDesk, h]
theorem vDesk_2 {d : DeskD} (h : vStops d.stops = false) : vDesk d = false := by simp [vDesk, h]
theorem vDesk_3 {d : DeskD} (h : vDrills d.drills = false) : vDesk d = false := by simp [vDesk, h]
theorem vDesk_4 {d : DeskD} (h1 : vBsk d.b = true) (h2 : vStops d.stops = true) (h3 : vDrills d.drills = true) : vDesk d = decide (codeL d.log = 0) := by simp [vDesk, h1, h2, h3]
theorem vBsk_bars {b : Bsk} (h : vBsk b = true) : 2 ≤ b.bars ∧ b.bars ≤ 60 := by
 simp only [vBsk, Bool.and_eq_true] at h
 exact btw_true h.1.1.1.1
theorem vDesk_inv {d : DeskD} (h : vDesk d = true) : vBsk d.b = true ∧ vStops d.stops = true ∧ vDrills d.drills = true ∧ codeL d.log = 0 := by
 simp only [vDesk, Bool.and_eq_true, decide_eq_true_eq] at h
 exact ⟨h.1.1, h.1.2.1, h.1.2.2, h.2⟩
structure DkSz (d : DeskD) (e : Nat) : Prop where
 s : d.stops.length ≤ 100000000
 n : d.drills.length ≤ 100000000
 b : DBd d.drills
 l : d.log.size ≤ 1048576
 c : d.drills.length ≤ e
theorem validDeskI_any (d : DeskD) (A B : Option Addr) (c e : Nat) (w : World) (h : DSee w d A B) (hz : DkSz d e) (ht : Tab w) :
  Calls Tryz.prog 26 #[dkv d A B c e] w fun r w' => r = .returned (.bool (vDesk d)) ∧ UpOf w w' := by
 have HT := hd_ ht
 clear ht
 have HZ := hd_ hz
 clear hz
 go_enter Tryz.func26, Tryz.ntmps26
 go_upto_region 1 with (fail)
 refine wpg (R := fun V => Box V w.heap.size (dkcs d A B c e) ∧ UpOf w V) ⟨Box.new _ _ _, uw_⟩ (fun V z => ?_)
 obtain ⟨hb, hB⟩ := z
 obtain ⟨hq, x0, x1, x2, x3, x4, x5, x6, x7⟩ := hb.eight
 have HS := hd_ (h.below hB.below)
 have HTV := hd_ (HT.out.below hB.below)
 have HB := hd_ hB
 clear hb hB h
 generalize w.heap.size = q at *
 cases q1 : vBsk d.b
 ·have hf := hd_ (vDesk_1 q1)
  go_wp2_with (first | (go_at_call 65; refine (ret_as (validBasket_any d.b _) q1).mono ?_; rintro e w' ⟨rfl, g, rfl⟩))
  go_ret
  exact ⟨ret_bool hf.out.symm, HB.out.tr bw_⟩
 cases q2 : vStops d.stops
 ·have hf := hd_ (vDesk_2 q2)
  go_wp2_with (first | (go_at_call 65; refine (ret_as (validBasket_any d.b _) q1).mono ?_; rintro e w' ⟨rfl, g, rfl⟩) | (go_at_call 66; refine (ret_as (validStops_any _ _ _ _ (HS.out.1.below bw_) HZ.out.s) q2).mono ?_; rintro e w' ⟨rfl, g, rfl⟩))
  go_ret
  exact ⟨ret_bool hf.out.symm, HB.out.tr bw_⟩
 cases q3 : vDrills d.drills
 ·have hf := hd_ (vDesk_3 q3)
  go_wp2_with (first | (go_at_call 65; refine (ret_as (validBasket_any d.b _) q1).mono ?_; rintro e w' ⟨rfl, g, rfl⟩) | (go_at_call 66; refine (ret_as (validStops_any _ _ _ _ (HS.out.1.below bw_) HZ.out.s) q2).mono ?_; rintro e w' ⟨rfl, g, rfl⟩) | (go_at_call 67; refine (ret_as (validDrills_any _ _ _ _ (HS.out.2.below bw_) HZ.out.n HZ.out.b) q3).mono ?_; rintro e w' ⟨rfl, g, rfl⟩))
  go_ret
  exact ⟨ret_bool hf.out.symm, HB.out.tr bw_⟩
 ·have hf := hd_ (vDesk_4 q1 q2 q3)
  go_wp2_with (first | (go_at_call 65; refine (ret_as (validBasket_any d.b _) q1).mono ?_; rintro e w' ⟨rfl, g, rfl⟩) | (go_at_call 66; refine (ret_as (validStops_any _ _ _ _ (HS.out.1.below bw_) HZ.out.s) q2).mono ?_; rintro e w' ⟨rfl, g, rfl⟩) | (go_at_call 67; refine (ret_as (validDrills_any _ _ _ _ (HS.out.2.below bw_) HZ.out.n HZ.out.b) q3).mono ?_; rintro e w' ⟨rfl, g, rfl⟩))
  refine (entriesOfI_any d.log _ HZ.out.l (HTV.out.below bw_)).mono ?_
  rintro r w' ⟨A', c', rfl, _, g9, rfl⟩
  have he : Hid ((enR d.log).2 = codeL d.log) := by
   show _ = _
   unfold enR
   split
   ·rename_i h9; rw [h9]
   ·rfl
  rw [he.out]
  go_wp2_with fail
  go_ret
  exact ⟨ret_bool (by rw [hf.out]; rfl), HB.out.tr bw_⟩
def dkTextV (d : DeskD) : ByteArray := ((((dec d.b.bars ++ ⟨#[32, 98, 97, 114, 115, 44, 32]⟩) ++ dec d.stops.length) ++ ⟨#[32, 115, 116, 111, 112, 115, 44, 32]⟩) ++ dec d.drills.length) ++ ⟨#[32, 100, 114, 105, 108, 108, 115]⟩
def dkText (d : DeskD) : ByteArray := if vDesk d then dkTextV d else ⟨#[]⟩
theorem dkText_no {d : DeskD} (h : vDesk d = false) : dkText d = ⟨#[]⟩ := by rw [dkText, h]; rfl
theorem dkText_ok {d : DeskD} (h : vDesk d = true) : dkText d = dkTextV d := by rw [dkText, h]; rfl
theorem l28Text_any (d : DeskD) (A B : Option Addr) (c e q : Nat) (V : World) (hb : Box V q (dkcs d A B c e)) (h1 : 2 ≤ d.b.bars ∧ d.b.bars ≤ 60) (h2 : d.stops.length ≤ 100000000) (h3 : d.drills.length ≤ 100000000) :
  Calls Tryz.prog 148 #[.pointer (some ⟨q, 0, none⟩)] V fun r w' => r = .returned (.string (dkTextV d)) ∧ UpOf V w' := by
 obtain ⟨hq, x0, x1, x2, x3, x4, x5, x6, x7⟩ := hb.eight
 clear hb x1 x2 x3 x4 x7
 have hz1 := dec_len (n := d.b.bars) (by omega) (by omega)
 have hz2 := dec_len (n := (d.stops.length : Int)) (by omega) (by omega)
 have hz3 := dec_len (n := (d.drills.length : Int)) (by omega) (by omega)
 have z1 : (⟨#[32, 98, 97, 114, 115, 44, 32]⟩ : ByteArray).size = 7 := rfl
 have z2 : (⟨#[32, 115, 116, 111, 112, 115, 44, 32]⟩ : ByteArray).size = 8 := rfl
 have z3 : (⟨#[32, 100, 114, 105, 108, 108, 115]⟩ : ByteArray).size = 7 := rfl
 have e1 : ∀ w, (Op.stringOp .add (dec d.b.bars) ⟨#[32, 98, 97, 114, 115, 44, 32]⟩).run Tryz.prog w = .ok (.string (dec d.b.bars ++ ⟨#[32, 98, 97, 114, 115, 44, 32]⟩)) w := fun w => run_string_add_sum w _ _ (by omega)
 have e2 : ∀ w, (Op.stringOp .add (dec d.b.bars ++ ⟨#[32, 98, 97, 114, 115, 44, 32]⟩) (dec d.stops.length)).run Tryz.prog w = .ok (.string (dec d.b.bars ++ ⟨#[32, 98, 97, 114, 115, 44, 32]⟩ ++ dec d.stops.length)) w := fun w => run_string_add_sum w _ _ (by simp only [ByteArray.size_append]; omega)
 have e3 : ∀ w, (Op.stringOp .add (dec d.b.bars ++ ⟨#[32, 98, 97, 114, 115, 44, 32]⟩ ++ dec d.stops.length) ⟨#[32, 115, 116, 111, 112, 115, 44, 32]⟩).run Tryz.prog w = .ok (.string (dec d.b.bars ++ ⟨#[32, 98, 97, 114, 115, 44, 32]⟩ ++ dec d.stops.length ++ ⟨#[32, 115, 116, 111, 112, 115, 44, 32]⟩)) w := fun w => run_string_add_sum w _ _ (by simp only [ByteArray.size_append]; omega)
 have e4 : ∀ w, (Op.stringOp .add (dec d.b.bars ++ ⟨#[32, 98, 97, 114, 115, 44, 32]⟩ ++ dec d.stops.length ++ ⟨#[32, 115, 116, 111, 112, 115, 44, 32]⟩) (dec d.drills.length)).run Tryz.prog w = .ok (.string (dec d.b.bars ++ ⟨#[32, 98, 97, 114, 115, 44, 32]⟩ ++ dec d.stops.length ++ ⟨#[32, 115, 116, 111, 112, 115, 44, 32]⟩ ++ dec d.drills.length)) w := fun w => run_string_add_sum w _ _ (by simp only [ByteArray.size_append]; omega)
 have e5 : ∀ w, (Op.stringOp .add (dec d.b.bars ++ ⟨#[32, 98, 97, 114, 115, 44, 32]⟩ ++ dec d.stops.length ++ ⟨#[32, 115, 116, 111, 112, 115, 44, 32]⟩ ++ dec d.drills.length) ⟨#[32, 100, 114, 105, 108, 108, 115]⟩).run Tryz.prog w = .ok (.string (dkTextV d)) w := fun w => run_string_add_sum w _ _ (by simp only [ByteArray.size_append]; omega)
 clear hz1 hz2 hz3 z1 z2 z3
 go_enter Tryz.func148, Tryz.ntmps148
 go_wp2_with fail
 go_region_held3 (fun w' => (V).heap.size ≤ w'.heap.size ∧ ∀ b o, b < (V).heap.size → w'.cell? ⟨b, o, none⟩ = (V).cell? ⟨b, o, none⟩) (exact sm_of bw_) (first | (go_at_call 157; refine (l01Dec_any _ _ (by omega) (by omega)).mono ?_; rintro e w' ⟨rfl, g5, rfl⟩))
 go_wp2_with (first | ((with_reducible refine wru ?_); (repeat (go_big_quiet_step (fail))); refine wqn fun nq => ?_))
 go_ret
 exact ⟨rfl, uw_⟩
theorem deskTextI_any (d : DeskD) (A B : Option Addr) (c e : Nat) (w : World) (h : DSee w d A B) (hz : DkSz d e) (ht : Tab w) :
  Calls Tryz.prog 11 #[dkv d A B c e] w fun r w' => r = .returned (.string (dkText d)) ∧ UpOf w w' := by
 have HT := hd_ ht
 clear ht
 have HZ := hd_ hz
 clear hz
 cases hv : vDesk d
 all_goals
  have HV := hd_ hv
  have hcl := fun (V : World) (h : DSee V d A B) (ht : Tab V) => ret_as (validDeskI_any d A B c e V h HZ.out ht) hv
  have HCL := hd_ hcl
  clear hcl hv
  go_enter Tryz.func11, Tryz.ntmps11
  go_upto_region 1 with (fail)
  refine wpg (R := fun V => Box V w.heap.size (dkcs d A B c e) ∧ UpOf w V) ⟨Box.new _ _ _, uw_⟩ (fun V z => ?_)
  obtain ⟨hb, hB⟩ := z
  obtain ⟨hq, x0, x1, x2, x3, x4, x5, x6, x7⟩ := hb.eight
  have HS := hd_ (h.below hB.below)
  have HTV := hd_ (HT.out.below hB.below)
  have HB := hd_ hB
  clear hb hB h
  generalize w.heap.size = q at *
 ·go_wp2_with (first | (go_at_call 26; refine (HCL.out _ (HS.out.below bw_) (HTV.out.below bw_)).mono ?_; rintro e w' ⟨rfl, g, rfl⟩) | ((with_reducible refine wru ?_); (repeat (go_big_quiet_step (fail))); refine wqn fun nq => ?_))
  go_ret
  exact ⟨by rw [dkText_no HV.out] <;> rfl, HB.out.tr bw_⟩
 ·have hb := vBsk_bars (vDesk_inv HV.out).1
  have h2 := HZ.out.s
  have h3 := HZ.out.n
  have hz1 := dec_len (n := d.b.bars) (by omega) (by omega)
  have hz2 := dec_len (n := (d.stops.length : Int)) (by omega) (by omega)
  have hz3 := dec_len (n := (d.drills.length : Int)) (by omega) (by omega)
  have z1 : (⟨#[32, 98, 97, 114, 115, 44, 32]⟩ : ByteArray).size = 7 := rfl
  have z2 : (⟨#[32, 115, 116, 111, 112, 115, 44, 32]⟩ : ByteArray).size = 8 := rfl
  have z3 : (⟨#[32, 100, 114, 105, 108, 108, 115]⟩ : ByteArray).size = 7 := rfl
  have e1 : ∀ w, (Op.stringOp .add (dec d.b.bars) ⟨#[32, 98, 97, 114, 115, 44, 32]⟩).run Tryz.prog w = .ok (.string (dec d.b.bars ++ ⟨#[32, 98, 97, 114, 115, 44, 32]⟩)) w := fun w => run_string_add_sum w _ _ (by omega)
  have e2 : ∀ w, (Op.stringOp .add (dec d.b.bars ++ ⟨#[32, 98, 97, 114, 115, 44, 32]⟩) (dec d.stops.length)).run Tryz.prog w = .ok (.string (dec d.b.bars ++ ⟨#[32, 98, 97, 114, 115, 44, 32]⟩ ++ dec d.stops.length)) w := fun w => run_string_add_sum w _ _ (by simp only [ByteArray.size_append]; omega)
  have e3 : ∀ w, (Op.stringOp .add (dec d.b.bars ++ ⟨#[32, 98, 97, 114, 115, 44, 32]⟩ ++ dec d.stops.length) ⟨#[32, 115, 116, 111, 112, 115, 44, 32]⟩).run Tryz.prog w = .ok (.string (dec d.b.bars ++ ⟨#[32, 98, 97, 114, 115, 44, 32]⟩ ++ dec d.stops.length ++ ⟨#[32, 115, 116, 111, 112, 115, 44, 32]⟩)) w := fun w => run_string_add_sum w _ _ (by simp only [ByteArray.size_append]; omega)
  have e4 : ∀ w, (Op.stringOp .add (dec d.b.bars ++ ⟨#[32, 98, 97, 114, 115, 44, 32]⟩ ++ dec d.stops.length ++ ⟨#[32, 115, 116, 111, 112, 115, 44, 32]⟩) (dec d.drills.length)).run Tryz.prog w = .ok (.string (dec d.b.bars ++ ⟨#[32, 98, 97, 114, 115, 44, 32]⟩ ++ dec d.stops.length ++ ⟨#[32, 115, 116, 111, 112, 115, 44, 32]⟩ ++ dec d.drills.length)) w := fun w => run_string_add_sum w _ _ (by simp only [ByteArray.size_append]; omega)
  have e5 : ∀ w, (Op.stringOp .add (dec d.b.bars ++ ⟨#[32, 98, 97, 114, 115, 44, 32]⟩ ++ dec d.stops.length ++ ⟨#[32, 115, 116, 111, 112, 115, 44, 32]⟩ ++ dec d.drills.length) ⟨#[32, 100, 114, 105, 108, 108, 115]⟩).run Tryz.prog w = .ok (.string (dkTextV d)) w := fun w => run_string_add_sum w _ _ (by simp only [ByteArray.size_append]; omega)
  clear hz1 hz2 hz3 z1 z2 z3
  go_wp2_with fail
  refine (HCL.out _ (HS.out.below bw_) (HTV.out.below bw_)).mono ?_
  rintro r w' ⟨rfl, g, rfl⟩
  go_wp2_with fail
  go_region_held3 (fun w' => (V).heap.size ≤ w'.heap.size ∧ ∀ b o, b < (V).heap.size → w'.cell? ⟨b, o, none⟩ = (V).cell? ⟨b, o, none⟩) (exact sm_of bw_) (first | (go_at_call 41; refine (decI_any _ _ (by omega) (by omega) (HTV.out.below bw_)).mono ?_; rintro e w' ⟨rfl, g5, rfl⟩))
  go_wp2_with (first | ((with_reducible refine wru ?_); (repeat (go_big_quiet_step (fail))); refine wqn fun nq => ?_))
  go_ret
  exact ⟨by rw [dkText_ok HV.out] <;> rfl, HB.out.tr bw_⟩
def cnms : List ByteArray := [⟨#[111, 107]⟩, ⟨#[105, 110, 118, 97, 108, 105, 100]⟩, ⟨#[114, 97, 110, 103, 101]⟩, ⟨#[110, 111, 116, 45, 102, 111, 117, 110, 100]⟩, ⟨#[101, 120, 105, 115, 116, 115]⟩, ⟨#[102, 117, 108, 108]⟩, ⟨#[115, 116, 97, 116, 101]⟩, ⟨#[115, 121, 110, 116, 97, 120]⟩, ⟨#[102, 111, 114, 109, 97, 116]⟩, ⟨#[99, 108, 97, 115, 104]⟩, ⟨#[106, 97, 109]⟩]
def cnm (c : Int) : ByteArray := if btw c 0 10 then wd cnms c.toNat else ⟨#[]⟩
def errL (c : Int) : ByteArray := (⟨#[101, 114, 114, 111, 114, 32]⟩ : ByteArray) ++ cnm c
def cmds : List ByteArray := [⟨#[97, 108, 105, 103, 110]⟩, ⟨#[98, 97, 115, 107, 101, 116]⟩, ⟨#[99, 111, 100, 101]⟩, ⟨#[100, 114, 105, 108, 108]⟩, ⟨#[100, 114, 105, 108, 108, 115]⟩, ⟨#[101, 110, 116, 101, 114]⟩, ⟨#[102, 97, 115, 116]⟩, ⟨#[108, 105, 110, 101]⟩, ⟨#[108, 111, 103]⟩, ⟨#[109, 97, 114, 107]⟩, ⟨#[114, 111, 119]⟩, ⟨#[115, 101, 116]⟩, ⟨#[115, 116, 111, 112, 115]⟩, ⟨#[119, 97, 105, 116]⟩]
def kindOf (s : ByteArray) : Nat := (cmds.findIdx? fun x => decide (x = s)).getD 14
def fitK (k n : Nat) : Bool :=
 if k = 4 ∨ k = 8 then decide (n = 1) else if k = 0 ∨ k = 7 ∨ k = 9 ∨ k = 13 then decide (n = 3) else if k = 5 then decide (n = 4) else if k = 1 then decide (n = 6)
 else if k = 11 then decide (3 ≤ n) else if k = 14 then false else decide (2 ≤ n)
def sent (r : ByteArray × Int) : List ByteArray := if r.2 = 0 then [r.1] else [errL r.2]
def nmb (r : Int × Int) : List ByteArray := if r.2 = 0 then [dec r.1] else [errL r.2]
def numsOf (ws : List ByteArray) : Option (List Int) := if ws.all numB then some (ws.map sval) else none
def restW (ws : List ByteArray) (k : Nat) : ByteArray := ⟨(joinL 32 (ws.drop k)).toArray⟩
def okLine (n : Nat) : ByteArray := (⟨#[111, 107, 32]⟩ : ByteArray) ++ dec n
def hasName (l : List Drill) (n : ByteArray) : Bool := l.any fun x => decide (x.name = n)
def addD (l : List Drill) (d : Drill) : List Drill × Int :=
 if vDrills l then (if vDrill d then (if hasName l d.name then ([], 4) else if l.length = 10 then ([], 5) else (l ++ [d], 0)) else ([], 2)) else ([], 1)
def TwoOk (two : List ByteArray → ByteArray × Int) : Prop := ∀ ws, (vCode ws = true → IsTwo (lists ws) (two ws).1.data.toList (two ws).2) ∧ (vCode ws = false → two ws = (⟨#[]⟩, 1))
def codeOut (r : ByteArray × Int) : List ByteArray := if r.2 = 3 then [⟨#[117, 110, 105, 113, 117, 101]⟩] else sent r
def sumI : List Int → Int
 | [] => 0
 | x :: l => x + sumI l
def findD (l : List Drill) (n : ByteArray) : Option Drill := l.find? fun x => decide (x.name = n)
def doK (two : List ByteArray → ByteArray × Int) (d : DeskD) (ws : List ByteArray) (k : Nat) : DeskD × List ByteArray :=
 match k with
 | 0 => (d, sent (alnR (wd ws 1) (wd ws 2)))
 | 1 => match numsOf (ws.drop 1) with
  | none => (d, [errL 7])
  | some l => if vBsk ⟨num l 0, num l 1, num l 2, num l 3, num l 4⟩ then ({ d with b := ⟨num l 0, num l 1, num l 2, num l 3, num l 4⟩ }, [dkText { d with b := ⟨num l 0, num l 1, num l 2, num l 3, num l 4⟩ }]) else (d, [errL 1])
 | 2 => (d, codeOut (two (wordsA [] (restW ws 1).data.toList)))
 | 3 => match rdDrill (restW ws 1) with
  | none => (d, [errL 7])
  | some x => if (addD d.drills x).2 = 0 then ({ d with drills := (addD d.drills x).1 }, [dkText { d with drills := (addD d.drills x).1 }]) else (d, [errL (addD d.drills x).2])
 | 4 => (d, d.drills.map drText ++ [okLine d.drills.length])
 | 5 => match numsOf [wd ws 1, wd ws 3] with
  | none => (d, [errL 7])
  | some l => if (adR d.log ⟨num l 0, wd ws 2, num l 1⟩).2 = 0 then ({ d with log := (adR d.log ⟨num l 0, wd ws 2, num l 1⟩).1 }, nmb (sumI (vaR (adR d.log ⟨num l 0, wd ws 2, num l 1⟩).1 (wd ws 2)).1, (vaR (adR d.log ⟨num l 0, wd ws 2, num l 1⟩).1 (wd ws 2)).2)) else (d, [errL (adR d.log ⟨num l 0, wd ws 2, num l 1⟩).2])
 | 6 => match numsOf (ws.drop 1) with
  | none => (d, [errL 7])
  | some l => (d, nmb (tfR d.b l))
 | 7 => if numB (wd ws 2) then (match findD d.drills (wd ws 1) with | none => (d, [errL 3]) | some x => (d, sent (dlR x (sval (wd ws 2))))) else (d, [errL 7])
 | 8 => (d, (entsL d.log).map ewords ++ [okLine (entsL d.log).length])
 | 9 => (d, nmb (mrkR (wd ws 1) (wd ws 2)))
 | 10 => (d, sent (rowR d.stops (restW ws 1)))
 | 11 => if numB (wd ws 1) then (d, sent (setR (wordsA [] (restW ws 2).data.toList) (sval (wd ws 1)))) else (d, [errL 7])
 | 12 => match numsOf (ws.drop 1) with
  | none => (d, [errL 7])
  | some l => if vStops l then ({ d with stops := l }, [dkText { d with stops := l }]) else (d, [errL 1])
 | _ => match numsOf (ws.drop 1) with
  | none => (d, [errL 7])
  | some l => (d, nmb (mwR d.b (num l 0) (num l 1)))
def doL (two : List ByteArray → ByteArray × Int) (d : DeskD) (line : ByteArray) : Option (DeskD × List ByteArray) :=
 if fitK (kindOf (wd (splitA 32 [] line.data.toList) 0)) (splitA 32 [] line.data.toList).length then some (doK two d (splitA 32 [] line.data.toList) (kindOf (wd (splitA 32 [] line.data.toList) 0))) else none
def outB (l : List ByteArray) : List UInt8 := l.flatMap fun s => s.data.toList ++ [10]
def runL (two : List ByteArray → ByteArray × Int) : Nat → DeskD → List ByteArray → List UInt8
 | _, _, [] => []
 | 0, _, _ :: _ => outB [errL 5]
 | n + 1, d, x :: l => match doL two d x with
  | none => outB [⟨#[63]⟩] ++ runL two n d l
  | some r => outB r.2 ++ runL two n r.1 l
def linesOf (s : ByteArray) : List ByteArray := if (splitA 10 [] s.data.toList).getLast? = some ⟨#[]⟩ then (splitA 10 [] s.data.toList).dropLast else splitA 10 [] s.data.toList
def runR (two : List ByteArray → ByteArray × Int) (s : ByteArray) : ByteArray := ⟨(runL two 60 dk0 (linesOf s)).toArray⟩
end Go.Proofs.YtbianlkenallaaaGreatDoor
