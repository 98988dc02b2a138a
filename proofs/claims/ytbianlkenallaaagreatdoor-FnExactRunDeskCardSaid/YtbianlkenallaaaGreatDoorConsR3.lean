/-
  The reference's console: small functions: the words of a text, a sum, a list's own copy. The bounds stand at each.
-/
import Derived.Test.YtbianlkenallaaaGreatDoorMgB
import Derived.Test.YtbianlkenallaaaGreatDoorMgC
import Derived.Test.YtbianlkenallaaaGreatDoorCodeT4
set_option linter.all false
set_option maxHeartbeats 4000000
set_option maxRecDepth 10000
namespace Go.Proofs.YtbianlkenallaaaGreatDoor
open Go.RowKit
theorem words_filter : ∀ (l cur : List UInt8), wordsA cur l = (splitA 32 cur l).filter fun x => decide (0 < x.size)
 | [], cur => by
  rw [wordsA, splitA]
  cases cur with
  | nil => rfl
  | cons c t =>
   rw [if_neg (by simp), List.filter_cons_of_pos]
   ·rfl
   ·rw [← bsz]; simp
 | c :: t, cur => by
  rw [wordsA, splitA]
  by_cases hc : c = 32
  ·rw [if_pos hc, if_pos hc, words_filter t []]
   cases cur with
   | nil => rw [if_pos rfl, List.filter_cons_of_neg]; simp [← bsz]
   | cons d u => rw [if_neg (by simp), List.filter_cons_of_pos]; rw [← bsz]; simp
  ·rw [if_neg hc, if_neg hc, words_filter t (cur ++ [c])]
theorem splitWordsS_any (s : ByteArray) (w : World) (hs : s.size ≤ 1048576) : Calls Tryz.prog 150 #[.string s] w fun e w' => txPost (wordsA [] s.data.toList) w e w' := by
 obtain ⟨P, hP⟩ : ∃ P, splitA 32 [] s.data.toList = P := ⟨_, rfl⟩
 obtain ⟨R, hR⟩ : ∃ R, wordsA [] s.data.toList = R := ⟨_, rfl⟩
 have HR := hd_ (show R = P.filter fun x => decide (0 < x.size) by rw [← hR, words_filter, hP])
 have hPl : P.length ≤ 1048577 := by
  have := split_len 32 s.data.toList []
  rw [hP, bsz] at this
  omega
 have HPS : Hid (∀ i, i < P.length → (wd P i).size ≤ 1048576) := hd_ fun i hi => by
  have := split_size 32 s.data.toList [] (wd P i) (by rw [hP, ← wd_eq hi]; exact List.getElem_mem hi)
  rw [bsz] at this
  simp at this
  omega
 have HC := hd_ (l01Split_any s 32 32 rfl w (by omega))
 rw [hP] at HC
 rw [hR]
 clear hP hR hs
 go_enter Tryz.func150, Tryz.ntmps150
 go_wp2_with fail
 refine HC.out.mono ?_
 rintro e w' ⟨A, c, rfl, ho, g0, rfl⟩
 have HRD := hd_ (Rds.of_own ho)
 have HU := hd_ (show UpOf w (up w g0) from uw_)
 obtain ⟨V0, hV0⟩ : ∃ V, up w g0 = V := ⟨_, rfl⟩
 rw [hV0] at HRD HU ⊢
 clear hV0 ho HC g0
 have hOwn := hd_ (World.ownsRow_lit (base := V0.heap.size) (e := 9) (size := 1) V0 #[] 0 (Nat.le_refl _) (by unfold maxLen; omega) rfl)
 go_wp2_with fail
 go_loopw [4, 5] (fun t4 t5 wr => ∃ (k : Nat) (L : List ByteArray) (A1 : Option Addr) (c1 : Nat), k ≤ P.length ∧ t5 = i64 k ∧ t4 = .slice A1 L.length c1 ∧ Hid (L = (P.take k).filter fun x => decide (0 < x.size)) ∧ Hid (wr.ownsRow V0.heap.size 9 1 (.slice A1 L.length c1) L.length (strs L)) ∧ ∃ g : Up V0, wr = up V0 g) (fun _ t5 _ => P.length - (intOf t5).toNat)
 case atStart => exact ⟨0, [], _, _, by omega, rfl, rfl, hd_ rfl, hd_ hOwn.out, ex_up bw_⟩
 case round =>
  obtain ⟨k, L, A1, c1, hk, rfl, rfl, HE, HO, g, rfl⟩ := hrel
  clear hOwn
  by_cases hlt : k < P.length
  ·have hlt' : (k : Int) < (P.length : Int) := by omega
   obtain ⟨b, off, rfl, hb, -⟩ := wd_at HRD.out hlt
   obtain ⟨-, c0⟩ := ws_at HRD.out hlt
   have hT : P.take (k + 1) = P.take k ++ [wd P k] := by rw [List.take_add_one, List.getElem?_eq_getElem hlt, Option.toList_some, wd_eq hlt]
   have hL : L.length ≤ 1048577 := by
    have h1 := List.length_filter_le (fun x : ByteArray => decide (0 < x.size)) (P.take k)
    rw [← HE.out, List.length_take] at h1
    omega
   have hKs := HPS.out k hlt
   obtain ⟨KW, hKW⟩ : ∃ q, wd P k = q := ⟨_, rfl⟩
   rw [hKW] at hT c0 hKs
   clear hKW
   by_cases h0 : 0 < KW.size
   ·have he := isEmpty_no h0
    have HE2 := hd_ (show L ++ [KW] = (P.take (k + 1)).filter fun x => decide (0 < x.size) by rw [hT, List.filter_append, ← HE.out, List.filter_cons_of_pos (by simpa using h0), List.filter_nil])
    clear HE hT
    go_wp2_with (first | (at_builtin; go_must (refine wpl_appU rfl _ _ 24 rfl V0 V0.heap.size 9 _ 1 16 el_str (.slice A1 L.length c1) L.length (strs L) rfl (own_below HO.out bw_) _ 1 1 [.string KW] rfl (rds_new _ _ _ 1 1 rfl) (fun u hu => by simp at hu; subst hu; rfl) (by unfold maxLen; omega) (by omega) (up_below V0 _).size bw_ (Nat.le_refl _) ?_; intro A2 c2 g2 o2)))
    go_roundw
    case rel => exact ⟨k + 1, L ++ [KW], A2, c2, by omega, by go_num, congrArg (fun n => Value.slice A2 n c2) (by simp), HE2, hd_ (by rw [List.length_append]; simpa [strs] using o2), ex_up bw_⟩
    case measure => simp [intOf]; try omega
   ·have he := isEmpty_yes (s := KW) (by omega)
    have HE2 := hd_ (show L = (P.take (k + 1)).filter fun x => decide (0 < x.size) by rw [hT, List.filter_append, ← HE.out, List.filter_cons_of_neg (by simpa using h0), List.filter_nil, List.append_nil])
    clear HE hT
    go_wp2_with fail
    go_roundw
    case rel => exact ⟨k + 1, L, A1, c1, by omega, by go_num, rfl, HE2, HO, ex_up bw_⟩
    case measure => simp [intOf]; try omega
  ·obtain rfl : k = P.length := by omega
   have HF := hd_ (show L = R by rw [HE.out, List.take_length, HR.out])
   clear HE
   go_wp2_with fail
   go_ret
   rw [← HF.out]
   exact ⟨A1, c1, rfl, own_mono HO.out HU.out.below.size, HU.out.tr (up_below _ _)⟩
theorem l00Sum_any (A : Option Addr) (c : Nat) (l : List Int) (w : World) (h : Rds w 1 A l.length (ics l)) (hn : l.length ≤ 1000000) (hv : ∀ i, i < l.length → -1000000000 ≤ num l i ∧ num l i ≤ 1000000000) :
  Calls Tryz.prog 158 #[.slice A l.length c] w fun e w' => e = .returned (i64 (sumI l)) ∧ w = w' := by
 have HV := hd_ hv
 have HR := hd_ h
 clear hv h
 go_enter Tryz.func158, Tryz.ntmps158
 go_wp2_with fail
 go_loopw [3, 4] (fun t3 t4 wr => ∃ (k : Nat) (z : Int), k ≤ l.length ∧ t4 = i64 k ∧ t3 = .int .i64 z ∧ Hid (z = sumI' l k) ∧ wr = w) (fun _ t4 _ => l.length - (intOf t4).toNat)
 case atStart => exact ⟨0, 0, by omega, rfl, rfl, hd_ rfl, rfl⟩
 case round =>
  obtain ⟨k, z, hk, rfl, rfl, HZ, rfl⟩ := hrel
  have hb0 := sumI'_bd (B := 1000000000) (by omega) HV.out k hk
  have hz1 : -1000000000000000 ≤ z := by rw [HZ.out]; omega
  have hz2 : z ≤ 1000000000000000 := by rw [HZ.out]; omega
  clear hb0
  by_cases hlt : k < l.length
  ·obtain ⟨b, off, rfl, hb, c0⟩ := num_at HR.out hlt
   have hx := HV.out k hlt
   obtain ⟨x, hx0⟩ : ∃ x, num l k = x := ⟨_, rfl⟩
   have HZ2 := hd_ (show z + x = sumI' l (k + 1) by rw [sumI'_step hlt, HZ.out, hx0])
   rw [hx0] at hx c0
   obtain ⟨hx1, hx2⟩ := hx
   clear HZ hx0
   go_wp2_with fail
   refine ⟨⟨k + 1, _, by omega, by go_num, rfl, HZ2, by first | rfl | trivial⟩, by simp [intOf]; try omega⟩
  ·obtain rfl : k = l.length := by omega
   have HL : Hid (sumI l = z) := hd_ (by rw [HZ.out, sumI', List.take_length])
   clear HZ
   go_wp2_with fail
   go_ret
   rw [HL.out]
   exact ⟨rfl, rfl⟩
end Go.Proofs.YtbianlkenallaaaGreatDoor
