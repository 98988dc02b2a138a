/-
  Common parts, put together: Small1, Small2, SetL1, Drill1, IntsTo, ToDesk, Drill3, Drill4, TakeT, DkM, Small3, Small4, Dk1, Dk2, Dk3, Wait, Fast, Fast2, Fast3, Dk4, Dk5, Move1.
-/
import Derived.Test.YtbianlkenallaaaGreatDoorMgB
import Derived.Test.YtbianlkenallaaaGreatDoorMgA
import Derived.OpenShut
import Derived.Lib.SmallJoins
import Derived.ChangeOld
import Derived.Deep.Slices
import Derived.StillTail
import Derived.Deep.RegionHeld3
import Derived.StillTailTactics
import Derived.Deep.DeepMust
set_option linter.all false
set_option maxHeartbeats 8000000
set_option maxRecDepth 10000
namespace Go.Proofs.YtbianlkenallaaaGreatDoor
open Go.RowKit
def txPost (l : List ByteArray) (w : World) (e : Ending) (w' : World) : Prop :=
 ∃ A c, e = .returned (.slice A l.length c) ∧ w'.ownsRow w.heap.size 9 1 (.slice A l.length c) l.length (strs l) ∧ UpOf w w'
theorem tx_one (w : World) (s : ByteArray) : txPost [s] w (.returned (.slice (some ⟨w.heap.size, 0, none⟩) 1 1)) (w.alloc (.cells #[.string s] 9)) :=
 ⟨_, _, rfl, World.ownsRow_lit (base := w.heap.size) (e := 9) (size := 1) w #[.string s] 1 (Nat.le_refl _) (by unfold maxLen; omega) rfl, uw_⟩
theorem tx_up {l : List ByteArray} {w w1 : World} {e : Ending} {w' : World} (hu : UpOf w w1) (h : txPost l w1 e w') : txPost l w e w' := by
 obtain ⟨A, c, h1, h2, h3⟩ := h
 exact ⟨A, c, h1, own_mono h2 hu.below.size, hu.tr h3.below⟩
theorem codeName_any (c : Int) (w : World) : Calls Tryz.prog 121 #[i64 c] w fun e w' => e = .returned (.string (cnm c)) ∧ UpOf w w' := by
 go_enter Tryz.func121, Tryz.ntmps121
 go_upto_region 2 with (fail)
 refine wpg (R := fun V => (∀ i, i < 11 → V.cell? ⟨w.heap.size, i, none⟩ = some (.string (wd cnms i))) ∧ w.heap.size < V.heap.size ∧ UpOf w V) ⟨fun i hi => ?_, by simp, uw_⟩ (fun V z => ?_)
 ·rw [World.cell?_alloc_new]
  have : i = 0 ∨ i = 1 ∨ i = 2 ∨ i = 3 ∨ i = 4 ∨ i = 5 ∨ i = 6 ∨ i = 7 ∨ i = 8 ∨ i = 9 ∨ i = 10 := by omega
  rcases this with rfl | rfl | rfl | rfl | rfl | rfl | rfl | rfl | rfl | rfl | rfl <;> rfl
 obtain ⟨hc, hq, hu⟩ := z
 have HU := hd_ hu
 have HC := hd_ hc
 clear hc hu
 generalize w.heap.size = q at *
 by_cases h0 : c < 0
 ·have hr : Hid (cnm c = ⟨#[]⟩) := hd_ (by rw [cnm, btw, decide_eq_false (by omega)]; rfl)
  have h0' : decide (c < 0) = true := decide_eq_true h0
  go_wp2_with fail
  go_ret
  rw [hr.out]
  exact ⟨rfl, HU.out.tr bw_⟩
 ·have h0' : decide (c < 0) = false := decide_eq_false h0
  by_cases h1 : (11 : Int) ≤ c
  ·have hr : Hid (cnm c = ⟨#[]⟩) := hd_ (by rw [cnm, btw, decide_eq_false (by omega)]; rfl)
   have h1' : decide ((11 : Int) ≤ c) = true := decide_eq_true h1
   go_wp2_with fail
   go_ret
   rw [hr.out]
   exact ⟨rfl, HU.out.tr bw_⟩
  ·have h1' : decide ((11 : Int) ≤ c) = false := decide_eq_false h1
   obtain ⟨n, rfl⟩ : ∃ n : Nat, c = (n : Int) := ⟨c.toNat, by omega⟩
   have hn : n < 11 := by omega
   have hn' : (n : Int) < 11 := by omega
   have hx := HC.out n hn
   have hr : Hid (cnm n = wd cnms n) := hd_ (by rw [cnm, btw, decide_eq_true (by omega)]; rfl)
   go_wp2_with fail
   go_ret
   rw [hr.out]
   exact ⟨rfl, HU.out.tr bw_⟩
theorem cnm_size (c : Int) : (cnm c).size ≤ 9 := by
 rw [cnm]
 split
 ·rename_i h
  have hb := btw_true h
  obtain ⟨n, rfl⟩ : ∃ n : Nat, c = (n : Int) := ⟨c.toNat, by omega⟩
  have : n = 0 ∨ n = 1 ∨ n = 2 ∨ n = 3 ∨ n = 4 ∨ n = 5 ∨ n = 6 ∨ n = 7 ∨ n = 8 ∨ n = 9 ∨ n = 10 := by omega
  rcases this with rfl | rfl | rfl | rfl | rfl | rfl | rfl | rfl | rfl | rfl | rfl <;> decide
 ·decide
theorem report_any (c : Int) (w : World) : Calls Tryz.prog 70 #[i64 c] w fun e w' => txPost [errL c] w e w' := by
 have hs := cnm_size c
 go_enter Tryz.func70, Tryz.ntmps70
 go_wp2_with (first | (go_at_call 121; refine (codeName_any c _).mono ?_; rintro e w' ⟨rfl, g, rfl⟩))
 go_ret
 exact tx_up (uw_) (tx_one _ _)
theorem sentence_any (s : ByteArray) (c : Int) (w : World) : Calls Tryz.prog 33 #[.string s, i64 c] w fun e w' => txPost (sent (s, c)) w e w' := by
 by_cases h : c = 0
 ·subst h
  have hr := hd_ (show sent (s, 0) = [s] from rfl)
  rw [hr.out]
  go_enter Tryz.func33, Tryz.ntmps33
  go_wp2_with fail
  go_ret
  exact tx_one _ _
 ·have h1 : (c != 0) = true := by rw [bne_iff_ne]; exact h
  have hr : sent (s, c) = [errL c] := by rw [sent, if_neg h]
  rw [hr]
  clear hr h
  go_enter Tryz.func33, Tryz.ntmps33
  go_wp2_with fail
  refine (report_any c _).mono ?_
  rintro e w' ⟨A, c', rfl, o, g, rfl⟩
  go_wp2_with fail
  go_ret
  exact ⟨A, c', rfl, o, uw_⟩
theorem number_any (n : Int) (c : Int) (w : World) (h0 : -9223372036854775808 ≤ n) (h1 : n ≤ 9223372036854775807) (ht : Tab w) : Calls Tryz.prog 35 #[i64 n, i64 c] w fun e w' => txPost (nmb (n, c)) w e w' := by
 have HT := hd_ ht
 clear ht
 by_cases h : c = 0
 ·subst h
  have hr := hd_ (show nmb (n, 0) = [dec n] from rfl)
  rw [hr.out]
  go_enter Tryz.func35, Tryz.ntmps35
  go_wp2_with (first | (go_at_call 41; refine (decI_any n _ h0 h1 (HT.out.below bw_)).mono ?_; rintro e w' ⟨rfl, g, rfl⟩))
  go_ret
  exact tx_up (uw_) (tx_one _ _)
 ·have h2 : (c != 0) = true := by rw [bne_iff_ne]; exact h
  have hr : nmb (n, c) = [errL c] := by rw [nmb, if_neg h]
  rw [hr]
  clear hr h
  go_enter Tryz.func35, Tryz.ntmps35
  go_wp2_with fail
  refine (report_any c _).mono ?_
  rintro e w' ⟨A, c', rfl, o, g, rfl⟩
  go_wp2_with fail
  go_ret
  exact ⟨A, c', rfl, o, uw_⟩
theorem el_int64 : ElemOf Tryz.prog 28 2 (i64 0) 1 8 := elem_of Tryz.underlying28 (by kernel_rfl) rfl (by omega)
theorem listed_any (base : Nat) (A : Option Addr) (c : Nat) (l : List ByteArray) (w : World) (hb : base ≤ w.heap.size) (h : w.ownsRow base 9 1 (.slice A l.length c) l.length (strs l)) (hn : l.length ≤ 100000000) (ht : Tab w) (W : World) (hW : Below W.heap.size W w) (hWb : W.heap.size ≤ base) :
  Calls Tryz.prog 89 #[.slice A l.length c] w fun e w' => ∃ A' c', e = .returned (.slice A' (l.length + 1) c') ∧ w'.ownsRow base 9 1 (.slice A' (l.length + 1) c') (l.length + 1) (strs (l ++ [okLine l.length])) ∧ UpOf W w' := by
 have HT := hd_ ht
 have HO := hd_ h
 have hd := (dec_bytes (n := (l.length : Int)) (by omega) (by omega)).2.2
 have HWw := hd_ hW
 clear ht h hW
 go_enter Tryz.func89, Tryz.ntmps89
 go_wp2_with (first | (go_at_call 41; refine (decI_any (l.length : Int) _ (by omega) (by omega) (HT.out.below bw_)).mono ?_; rintro e w' ⟨rfl, g, rfl⟩) | (at_builtin; go_must (refine wpl_appU rfl _ _ 24 rfl W base 9 _ 1 16 el_str (.slice A l.length c) l.length (strs l) rfl (own_below HO.out bw_) _ 1 1 [.string (okLine l.length)] rfl (rds_new _ _ _ 1 1 rfl) (fun u hu => by simp at hu; subst hu; rfl) (by unfold maxLen; omega) (by omega) (Nat.le_trans hb (show Below w.heap.size w _ from bw_).size) (HWw.out.trans (Below.mono bw_ HWw.out.size)) hWb ?_; intro A2 c2 g2 o2)))
 go_ret
 exact ⟨A2, c2, rfl, by rw [strs_app]; exact o2, UpOf.of (up_below _ _)⟩
def sumI' (l : List Int) (k : Nat) : Int := sumI (l.take k)
theorem sumI_app (a b : List Int) : sumI (a ++ b) = sumI a + sumI b := by
 induction a with
 | nil => simp [sumI]
 | cons x a ih => rw [List.cons_append, sumI, ih, sumI]; omega
theorem sumI'_step {l : List Int} {k : Nat} (h : k < l.length) : sumI' l (k + 1) = sumI' l k + num l k := by
 rw [sumI', sumI', List.take_succ, sumI_app, List.getElem?_eq_getElem h, num_eq h]
 show sumI _ + sumI [num l k] = _
 rw [sumI, sumI]; omega
theorem sumI'_bd {l : List Int} {B : Int} (hB : 0 ≤ B) (h : ∀ i, i < l.length → -B ≤ num l i ∧ num l i ≤ B) : ∀ k, k ≤ l.length → -(B * k) ≤ sumI' l k ∧ sumI' l k ≤ B * k
 | 0, _ => by rw [sumI', List.take_zero, sumI]; simp
 | k + 1, hk => by
  have h1 := sumI'_bd hB h k (by omega)
  have h2 := h k (by omega)
  rw [sumI'_step (by omega)]
  have : B * ((k + 1 : Nat) : Int) = B * k + B := by push_cast; rw [Int.mul_add, Int.mul_one]
  rw [this]
  omega
theorem sumOf_any (A : Option Addr) (c : Nat) (l : List Int) (w : World) (h : Rds w 1 A l.length (ics l)) (hn : l.length ≤ 1000000) (hv : ∀ i, i < l.length → -1000000000 ≤ num l i ∧ num l i ≤ 1000000000) :
  Calls Tryz.prog 87 #[.slice A l.length c] w fun e w' => e = .returned (i64 (sumI l)) ∧ w = w' := by
 have HV := hd_ hv
 have HR := hd_ h
 clear hv h
 go_enter Tryz.func87, Tryz.ntmps87
 go_wp2_with fail
 go_loopw [3, 8] (fun t3 t8 wr => ∃ (k : Nat) (z : Int), k ≤ l.length ∧ t8 = i64 k ∧ t3 = .int .i64 z ∧ Hid (z = sumI' l k) ∧ wr = w) (fun _ t8 _ => l.length - (intOf t8).toNat)
 case atStart => exact ⟨0, 0, by omega, rfl, rfl, hd_ rfl, rfl⟩
 case round =>
  obtain ⟨k, z, hk, rfl, rfl, HZ, rfl⟩ := hrel
  have hb0 := sumI'_bd (B := 1000000000) (by omega) HV.out k hk
  have hz1 : -1000000000000000 ≤ z := by rw [HZ.out]; omega
  have hz2 : z ≤ 1000000000000000 := by rw [HZ.out]; omega
  clear hb0
  by_cases hlt : k < l.length
  ·obtain ⟨b, off, rfl, hb, c0⟩ := num_at HR.out hlt
   have hx := HV.out k hlt
   obtain ⟨x, hx0⟩ : ∃ x, num l k = x := ⟨_, rfl⟩
   have HZ2 := hd_ (show z + x = sumI' l (k + 1) by rw [sumI'_step hlt, HZ.out, hx0])
   rw [hx0] at hx c0
   obtain ⟨hx1, hx2⟩ := hx
   clear HZ hx0
   go_wp2_with fail
   refine ⟨⟨k + 1, _, by omega, by go_num, rfl, HZ2, by first | rfl | trivial⟩, by simp [intOf]; try omega⟩
  ·obtain rfl : k = l.length := by omega
   have HL : Hid (sumI l = z) := hd_ (by rw [HZ.out, sumI', List.take_length])
   clear HZ
   go_wp2_with fail
   go_ret
   rw [HL.out]
   exact ⟨rfl, rfl⟩
def rnPost (ws : List ByteArray) (w : World) (e : Ending) (w' : World) : Prop := match numsOf ws with
 | none => e = .returned (.tuple #[.slice none 0 0, .bool false]) ∧ UpOf w w'
 | some l => ∃ A c, e = .returned (.tuple #[.slice A l.length c, .bool true]) ∧ w'.ownsRow w.heap.size 2 1 (.slice A l.length c) l.length (ics l) ∧ UpOf w w'
theorem numsOf_no {ws : List ByteArray} {i : Nat} (hi : i < ws.length) (h : numB (wd ws i) = false) : numsOf ws = none := by
 rw [numsOf, if_neg]
 intro ha
 rw [List.all_eq_true] at ha
 have := ha (wd ws i) (by rw [← wd_eq hi]; exact List.getElem_mem hi)
 rw [h] at this
 cases this
theorem numsOf_yes {ws : List ByteArray} (h : ∀ i, i < ws.length → numB (wd ws i) = true) : numsOf ws = some (ws.map sval) := by
 rw [numsOf, if_pos]
 rw [List.all_eq_true]
 intro x hx
 obtain ⟨i, hi, rfl⟩ := List.getElem_of_mem hx
 rw [wd_eq hi]
 exact h i hi
theorem readNumbers_any (A : Option Addr) (c : Nat) (ws : List ByteArray) (w : World) (h : Rds w 1 A ws.length (strs ws)) (hn : ws.length ≤ 10000000) (hf : ∀ i, i < ws.length → (wd ws i).size ≤ 100000000) (ht : Tab w) :
  Calls Tryz.prog 69 #[.slice A ws.length c] w fun e w' => rnPost ws w e w' := by
 have HT := hd_ ht
 have HF := hd_ hf
 have HR := hd_ h
 have hOwn := hd_ (World.ownsRow_lit (base := w.heap.size) (e := 2) (size := 1) w #[] 0 (Nat.le_refl _) (by unfold maxLen; omega) rfl)
 clear ht hf h
 go_enter Tryz.func69, Tryz.ntmps69
 go_wp2_with fail
 go_loopw [4, 12] (fun t4 t12 wr => ∃ (k : Nat) (L : List Int) (A1 : Option Addr) (c1 : Nat), k ≤ ws.length ∧ t12 = i64 k ∧ t4 = .slice A1 L.length c1 ∧ Hid (L = (ws.take k).map sval) ∧ Hid (∀ j, j < k → numB (wd ws j) = true) ∧ Hid (wr.ownsRow w.heap.size 2 1 (.slice A1 L.length c1) L.length (ics L)) ∧ ∃ g : Up w, wr = up w g) (fun _ t12 _ => ws.length - (intOf t12).toNat)
 case atStart => exact ⟨0, [], _, _, by omega, rfl, rfl, hd_ rfl, hd_ (fun j hj => by omega), hd_ hOwn.out, ex_up bw_⟩
 case round =>
  obtain ⟨k, L, A1, c1, hk, rfl, rfl, HE, HK, HO, g, rfl⟩ := hrel
  clear hOwn
  by_cases hlt : k < ws.length
  ·obtain ⟨b, off, rfl, hb, c0⟩ := wd_at HR.out hlt
   have c0 := c0 k hlt
   have f1 := HF.out k hlt
   cases hv : numB (wd ws k) with
   | false =>
    have HC : Hid (∀ V, Tab V → Calls Tryz.prog 79 #[.string (wd ws k)] V fun e w' => e = .returned (.tuple #[i64 0, .bool false]) ∧ UpOf V w') := hd_ fun V hV => by
     have := readDecimal_any (wd ws k) V (by omega) hV
     rw [rdR_no hv] at this
     exact this
    have hf := hd_ (numsOf_no hlt hv)
    clear hv
    go_wp2_with (first | (go_at_call 79; refine (HC.out _ (HT.out.below bw_)).mono ?_; rintro e w' ⟨rfl, g, rfl⟩))
    go_ret2
    unfold rnPost
    rw [hf.out]
    exact ⟨rfl, uw_⟩
   | true =>
    obtain ⟨x, hx⟩ : ∃ x, sval (wd ws k) = x := ⟨_, rfl⟩
    have HC : Hid (∀ V, Tab V → Calls Tryz.prog 79 #[.string (wd ws k)] V fun e w' => e = .returned (.tuple #[i64 x, .bool true]) ∧ UpOf V w') := hd_ fun V hV => by
     have := readDecimal_any (wd ws k) V (by omega) hV
     rw [rdR_ok hv, hx] at this
     exact this
    have HK2 := hd_ (lt_ext (P := fun j => numB (wd ws j) = true) HK.out hv)
    have HE2 := hd_ (show L ++ [x] = (ws.take (k + 1)).map sval by
     rw [List.take_succ, List.map_append, ← HE.out, List.getElem?_eq_getElem hlt, wd_eq hlt, ← hx]; rfl)
    have hL : L.length ≤ 10000000 := by rw [HE.out, List.length_map, List.length_take]; omega
    clear hv hx HE
    go_wp2_with (first | (go_at_call 79; refine (HC.out _ (HT.out.below bw_)).mono ?_; rintro e w' ⟨rfl, g, rfl⟩) | (at_builtin; go_must (refine wpl_appU rfl _ _ 28 rfl w w.heap.size 2 _ 1 8 el_int64 (.slice A1 L.length c1) L.length (ics L) rfl (own_below HO.out bw_) _ 1 1 [i64 x] rfl (rds_new _ _ _ 1 1 rfl) (fun u hu => by simp at hu; subst hu; rfl) (by unfold maxLen; omega) (by omega) (up_below w _).size bw_ (Nat.le_refl _) ?_; intro A2 c2 g2 o2)))
    go_roundw
    case rel => exact ⟨k + 1, L ++ [x], A2, c2, by omega, by go_num, congrArg (fun n => Value.slice A2 n c2) (by simp), HE2, HK2, hd_ (by rw [List.length_append]; simpa [ics] using o2), ex_up bw_⟩
    case measure => simp [intOf]; try omega
  ·obtain rfl : k = ws.length := by omega
   have hf := hd_ (show numsOf ws = some L by rw [numsOf_yes HK.out, HE.out, List.take_length])
   clear HE
   go_wp2_with fail
   go_ret2
   unfold rnPost
   rw [hf.out]
   exact ⟨A1, c1, rfl, own_below HO.out bw_, uw_⟩
def WBd (ws : List ByteArray) : Prop := ∀ i, i < ws.length → (wd ws i).size ≤ 100000000
theorem sizes_bd {ws : List ByteArray} (h : WBd ws) : ∀ n, n ≤ ws.length → 0 ≤ sizes ws n ∧ sizes ws n ≤ 100000000 * (n : Int)
 | 0, _ => ⟨Int.le_refl _, Int.le_refl _⟩
 | n + 1, hn => by
  have h1 := sizes_bd h n (by omega)
  have h2 := h n (by omega)
  rw [sizes]
  constructor <;> (push_cast; omega)
theorem lineLength_any (A : Option Addr) (c : Nat) (ws : List ByteArray) (w : World) (h : Rds w 1 A ws.length (strs ws)) (hn : ws.length ≤ 100000000) (hf : WBd ws) :
  Calls Tryz.prog 132 #[.slice A ws.length c] w fun e w' => e = .returned (i64 (longL ws)) ∧ w = w' := by
 have HF := hd_ hf
 clear hf
 go_enter Tryz.func132, Tryz.ntmps132
 go_wp2_with fail
 go_loopw [3, 11] (fun t3 t11 wr => ∃ (k : Nat) (z : Int), k ≤ ws.length ∧ t11 = i64 k ∧ t3 = .int .i64 z ∧ Hid (z = (ws.length : Int) - 1 + sizes ws k) ∧ wr = w) (fun _ t11 _ => ws.length - (intOf t11).toNat)
 case atStart => exact ⟨0, _, by omega, rfl, rfl, hd_ (by rw [sizes]; omega), rfl⟩
 case round =>
  obtain ⟨k, z, hk, rfl, rfl, HZ, rfl⟩ := hrel
  have hsz := sizes_bd HF.out k hk
  have hz1 : -1 ≤ z := by rw [HZ.out]; omega
  have hz2 : z ≤ 20000000000000000 := by rw [HZ.out]; omega
  by_cases hlt : k < ws.length
  ·obtain ⟨b, off, rfl, hb, c0⟩ := wd_at h hlt
   have c0 := c0 k hlt
   have f1 := HF.out k hlt
   have HZ2 := hd_ (show z + ((wd ws k).size : Int) = (ws.length : Int) - 1 + sizes ws (k + 1) from by rw [HZ.out, sizes]; omega)
   clear HZ hsz h
   go_wp2_with fail
   refine ⟨⟨k + 1, _, by omega, by go_num, rfl, HZ2, by first | rfl | trivial⟩, by simp [intOf]; try omega⟩
  ·obtain rfl : k = ws.length := by omega
   obtain ⟨v, hv⟩ : ∃ v, (if z < 0 then 0 else z) = v := ⟨_, rfl⟩
   have hv2 : max z 0 = v := by rw [← hv]; split <;> omega
   have HL : Hid (longL ws = v) := hd_ (by rw [longL, ← HZ.out, ← hv]; (repeat' split) <;> omega)
   clear HZ hsz h
   go_wp2_with fail
   go_ret
   rw [HL.out]
   exact ⟨rfl, rfl⟩
theorem repeat_any (b : UInt8) (n : Int) (w : World) (hn : n ≤ 100000) (h0 : -1000000000 ≤ n) :
  Calls Tryz.prog 136 #[.string (bs [b]), i64 n] w fun e w' => e = .returned (.string (bs (List.replicate n.toNat b))) ∧ UpOf w w' := by
 have hOwn := hd_ (World.ownsRow_lit (base := w.heap.size) (e := 5) (size := 1) w #[] 0 (Nat.le_refl _) (by unfold maxLen; omega) rfl)
 obtain ⟨s, hs⟩ : ∃ s, bs [b] = s := ⟨_, rfl⟩
 have HS : Hid (s.data.toList = [b]) := hd_ (by rw [← hs, bs_list])
 have hs1 : s.size = 1 := by rw [← hs]; rfl
 rw [hs]
 clear hs
 obtain ⟨N, hN⟩ : ∃ N : Nat, n.toNat = N := ⟨_, rfl⟩
 have hmx : (if n < 0 then 0 else n) = (N : Int) := by split <;> omega
 have hN1 : N ≤ 100000 := by omega
 rw [hN]
 clear hN
 go_enter Tryz.func136, Tryz.ntmps136
 go_wp2_with fail
 go_loopw [5, 9] (fun t5 t9 wr => ∃ (k : Nat) (L : List UInt8) (A1 : Option Addr) (c1 : Nat), k ≤ N ∧ t9 = i64 k ∧ t5 = .slice A1 L.length c1 ∧ Hid (L = List.replicate k b) ∧ Hid (wr.ownsRow w.heap.size 5 1 (.slice A1 L.length c1) L.length (Lib.byteCells L)) ∧ ∃ g : Up w, wr = up w g) (fun _ t9 _ => N - (intOf t9).toNat)
 case atStart => exact ⟨0, [], _, _, by omega, rfl, rfl, hd_ rfl, hd_ hOwn.out, ex_up bw_⟩
 case round =>
  obtain ⟨k, L, A1, c1, hk, rfl, rfl, HE, HO, g, rfl⟩ := hrel
  clear hOwn
  by_cases hlt : k < N
  ·have hL : L.length ≤ 100000 := by rw [HE.out, List.length_replicate]; omega
   go_wp2_with (first | (at_builtin; go_must (refine wpl_appS rfl _ _ 22 9 rfl w w.heap.size 5 el_byte Tryz.underlying9 A1 c1 L rfl (own_below HO.out bw_) s rfl (by omega) (up_below w _).size bw_ (Nat.le_refl _) ?_; intro A2 c2 g2 o2)))
   refine ⟨⟨k + 1, L ++ s.data.toList, A2, c2, by omega, by go_num, congrArg (fun n => Value.slice A2 n c2) (by rw [List.length_append, HS.out]; rfl), hd_ (by rw [HE.out, HS.out, List.replicate_succ']), hd_ o2, ex_up bw_⟩, by simp [intOf]; try omega⟩
  ·obtain rfl : k = N := by omega
   have hcv := conv_own HO.out rfl (Below.refl _ _)
   have hfin := hd_ HE.out
   clear HE
   go_wp2_with fail
   go_ret
   rw [← hfin.out]
   exact ⟨rfl, uw_⟩
theorem drillText_any (d : Drill) (w : World) (h1 : d.name.size ≤ 9223372036854775807) (h2 : d.letters.size ≤ 9223372036854775807) (ht : Tab w) :
  Calls Tryz.prog 88 #[drv d] w fun e w' => e = .returned (.string (drText d)) ∧ UpOf w w' := by
 have HT := hd_ ht
 clear ht
 cases hv : vDrill d with
 | false =>
  have hr := hd_ (show drText d = ⟨#[]⟩ by rw [drText, hv]; rfl)
  go_enter Tryz.func88, Tryz.ntmps88
  go_upto_region 1 with (fail)
  refine wpg (R := fun V => Box V w.heap.size #[.string d.name, .string d.letters, i64 d.minutes] ∧ UpOf w V) ⟨Box.new _ _ _, uw_⟩ (fun V z => ?_)
  obtain ⟨⟨hq, hc⟩, hB⟩ := z
  have c0 := hc 0 _ rfl
  have c1 := hc 1 _ rfl
  have c2 := hc 2 _ rfl
  have HB := hd_ hB
  clear hc hB
  generalize w.heap.size = q at *
  go_wp2_with (first | (go_at_call 119; refine (ret_as (validDrill_any d _ h1 h2) hv).mono ?_; rintro e w' ⟨rfl, g, rfl⟩) | ((with_reducible refine wru ?_); (repeat (go_big_quiet_step (fail))); refine wqn fun nq => ?_))
  go_ret
  rw [hr.out]
  exact ⟨rfl, HB.out.tr bw_⟩
 | true =>
  have hr := hd_ (show drText d = drTextV d by rw [drText, hv]; rfl)
  obtain ⟨a, b, c, e, _⟩ := vDrill_inv hv
  have s1 := (nameB_bd a).2
  have s2 := (txtB_inv c).1
  have s3 := (dec_bytes (n := d.minutes) (by omega) (by omega)).2.2
  have e1 := e.1
  have e2 := e.2
  clear a b c e
  go_enter Tryz.func88, Tryz.ntmps88
  go_upto_region 1 with (fail)
  refine wpg (R := fun V => Box V w.heap.size #[.string d.name, .string d.letters, i64 d.minutes] ∧ UpOf w V) ⟨Box.new _ _ _, uw_⟩ (fun V z => ?_)
  obtain ⟨⟨hq, hc⟩, hB⟩ := z
  have c0 := hc 0 _ rfl
  have c1 := hc 1 _ rfl
  have c2 := hc 2 _ rfl
  have HB := hd_ hB
  clear hc hB
  generalize w.heap.size = q at *
  have HTV := hd_ (HT.out.below HB.out.below)
  go_wp2_with (first | (go_at_call 119; refine (ret_as (validDrill_any d _ h1 h2) hv).mono ?_; rintro e w' ⟨rfl, g, rfl⟩) | ((with_reducible refine wru ?_); (repeat (go_big_quiet_step (first | (go_at_call 41; exact uq_ (decI_any d.minutes _ (by omega) (by omega) (HTV.out.below bw_)))))); refine wqn fun nq => ?_))
  go_ret
  rw [hr.out]
  exact ⟨rfl, HB.out.tr bw_⟩
theorem trimRight_any (s : ByteArray) (e : Nat) (w : World) (hs : s.size ≤ 1000000) (he : e ≤ s.size) (h1 : e = 0 ∨ byteAt s (e - 1) ≠ 32) (h2 : ∀ i, e ≤ i → i < s.size → byteAt s i = 32) :
  Calls Tryz.prog 137 #[.string s] w fun r w' => r = .returned (.string (s.extract 0 e)) ∧ UpOf w w' := by
 have H1 := hd_ h1
 have H2 := hd_ h2
 clear h1 h2
 go_enter Tryz.func137, Tryz.ntmps137
 go_wp2_with fail
 go_loopw [3] (fun t3 wr => ∃ k : Nat, e ≤ k ∧ k ≤ s.size ∧ t3 = i64 k ∧ ∃ g : Up w, wr = up w g) (fun t3 _ => (intOf t3).toNat)
 case atStart => exact ⟨s.size, he, Nat.le_refl _, rfl, ex_up bw_⟩
 case round =>
  obtain ⟨k, hk, hks, rfl, g, rfl⟩ := hrel
  by_cases hk0 : k = 0
  ·have he0 : e = 0 := by omega
   subst hk0
   subst he0
   go_wp2_with fail
   go_ret
   exact ⟨rfl, uw_⟩
  ·obtain ⟨j, rfl⟩ : ∃ j, k = j + 1 := ⟨k - 1, by omega⟩
   have hjs : j < s.size := by omega
   have eb := byteAt_eq hjs
   have hpos : (0 : Int) < ((j + 1 : Nat) : Int) := by omega
   have hj1 : (((j + 1 : Nat) : Int) - 1).toNat = j := by omega
   by_cases hlt : e ≤ j
   ·have hb : byteAt s j = 32 := H2.out j hlt hjs
    have hb2 : (((byteAt s j).toNat : Int) == 32) = true := by rw [hb]; rfl
    clear hb hk0
    go_wp2_with fail
    go_roundw
    case rel => exact ⟨j, hlt, by omega, by go_num, ex_up bw_⟩
    case measure => simp [intOf]; try omega
   ·have hej : e = j + 1 := by omega
    have hb : byteAt s j ≠ 32 := by
     rcases H1.out with h | h
     ·omega
     ·rwa [hej] at h
    have hb2 : (((byteAt s j).toNat : Int) == 32) = false := by
     rw [beq_eq_false_iff_ne]
     intro h
     exact hb (UInt8.toNat_inj.1 (by show (byteAt s j).toNat = 32; omega))
    have HE := hd_ hej
    clear hb hk0 hej
    go_wp2_with fail
    go_ret
    rw [HE.out]
    exact ⟨rfl, uw_⟩
theorem post_gen {P : Program} {F : Func} {Q : Ending → World → Prop} {x : Exit} {a : Act} {w : World} {R : World → Prop} (st : R w) (h : ∀ W, R W → bodyPost P F Q x a W) : bodyPost P F Q x a w := h w st
abbrev zc : Array Value := #[i64 0, i64 0, i64 0, i64 0, i64 0, .slice none 0 0, .slice none 0 0, .string ⟨#[]⟩]
theorem own_setOld {w : World} {base : Nat} {e : TypeId} {size : Nat} {v : Value} {n : Nat} {xs : List Value} (h : w.ownsRow base e size v n xs) {p : Addr} (hp : p.block < base) (u : Value) : (w.setCell p u).ownsRow base e size v n xs := by
 refine h.kept (row := some p.block) ⟨rfl, rfl, rfl, by simp [World.setCell], fun k _ hne => Below.heap_setCell w p u k (fun e => hne (by rw [e]))⟩ ?_
 cases hv : v.ownBlock with
 | none => exact .inl rfl
 | some k =>
  refine .inr fun he => ?_
  injection he with he
  have := (h.lt k hv).1
  omega
theorem own_all {W : World} {q base : Nat} {e : TypeId} {size : Nat} {v : Value} {n : Nat} {xs : List Value} (h : W.ownsRow base e size v n xs) (hp : q < base) (u0 u1 u2 u3 u4 u5 u6 u7 : Value) : (((((((((W.setCell ⟨q, 0, none⟩ u0).setCell ⟨q, 1, none⟩ u1).setCell ⟨q, 2, none⟩ u2).setCell ⟨q, 3, none⟩ u3).setCell ⟨q, 4, none⟩ u4).setCell ⟨q, 5, none⟩ u5).setCell ⟨q, 6, none⟩ u6).setCell ⟨q, 7, none⟩ u7)).ownsRow base e size v n xs := by
 have h0 := own_setOld (p := ⟨q, 0, none⟩) h hp u0
 have h1 := own_setOld (p := ⟨q, 1, none⟩) h0 hp u1
 have h2 := own_setOld (p := ⟨q, 2, none⟩) h1 hp u2
 have h3 := own_setOld (p := ⟨q, 3, none⟩) h2 hp u3
 have h4 := own_setOld (p := ⟨q, 4, none⟩) h3 hp u4
 have h5 := own_setOld (p := ⟨q, 5, none⟩) h4 hp u5
 have h6 := own_setOld (p := ⟨q, 6, none⟩) h5 hp u6
 have h7 := own_setOld (p := ⟨q, 7, none⟩) h6 hp u7
 exact h7
def DOwn (base : Nat) (w : World) (d : DeskD) (A B : Option Addr) (c e : Nat) : Prop := w.ownsRow base 2 1 (.slice A d.stops.length c) d.stops.length (ics d.stops) ∧ w.ownsRow base 112 3 (.slice B d.drills.length e) d.drills.length (drcs d.drills)
theorem DOwn.see {base : Nat} {w : World} {d : DeskD} {A B : Option Addr} {c e : Nat} (h : DOwn base w d A B c e) : DSee w d A B := ⟨Rds.of_own h.1, Rds.of_own h.2⟩
theorem exit_genD {Q : Exit → Act → World → Prop} {x : Exit} {a : Act} {w : World} {R : World → Prop} (st : R w) (h : ∀ W, R W → Q x a W) : Q x a w := h w st
def dr0 : Drill := ⟨⟨#[]⟩, ⟨#[]⟩, 0⟩
def rdV (o : Option Drill) : Value := match o with
 | none => .tuple #[drv dr0, .bool false]
 | some d => .tuple #[drv d, .bool true]
theorem drTextV_pos (d : Drill) : 0 < (drTextV d).size := by
 have z : (⟨#[32]⟩ : ByteArray).size = 1 := rfl
 simp only [drTextV, ByteArray.size_append]
 omega
theorem Below.sets3d {rb : Nat} {a V w : World} (hr : a.heap.size ≤ rb) (h1 : Below a.heap.size a V) (h2 : Below V.heap.size V w) (u0 u1 u2 : Value) : Below a.heap.size a (((w.setCell ⟨rb, 0, none⟩ u0).setCell ⟨rb, 1, none⟩ u1).setCell ⟨rb, 2, none⟩ u2) :=
 (((h1.trans (h2.mono h1.size)).setCell (p := ⟨rb, 0, none⟩) hr u0).setCell (p := ⟨rb, 1, none⟩) hr u1).setCell (p := ⟨rb, 2, none⟩) hr u2
theorem readDrillI_any (s : ByteArray) (w : World) (hs : s.size ≤ 1048576) (ht : Tab w) :
  Calls Tryz.prog 77 #[.string s] w fun e w' => e = .returned (rdV (rdDrill s)) ∧ UpOf w w' := by
 have HT := hd_ ht
 clear ht
 obtain ⟨W, hW⟩ : ∃ W, wordsA [] s.data.toList = W := ⟨_, rfl⟩
 have HW : Hid (∀ V, Calls Tryz.prog 76 #[.string s] V fun e w' => ∃ A c, e = .returned (.slice A W.length c) ∧ w'.ownsRow V.heap.size 9 1 (.slice A W.length c) W.length (strs W) ∧ UpOf V w') := hd_ fun V => by
  rw [← hW]; exact splitWords_any s V (by omega)
 have hWs : ∀ i, i < W.length → (wd W i).size ≤ 1048576 := fun i hi => by
  have := words_size s.data.toList [] (wd W i) (by rw [hW, ← wd_eq hi]; exact List.getElem_mem hi)
  rw [bsz] at this
  simp at this
  omega
 have hrd : rdDrill s = if drillB s W then some (drOf W) else none := by rw [rdDrill, hW]
 clear hW
 by_cases h3 : W.length = 3
 ·have h3' : ((W.length : Int) != 3) = false := by rw [h3]; rfl
  have s0 := hWs 0 (by omega)
  have s1 := hWs 1 (by omega)
  have s2 := hWs 2 (by omega)
  have H3 := hd_ h3
  cases hn : numB (wd W 2) with
  | false =>
   have hf := hd_ (show rdDrill s = none by rw [hrd, drillB_2 hn]; rfl)
   have HR : Hid (∀ V, Tab V → Calls Tryz.prog 79 #[.string (wd W 2)] V fun e w' => e = .returned (.tuple #[i64 0, .bool false]) ∧ UpOf V w') := hd_ fun V hV => by
    have := readDecimal_any (wd W 2) V (by omega) hV
    rw [rdR_no hn] at this
    exact this
   clear hrd hWs hn
   go_enter Tryz.func77, Tryz.ntmps77
   go_wp2_with fail
   refine cg (R := fun V => Blk V w.heap.size 112 #[.string ⟨#[]⟩, .string ⟨#[]⟩, i64 0] ∧ UpOf w V) ⟨Blk.new _ _ _, uw_⟩ (fun V z => ?_)
   have HTV := hd_ (HT.out.below z.2.below)
   have HU := hd_ z.2
   have q0 := z.1.cell 0
   have q1 := z.1.cell 1
   have q2 := z.1.cell 2
   have f0 := z.1.free 0
   have f1 := z.1.free 1
   have f2 := z.1.free 2
   have hq := z.1.lt
   simp only [List.getElem?_toArray, List.getElem?_cons_zero, List.getElem?_cons_succ] at q0 q1 q2
   clear z
   obtain ⟨q, hqq⟩ : ∃ q, w.heap.size = q := ⟨_, rfl⟩
   have HQ := hd_ (show w.heap.size ≤ q from Nat.le_of_eq hqq)
   rw [hqq] at q0 q1 q2 f0 f1 f2 hq ⊢
   clear hqq
   refine (HW.out _).mono ?_
   rintro e w' ⟨A, c, rfl, o1, g1, rfl⟩
   obtain ⟨b, off, rfl, hb, cw⟩ := wd_at (Rds.of_own o1) (i := 0) (by omega)
   have cw0 := cw 0 (by omega)
   have cw1 := cw 1 (by omega)
   have cw2 := cw 2 (by omega)
   rw [Nat.add_zero] at cw0
   rw [h3]
   clear cw o1 h3 h3'
   go_wp2_with (first | (go_at_call 79; refine (HR.out _ (HTV.out.below bw_)).mono ?_; rintro e w' ⟨rfl, g, rfl⟩) | ((with_reducible refine wru ?_); (repeat (go_big_quiet_step (fail))); refine wqn fun nq => ?_))
   refine wpg (R := fun U => UpOf V U ∧ b < U.heap.size ∧ U.cell? ⟨b, off, none⟩ = some (.string (wd W 0)) ∧ U.cell? ⟨b, off + 1, none⟩ = some (.string (wd W 1))) ⟨uw_, Nat.lt_of_lt_of_le hb (up_below _ _).size, ((up_below (up V g1) g).cell (p := ⟨b, off, none⟩) hb).trans cw0, ((up_below (up V g1) g).cell (p := ⟨b, off + 1, none⟩) hb).trans cw1⟩ (fun V2 z => ?_)
   obtain ⟨z1, hb2, d0, d1⟩ := z
   have HU2 := hd_ z1
   clear z1 cw0 cw1 cw2 hb
   go_region_held3 (fun w' => (V2).heap.size ≤ w'.heap.size ∧ ∀ b o, b < (V2).heap.size → w'.cell? ⟨b, o, none⟩ = (V2).cell? ⟨b, o, none⟩) (exact sm_of bw_) (first | fail)
   refine exit_genD (R := fun U => Box U V2.heap.size #[.string (wd W 0), .string (wd W 1), i64 0] ∧ UpOf V2 U) ⟨(Box.new V2 _ _).below (Below.drew (Below.refl _ _)), uw_⟩ (fun V3 z => ?_)
   obtain ⟨⟨hp3, hbx⟩, hU3⟩ := z
   have x0 := hbx 0 _ rfl
   have x1 := hbx 1 _ rfl
   have x2 := hbx 2 _ rfl
   have HU3 := hd_ (HU2.out.tr hU3.below)
   have hq3 : q < V3.heap.size := Nat.lt_of_lt_of_le hq HU3.out.below.size
   have q0 := (HU3.out.below.cell (p := ⟨q, 0, none⟩) hq).trans q0
   have q1 := (HU3.out.below.cell (p := ⟨q, 1, none⟩) hq).trans q1
   have q2 := (HU3.out.below.cell (p := ⟨q, 2, none⟩) hq).trans q2
   have f0 := (HU3.out.below.frozen (p := ⟨q, 0, none⟩) hq).trans f0
   have f1 := (HU3.out.below.frozen (p := ⟨q, 1, none⟩) hq).trans f1
   have f2 := (HU3.out.below.frozen (p := ⟨q, 2, none⟩) hq).trans f2
   have HTV3 := hd_ (HTV.out.below HU3.out.below)
   have hpq : ¬ V2.heap.size = q := fun h => by
    have := Nat.lt_of_lt_of_le hq HU2.out.below.size
    omega
   clear d0 d1 hb2 hbx hU3 HU2
   generalize V2.heap.size = p at *
   go_wp2_with fail
   exact bodyPost_ret (v := .tuple #[drv dr0, .bool false]) (by simp [results, Tryz.results77, go_sem, hq3, q0, q1, q2, dr0]) rfl ⟨by rw [hf.out]; rfl, UpOf.of (Below.sets3d HQ.out (HU.out.below.trans (HU3.out.below.mono HU.out.below.size)) bw_ _ _ _)⟩
  | true =>
   have hinv := numB_inv hn
   have hbd := sval_bd hinv.1.2 hinv.2.1
   obtain ⟨N, hN⟩ : ∃ N, sval (wd W 2) = N := ⟨_, rfl⟩
   rw [hN] at hbd
   have HR : Hid (∀ V, Tab V → Calls Tryz.prog 79 #[.string (wd W 2)] V fun e w' => e = .returned (.tuple #[i64 N, .bool true]) ∧ UpOf V w') := hd_ fun V hV => by
    have := readDecimal_any (wd W 2) V (by omega) hV
    rw [rdR_ok hn, hN] at this
    exact this
   have hdo : drOf W = ⟨wd W 0, wd W 1, N⟩ := by rw [drOf, hN]
   obtain ⟨T, hT⟩ : ∃ T, drText ⟨wd W 0, wd W 1, N⟩ = T := ⟨_, rfl⟩
   have HDT : Hid (∀ V, Tab V → Calls Tryz.prog 88 #[.agg #[.string (wd W 0), .string (wd W 1), i64 N]] V fun e w' => e = .returned (.string T) ∧ UpOf V w') := hd_ fun V hV => by
    have := drillText_any ⟨wd W 0, wd W 1, N⟩ V (by show (wd W 0).size ≤ _; omega) (by show (wd W 1).size ≤ _; omega) hV
    rw [hT] at this
    exact this
   by_cases hTs : T = s
   ·have htt := tl_teq hTs
    have htn : (!(T.toList == s.toList)) = false := by rw [htt]; rfl
    by_cases h0 : s.size = 0
    ·have hz := isEmpty_yes h0
     have hf := hd_ (show rdDrill s = none by
      have : vDrill (drOf W) = false := by
       cases hv : vDrill (drOf W)
       ·rfl
       ·rw [drText, ← hdo, hv, if_pos rfl] at hT
        have := drTextV_pos (drOf W)
        rw [hT, hTs] at this
        omega
      rw [hrd, drillB_3 this]; rfl)
     clear hrd hWs hn hinv hdo hN hT hTs h0
     go_enter Tryz.func77, Tryz.ntmps77
     go_wp2_with fail
     refine cg (R := fun V => Blk V w.heap.size 112 #[.string ⟨#[]⟩, .string ⟨#[]⟩, i64 0] ∧ UpOf w V) ⟨Blk.new _ _ _, uw_⟩ (fun V z => ?_)
     have HTV := hd_ (HT.out.below z.2.below)
     have HU := hd_ z.2
     have q0 := z.1.cell 0
     have q1 := z.1.cell 1
     have q2 := z.1.cell 2
     have f0 := z.1.free 0
     have f1 := z.1.free 1
     have f2 := z.1.free 2
     have hq := z.1.lt
     simp only [List.getElem?_toArray, List.getElem?_cons_zero, List.getElem?_cons_succ] at q0 q1 q2
     clear z
     obtain ⟨q, hqq⟩ : ∃ q, w.heap.size = q := ⟨_, rfl⟩
     have HQ := hd_ (show w.heap.size ≤ q from Nat.le_of_eq hqq)
     rw [hqq] at q0 q1 q2 f0 f1 f2 hq ⊢
     clear hqq
     refine (HW.out _).mono ?_
     rintro e w' ⟨A, c, rfl, o1, g1, rfl⟩
     obtain ⟨b, off, rfl, hb, cw⟩ := wd_at (Rds.of_own o1) (i := 0) (by omega)
     have cw0 := cw 0 (by omega)
     have cw1 := cw 1 (by omega)
     have cw2 := cw 2 (by omega)
     rw [Nat.add_zero] at cw0
     rw [h3]
     clear cw o1 h3 h3'
     go_wp2_with (first | (go_at_call 79; refine (HR.out _ (HTV.out.below bw_)).mono ?_; rintro e w' ⟨rfl, g, rfl⟩) | ((with_reducible refine wru ?_); (repeat (go_big_quiet_step (fail))); refine wqn fun nq => ?_))
     refine wpg (R := fun U => UpOf V U ∧ b < U.heap.size ∧ U.cell? ⟨b, off, none⟩ = some (.string (wd W 0)) ∧ U.cell? ⟨b, off + 1, none⟩ = some (.string (wd W 1))) ⟨uw_, Nat.lt_of_lt_of_le hb (up_below _ _).size, ((up_below (up V g1) g).cell (p := ⟨b, off, none⟩) hb).trans cw0, ((up_below (up V g1) g).cell (p := ⟨b, off + 1, none⟩) hb).trans cw1⟩ (fun V2 z => ?_)
     obtain ⟨z1, hb2, d0, d1⟩ := z
     have HU2 := hd_ z1
     clear z1 cw0 cw1 cw2 hb
     go_region_held3 (fun w' => (V2).heap.size ≤ w'.heap.size ∧ ∀ b o, b < (V2).heap.size → w'.cell? ⟨b, o, none⟩ = (V2).cell? ⟨b, o, none⟩) (exact sm_of bw_) (first | fail)
     refine exit_genD (R := fun U => Box U V2.heap.size #[.string (wd W 0), .string (wd W 1), i64 N] ∧ UpOf V2 U) ⟨(Box.new V2 _ _).below (Below.drew (Below.refl _ _)), uw_⟩ (fun V3 z => ?_)
     obtain ⟨⟨hp3, hbx⟩, hU3⟩ := z
     have x0 := hbx 0 _ rfl
     have x1 := hbx 1 _ rfl
     have x2 := hbx 2 _ rfl
     have HU3 := hd_ (HU2.out.tr hU3.below)
     have hq3 : q < V3.heap.size := Nat.lt_of_lt_of_le hq HU3.out.below.size
     have q0 := (HU3.out.below.cell (p := ⟨q, 0, none⟩) hq).trans q0
     have q1 := (HU3.out.below.cell (p := ⟨q, 1, none⟩) hq).trans q1
     have q2 := (HU3.out.below.cell (p := ⟨q, 2, none⟩) hq).trans q2
     have f0 := (HU3.out.below.frozen (p := ⟨q, 0, none⟩) hq).trans f0
     have f1 := (HU3.out.below.frozen (p := ⟨q, 1, none⟩) hq).trans f1
     have f2 := (HU3.out.below.frozen (p := ⟨q, 2, none⟩) hq).trans f2
     have HTV3 := hd_ (HTV.out.below HU3.out.below)
     have hpq : ¬ V2.heap.size = q := fun h => by
      have := Nat.lt_of_lt_of_le hq HU2.out.below.size
      omega
     clear d0 d1 hb2 hbx hU3 HU2
     generalize V2.heap.size = p at *
     go_wp2_with (first | (go_at_call 88; refine (HDT.out _ (HTV3.out.below bw_)).mono ?_; rintro e w' ⟨rfl, g, rfl⟩) | ((with_reducible refine wru ?_); (repeat (go_big_quiet_step (fail))); refine wqn fun nq => ?_))
     exact bodyPost_ret (v := .tuple #[drv dr0, .bool false]) (by simp [results, Tryz.results77, go_sem, hq3, q0, q1, q2, dr0]) rfl ⟨by rw [hf.out]; rfl, UpOf.of (Below.sets3d HQ.out (HU.out.below.trans (HU3.out.below.mono HU.out.below.size)) bw_ _ _ _)⟩
    ·have hz := isEmpty_no (s := s) (by omega)
     have hf := hd_ (show rdDrill s = some ⟨wd W 0, wd W 1, N⟩ by
      have hv : vDrill (drOf W) = true := by
       cases hv : vDrill (drOf W)
       ·rw [drText, ← hdo, hv] at hT
        rw [← hTs, ← hT] at h0
        exact absurd rfl h0
       ·rfl
      have : drillB s W = true := drillB_0 h3 hn hv (by rw [drText, ← hdo, hv, if_pos rfl] at hT; rw [hT, hTs])
      rw [hrd, this, if_pos rfl, hdo])
     clear hrd hWs hn hinv hdo hN hT hTs h0
     go_enter Tryz.func77, Tryz.ntmps77
     go_wp2_with fail
     refine cg (R := fun V => Blk V w.heap.size 112 #[.string ⟨#[]⟩, .string ⟨#[]⟩, i64 0] ∧ UpOf w V) ⟨Blk.new _ _ _, uw_⟩ (fun V z => ?_)
     have HTV := hd_ (HT.out.below z.2.below)
     have HU := hd_ z.2
     have q0 := z.1.cell 0
     have q1 := z.1.cell 1
     have q2 := z.1.cell 2
     have f0 := z.1.free 0
     have f1 := z.1.free 1
     have f2 := z.1.free 2
     have hq := z.1.lt
     simp only [List.getElem?_toArray, List.getElem?_cons_zero, List.getElem?_cons_succ] at q0 q1 q2
     clear z
     obtain ⟨q, hqq⟩ : ∃ q, w.heap.size = q := ⟨_, rfl⟩
     have HQ := hd_ (show w.heap.size ≤ q from Nat.le_of_eq hqq)
     rw [hqq] at q0 q1 q2 f0 f1 f2 hq ⊢
     clear hqq
     refine (HW.out _).mono ?_
     rintro e w' ⟨A, c, rfl, o1, g1, rfl⟩
     obtain ⟨b, off, rfl, hb, cw⟩ := wd_at (Rds.of_own o1) (i := 0) (by omega)
     have cw0 := cw 0 (by omega)
     have cw1 := cw 1 (by omega)
     have cw2 := cw 2 (by omega)
     rw [Nat.add_zero] at cw0
     rw [h3]
     clear cw o1 h3 h3'
     go_wp2_with (first | (go_at_call 79; refine (HR.out _ (HTV.out.below bw_)).mono ?_; rintro e w' ⟨rfl, g, rfl⟩) | ((with_reducible refine wru ?_); (repeat (go_big_quiet_step (fail))); refine wqn fun nq => ?_))
     refine wpg (R := fun U => UpOf V U ∧ b < U.heap.size ∧ U.cell? ⟨b, off, none⟩ = some (.string (wd W 0)) ∧ U.cell? ⟨b, off + 1, none⟩ = some (.string (wd W 1))) ⟨uw_, Nat.lt_of_lt_of_le hb (up_below _ _).size, ((up_below (up V g1) g).cell (p := ⟨b, off, none⟩) hb).trans cw0, ((up_below (up V g1) g).cell (p := ⟨b, off + 1, none⟩) hb).trans cw1⟩ (fun V2 z => ?_)
     obtain ⟨z1, hb2, d0, d1⟩ := z
     have HU2 := hd_ z1
     clear z1 cw0 cw1 cw2 hb
     go_region_held3 (fun w' => (V2).heap.size ≤ w'.heap.size ∧ ∀ b o, b < (V2).heap.size → w'.cell? ⟨b, o, none⟩ = (V2).cell? ⟨b, o, none⟩) (exact sm_of bw_) (first | fail)
     refine exit_genD (R := fun U => Box U V2.heap.size #[.string (wd W 0), .string (wd W 1), i64 N] ∧ UpOf V2 U) ⟨(Box.new V2 _ _).below (Below.drew (Below.refl _ _)), uw_⟩ (fun V3 z => ?_)
     obtain ⟨⟨hp3, hbx⟩, hU3⟩ := z
     have x0 := hbx 0 _ rfl
     have x1 := hbx 1 _ rfl
     have x2 := hbx 2 _ rfl
     have HU3 := hd_ (HU2.out.tr hU3.below)
     have hq3 : q < V3.heap.size := Nat.lt_of_lt_of_le hq HU3.out.below.size
     have q0 := (HU3.out.below.cell (p := ⟨q, 0, none⟩) hq).trans q0
     have q1 := (HU3.out.below.cell (p := ⟨q, 1, none⟩) hq).trans q1
     have q2 := (HU3.out.below.cell (p := ⟨q, 2, none⟩) hq).trans q2
     have f0 := (HU3.out.below.frozen (p := ⟨q, 0, none⟩) hq).trans f0
     have f1 := (HU3.out.below.frozen (p := ⟨q, 1, none⟩) hq).trans f1
     have f2 := (HU3.out.below.frozen (p := ⟨q, 2, none⟩) hq).trans f2
     have HTV3 := hd_ (HTV.out.below HU3.out.below)
     have hpq : ¬ V2.heap.size = q := fun h => by
      have := Nat.lt_of_lt_of_le hq HU2.out.below.size
      omega
     clear d0 d1 hb2 hbx hU3 HU2
     generalize V2.heap.size = p at *
     go_wp2_with (first | (go_at_call 88; refine (HDT.out _ (HTV3.out.below bw_)).mono ?_; rintro e w' ⟨rfl, g, rfl⟩) | ((with_reducible refine wru ?_); (repeat (go_big_quiet_step (fail))); refine wqn fun nq => ?_))
     exact bodyPost_ret (v := .tuple #[drv ⟨wd W 0, wd W 1, N⟩, .bool true]) (by simp [results, Tryz.results77, go_sem, hq3, q0, q1, q2]) rfl ⟨by rw [hf.out]; rfl, UpOf.of (Below.sets3d HQ.out (HU.out.below.trans (HU3.out.below.mono HU.out.below.size)) bw_ _ _ _)⟩
   ·have htt := tl_tne hTs
    have htn : (!(T.toList == s.toList)) = true := by rw [htt]; rfl
    have hf := hd_ (show rdDrill s = none by
     cases hv : vDrill (drOf W)
     ·rw [hrd, drillB_3 hv]; rfl
     ·rw [drText, ← hdo, hv, if_pos rfl] at hT
      rw [hrd, drillB_4 (by rw [hT]; exact hTs)]; rfl)
    clear hrd hWs hn hinv hdo hN hT hTs
    go_enter Tryz.func77, Tryz.ntmps77
    go_wp2_with fail
    refine cg (R := fun V => Blk V w.heap.size 112 #[.string ⟨#[]⟩, .string ⟨#[]⟩, i64 0] ∧ UpOf w V) ⟨Blk.new _ _ _, uw_⟩ (fun V z => ?_)
    have HTV := hd_ (HT.out.below z.2.below)
    have HU := hd_ z.2
    have q0 := z.1.cell 0
    have q1 := z.1.cell 1
    have q2 := z.1.cell 2
    have f0 := z.1.free 0
    have f1 := z.1.free 1
    have f2 := z.1.free 2
    have hq := z.1.lt
    simp only [List.getElem?_toArray, List.getElem?_cons_zero, List.getElem?_cons_succ] at q0 q1 q2
    clear z
    obtain ⟨q, hqq⟩ : ∃ q, w.heap.size = q := ⟨_, rfl⟩
    have HQ := hd_ (show w.heap.size ≤ q from Nat.le_of_eq hqq)
    rw [hqq] at q0 q1 q2 f0 f1 f2 hq ⊢
    clear hqq
    refine (HW.out _).mono ?_
    rintro e w' ⟨A, c, rfl, o1, g1, rfl⟩
    obtain ⟨b, off, rfl, hb, cw⟩ := wd_at (Rds.of_own o1) (i := 0) (by omega)
    have cw0 := cw 0 (by omega)
    have cw1 := cw 1 (by omega)
    have cw2 := cw 2 (by omega)
    rw [Nat.add_zero] at cw0
    rw [h3]
    clear cw o1 h3 h3'
    go_wp2_with (first | (go_at_call 79; refine (HR.out _ (HTV.out.below bw_)).mono ?_; rintro e w' ⟨rfl, g, rfl⟩) | ((with_reducible refine wru ?_); (repeat (go_big_quiet_step (fail))); refine wqn fun nq => ?_))
    refine wpg (R := fun U => UpOf V U ∧ b < U.heap.size ∧ U.cell? ⟨b, off, none⟩ = some (.string (wd W 0)) ∧ U.cell? ⟨b, off + 1, none⟩ = some (.string (wd W 1))) ⟨uw_, Nat.lt_of_lt_of_le hb (up_below _ _).size, ((up_below (up V g1) g).cell (p := ⟨b, off, none⟩) hb).trans cw0, ((up_below (up V g1) g).cell (p := ⟨b, off + 1, none⟩) hb).trans cw1⟩ (fun V2 z => ?_)
    obtain ⟨z1, hb2, d0, d1⟩ := z
    have HU2 := hd_ z1
    clear z1 cw0 cw1 cw2 hb
    go_region_held3 (fun w' => (V2).heap.size ≤ w'.heap.size ∧ ∀ b o, b < (V2).heap.size → w'.cell? ⟨b, o, none⟩ = (V2).cell? ⟨b, o, none⟩) (exact sm_of bw_) (first | fail)
    refine exit_genD (R := fun U => Box U V2.heap.size #[.string (wd W 0), .string (wd W 1), i64 N] ∧ UpOf V2 U) ⟨(Box.new V2 _ _).below (Below.drew (Below.refl _ _)), uw_⟩ (fun V3 z => ?_)
    obtain ⟨⟨hp3, hbx⟩, hU3⟩ := z
    have x0 := hbx 0 _ rfl
    have x1 := hbx 1 _ rfl
    have x2 := hbx 2 _ rfl
    have HU3 := hd_ (HU2.out.tr hU3.below)
    have hq3 : q < V3.heap.size := Nat.lt_of_lt_of_le hq HU3.out.below.size
    have q0 := (HU3.out.below.cell (p := ⟨q, 0, none⟩) hq).trans q0
    have q1 := (HU3.out.below.cell (p := ⟨q, 1, none⟩) hq).trans q1
    have q2 := (HU3.out.below.cell (p := ⟨q, 2, none⟩) hq).trans q2
    have f0 := (HU3.out.below.frozen (p := ⟨q, 0, none⟩) hq).trans f0
    have f1 := (HU3.out.below.frozen (p := ⟨q, 1, none⟩) hq).trans f1
    have f2 := (HU3.out.below.frozen (p := ⟨q, 2, none⟩) hq).trans f2
    have HTV3 := hd_ (HTV.out.below HU3.out.below)
    have hpq : ¬ V2.heap.size = q := fun h => by
     have := Nat.lt_of_lt_of_le hq HU2.out.below.size
     omega
    clear d0 d1 hb2 hbx hU3 HU2
    generalize V2.heap.size = p at *
    go_wp2_with (first | (go_at_call 88; refine (HDT.out _ (HTV3.out.below bw_)).mono ?_; rintro e w' ⟨rfl, g, rfl⟩) | ((with_reducible refine wru ?_); (repeat (go_big_quiet_step (fail))); refine wqn fun nq => ?_))
    exact bodyPost_ret (v := .tuple #[drv dr0, .bool false]) (by simp [results, Tryz.results77, go_sem, hq3, q0, q1, q2, dr0]) rfl ⟨by rw [hf.out]; rfl, UpOf.of (Below.sets3d HQ.out (HU.out.below.trans (HU3.out.below.mono HU.out.below.size)) bw_ _ _ _)⟩
 ·have h3' : ((W.length : Int) != 3) = true := by rw [bne_iff_ne]; omega
  have hf := hd_ (show rdDrill s = none by rw [hrd, drillB_1 h3]; rfl)
  clear hrd hWs
  go_enter Tryz.func77, Tryz.ntmps77
  go_wp2_with fail
  refine cg (R := fun V => Blk V w.heap.size 112 #[.string ⟨#[]⟩, .string ⟨#[]⟩, i64 0] ∧ UpOf w V) ⟨Blk.new _ _ _, uw_⟩ (fun V z => ?_)
  have HTV := hd_ (HT.out.below z.2.below)
  have HU := hd_ z.2
  have q0 := z.1.cell 0
  have q1 := z.1.cell 1
  have q2 := z.1.cell 2
  have f0 := z.1.free 0
  have f1 := z.1.free 1
  have f2 := z.1.free 2
  have hq := z.1.lt
  simp only [List.getElem?_toArray, List.getElem?_cons_zero, List.getElem?_cons_succ] at q0 q1 q2
  clear z
  obtain ⟨q, hqq⟩ : ∃ q, w.heap.size = q := ⟨_, rfl⟩
  have HQ := hd_ (show w.heap.size ≤ q from Nat.le_of_eq hqq)
  rw [hqq] at q0 q1 q2 f0 f1 f2 hq ⊢
  clear hqq
  refine (HW.out _).mono ?_
  rintro e w' ⟨A, c, rfl, o1, g1, rfl⟩
  go_wp2_with (first | ((with_reducible refine wru ?_); (repeat (go_big_quiet_step (fail))); refine wqn fun nq => ?_))
  exact bodyPost_ret (v := .tuple #[drv dr0, .bool false]) (by simp [results, Tryz.results77, go_sem, hq, q0, q1, q2, dr0]) rfl ⟨by rw [hf.out]; rfl, UpOf.of (Below.sets3d HQ.out HU.out.below bw_ _ _ _)⟩
theorem el_drl : ElemOf Tryz.prog 29 112 (.agg #[.string ByteArray.empty, .string ByteArray.empty, i64 0]) 3 40 := elem_of Tryz.underlying29 (by kernel_rfl) rfl (by omega)
theorem step_appK {P : Program} {ops : Array Oper} {o : Oper} {a : Act} {w : World} {K : Act → World → Prop} {Q : Exit → Act → World → Prop} {E : Prop} (hgd : o.guard = none) (s x : Operand) (t : TypeId)
  (ho : o.op = .call { callee := .builtin .append, args := #[s, x], argTypes := #[t, t] })
  (W : World) (base : Nat) (e : TypeId) (z : Value) (size bytes : Nat) (el : ElemOf P t e z size bytes)
  (v : Value) (n : Nat) (xs : List Value) (hs : a.eval s = v) (hown : w.ownsRow base e size v n xs)
  (A : Option Addr) (m c : Nat) (news : List Value) (hx : a.eval x = .slice A m c) (hr : Rds w size A m news) (h1 : ∀ u ∈ news, u.oneCell' = true)
  (h63 : n + m ≤ maxLen) (hbytes : (n + m) * bytes ≤ 140737488355328) (hbase : base ≤ w.heap.size) (hW : Below W.heap.size W w) (hWb : W.heap.size ≤ base) {N : Nat} (hN : n + m = N)
  (h : ∀ A' c' (g : Up W), (up W g).ownsRow base e size (.slice A' N c') N (xs ++ news) → (∀ b t cs, Blk w b t cs → some b ≠ v.ownBlock → Blk (up W g) b t cs) → K (a.put o.dst (.slice A' N c')) (up W g)) :
  if Region.wanted o (yielded ops a.tmps) = true then Oper.wp P o a w K Q else E := by
 subst hN
 exact step_app hgd s x t ho base e z size bytes el v n xs hs hown A m c news hx hr h1 h63 hbytes hbase fun A' c' w' h2 h3 => by
  obtain ⟨g, rfl⟩ := own_grown hown hW hWb h3
  exact h A' c' g h2 fun b t cs hb hne => hb.grown h3 hne
theorem blk_new1' (w : World) (o : Obj) (t : TypeId) (cs : Array Value) : Blk ((w.alloc o).alloc (.cells cs t)) (w.heap.size + 1) t cs := by
 have := Blk.new (w.alloc o) t cs
 rwa [World.size_alloc] at this
theorem own_lit1 (w : World) (o : Obj) (e : TypeId) (size base : Nat) (h : base ≤ w.heap.size) : ((w.alloc o).alloc (.cells #[] e)).ownsRow base e size (.slice (some ⟨w.heap.size + 1, 0, none⟩) 0 0) 0 [] := by
 have := World.ownsRow_lit (base := base) (e := e) (size := size) (w.alloc o) #[] 0 (by rw [World.size_alloc]; omega) (by unfold maxLen; omega) (by simp)
 rw [World.size_alloc] at this
 exact this
theorem own_capD {w : World} {base e size n c : Nat} {A : Option Addr} {xs : List Value} (h : w.ownsRow base e size (.slice A n c) n xs) : n ≤ c := by
 obtain ⟨_, ⟨h1, h2⟩ | ⟨g, cap, cur, h1, _, _, h3, _⟩⟩ := h
 ·omega
 ·injection h1 with _ _ h1
  omega
theorem rds_blk {w : World} {b : Nat} {t : TypeId} {cs : Array Value} (h : Blk w b t cs) (sz m : Nat) (hc : cs.size = m * sz) : Rds w sz (some ⟨b, 0, none⟩) m cs.toList :=
 ⟨by simpa using hc, fun _ => ⟨_, _, rfl, h.lt, fun j u hu => by rw [Nat.zero_add, h.cell]; simpa using hu⟩⟩
def drsPost (n : Nat) (xs : List Drill) (c : Int) (w : World) (e : Ending) (w' : World) : Prop :=
 ∃ A' c', e = .returned (.tuple #[.slice A' n c', i64 c]) ∧ n ≤ c' ∧ w'.ownsRow w.heap.size 112 3 (.slice A' n c') n (drcs xs) ∧ UpOf w w'
theorem drcs_snoc (l : List Drill) (d : Drill) : drcs (l ++ [d]) = drcs l ++ [.string d.name, .string d.letters, i64 d.minutes] := by
 simp [drcs, Drill.cells]
theorem own_nil (w : World) (e : TypeId) (sz base : Nat) : w.ownsRow base e sz (.slice none 0 0) 0 [] := ⟨by simp, .inl ⟨rfl, rfl⟩⟩
theorem hasName_no {l : List Drill} {n : ByteArray} (h : ∀ i, i < l.length → (drl l i).name ≠ n) : hasName l n = false := by
 rw [hasName, List.any_eq_false]
 intro x hx
 obtain ⟨i, hi, rfl⟩ := List.getElem_of_mem hx
 have := h i hi
 rw [drl, List.getD_eq_getElem?_getD, List.getElem?_eq_getElem hi] at this
 simpa using this
theorem hasName_yes {l : List Drill} {n : ByteArray} {i : Nat} (hi : i < l.length) (h : (drl l i).name = n) : hasName l n = true := by
 rw [hasName, List.any_eq_true]
 refine ⟨l[i], List.getElem_mem hi, decide_eq_true ?_⟩
 rw [← h, drl, List.getD_eq_getElem?_getD, List.getElem?_eq_getElem hi]; rfl
theorem addDrill_any (A : Option Addr) (c : Nat) (l : List Drill) (d : Drill) (w : World) (h : Rds w 3 A l.length (drcs l)) (hn : l.length ≤ 100000000) (hf : DBd l) (h1 : d.name.size ≤ 100000000) (h2 : d.letters.size ≤ 100000000) :
  Calls Tryz.prog 78 #[.slice A l.length c, drv d] w fun e w' => drsPost (addD l d).1.length (addD l d).1 (addD l d).2 w e w' := by
 have HR := hd_ h
 have HF := hd_ hf
 clear h hf
 cases q1 : vDrills l with
 | false =>
  have hr : addD l d = ([], 1) := by rw [addD, q1]; rfl
  rw [hr]
  go_enter Tryz.func78, Tryz.ntmps78
  go_upto_region 1 with (fail)
  refine wpg (R := fun V => Box V w.heap.size #[.string d.name, .string d.letters, i64 d.minutes] ∧ UpOf w V) ⟨Box.new _ _ _, uw_⟩ (fun V z => ?_)
  obtain ⟨⟨hq, hc⟩, hB⟩ := z
  have c0 := hc 0 _ rfl
  have c1 := hc 1 _ rfl
  have c2 := hc 2 _ rfl
  have HB := hd_ hB
  clear hc hB
  generalize w.heap.size = q at *
  go_wp2_with (first | (go_at_call 67; refine (ret_as (validDrills_any A c l _ ((HR.out.below HB.out.below).below bw_) hn HF.out) q1).mono ?_; rintro e w' ⟨rfl, g, rfl⟩) | ((with_reducible refine wru ?_); (repeat (go_big_quiet_step (fail))); refine wqn fun nq => ?_))
  go_ret2
  refine ⟨none, 0, ?_, Nat.le_refl _, ?_, HB.out.tr bw_⟩
  ·rfl
  ·exact own_nil _ _ _ _
 | true =>
  cases q2 : vDrill d with
  | false =>
   have hr : addD l d = ([], 2) := by rw [addD, q1, q2]; rfl
   rw [hr]
   go_enter Tryz.func78, Tryz.ntmps78
   go_upto_region 1 with (fail)
   refine wpg (R := fun V => Box V w.heap.size #[.string d.name, .string d.letters, i64 d.minutes] ∧ UpOf w V) ⟨Box.new _ _ _, uw_⟩ (fun V z => ?_)
   obtain ⟨⟨hq, hc⟩, hB⟩ := z
   have c0 := hc 0 _ rfl
   have c1 := hc 1 _ rfl
   have c2 := hc 2 _ rfl
   have HB := hd_ hB
   clear hc hB
   generalize w.heap.size = q at *
   go_wp2_with (first | (go_at_call 67; refine (ret_as (validDrills_any A c l _ ((HR.out.below HB.out.below).below bw_) hn HF.out) q1).mono ?_; rintro e w' ⟨rfl, g, rfl⟩) | (go_at_call 119; refine (ret_as (validDrill_any d _ (by omega) (by omega)) q2).mono ?_; rintro e w' ⟨rfl, g, rfl⟩) | ((with_reducible refine wru ?_); (repeat (go_big_quiet_step (fail))); refine wqn fun nq => ?_))
   go_ret2
   refine ⟨none, 0, ?_, Nat.le_refl _, ?_, HB.out.tr bw_⟩
   ·rfl
   ·exact own_nil _ _ _ _
  | true =>
   have hinv := vDrills_inv q1
   have hl10 := hinv.1
   have hnm := hd_ (show ∀ i, i < l.length → (drl l i).name.size ≤ 100000000 from fun i hi => (HF.out i hi).1)
   obtain ⟨R, hR⟩ : ∃ R, addD l d = R := ⟨_, rfl⟩
   have HRR := hd_ (show R = if hasName l d.name then ([], 4) else if l.length = 10 then ([], 5) else (l ++ [d], 0) by rw [← hR, addD, q1, q2, if_pos rfl, if_pos rfl])
   rw [hR]
   clear hR hinv
   go_enter Tryz.func78, Tryz.ntmps78
   go_upto_region 1 with (fail)
   refine wpg (R := fun V => Box V w.heap.size #[.string d.name, .string d.letters, i64 d.minutes] ∧ UpOf w V) ⟨Box.new _ _ _, uw_⟩ (fun V z => ?_)
   obtain ⟨⟨hq, hc⟩, hB⟩ := z
   have c0 := hc 0 _ rfl
   have c1 := hc 1 _ rfl
   have c2 := hc 2 _ rfl
   have HB := hd_ hB
   clear hc hB
   generalize w.heap.size = q at *
   go_wp2_with (first | (go_at_call 67; refine (ret_as (validDrills_any A c l _ ((HR.out.below HB.out.below).below bw_) hn HF.out) q1).mono ?_; rintro e w' ⟨rfl, g, rfl⟩) | (go_at_call 119; refine (ret_as (validDrill_any d _ (by omega) (by omega)) q2).mono ?_; rintro e w' ⟨rfl, g, rfl⟩) | ((with_reducible refine wru ?_); (repeat (go_big_quiet_step (fail))); refine wqn fun nq => ?_))
   clear q1 q2
   refine wpg (R := fun U => UpOf V U) (uw_) (fun V1 z => ?_)
   have HV1 := hd_ (HB.out.tr z.below)
   have c0 := (z.below.cell (p := ⟨q, 0, none⟩) hq).trans c0
   have c1 := (z.below.cell (p := ⟨q, 1, none⟩) hq).trans c1
   have c2 := (z.below.cell (p := ⟨q, 2, none⟩) hq).trans c2
   have hq := Nat.lt_of_lt_of_le hq z.below.size
   clear z
   go_loopw [16] (fun i wr => ∃ k : Nat, k ≤ l.length ∧ i = i64 k ∧ Hid (∀ i, i < k → (drl l i).name ≠ d.name) ∧ ∃ g : Up V1, wr = up V1 g) (fun i _ => l.length - (intOf i).toNat)
   case atStart => exact ⟨0, by omega, rfl, hd_ (fun i hi => by omega), ex_up bw_⟩
   case round =>
    obtain ⟨k, hk, rfl, HK, g, rfl⟩ := hrel
    by_cases hlt : k < l.length
    ·obtain ⟨b, off, rfl, hb, x0, x1, x2⟩ := drl_at ((HR.out.below HV1.out.below).below (up_below V1 g)) hlt
     have f1 := hnm.out k hlt
     by_cases he : (drl l k).name = d.name
     ·have ht := tl_teq he
      have hr := hd_ (show R = ([], 4) by rw [HRR.out, hasName_yes hlt he, if_pos rfl])
      clear he
      go_wp2_with (first | ((with_reducible refine wru ?_); (repeat (go_big_quiet_step (fail))); refine wqn fun nq => ?_))
      go_ret2
      rw [hr.out]
      exact ⟨none, 0, rfl, Nat.le_refl _, own_nil _ _ _ _, HV1.out.tr bw_⟩
     ·have ht := tl_tne he
      have HK2 := hd_ (lt_ext (P := fun j => (drl l j).name ≠ d.name) HK.out he)
      clear he
      go_wp2_with (first | ((with_reducible refine wru ?_); (repeat (go_big_quiet_step (fail))); refine wqn fun nq => ?_))
      go_roundw
      case rel => exact ⟨k + 1, by omega, by go_num, HK2, ex_up bw_⟩
      case measure => simp [intOf]; try omega
    ·obtain rfl : k = l.length := by omega
     have hno := hd_ (hasName_no HK.out)
     by_cases h10 : l.length = 10
     ·have hr := hd_ (show R = ([], 5) by rw [HRR.out, hno.out, if_neg (by simp), if_pos h10])
      have ht : ((l.length : Int) == 10) = true := by rw [beq_iff_eq]; omega
      clear h10
      go_wp2_with (first | ((with_reducible refine wru ?_); (repeat (go_big_quiet_step (fail))); refine wqn fun nq => ?_))
      go_ret2
      rw [hr.out]
      exact ⟨none, 0, rfl, Nat.le_refl _, own_nil _ _ _ _, HV1.out.tr bw_⟩
     ·have hr := hd_ (show R = (l ++ [d], 0) by rw [HRR.out, hno.out, if_neg (by simp), if_neg h10])
      have ht : ((l.length : Int) == 10) = false := by rw [beq_eq_false_iff_ne]; omega
      have hll : l.length ≤ 9 := by omega
      clear h10
      go_wp2_with (first | ((with_reducible refine wru ?_); (repeat (go_big_quiet_step (fail))); refine wqn fun nq => ?_))
      refine wpg (R := fun U => UpOf V1 U) (uw_) (fun V2 z => ?_)
      have HV2 := hd_ (HV1.out.tr z.below)
      have d0 := (z.below.cell (p := ⟨q, 0, none⟩) hq).trans c0
      have d1 := (z.below.cell (p := ⟨q, 1, none⟩) hq).trans c1
      have d2 := (z.below.cell (p := ⟨q, 2, none⟩) hq).trans c2
      have hq2 := Nat.lt_of_lt_of_le hq z.below.size
      have HRd := HR.out.below HV2.out.below
      clear z c0 c1 c2 hq
      go_region_held3 (fun w' => (V2).heap.size ≤ w'.heap.size ∧ ∀ b o, b < (V2).heap.size → w'.cell? ⟨b, o, none⟩ = (V2).cell? ⟨b, o, none⟩) (exact sm_of bw_) (first | (refine step_appK rfl _ _ 29 (by rfl) V2 V2.heap.size 112 _ 3 40 el_drl _ 0 [] (by rfl) (by first | exact (own_lit1 V2 _ _ _ _ (Nat.le_refl _)).drew | exact own_lit1 V2 _ _ _ _ (Nat.le_refl _) | exact World.ownsRow_lit _ #[] 0 (show Below V2.heap.size V2 _ from bw_).size (by unfold maxLen; omega) rfl | exact own_below (World.ownsRow_lit _ #[] 0 (show Below V2.heap.size V2 _ from bw_).size (by unfold maxLen; omega) rfl) bw_) _ l.length _ _ (by rfl) (HRd.below bw_) (dr_one l) (by unfold maxLen; omega) (by omega) (show Below V2.heap.size V2 _ from bw_).size bw_ (Nat.le_refl _) (Nat.zero_add _) ?_; intro A1 c1' g1 o1 k1; simp only [List.nil_append] at o1) | (refine step_appU rfl _ _ 29 (by rfl) V2 V2.heap.size 112 _ 3 40 el_drl _ l.length _ (by rfl) (own_below o1 bw_) _ 1 1 [.string d.name, .string d.letters, i64 d.minutes] (by rfl) (by first | exact rds_new _ _ _ 3 1 rfl | exact (rds_new _ _ _ 3 1 rfl).below bw_ | exact rds_blk (k1 _ 112 #[.string d.name, .string d.letters, i64 d.minutes] (by repeat (first | exact Blk.new _ _ _ | exact blk_new1' _ _ _ _ | refine Blk.drew ?_ | refine Blk.alloc ?_ _)) (by intro hq; injection hq with hq; first | omega | (simp at hq))) 3 1 rfl) (fun u hu => by simp at hu; obtain rfl | rfl | rfl := hu <;> rfl) (by unfold maxLen; omega) (by omega) (show Below V2.heap.size V2 _ from bw_).size bw_ (Nat.le_refl _) ?_; intro A2 c2' g2 o2))
      all_goals
       rw [← drcs_snoc] at o2
       have hL : (l ++ [d]).length = l.length + 1 := by simp
       have O2 := hd_ o2
       clear o1 o2 k1
       go_wp2_with fail
       go_ret2
       rw [hr.out]
       unfold drsPost
       rw [hL]
       exact ⟨A2, c2', rfl, own_capD O2.out, own_mono O2.out HV2.out.below.size, HV2.out.tr (up_below V2 g2)⟩
end Go.Proofs.YtbianlkenallaaaGreatDoor
namespace Go.Proofs.YtbianlkenallaaaGreatDoor
open Go
section
variable {P : Program} {ops : Array Oper} {Q : Exit → Act → World → Prop} {md : Region.Mode} {C : World → Prop} {app : Nat}
def wpAnyT (P : Program) (md : Region.Mode) (ops : Array Oper) (Q : Exit → Act → World → Prop) (C : World → Prop) (app : Nat) : Nat → Array Bool → Act → World → Prop
 | 0, listed, a, w => Region.ready md ops listed = [] ∧ Q .normal a w
 | fuel + 1, listed, a, w =>
  (Region.ready md ops listed = [] → Q .normal a w) ∧
  ∀ i ∈ Region.ready md ops listed, wpOp P ops Q i (fun a' w' => ((listed.setIfInBounds i true).getD app true = false → C w') ∧ wpAnyT P md ops Q C app fuel (listed.setIfInBounds i true) a' w') a w
theorem wpAny_of_T : ∀ (fuel : Nat) (listed : Array Bool) (a : Act) (w : World), wpAnyT P md ops Q C app fuel listed a w → wpAny P md ops Q fuel listed a w
 | 0, _, _, _, h => h
 | fuel + 1, _, _, _, h => ⟨h.1, fun i hi => wpOp_mono (fun a' w' h' => wpAny_of_T fuel _ a' w' h'.2) (h.2 i hi)⟩
theorem wpAnyT_first {S : World → Prop} {Inv : Array Bool → Prop} {i : Nat} {oi : Oper} {v : Value} (hi : ops[i]? = some oi) (hsel : ∀ (j : Nat) (o : Oper) cs b, ops[j]? = some o → o.op ≠ .select cs b)
  (hQ : ∀ c a w, Q (.panic c) (a.put oi.dst v) w → Q (.panic c) a w) (hia : i ≠ app)
  (hCS : ∀ listed w, Inv listed → (listed.getD app true = false → C w) → S w) (hInv : ∀ listed j, Inv listed → listed.getD i true = false → j ≠ i → j ∈ Region.ready md ops listed → Inv (listed.setIfInBounds j true)) :
  ∀ (fuel : Nat) (listed : Array Bool) (a : Act) (w : World),
   (∀ j oj, ops[j]? = some oj → j ≠ i → listed.getD j true = false → (∀ e ∈ oj.after, Region.binds md e = true → e.on ≠ i) → oi.apart ops oj = true) →
   i ∈ Region.ready md ops listed → Inv listed → YieldsIf P ops S oi v a → (listed.getD app true = false → C w) →
   wpAnyT P md ops Q C app fuel (listed.setIfInBounds i true) (a.put oi.dst v) w → wpAnyT P md ops Q C app (fuel + 1) listed a w := by
 intro fuel
 have eqv : ∀ (listed : Array Bool), (listed.setIfInBounds i true).getD app true = false → listed.getD app true = false := fun listed h => by rwa [getD_set_ne true hia] at h
 induction fuel with
 | zero =>
  intro listed a w _ hr hv hy hC H
  refine ⟨fun h => (by rw [h] at hr; cases hr), fun j hj => ?_⟩
  by_cases hji : j = i
  ·subst hji; exact hy.wpOp hi (hCS _ _ hv hC) ⟨fun h => hC (eqv _ h), H⟩
  ·have := ready_mono hj hji
   rw [H.1] at this
   cases this
 | succ fuel ih =>
  intro listed a w hfree hr hv hy hC H
  have hun := (mem_ready.1 hr).1
  refine ⟨fun h => (by rw [h] at hr; cases hr), fun j hj => ?_⟩
  by_cases hji : j = i
  ·subst hji; exact hy.wpOp hi (hCS _ _ hv hC) ⟨fun h => hC (eqv _ h), H⟩
  ·have h1 := H.2 j (ready_mono hj hji)
   obtain ⟨hjun, oj, hoj, hall⟩ := mem_ready.1 hj
   have hnot : ∀ e ∈ oj.after, Region.binds md e = true → e.on ≠ i := fun e he hb heq => by
    have h1 := hall e he hb
    rw [heq, getD_both hun] at h1
    cases h1
   have h2 := wpOp_putIf hoj (hfree j oj hoj hji hjun hnot) (fun cs b => hsel i oi cs b hi) (fun cs b => hsel j oj cs b hoj) hQ hy h1
   have hfree' : ∀ k ok, ops[k]? = some ok → k ≠ i → (listed.setIfInBounds j true).getD k true = false →
     (∀ e ∈ ok.after, Region.binds md e = true → e.on ≠ i) → oi.apart ops ok = true := fun k ok hk hki hun hno => by
    refine hfree k ok hk hki ?_ hno
    by_cases hjk : j = k
    ·subst hjk; exact hjun
    ·rw [getD_set_ne true hjk] at hun; exact hun
   refine wpOp_mono (fun a' w' h3 => ?_) h2
   have hC' : (listed.setIfInBounds j true).getD app true = false → C w' := fun h => h3.2.1 (by
    rw [Array.setIfInBounds_comm _ _ (Ne.symm hji), getD_set_ne true hia]; exact h)
   refine ⟨hC', ih (listed.setIfInBounds j true) a' w' hfree' (ready_mono hr (Ne.symm hji)) (hInv _ _ hv hun hji hj) h3.1 hC' ?_⟩
   rw [Array.setIfInBounds_comm _ _ hji]
   exact h3.2.2
theorem wpAnyT_pure {i : Nat} {oi : Oper} {v : Value} {fuel : Nat} {listed : Array Bool} {a : Act} {w : World} (hi : ops[i]? = some oi)
  (hs : Region.noSelect ops = true) (hf : Region.free md ops listed i = true) (hr : (Region.ready md ops listed).contains i = true) (hia : i ≠ app)
  (hQ : ∀ c a w, Q (.panic c) (a.put oi.dst v) w → Q (.panic c) a w) (hy : YieldsIf P ops (fun _ => True) oi v a) (hC : listed.getD app true = false → C w)
  (h : wpAnyT P md ops Q C app fuel (listed.setIfInBounds i true) (a.put oi.dst v) w) : wpAnyT P md ops Q C app (fuel + 1) listed a w :=
 wpAnyT_first (Inv := fun _ => True) hi (Region.noSelect_spec hs) hQ hia (fun _ _ _ _ => trivial) (fun _ _ _ _ _ _ => trivial) fuel listed a w (Region.free_spec hi hf) (by simpa using hr) trivial hy hC h
theorem wpAnyT_load {i : Nat} {oi : Oper} {v : Value} {fuel : Nat} {listed : Array Bool} {a : Act} {w : World} (hi : ops[i]? = some oi)
  (hs : Region.noSelect ops = true) (hf : Region.free md ops listed i = true) (hr : (Region.ready md ops listed).contains i = true) (hia : i ≠ app) (hw : Region.waitsFor md ops app i = true) (hl : listed.getD app true = false)
  (hQ : ∀ c a w, Q (.panic c) (a.put oi.dst v) w → Q (.panic c) a w) (hy : YieldsIf P ops C oi v a) (hC : C w)
  (h : wpAnyT P md ops Q C app fuel (listed.setIfInBounds i true) (a.put oi.dst v) w) : wpAnyT P md ops Q C app (fuel + 1) listed a w := by
 obtain ⟨oa, hoa, e, he, hb, hon⟩ := Region.waitsFor_spec hw
 refine wpAnyT_first (Inv := fun l => l.getD app true = false) hi (Region.noSelect_spec hs) hQ hia (fun _ _ h1 h2 => h2 h1) (fun l j h1 h2 h3 h4 => ?_) fuel listed a w (Region.free_spec hi hf) (by simpa using hr) hl hy (fun _ => hC) h
 have hja : j ≠ app := fun e9 => by
  subst e9
  obtain ⟨_, oj, hoj, hall⟩ := mem_ready.1 h4
  have : oj = oa := Option.some.inj (hoj.symm.trans hoa)
  subst this
  have h5 := hall e he hb
  rw [hon, getD_both h2] at h5
  cases h5
 rw [getD_set_ne true hja]; exact h1
def AllReadyT (P : Program) (md : Region.Mode) (ops : Array Oper) (Q : Exit → Act → World → Prop) (C : World → Prop) (app : Nat) (fuel : Nat) (listed : Array Bool) (a : Act) (w : World) (rs : List Nat) : Prop :=
 ∀ i ∈ rs, wpOp P ops Q i (fun a' w' => ((listed.setIfInBounds i true).getD app true = false → C w') ∧ wpAnyT P md ops Q C app fuel (listed.setIfInBounds i true) a' w') a w
theorem AllReadyT.nil {fuel : Nat} {listed : Array Bool} {a : Act} {w : World} : AllReadyT P md ops Q C app fuel listed a w [] := fun _ h => by cases h
theorem AllReadyT.cons {fuel : Nat} {listed : Array Bool} {a : Act} {w : World} {i : Nat} {o : Oper} {rs : List Nat} (ho : ops[i]? = some o)
  (h : ∀ K' : Act → World → Prop, Shut (∀ a w, ((listed.setIfInBounds i true).getD app true = false → C w) → wpAnyT P md ops Q C app fuel (listed.setIfInBounds i true) a w → K' a w) → if Region.wanted o (yielded ops a.tmps) = true then Oper.wp P o a w K' Q else K' (a.put o.dst undef) w)
  (hs : AllReadyT P md ops Q C app fuel listed a w rs) : AllReadyT P md ops Q C app fuel listed a w (i :: rs) := fun j hj => by
 rcases List.mem_cons.1 hj with rfl | hj
 ·exact wpOp_step ho (fun K' hK => h K' (fun a w hS hW => hK a w ⟨hS, hW⟩))
 ·exact hs j hj
theorem wpAnyT_ready {rs : List Nat} {fuel : Nat} {listed : Array Bool} {a : Act} {w : World} (hr : Region.ready md ops listed = rs) (hne : rs ≠ [])
  (h : AllReadyT P md ops Q C app fuel listed a w rs) : wpAnyT P md ops Q C app (fuel + 1) listed a w := ⟨fun h0 => absurd (hr ▸ h0) hne, hr ▸ h⟩
theorem wpAnyT_done {listed : Array Bool} {a : Act} {w : World} (hr : Region.ready md ops listed = []) (h : Q .normal a w) : ∀ fuel, wpAnyT P md ops Q C app fuel listed a w
 | 0 => ⟨hr, h⟩
 | _ + 1 => ⟨fun _ => h, by rw [hr]; simp⟩
theorem wp_region_T {id : Nat} {a : Act} {w : World} (C : World → Prop) (app : Nat) (hm : P.follows .mixedOrders = true)
  (h : wpAnyT P .any ops Q C app ops.size (Array.replicate ops.size false) a w.drew) : (Code.region id ops true).wp P Q a w :=
 wp_region_any hm (wpAny_of_T _ _ _ _ h)
theorem wpAnyT_one {i : Nat} {o : Oper} {fuel : Nat} {listed : Array Bool} {a : Act} {w : World} (hr : Region.ready md ops listed = [i]) (ho : ops[i]? = some o)
  (h : ∀ K' : Act → World → Prop, Shut (∀ a w, ((listed.setIfInBounds i true).getD app true = false → C w) → wpAnyT P md ops Q C app fuel (listed.setIfInBounds i true) a w → K' a w) → if Region.wanted o (yielded ops a.tmps) = true then Oper.wp P o a w K' Q else K' (a.put o.dst undef) w) :
  wpAnyT P md ops Q C app (fuel + 1) listed a w := wpAnyT_ready hr (by simp) (AllReadyT.cons ho h AllReadyT.nil)
theorem wpAnyT_gen {fuel : Nat} {listed : Array Bool} {a : Act} {w : World} {R : World → Prop} (st : R w) (h : ∀ V, R V → wpAnyT P md ops Q C app fuel listed a V) : wpAnyT P md ops Q C app fuel listed a w := h w st
theorem wtn {fuel : Nat} {listed L : Array Bool} {a b : Act} {w : World} (h : wpAnyT P md ops Q C app fuel L b w) (hL : listed = L := by (try simp only [Act.put, List.getElem_toArray, List.getElem_cons_succ, List.getElem_cons_zero, List.setIfInBounds_toArray, List.set_cons_zero, List.set_cons_succ]); exact rfl) (hb : a = b := by (try simp only [Act.put, List.getElem_toArray, List.getElem_cons_succ, List.getElem_cons_zero, List.setIfInBounds_toArray, List.set_cons_zero, List.set_cons_succ]); exact rfl) : wpAnyT P md ops Q C app fuel listed a w := by
 subst hL hb
 exact h
theorem wtp (i : Nat) {oi : Oper} {v : Value} {fuel : Nat} {listed L : Array Bool} {a b : Act} {w : World} (hC : listed.getD app true = false → C w) (h : wpAnyT P md ops Q C app fuel L b w) (hi : ops[i]? = some oi := by rfl)
  (hs : Region.noSelect ops = true := by kernel_rfl) (hf : Region.free md ops listed i = true := by kernel_rfl) (hr : (Region.ready md ops listed).contains i = true := by kernel_rfl) (hia : i ≠ app := by decide)
  (hy : YieldsIf P ops (fun _ => True) oi v a := by exact Or.inl ⟨by rfl, by intro w _; go_simp; try (with_reducible rfl)⟩) (hQ : ∀ c a w, Q (.panic c) (a.put oi.dst v) w → Q (.panic c) a w := by exact fun _ _ _ h => h)
  (hL : listed.setIfInBounds i true = L := by (try simp only [Act.put, List.getElem_toArray, List.getElem_cons_succ, List.getElem_cons_zero, List.setIfInBounds_toArray, List.set_cons_zero, List.set_cons_succ]); exact rfl) (hb : a.put oi.dst v = b := by (try simp only [Act.put, List.getElem_toArray, List.getElem_cons_succ, List.getElem_cons_zero, List.setIfInBounds_toArray, List.set_cons_zero, List.set_cons_succ]); exact rfl) : wpAnyT P md ops Q C app (fuel + 1) listed a w := by
 subst hL hb
 exact wpAnyT_pure hi hs hf hr hia hQ hy hC h
theorem tf_ {b : Bool} {p : Prop} (h : b = true := by kernel_rfl) : b = false → p := fun e => by
 rw [h] at e
 cases e
theorem wtl (i : Nat) {oi : Oper} {v : Value} {fuel : Nat} {listed L : Array Bool} {a b : Act} {w : World} (hC : C w) (h : wpAnyT P md ops Q C app fuel L b w) (hi : ops[i]? = some oi := by rfl)
  (hs : Region.noSelect ops = true := by kernel_rfl) (hf : Region.free md ops listed i = true := by kernel_rfl) (hr : (Region.ready md ops listed).contains i = true := by kernel_rfl) (hia : i ≠ app := by decide) (hw : Region.waitsFor md ops app i = true := by kernel_rfl) (hl : listed.getD app true = false := by kernel_rfl)
  (hy : YieldsIf P ops C oi v a := by exact Or.inl ⟨by rfl, by intro w hSw; (try dsimp only at hSw); go_simp; try (with_reducible rfl)⟩) (hQ : ∀ c a w, Q (.panic c) (a.put oi.dst v) w → Q (.panic c) a w := by exact fun _ _ _ h => h)
  (hL : listed.setIfInBounds i true = L := by (try simp only [Act.put, List.getElem_toArray, List.getElem_cons_succ, List.getElem_cons_zero, List.setIfInBounds_toArray, List.set_cons_zero, List.set_cons_succ]); exact rfl) (hb : a.put oi.dst v = b := by (try simp only [Act.put, List.getElem_toArray, List.getElem_cons_succ, List.getElem_cons_zero, List.setIfInBounds_toArray, List.set_cons_zero, List.set_cons_succ]); exact rfl) : wpAnyT P md ops Q C app (fuel + 1) listed a w := by
 subst hL hb
 exact wpAnyT_load hi hs hf hr hia hw hl hQ hy hC h
theorem wto (i : Nat) {o : Oper} {fuel : Nat} {listed : Array Bool} {a : Act} {w : World}
  (h : ∀ K' : Act → World → Prop, Shut (∀ a w, ((listed.setIfInBounds i true).getD app true = false → C w) → wpAnyT P md ops Q C app fuel (listed.setIfInBounds i true) a w → K' a w) → if Region.wanted o (yielded ops a.tmps) = true then Oper.wp P o a w K' Q else K' (a.put o.dst undef) w)
  (hr : Region.ready md ops listed = [i] := by kernel_rfl) (ho : ops[i]? = some o := by rfl) : wpAnyT P md ops Q C app (fuel + 1) listed a w := wpAnyT_one hr ho h
theorem wtd {fuel : Nat} {listed : Array Bool} {a b : Act} {w : World} (h : Q .normal b w) (hr : Region.ready md ops listed = [] := by kernel_rfl) (hb : a = b := by (try simp only [Act.put, List.getElem_toArray, List.getElem_cons_succ, List.getElem_cons_zero, List.setIfInBounds_toArray, List.set_cons_zero, List.set_cons_succ]); exact rfl) : wpAnyT P md ops Q C app fuel listed a w := by
 subst hb
 exact wpAnyT_done hr h fuel
end
end Go.Proofs.YtbianlkenallaaaGreatDoor
namespace Go.Proofs.YtbianlkenallaaaGreatDoor
open Go.RowKit
structure MD (w V : World) (p q : Nat) (x : Array Value) : Prop where
 bx : Blk V p 31 x
 rs : Blk V q 31 zc
 up : UpOf w V
 hp : w.heap.size ≤ p
 hq : w.heap.size ≤ q
 ne : p ≠ q
section
variable {w V V' : World} {p q : Nat} {x : Array Value}
theorem MD.below (h : MD w V p q x) (hb : Below V.heap.size V V') : MD w V' p q x := ⟨h.bx.up ⟨V', hb⟩, h.rs.up ⟨V', hb⟩, h.up.tr hb, h.hp, h.hq, h.ne⟩
theorem MD.new (w : World) (x : Array Value) : MD w ((w.alloc (.cells x 31)).alloc (.cells zc 31)) w.heap.size (w.heap.size + 1) x :=
 ⟨(Blk.new w _ _).alloc _, blk_new1' _ _ _ _, uw_, Nat.le_refl _, by omega, by omega⟩
theorem MD.put (h : MD w V p q x) (i : Nat) (u : Value) : MD w (V.setCell ⟨p, i, none⟩ u) p q (x.setIfInBounds i u) :=
 ⟨h.bx.put i u, h.rs.far (p := ⟨p, i, none⟩) h.ne.symm u, UpOf.of (h.up.below.setCell (p := ⟨p, i, none⟩) h.hp u), h.hp, h.hq, h.ne⟩
theorem Blk.eight {t : TypeId} {x0 x1 x2 x3 x4 x5 x6 x7 : Value} (h : Blk V p t #[x0, x1, x2, x3, x4, x5, x6, x7]) : p < V.heap.size ∧ V.cell? ⟨p, 0, none⟩ = some x0 ∧ V.cell? ⟨p, 1, none⟩ = some x1 ∧ V.cell? ⟨p, 2, none⟩ = some x2 ∧ V.cell? ⟨p, 3, none⟩ = some x3 ∧
  V.cell? ⟨p, 4, none⟩ = some x4 ∧ V.cell? ⟨p, 5, none⟩ = some x5 ∧ V.cell? ⟨p, 6, none⟩ = some x6 ∧ V.cell? ⟨p, 7, none⟩ = some x7 :=
 ⟨h.lt, h.cell 0, h.cell 1, h.cell 2, h.cell 3, h.cell 4, h.cell 5, h.cell 6, h.cell 7⟩
theorem Blk.open8 {t : TypeId} {x : Array Value} (h : Blk V p t x) : V.frozen? ⟨p, 0, none⟩ = false ∧ V.frozen? ⟨p, 1, none⟩ = false ∧ V.frozen? ⟨p, 2, none⟩ = false ∧ V.frozen? ⟨p, 3, none⟩ = false ∧ V.frozen? ⟨p, 4, none⟩ = false ∧ V.frozen? ⟨p, 5, none⟩ = false ∧ V.frozen? ⟨p, 6, none⟩ = false ∧ V.frozen? ⟨p, 7, none⟩ = false :=
 ⟨h.free 0, h.free 1, h.free 2, h.free 3, h.free 4, h.free 5, h.free 6, h.free 7⟩
end
def put8 (V : World) (q : Nat) (u0 u1 u2 u3 u4 u5 u6 u7 : Value) : World := (((((((V.setCell ⟨q, 0, none⟩ u0).setCell ⟨q, 1, none⟩ u1).setCell ⟨q, 2, none⟩ u2).setCell ⟨q, 3, none⟩ u3).setCell ⟨q, 4, none⟩ u4).setCell ⟨q, 5, none⟩ u5).setCell ⟨q, 6, none⟩ u6).setCell ⟨q, 7, none⟩ u7
theorem put8_up {w V : World} {q : Nat} (hu : UpOf w V) (hq : w.heap.size ≤ q) (u0 u1 u2 u3 u4 u5 u6 u7 : Value) : UpOf w ((((((((V.setCell ⟨q, 0, none⟩ u0).setCell ⟨q, 1, none⟩ u1).setCell ⟨q, 2, none⟩ u2).setCell ⟨q, 3, none⟩ u3).setCell ⟨q, 4, none⟩ u4).setCell ⟨q, 5, none⟩ u5).setCell ⟨q, 6, none⟩ u6).setCell ⟨q, 7, none⟩ u7) := by
 have h0 := hu.below.setCell (p := ⟨q, 0, none⟩) hq u0
 have h1 := h0.setCell (p := ⟨q, 1, none⟩) hq u1
 have h2 := h1.setCell (p := ⟨q, 2, none⟩) hq u2
 have h3 := h2.setCell (p := ⟨q, 3, none⟩) hq u3
 have h4 := h3.setCell (p := ⟨q, 4, none⟩) hq u4
 have h5 := h4.setCell (p := ⟨q, 5, none⟩) hq u5
 have h6 := h5.setCell (p := ⟨q, 6, none⟩) hq u6
 exact UpOf.of (h6.setCell (p := ⟨q, 7, none⟩) hq u7)
def mdPost (d : DeskD) (l : List ByteArray) (A B : Option Addr) (c e : Nat) (w : World) (r : Ending) (w' : World) : Prop :=
 ∃ X n, r = .returned (.tuple #[dkv d A B c e, .slice X l.length n]) ∧ w'.ownsRow w.heap.size 9 1 (.slice X l.length n) l.length (strs l) ∧ UpOf w w'
def slLen (v : Value) : Nat := match v with
 | .slice _ n _ => n
 | _ => 0
def spl : Nat → List UInt8 → List ByteArray
 | 0, l => [bs l]
 | m + 1, l => if (cutA 32 [] l).2.2 then (cutA 32 [] l).1 :: spl m (cutA 32 [] l).2.1.data.toList else [bs l]
theorem cutA_no (b : UInt8) : ∀ (l cur : List UInt8), (cutA b cur l).2.2 = false → ∀ c ∈ l, c ≠ b
 | [], _, _ => fun c hc => by cases hc
 | c :: t, cur, h => by
  rw [cutA] at h
  split at h
  ·cases h
  ·rename_i hc
   intro d hd
   rcases List.mem_cons.1 hd with rfl | hd
   ·exact hc
   ·exact cutA_no b t _ h d hd
theorem spl_split : ∀ (m : Nat) (l : List UInt8), spl m l = if m < (splitA 32 [] l).length then (splitA 32 [] l).take m ++ [⟨(joinL 32 ((splitA 32 [] l).drop m)).toArray⟩] else splitA 32 [] l
 | 0, l => by
  have h := List.length_pos_iff.2 (splitA_ne 32 l [])
  rw [spl, if_pos h, List.take_zero, List.drop_zero, join_split, List.nil_append, List.nil_append]
 | m + 1, l => by
  rw [spl]
  cases hc : (cutA 32 [] l).2.2 with
  | false =>
   have h1 := splitA_last l (cutA_no 32 l [] hc)
   rw [if_neg (by simp), h1, if_neg (by simp)]
  | true =>
   rw [if_pos rfl]
   have h1 := cutA_join 32 l [] hc
   have h2 := cutA_free 32 l [] (by simp)
   generalize (cutA 32 [] l).1 = a at *
   generalize (cutA 32 [] l).2.1 = r at *
   rw [List.nil_append] at h1
   rw [← h1, splitA_part _ _ h2, bs_of, spl_split m]
   rw [List.length_cons, List.take_succ_cons, List.drop_succ_cons]
   by_cases hm : m < (splitA 32 [] r.data.toList).length
   ·rw [if_pos hm, if_pos (by omega)]; rfl
   ·rw [if_neg hm, if_neg (by omega)]
theorem spl_size : ∀ (m : Nat) (l : List UInt8), ∀ p ∈ spl m l, p.size ≤ l.length
 | 0, l, p, hp => by rw [spl, List.mem_singleton] at hp; rw [hp, bs_size]; exact Nat.le_refl _
 | m + 1, l, p, hp => by
  rw [spl] at hp
  have h := cutA_size 32 l []
  split at hp
  ·rcases List.mem_cons.1 hp with rfl | hp
   ·simpa using h.1
   ·have := spl_size m _ p hp
    rw [bsz] at this
    omega
  ·rw [List.mem_singleton] at hp; rw [hp, bs_size]; exact Nat.le_refl _
theorem spl_len : ∀ (m : Nat) (l : List UInt8), (spl m l).length ≤ m + 1
 | 0, l => by simp [spl]
 | m + 1, l => by
  rw [spl]
  split
  ·rw [List.length_cons]; have := spl_len m (cutA 32 [] l).2.1.data.toList; omega
  ·simp
theorem splitAt_any (s : ByteArray) (m : Nat) (w : World) (hs : s.size ≤ 1000000000) (hm : m ≤ 1000000000) :
  Calls Tryz.prog 27 #[.string s, .int .i64 ((m : Int) + 1)] w fun e w' => txPost (spl m s.data.toList) w e w' := by
 have hOwn := hd_ (World.ownsRow_lit (base := w.heap.size) (e := 9) (size := 1) w #[] 0 (Nat.le_refl _) (by unfold maxLen; omega) rfl)
 obtain ⟨R, hR⟩ : ∃ R, spl m s.data.toList = R := ⟨_, rfl⟩
 have HR := hd_ hR
 have hRl : Hid (R.length ≤ m + 1) := hd_ (by rw [← hR]; exact spl_len m _)
 rw [hR]
 clear hR
 go_enter Tryz.func27, Tryz.ntmps27
 go_wp2_with fail
 go_loopw [0, 5] (fun t0 t5 wr => ∃ (S : ByteArray) (L : List ByteArray) (A1 : Option Addr) (c1 : Nat), L.length ≤ m ∧ S.size ≤ 1000000000 ∧ t0 = .string S ∧ t5 = .slice A1 L.length c1 ∧ Hid (R = L ++ spl (m - L.length) S.data.toList) ∧ Hid (wr.ownsRow w.heap.size 9 1 (.slice A1 L.length c1) L.length (strs L)) ∧ ∃ g : Up w, wr = up w g) (fun _ t5 _ => m - slLen t5)
 case atStart => exact ⟨s, [], _, _, by simp, hs, rfl, rfl, hd_ (by rw [HR.out.symm]; simp), hd_ hOwn.out, ex_up bw_⟩
 case round =>
  obtain ⟨S, L, A1, c1, hL, hS, rfl, rfl, HE, HO, g, rfl⟩ := hrel
  clear hOwn
  have hLN : L.length ≤ 1000000000 := by omega
  by_cases hlt : L.length < m
  ·have hlt' : (L.length : Int) < (m : Int) := by omega
   have hlt2 : (L.length : Int) + 1 < (m : Int) + 1 := by omega
   obtain ⟨j, hj⟩ : ∃ j, m - L.length = j + 1 := ⟨m - L.length - 1, by omega⟩
   have hcs := cutA_size 32 S.data.toList []
   cases hc : (cutA 32 [] S.data.toList).2.2 with
   | false =>
    obtain ⟨X, hX⟩ : ∃ X, (cutA 32 [] S.data.toList).1 = X := ⟨_, rfl⟩
    obtain ⟨Y, hY⟩ : ∃ Y, (cutA 32 [] S.data.toList).2.1 = Y := ⟨_, rfl⟩
    have HC : Hid (∀ V, Calls Tryz.prog 42 #[.string S, .string ⟨#[32]⟩] V fun e w' => e = .returned (.tuple #[.string X, .string Y, .bool false]) ∧ UpOf V w') := hd_ fun V => by
     have := cut_any S ⟨#[32]⟩ 32 rfl V (by omega)
     rw [hc, hX, hY] at this
     exact this
    have hfin : Hid (R = L ++ [S]) := hd_ (by rw [HE.out, hj, spl, hc, if_neg (by simp), bs_of])
    clear hc hX hY hcs hj HE
    go_wp2_with (first | (go_at_call 42; refine (HC.out _).mono ?_; rintro e w' ⟨rfl, g, rfl⟩) | (at_builtin; go_must (refine wpl_appU rfl _ _ 24 rfl w w.heap.size 9 _ 1 16 el_str (.slice A1 L.length c1) L.length (strs L) rfl (own_below HO.out bw_) _ 1 1 [.string S] rfl (rds_new _ _ _ 1 1 rfl) (fun u hu => by simp at hu; subst hu; rfl) (by unfold maxLen; omega) (by omega) (up_below w _).size bw_ (Nat.le_refl _) ?_; intro A2 c2 g2 o2)))
    go_ret
    refine ⟨A2, c2, ?_, ?_, uw_⟩
    ·rw [hfin.out, List.length_append]; rfl
    ·rw [hfin.out, List.length_append, strs_app]; exact o2
   | true =>
    obtain ⟨X, hX⟩ : ∃ X, (cutA 32 [] S.data.toList).1 = X := ⟨_, rfl⟩
    obtain ⟨Y, hY⟩ : ∃ Y, (cutA 32 [] S.data.toList).2.1 = Y := ⟨_, rfl⟩
    have HC : Hid (∀ V, Calls Tryz.prog 42 #[.string S, .string ⟨#[32]⟩] V fun e w' => e = .returned (.tuple #[.string X, .string Y, .bool true]) ∧ UpOf V w') := hd_ fun V => by
     have := cut_any S ⟨#[32]⟩ 32 rfl V (by omega)
     rw [hc, hX, hY] at this
     exact this
    have hYs : Y.size ≤ 1000000000 := by
     rw [← hY]
     have := hcs.2
     rw [bsz] at this
     omega
    have HE2 : Hid (R = (L ++ [X]) ++ spl (m - (L ++ [X]).length) Y.data.toList) := hd_ (by
     rw [HE.out, hj, spl, hc, if_pos rfl, hX, hY, List.append_assoc, List.length_append]
     have e : m - (L.length + [X].length) = j := by simp; omega
     rw [e]; rfl)
    clear hc hX hY hcs hj HE
    go_wp2_with (first | (go_at_call 42; refine (HC.out _).mono ?_; rintro e w' ⟨rfl, g, rfl⟩) | (at_builtin; go_must (refine wpl_appU rfl _ _ 24 rfl w w.heap.size 9 _ 1 16 el_str (.slice A1 L.length c1) L.length (strs L) rfl (own_below HO.out bw_) _ 1 1 [.string X] rfl (rds_new _ _ _ 1 1 rfl) (fun u hu => by simp at hu; subst hu; rfl) (by unfold maxLen; omega) (by omega) (up_below w _).size bw_ (Nat.le_refl _) ?_; intro A2 c2 g2 o2)))
    refine ⟨⟨Y, L ++ [X], A2, c2, by simp; omega, hYs, rfl, congrArg (fun n => Value.slice A2 n c2) (by simp), HE2, hd_ (by rw [List.length_append, strs_app]; exact o2), ex_up bw_⟩, ?_⟩
    show m - (L.length + 1) < m - L.length
    omega
  ·have hLm : L.length = m := by omega
   have hfin : Hid (R = L ++ [S]) := hd_ (by rw [HE.out, hLm, Nat.sub_self, spl, bs_of])
   have hlt' : ¬ (L.length : Int) < (m : Int) := by omega
   have hlt2 : ¬ (L.length : Int) + 1 < (m : Int) + 1 := by omega
   clear HE hLm
   go_wp2_with (first | (at_builtin; go_must (refine wpl_appU rfl _ _ 24 rfl w w.heap.size 9 _ 1 16 el_str (.slice A1 L.length c1) L.length (strs L) rfl (own_below HO.out bw_) _ 1 1 [.string S] rfl (rds_new _ _ _ 1 1 rfl) (fun u hu => by simp at hu; subst hu; rfl) (by unfold maxLen; omega) (by omega) (up_below w _).size bw_ (Nat.le_refl _) ?_; intro A2 c2 g2 o2)))
   go_ret
   refine ⟨A2, c2, ?_, ?_, uw_⟩
   ·rw [hfin.out, List.length_append]; rfl
   ·rw [hfin.out, List.length_append, strs_app]; exact o2
theorem kind_le (s : ByteArray) : kindOf s ≤ 14 := by
 unfold kindOf
 cases h : cmds.findIdx? fun x => decide (x = s) with
 | none => exact Nat.le_refl _
 | some i =>
  have := (List.findIdx?_eq_some_iff_getElem.1 h).1
  show i ≤ 14
  have h14 : cmds.length = 14 := rfl
  omega
theorem kind_iff (s : ByteArray) {i : Nat} (hi : i < 14) : kindOf s = i ↔ s = wd cmds i := by
 have hnd : ∀ i, i < 14 → ∀ j, j < 14 → wd cmds i = wd cmds j → i = j := by decide
 have h14 : cmds.length = 14 := rfl
 unfold kindOf
 cases h : cmds.findIdx? fun x => decide (x = s) with
 | none =>
  rw [List.findIdx?_eq_none_iff] at h
  constructor
  ·intro he
   have he' : 14 = i := he
   omega
  ·intro he
   have := h (wd cmds i) (by rw [← wd_eq (by omega)]; exact List.getElem_mem (by omega))
   rw [he] at this
   simp at this
 | some j =>
  obtain ⟨hj, h1, _⟩ := List.findIdx?_eq_some_iff_getElem.1 h
  have h1 := of_decide_eq_true h1
  rw [wd_eq hj] at h1
  show j = i ↔ _
  constructor
  ·intro e; rw [← e]; exact h1.symm
  ·intro e
   exact hnd j (by omega) i hi (by rw [h1, e])
theorem kind_test (s : ByteArray) {i : Nat} (hi : i < 14) : (s.toList == (wd cmds i).toList) = decide (kindOf s = i) := by
 by_cases h : kindOf s = i
 ·rw [decide_eq_true h]; exact tl_teq ((kind_iff s hi).1 h)
 ·rw [decide_eq_false h]; exact tl_tne (fun e => h ((kind_iff s hi).2 e))
theorem kind_test2 (s : ByteArray) {i : Nat} (hi : i < 14) : (s.toList == (wd cmds i).data.toList) = decide (kindOf s = i) := by
 rw [← kind_test s hi, ByteArray.toList_eq (wd cmds i)]
theorem kts {s : ByteArray} {k : Nat} (h : kindOf s = k) : ((s.toList == [97, 108, 105, 103, 110]) = decide (k = 0)) ∧ ((s.toList == [98, 97, 115, 107, 101, 116]) = decide (k = 1)) ∧ ((s.toList == [99, 111, 100, 101]) = decide (k = 2)) ∧ ((s.toList == [100, 114, 105, 108, 108]) = decide (k = 3)) ∧ ((s.toList == [100, 114, 105, 108, 108, 115]) = decide (k = 4)) ∧ ((s.toList == [101, 110, 116, 101, 114]) = decide (k = 5)) ∧ ((s.toList == [102, 97, 115, 116]) = decide (k = 6)) ∧ ((s.toList == [108, 105, 110, 101]) = decide (k = 7)) ∧ ((s.toList == [108, 111, 103]) = decide (k = 8)) ∧ ((s.toList == [109, 97, 114, 107]) = decide (k = 9)) ∧ ((s.toList == [114, 111, 119]) = decide (k = 10)) ∧ ((s.toList == [115, 101, 116]) = decide (k = 11)) ∧ ((s.toList == [115, 116, 111, 112, 115]) = decide (k = 12)) ∧ ((s.toList == [119, 97, 105, 116]) = decide (k = 13)) := by
 subst h
 exact ⟨kind_test2 s (i := 0) (by omega), kind_test2 s (i := 1) (by omega), kind_test2 s (i := 2) (by omega), kind_test2 s (i := 3) (by omega), kind_test2 s (i := 4) (by omega), kind_test2 s (i := 5) (by omega), kind_test2 s (i := 6) (by omega), kind_test2 s (i := 7) (by omega), kind_test2 s (i := 8) (by omega), kind_test2 s (i := 9) (by omega), kind_test2 s (i := 10) (by omega), kind_test2 s (i := 11) (by omega), kind_test2 s (i := 12) (by omega), kind_test2 s (i := 13) (by omega)⟩
def wcR (k : Nat) : Int × Bool :=
 if k = 4 ∨ k = 8 then (1, false) else if k = 0 ∨ k = 7 ∨ k = 9 ∨ k = 13 then (3, false) else if k = 5 then (4, false) else if k = 1 then (6, false)
 else if k = 11 then (3, true) else if k = 14 then (0, false) else (2, true)
theorem wordCounts_any (s : ByteArray) (w : World) : Calls Tryz.prog 28 #[.string s] w fun e w' => e = .returned (.tuple #[i64 (wcR (kindOf s)).1, .bool (wcR (kindOf s)).2]) ∧ w = w' := by
 obtain ⟨q0, q1, q2, q3, q4, q5, q6, q7, q8, q9, q10, q11, q12, q13⟩ := kts (s := s) rfl
 have hk := kind_le s
 obtain ⟨k, hkk⟩ : ∃ k, kindOf s = k := ⟨_, rfl⟩
 rw [hkk] at hk q0 q1 q2 q3 q4 q5 q6 q7 q8 q9 q10 q11 q12 q13 ⊢
 clear hkk
 have h15 : k = 0 ∨ k = 1 ∨ k = 2 ∨ k = 3 ∨ k = 4 ∨ k = 5 ∨ k = 6 ∨ k = 7 ∨ k = 8 ∨ k = 9 ∨ k = 10 ∨ k = 11 ∨ k = 12 ∨ k = 13 ∨ k = 14 := by omega
 clear hk
 rcases h15 with rfl | rfl | rfl | rfl | rfl | rfl | rfl | rfl | rfl | rfl | rfl | rfl | rfl | rfl | rfl
 all_goals
  simp only [Nat.reduceEqDiff, eq_self, decide_true, decide_false] at q0 q1 q2 q3 q4 q5 q6 q7 q8 q9 q10 q11 q12 q13
  go_enter Tryz.func28, Tryz.ntmps28
  go_wp2_with fail
  go_ret2
  exact ⟨rfl, rfl⟩
theorem blk_far8 {V : World} {p q : Nat} {t : TypeId} {x : Array Value} (h : Blk V p t x) (hne : p ≠ q) (u0 u1 u2 u3 u4 u5 u6 u7 : Value) : Blk ((((((((V.setCell ⟨q, 0, none⟩ u0).setCell ⟨q, 1, none⟩ u1).setCell ⟨q, 2, none⟩ u2).setCell ⟨q, 3, none⟩ u3).setCell ⟨q, 4, none⟩ u4).setCell ⟨q, 5, none⟩ u5).setCell ⟨q, 6, none⟩ u6).setCell ⟨q, 7, none⟩ u7) p t x := by
 have h0 := h.far (p := ⟨q, 0, none⟩) hne u0
 have h1 := h0.far (p := ⟨q, 1, none⟩) hne u1
 have h2 := h1.far (p := ⟨q, 2, none⟩) hne u2
 have h3 := h2.far (p := ⟨q, 3, none⟩) hne u3
 have h4 := h3.far (p := ⟨q, 4, none⟩) hne u4
 have h5 := h4.far (p := ⟨q, 5, none⟩) hne u5
 have h6 := h5.far (p := ⟨q, 6, none⟩) hne u6
 exact h6.far (p := ⟨q, 7, none⟩) hne u7
theorem blk_put8 {V : World} {q : Nat} {t : TypeId} (h : Blk V q t zc) (u0 u1 u2 u3 u4 u5 u6 u7 : Value) : Blk ((((((((V.setCell ⟨q, 0, none⟩ u0).setCell ⟨q, 1, none⟩ u1).setCell ⟨q, 2, none⟩ u2).setCell ⟨q, 3, none⟩ u3).setCell ⟨q, 4, none⟩ u4).setCell ⟨q, 5, none⟩ u5).setCell ⟨q, 6, none⟩ u6).setCell ⟨q, 7, none⟩ u7) q t #[u0, u1, u2, u3, u4, u5, u6, u7] := by
 have h0 : Blk _ q t #[u0, i64 0, i64 0, i64 0, i64 0, .slice none 0 0, .slice none 0 0, .string ⟨#[]⟩] := h.put 0 u0
 have h1 : Blk _ q t #[u0, u1, i64 0, i64 0, i64 0, .slice none 0 0, .slice none 0 0, .string ⟨#[]⟩] := h0.put 1 u1
 have h2 : Blk _ q t #[u0, u1, u2, i64 0, i64 0, .slice none 0 0, .slice none 0 0, .string ⟨#[]⟩] := h1.put 2 u2
 have h3 : Blk _ q t #[u0, u1, u2, u3, i64 0, .slice none 0 0, .slice none 0 0, .string ⟨#[]⟩] := h2.put 3 u3
 have h4 : Blk _ q t #[u0, u1, u2, u3, u4, .slice none 0 0, .slice none 0 0, .string ⟨#[]⟩] := h3.put 4 u4
 have h5 : Blk _ q t #[u0, u1, u2, u3, u4, u5, .slice none 0 0, .string ⟨#[]⟩] := h4.put 5 u5
 have h6 : Blk _ q t #[u0, u1, u2, u3, u4, u5, u6, .string ⟨#[]⟩] := h5.put 6 u6
 have h7 : Blk _ q t #[u0, u1, u2, u3, u4, u5, u6, u7] := h6.put 7 u7
 exact h7
theorem own_txt {w V : World} (hu : UpOf w V) (s : ByteArray) {n : Nat} (hn : n = V.heap.size) : (V.alloc (.cells #[.string s] 9)).ownsRow w.heap.size 9 1 (.slice (some ⟨n, 0, none⟩) 1 1) 1 (strs [s]) := by
 subst hn
 exact World.ownsRow_lit (base := w.heap.size) (e := 9) (size := 1) V #[.string s] 1 hu.below.size (by unfold maxLen; omega) rfl
abbrev cel8 (U : World) (p : Nat) (d : DeskD) (A B : Option Addr) (c e : Nat) : Prop :=
 U.cell? ⟨p, 0, none⟩ = some (i64 d.b.bars) ∧ U.cell? ⟨p, 1, none⟩ = some (i64 d.b.rise) ∧ U.cell? ⟨p, 2, none⟩ = some (i64 d.b.fall) ∧ U.cell? ⟨p, 3, none⟩ = some (i64 d.b.clr) ∧ U.cell? ⟨p, 4, none⟩ = some (i64 d.b.near) ∧ U.cell? ⟨p, 5, none⟩ = some (.slice A d.stops.length c) ∧ U.cell? ⟨p, 6, none⟩ = some (.slice B d.drills.length e) ∧ U.cell? ⟨p, 7, none⟩ = some (.string d.log)
theorem MD.cel {w V : World} {p q : Nat} {d : DeskD} {A B : Option Addr} {c e : Nat} (h : MD w V p q (dkcs d A B c e)) : cel8 V p d A B c e := h.bx.eight.2
theorem bnNo_any (d : DeskD) (A B : Option Addr) (c e : Nat) (ws : List ByteArray) (W : Option Addr) (wc : Nat) (s : ByteArray) (w : World) (h : Rds w 1 W ws.length (strs ws)) (hn : ws.length ≤ 10000000) (hf : ∀ i, i < ws.length → (wd ws i).size ≤ 100000000) (ht : Tab w) (hno : numsOf ws = none) :
  Calls Tryz.prog 30 #[dkv d A B c e, .string s, .slice W ws.length wc] w fun r w' => mdPost d [errL 7] A B c e w r w' := by
 have HR := hd_ h
 have HF := hd_ hf
 have HT := hd_ ht
 clear h hf ht
 go_enter Tryz.func30, Tryz.ntmps30
 go_upto_region 1 with (fail)
 refine wpg (R := fun V => Hid (MD w V w.heap.size (w.heap.size + 1) (dkcs d A B c e))) (hd_ (MD.new _ _)) (fun V z => ?_)
 generalize hp9 : w.heap.size = p at z ⊢
 generalize hq9 : p + 1 = q at z ⊢
 clear hp9 hq9
 go_wp2_with fail
 refine (readNumbers_any W wc ws _ (HR.out.below z.out.up.below) hn HF.out (HT.out.below z.out.up.below)).mono ?_
 rintro r w' hr
 unfold rnPost at hr
 rw [hno] at hr
 obtain ⟨rfl, g1, rfl⟩ := hr
 have z1 := hd_ (z.out.below (up_below V g1))
 go_upto_region 3 with (fail)
 refine wpg (R := fun U => Hid (MD w U p q (dkcs d A B c e))) z1 (fun U z => ?_)
 have hC : cel8 U.drew p d A B c e := z.out.cel
 refine wp_region_T (fun U => U.cell? ⟨p, 0, none⟩ = some (i64 (d).b.bars) ∧ U.cell? ⟨p, 1, none⟩ = some (i64 (d).b.rise) ∧ U.cell? ⟨p, 2, none⟩ = some (i64 (d).b.fall) ∧ U.cell? ⟨p, 3, none⟩ = some (i64 (d).b.clr) ∧ U.cell? ⟨p, 4, none⟩ = some (i64 (d).b.near) ∧ U.cell? ⟨p, 5, none⟩ = some (.slice A (d).stops.length c) ∧ U.cell? ⟨p, 6, none⟩ = some (.slice B (d).drills.length e) ∧ U.cell? ⟨p, 7, none⟩ = some (.string (d).log)) 2 (by kernel_rfl) ?_
 
 refine wtl 0 (hC) ?_
 refine wto 1 fun K hK => ?_
 go_simp
 go_at_call 70
 refine (report_any 7 _).mono ?_
 rintro r w' ⟨X, n, rfl, ox, gx, rfl⟩
 have z2 := hd_ (z.out.below (V' := up U.drew gx) (bl_up (Below.drew (Below.refl _ _)) gx))
 have OX := hd_ ox
 clear ox
 refine hK.out _ _ (fun _ => z2.out.cel) (wtn ?_)
 clear hK K
 obtain ⟨hqT, r0, r1, r2, r3, r4, r5, r6, r7⟩ := z2.out.rs.eight
 obtain ⟨f0, f1, f2, f3, f4, f5, f6, f7⟩ := z2.out.rs.open8
 refine wto 2 fun K hK => ?_
 go_simp
 refine hK.out _ _ tf_ (wtn ?_)
 clear hK K
 refine wtp 3 tf_ ?_
 refine wtd ?_
 have hqU := z.out.rs.lt
 go_wp2_with fail
 refine bodyPost_ret (v := .tuple #[dkv (d) A B c e, .slice X 1 n]) (by simp [results, Tryz.results30, go_sem, hqT, r0, r1, r2, r3, r4, r5, r6, r7]) rfl ?_
 exact ⟨X, n, rfl, own_mono (own_all OX.out hqU _ _ _ _ _ _ _ _) z.out.up.below.size, put8_up z2.out.up z2.out.hq _ _ _ _ _ _ _ _⟩
structure M3 (w V : World) (p q r : Nat) (x y : Array Value) : Prop where
 a : MD w V p q x
 b : MD w V r q y
 ne : p ≠ r
theorem M3.below {w V V' : World} {p q r : Nat} {x y : Array Value} (h : M3 w V p q r x y) (hb : Below V.heap.size V V') : M3 w V' p q r x y := ⟨h.a.below hb, h.b.below hb, h.ne⟩
theorem M3.put {w V : World} {p q r : Nat} {x y : Array Value} (h : M3 w V p q r x y) (i : Nat) (u : Value) : M3 w (V.setCell ⟨r, i, none⟩ u) p q r x (y.setIfInBounds i u) :=
 ⟨⟨h.a.bx.far (p := ⟨r, i, none⟩) h.ne u, (h.b.put i u).rs, (h.b.put i u).up, h.a.hp, h.a.hq, h.a.ne⟩, h.b.put i u, h.ne⟩
theorem M3.new {w V : World} {p q : Nat} {x : Array Value} (h : MD w V p q x) : M3 w (V.alloc (.cells x 31)) p q V.heap.size x x :=
 ⟨h.below bw_, ⟨Blk.new V _ _, h.rs.alloc _, h.up.tr bw_, h.up.below.size, h.hq, Nat.ne_of_gt h.rs.lt⟩, Nat.ne_of_lt h.bx.lt⟩
def bskOf (l : List Int) : Bsk := ⟨num l 0, num l 1, num l 2, num l 3, num l 4⟩
theorem settingB_any (d : DeskD) (A B : Option Addr) (c e : Nat) (l : List Int) (N : Option Addr) (nc : Nat) (s : ByteArray) (w : World) (h : DSee w d A B) (hz : DkSz d e) (ht : Tab w) (hv : vDesk d = true) (hl : Rds w 1 N l.length (ics l)) (h5 : l.length = 5) (hk : kindOf s = 1) :
  Calls Tryz.prog 73 #[dkv d A B c e, .string s, .slice N l.length nc] w fun r w' =>
   if vBsk (bskOf l) then mdPost { d with b := bskOf l } [dkText { d with b := bskOf l }] A B c e w r w' else mdPost d [errL 1] A B c e w r w' := by
 have HS := hd_ h
 have HZ := hd_ hz
 have HT := hd_ ht
 have HV := hd_ (vDesk_inv hv)
 have qk : (s.toList == [98, 97, 115, 107, 101, 116]) = true := by
  have := kind_test2 s (i := 1) (by omega)
  rw [hk] at this
  exact this
 obtain ⟨b, off, rfl, hb, hc⟩ := hl.at (by omega)
 have hnc : ∀ i, i < 5 → w.cell? ⟨b, off + i, none⟩ = some (i64 (num l i)) := fun i hi => hc i _ (by rw [ics, List.getElem?_map, List.getElem?_eq_getElem (by omega), num_eq (by omega)]; rfl)
 have HN := hd_ hnc
 clear h hz ht hv hk hl hc hnc
 obtain ⟨D, hD⟩ : ∃ D : DeskD, { d with b := bskOf l } = D := ⟨_, rfl⟩
 have HD := hd_ hD
 have hDs : D.stops = d.stops := by rw [← hD]
 have hDl : D.drills = d.drills := by rw [← hD]
 have hDb : bskOf l = D.b := by rw [← hD]
 have hDg : D.log = d.log := by rw [← hD]
 have HSD : Hid (∀ V, Below w.heap.size w V → DSee V D A B) := hd_ fun V hV => by
  have := HS.out.below hV
  unfold DSee
  rw [hDs, hDl]
  exact this
 have HZD : Hid (DkSz D e) := hd_ ⟨by rw [hDs]; exact HZ.out.s, by rw [hDl]; exact HZ.out.n, by rw [hDl]; exact HZ.out.b, by rw [hDg]; exact HZ.out.l, by rw [hDl]; exact HZ.out.c⟩
 have HVD : Hid (vStops D.stops = true) := hd_ (by rw [hDs]; exact HV.out.2.1)
 rw [hD, hDb]
 clear hD hDs hDl hDb hDg
 cases q1 : vBsk D.b with
 | false =>
  show Calls _ _ _ _ fun r w' => mdPost d [errL 1] A B c e w r w'
  rw [h5]
  go_enter Tryz.func73, Tryz.ntmps73
  go_upto_region 1 with (fail)
  refine wpg (R := fun V => Hid (MD w V w.heap.size (w.heap.size + 1) (dkcs d A B c e))) (hd_ (MD.new _ _)) (fun V z => ?_)
  generalize hp9 : w.heap.size = p at z ⊢
  generalize hq9 : p + 1 = q at z ⊢
  clear hp9 hq9
  obtain ⟨hpV, x0, x1, x2, x3, x4, x5, x6, x7⟩ := z.out.bx.eight
  go_upto_region 2 with (fail)
  refine wpg (R := fun U => Hid (M3 w U p q V.heap.size (dkcs d A B c e) (dkcs d A B c e))) (hd_ (M3.new z.out)) (fun U y => ?_)
  clear z x0 x1 x2 x3 x4 x5 x6 x7 hpV
  generalize V.heap.size = r at *
  go_upto_region 3 with (fail)
  have hbU := Nat.lt_of_lt_of_le hb y.out.a.up.below.size
  have n0 := (y.out.a.up.below.cell (p := ⟨b, off + 0, none⟩) hb).trans (HN.out 0 (by omega))
  have n1 := (y.out.a.up.below.cell (p := ⟨b, off + 1, none⟩) hb).trans (HN.out 1 (by omega))
  have n2 := (y.out.a.up.below.cell (p := ⟨b, off + 2, none⟩) hb).trans (HN.out 2 (by omega))
  have n3 := (y.out.a.up.below.cell (p := ⟨b, off + 3, none⟩) hb).trans (HN.out 3 (by omega))
  have n4 := (y.out.a.up.below.cell (p := ⟨b, off + 4, none⟩) hb).trans (HN.out 4 (by omega))
  rw [Nat.add_zero] at n0
  obtain ⟨hrU, x0, x1, x2, x3, x4, x5, x6, x7⟩ := y.out.b.bx.eight
  obtain ⟨f0, f1, f2, f3, f4, f5, f6, f7⟩ := y.out.b.bx.open8
  go_still_tail 17, (by kernel_rfl)
  change wpList _ _ _ _ _ (World.drew _)
  go_upto_region 5 with (fail)
  have y5 := hd_ (((((y.out.put 0 (i64 (num l 0))).put 1 (i64 (num l 1))).put 2 (i64 (num l 2))).put 3 (i64 (num l 3))).put 4 (i64 (num l 4)))
  refine wpg (R := fun T => Hid (M3 w T p q r (dkcs d A B c e) (dkcs D A B c e))) (hd_ (by
   rw [← HD.out]
   exact y5.out.below (V' := World.drew _) (Below.drew (Below.refl _ _)))) (fun T t => ?_)
  clear x0 x1 x2 x3 x4 x5 x6 x7 f0 f1 f2 f3 f4 f5 f6 f7 n0 n1 n2 n3 n4 hrU hbU y y5
  obtain ⟨hrT, x0, x1, x2, x3, x4, x5, x6, x7⟩ := t.out.b.bx.eight
  go_upto_region 6 with (go_at_call 65; refine (ret_as (validBasket_any D.b _) q1).mono ?_; rintro e w' ⟨rfl, g, rfl⟩)
  refine wpg (R := fun U => Hid (MD w U p q (dkcs d A B c e))) (hd_ (t.out.a.below bw_)) (fun U z => ?_)
  clear x0 x1 x2 x3 x4 x5 x6 x7 t hrT
  have hC : cel8 U.drew p d A B c e := z.out.cel
  refine wp_region_T (fun U => U.cell? ⟨p, 0, none⟩ = some (i64 (d).b.bars) ∧ U.cell? ⟨p, 1, none⟩ = some (i64 (d).b.rise) ∧ U.cell? ⟨p, 2, none⟩ = some (i64 (d).b.fall) ∧ U.cell? ⟨p, 3, none⟩ = some (i64 (d).b.clr) ∧ U.cell? ⟨p, 4, none⟩ = some (i64 (d).b.near) ∧ U.cell? ⟨p, 5, none⟩ = some (.slice A (d).stops.length c) ∧ U.cell? ⟨p, 6, none⟩ = some (.slice B (d).drills.length e) ∧ U.cell? ⟨p, 7, none⟩ = some (.string (d).log)) 2 (by kernel_rfl) ?_
  
  refine wtl 0 (hC) ?_
  refine wto 1 fun K hK => ?_
  go_simp
  go_at_call 70
  refine (report_any 1 _).mono ?_
  rintro r w' ⟨X, n, rfl, ox, gx, rfl⟩
  have z2 := hd_ (z.out.below (V' := up U.drew gx) (bl_up (Below.drew (Below.refl _ _)) gx))
  have OX := hd_ ox
  clear ox
  refine hK.out _ _ (fun _ => z2.out.cel) (wtn ?_)
  clear hK K
  obtain ⟨hqT, r0, r1, r2, r3, r4, r5, r6, r7⟩ := z2.out.rs.eight
  obtain ⟨f0, f1, f2, f3, f4, f5, f6, f7⟩ := z2.out.rs.open8
  refine wto 2 fun K hK => ?_
  go_simp
  refine hK.out _ _ tf_ (wtn ?_)
  clear hK K
  refine wtp 3 tf_ ?_
  refine wtd ?_
  have hqU := z.out.rs.lt
  go_wp2_with fail
  refine bodyPost_ret (v := .tuple #[dkv (d) A B c e, .slice X 1 n]) (by simp [results, Tryz.results73, go_sem, hqT, r0, r1, r2, r3, r4, r5, r6, r7]) rfl ?_
  exact ⟨X, n, rfl, own_mono (own_all OX.out hqU _ _ _ _ _ _ _ _) z.out.up.below.size, put8_up z2.out.up z2.out.hq _ _ _ _ _ _ _ _⟩
 | true =>
  show Calls _ _ _ _ fun r w' => mdPost D [dkText D] A B c e w r w'
  rw [h5]
  go_enter Tryz.func73, Tryz.ntmps73
  go_upto_region 1 with (fail)
  refine wpg (R := fun V => Hid (MD w V w.heap.size (w.heap.size + 1) (dkcs d A B c e))) (hd_ (MD.new _ _)) (fun V z => ?_)
  generalize hp9 : w.heap.size = p at z ⊢
  generalize hq9 : p + 1 = q at z ⊢
  clear hp9 hq9
  obtain ⟨hpV, x0, x1, x2, x3, x4, x5, x6, x7⟩ := z.out.bx.eight
  go_upto_region 2 with (fail)
  refine wpg (R := fun U => Hid (M3 w U p q V.heap.size (dkcs d A B c e) (dkcs d A B c e))) (hd_ (M3.new z.out)) (fun U y => ?_)
  clear z x0 x1 x2 x3 x4 x5 x6 x7 hpV
  generalize V.heap.size = r at *
  go_upto_region 3 with (fail)
  have hbU := Nat.lt_of_lt_of_le hb y.out.a.up.below.size
  have n0 := (y.out.a.up.below.cell (p := ⟨b, off + 0, none⟩) hb).trans (HN.out 0 (by omega))
  have n1 := (y.out.a.up.below.cell (p := ⟨b, off + 1, none⟩) hb).trans (HN.out 1 (by omega))
  have n2 := (y.out.a.up.below.cell (p := ⟨b, off + 2, none⟩) hb).trans (HN.out 2 (by omega))
  have n3 := (y.out.a.up.below.cell (p := ⟨b, off + 3, none⟩) hb).trans (HN.out 3 (by omega))
  have n4 := (y.out.a.up.below.cell (p := ⟨b, off + 4, none⟩) hb).trans (HN.out 4 (by omega))
  rw [Nat.add_zero] at n0
  obtain ⟨hrU, x0, x1, x2, x3, x4, x5, x6, x7⟩ := y.out.b.bx.eight
  obtain ⟨f0, f1, f2, f3, f4, f5, f6, f7⟩ := y.out.b.bx.open8
  go_still_tail 17, (by kernel_rfl)
  change wpList _ _ _ _ _ (World.drew _)
  go_upto_region 5 with (fail)
  have y5 := hd_ (((((y.out.put 0 (i64 (num l 0))).put 1 (i64 (num l 1))).put 2 (i64 (num l 2))).put 3 (i64 (num l 3))).put 4 (i64 (num l 4)))
  refine wpg (R := fun T => Hid (M3 w T p q r (dkcs d A B c e) (dkcs D A B c e))) (hd_ (by
   rw [← HD.out]
   exact y5.out.below (V' := World.drew _) (Below.drew (Below.refl _ _)))) (fun T t => ?_)
  clear x0 x1 x2 x3 x4 x5 x6 x7 f0 f1 f2 f3 f4 f5 f6 f7 n0 n1 n2 n3 n4 hrU hbU y y5
  obtain ⟨hrT, x0, x1, x2, x3, x4, x5, x6, x7⟩ := t.out.b.bx.eight
  go_upto_region 7 with (first | (go_at_call 65; refine (ret_as (validBasket_any D.b _) q1).mono ?_; rintro e w' ⟨rfl, g, rfl⟩) | (go_at_call 66; refine (ret_as (validStops_any A c D.stops _ ((HSD.out _ (t.out.a.up.tr bw_).below).1) HZD.out.s) HVD.out).mono ?_; rintro e w' ⟨rfl, g, rfl⟩))
  refine wpg (R := fun U => Hid (MD w U r q (dkcs D A B c e))) (hd_ (t.out.b.below bw_)) (fun U z => ?_)
  clear x0 x1 x2 x3 x4 x5 x6 x7 t hrT
  generalize p = p0 at *
  generalize r = p at *
  have hC : cel8 U.drew p D A B c e := z.out.cel
  refine wp_region_T (fun U => U.cell? ⟨p, 0, none⟩ = some (i64 (D).b.bars) ∧ U.cell? ⟨p, 1, none⟩ = some (i64 (D).b.rise) ∧ U.cell? ⟨p, 2, none⟩ = some (i64 (D).b.fall) ∧ U.cell? ⟨p, 3, none⟩ = some (i64 (D).b.clr) ∧ U.cell? ⟨p, 4, none⟩ = some (i64 (D).b.near) ∧ U.cell? ⟨p, 5, none⟩ = some (.slice A (D).stops.length c) ∧ U.cell? ⟨p, 6, none⟩ = some (.slice B (D).drills.length e) ∧ U.cell? ⟨p, 7, none⟩ = some (.string (D).log)) 5 (by kernel_rfl) ?_
  
  refine wtl 0 (hC) ?_
  refine wtl 1 (hC) ?_
  refine wto 2 fun K hK => ?_
  go_simp
  go_at_call 11
  refine (deskTextI_any D A B c e _ (HSD.out _ (z.out.up.tr bw_).below) HZD.out (HT.out.below (z.out.up.tr bw_).below)).mono ?_
  rintro r w' ⟨rfl, gx, rfl⟩
  have z2 := hd_ (z.out.below (V' := up U.drew gx) (bl_up (Below.drew (Below.refl _ _)) gx))
  refine hK.out _ _ (fun _ => z2.out.cel) (wtn ?_)
  clear hK K
  have hqU := z2.out.rs.lt
  have HLE := hd_ z2.out.up.below.size
  obtain ⟨hqT, r0, r1, r2, r3, r4, r5, r6, r7⟩ := z2.out.rs.eight
  obtain ⟨f0, f1, f2, f3, f4, f5, f6, f7⟩ := z2.out.rs.open8
  refine wpAnyT_ready (rs := [3, 4]) (by kernel_rfl) (by simp) (AllReadyT.cons rfl (fun K hK => ?_) (AllReadyT.cons rfl (fun K hK => ?_) AllReadyT.nil))
  ·go_simp
   have z3 := hd_ (z2.out.below (V' := (up U.drew gx).alloc (.cells #[.string (dkText (D))] 9)) bw_)
   have OX := hd_ (World.ownsRow_lit (base := (up U.drew gx).heap.size) (e := 9) (size := 1) (up U.drew gx) #[.string (dkText (D))] 1 (Nat.le_refl _) (by unfold maxLen; omega) rfl)
   refine hK.out _ _ (fun _ => z3.out.cel) (wtn ?_)
   clear hK K
   refine wto 4 fun K hK => ?_
   go_simp
   refine hK.out _ _ (fun _ => (blk_far8 z3.out.bx z3.out.ne _ _ _ _ _ _ _ _).eight.2) (wtn ?_)
   clear hK K
   refine wto 5 fun K hK => ?_
   go_simp
   refine hK.out _ _ tf_ (wtn ?_)
   clear hK K
   refine wtd ?_
   go_wp2_with fail
   refine post_gen (R := fun W => Blk W q 31 (dkcs (D) A B c e) ∧ W.ownsRow w.heap.size 9 1 (.slice (some ⟨(up U.drew gx).heap.size, 0, none⟩) 1 1) 1 (strs [dkText (D)]) ∧ UpOf w W) ⟨blk_put8 z3.out.rs _ _ _ _ _ _ _ _, own_mono (own_all OX.out hqU _ _ _ _ _ _ _ _) HLE.out, put8_up z3.out.up z3.out.hq _ _ _ _ _ _ _ _⟩ (fun W st => ?_)
   obtain ⟨s1, s2, s3⟩ := st
   obtain ⟨hqW, w0, w1, w2, w3, w4, w5, w6, w7⟩ := s1.eight
   clear s1 r0 r1 r2 r3 r4 r5 r6 r7 f0 f1 f2 f3 f4 f5 f6 f7
   exact bodyPost_ret (v := .tuple #[dkv (D) A B c e, .slice (some ⟨(up U.drew gx).heap.size, 0, none⟩) 1 1]) (by simp [results, Tryz.results73, go_sem, hqW, w0, w1, w2, w3, w4, w5, w6, w7]) rfl ⟨_, _, rfl, s2, s3⟩
  ·go_simp
   refine hK.out _ _ (fun _ => (blk_far8 z2.out.bx z2.out.ne _ _ _ _ _ _ _ _).eight.2) (wtn ?_)
   clear hK K
   refine wto 3 fun K hK => ?_
   go_simp
   refine hK.out _ _ (fun _ => ((blk_far8 z2.out.bx z2.out.ne _ _ _ _ _ _ _ _).alloc _).eight.2) (wtn ?_)
   clear hK K
   refine wto 5 fun K hK => ?_
   go_simp
   refine hK.out _ _ tf_ (wtn ?_)
   clear hK K
   refine wtd ?_
   go_wp2_with fail
   refine post_gen (R := fun W => Blk W q 31 (dkcs (D) A B c e) ∧ W.ownsRow w.heap.size 9 1 (.slice (some ⟨(up U.drew gx).heap.size, 0, none⟩) 1 1) 1 (strs [dkText (D)]) ∧ UpOf w W) ⟨(blk_put8 z2.out.rs _ _ _ _ _ _ _ _).alloc _, own_txt (put8_up z2.out.up z2.out.hq _ _ _ _ _ _ _ _) (dkText (D)) (by simp only [World.size_setCell]), (put8_up z2.out.up z2.out.hq _ _ _ _ _ _ _ _).tr ((Below.refl _ _).alloc (Nat.le_refl _) _)⟩ (fun W st => ?_)
   obtain ⟨s1, s2, s3⟩ := st
   obtain ⟨hqW, w0, w1, w2, w3, w4, w5, w6, w7⟩ := s1.eight
   clear s1 r0 r1 r2 r3 r4 r5 r6 r7 f0 f1 f2 f3 f4 f5 f6 f7
   exact bodyPost_ret (v := .tuple #[dkv (D) A B c e, .slice (some ⟨(up U.drew gx).heap.size, 0, none⟩) 1 1]) (by simp [results, Tryz.results73, go_sem, hqW, w0, w1, w2, w3, w4, w5, w6, w7]) rfl ⟨_, _, rfl, s2, s3⟩
theorem settingS_any (d : DeskD) (A B : Option Addr) (c e : Nat) (l : List Int) (N : Option Addr) (nc : Nat) (s : ByteArray) (w : World) (h : DSee w d A B) (hz : DkSz d e) (ht : Tab w) (hv : vDesk d = true) (hl : Rds w 1 N l.length (ics l)) (hln : l.length ≤ 100000000) (hk : kindOf s = 12) :
  Calls Tryz.prog 73 #[dkv d A B c e, .string s, .slice N l.length nc] w fun r w' =>
   if vStops l then mdPost { d with stops := l } [dkText { d with stops := l }] N B nc e w r w' else mdPost d [errL 1] A B c e w r w' := by
 have HS := hd_ h
 have HZ := hd_ hz
 have HT := hd_ ht
 have HV := hd_ (vDesk_inv hv)
 have HL := hd_ hl
 have qk : (s.toList == [98, 97, 115, 107, 101, 116]) = false := by
  have := kind_test2 s (i := 1) (by omega)
  rw [hk] at this
  exact this
 obtain ⟨D, hD⟩ : ∃ D : DeskD, { d with stops := l } = D := ⟨_, rfl⟩
 have HD := hd_ hD
 have hDs : D.stops = l := by rw [← hD]
 have hDl : D.drills = d.drills := by rw [← hD]
 have hDb : D.b = d.b := by rw [← hD]
 have hDg : D.log = d.log := by rw [← hD]
 have HSD : Hid (∀ V, Below w.heap.size w V → DSee V D N B) := hd_ fun V hV => by
  unfold DSee
  rw [hDs, hDl]
  exact ⟨HL.out.below hV, (HS.out.below hV).2⟩
 have HZD : Hid (DkSz D e) := hd_ ⟨by rw [hDs]; exact hln, by rw [hDl]; exact HZ.out.n, by rw [hDl]; exact HZ.out.b, by rw [hDg]; exact HZ.out.l, by rw [hDl]; exact HZ.out.c⟩
 have HBD : Hid (vBsk D.b = true) := hd_ (by rw [hDb]; exact HV.out.1)
 have HLS := hd_ hDs
 rw [hD]
 clear hD hDs hDl hDb hDg h hz ht hv hk hl
 cases q1 : vStops l with
 | false =>
  show Calls _ _ _ _ fun r w' => mdPost d [errL 1] A B c e w r w'
  go_enter Tryz.func73, Tryz.ntmps73
  go_upto_region 1 with (fail)
  refine wpg (R := fun V => Hid (MD w V w.heap.size (w.heap.size + 1) (dkcs d A B c e))) (hd_ (MD.new _ _)) (fun V z => ?_)
  generalize hp9 : w.heap.size = p at z ⊢
  generalize hq9 : p + 1 = q at z ⊢
  clear hp9 hq9
  obtain ⟨hpV, x0, x1, x2, x3, x4, x5, x6, x7⟩ := z.out.bx.eight
  go_upto_region 2 with (fail)
  refine wpg (R := fun U => Hid (M3 w U p q V.heap.size (dkcs d A B c e) (dkcs d A B c e))) (hd_ (M3.new z.out)) (fun U y => ?_)
  clear z x0 x1 x2 x3 x4 x5 x6 x7 hpV
  generalize V.heap.size = r at *
  obtain ⟨hrU, x0, x1, x2, x3, x4, x5, x6, x7⟩ := y.out.b.bx.eight
  obtain ⟨f0, f1, f2, f3, f4, f5, f6, f7⟩ := y.out.b.bx.open8
  go_upto_region 5 with (fail)
  have y5 := hd_ (y.out.put 5 (.slice N l.length nc))
  refine wpg (R := fun T => Hid (M3 w T p q r (dkcs d A B c e) (dkcs D N B nc e))) (hd_ (by
   rw [← HD.out]
   exact y5.out)) (fun T t => ?_)
  clear x0 x1 x2 x3 x4 x5 x6 x7 f0 f1 f2 f3 f4 f5 f6 f7 hrU y y5
  obtain ⟨hrT, x0, x1, x2, x3, x4, x5, x6, x7⟩ := t.out.b.bx.eight
  rw [← HLS.out] at q1
  go_upto_region 6 with (first | (go_at_call 65; refine (ret_as (validBasket_any D.b _) HBD.out).mono ?_; rintro e w' ⟨rfl, g, rfl⟩) | (go_at_call 66; refine (ret_as (validStops_any N nc D.stops _ ((HSD.out _ (t.out.a.up.tr bw_).below).1) HZD.out.s) q1).mono ?_; rintro e w' ⟨rfl, g, rfl⟩))
  refine wpg (R := fun U => Hid (MD w U p q (dkcs d A B c e))) (hd_ (t.out.a.below bw_)) (fun U z => ?_)
  clear x0 x1 x2 x3 x4 x5 x6 x7 t hrT
  have hC : cel8 U.drew p d A B c e := z.out.cel
  refine wp_region_T (fun U => U.cell? ⟨p, 0, none⟩ = some (i64 (d).b.bars) ∧ U.cell? ⟨p, 1, none⟩ = some (i64 (d).b.rise) ∧ U.cell? ⟨p, 2, none⟩ = some (i64 (d).b.fall) ∧ U.cell? ⟨p, 3, none⟩ = some (i64 (d).b.clr) ∧ U.cell? ⟨p, 4, none⟩ = some (i64 (d).b.near) ∧ U.cell? ⟨p, 5, none⟩ = some (.slice A (d).stops.length c) ∧ U.cell? ⟨p, 6, none⟩ = some (.slice B (d).drills.length e) ∧ U.cell? ⟨p, 7, none⟩ = some (.string (d).log)) 2 (by kernel_rfl) ?_
  
  refine wtl 0 (hC) ?_
  refine wto 1 fun K hK => ?_
  go_simp
  go_at_call 70
  refine (report_any 1 _).mono ?_
  rintro r w' ⟨X, n, rfl, ox, gx, rfl⟩
  have z2 := hd_ (z.out.below (V' := up U.drew gx) (bl_up (Below.drew (Below.refl _ _)) gx))
  have OX := hd_ ox
  clear ox
  refine hK.out _ _ (fun _ => z2.out.cel) (wtn ?_)
  clear hK K
  obtain ⟨hqT, r0, r1, r2, r3, r4, r5, r6, r7⟩ := z2.out.rs.eight
  obtain ⟨f0, f1, f2, f3, f4, f5, f6, f7⟩ := z2.out.rs.open8
  refine wto 2 fun K hK => ?_
  go_simp
  refine hK.out _ _ tf_ (wtn ?_)
  clear hK K
  refine wtp 3 tf_ ?_
  refine wtd ?_
  have hqU := z.out.rs.lt
  go_wp2_with fail
  refine bodyPost_ret (v := .tuple #[dkv (d) A B c e, .slice X 1 n]) (by simp [results, Tryz.results73, go_sem, hqT, r0, r1, r2, r3, r4, r5, r6, r7]) rfl ?_
  exact ⟨X, n, rfl, own_mono (own_all OX.out hqU _ _ _ _ _ _ _ _) z.out.up.below.size, put8_up z2.out.up z2.out.hq _ _ _ _ _ _ _ _⟩
 | true =>
  show Calls _ _ _ _ fun r w' => mdPost D [dkText D] N B nc e w r w'
  go_enter Tryz.func73, Tryz.ntmps73
  go_upto_region 1 with (fail)
  refine wpg (R := fun V => Hid (MD w V w.heap.size (w.heap.size + 1) (dkcs d A B c e))) (hd_ (MD.new _ _)) (fun V z => ?_)
  generalize hp9 : w.heap.size = p at z ⊢
  generalize hq9 : p + 1 = q at z ⊢
  clear hp9 hq9
  obtain ⟨hpV, x0, x1, x2, x3, x4, x5, x6, x7⟩ := z.out.bx.eight
  go_upto_region 2 with (fail)
  refine wpg (R := fun U => Hid (M3 w U p q V.heap.size (dkcs d A B c e) (dkcs d A B c e))) (hd_ (M3.new z.out)) (fun U y => ?_)
  clear z x0 x1 x2 x3 x4 x5 x6 x7 hpV
  generalize V.heap.size = r at *
  obtain ⟨hrU, x0, x1, x2, x3, x4, x5, x6, x7⟩ := y.out.b.bx.eight
  obtain ⟨f0, f1, f2, f3, f4, f5, f6, f7⟩ := y.out.b.bx.open8
  go_upto_region 5 with (fail)
  have y5 := hd_ (y.out.put 5 (.slice N l.length nc))
  refine wpg (R := fun T => Hid (M3 w T p q r (dkcs d A B c e) (dkcs D N B nc e))) (hd_ (by
   rw [← HD.out]
   exact y5.out)) (fun T t => ?_)
  clear x0 x1 x2 x3 x4 x5 x6 x7 f0 f1 f2 f3 f4 f5 f6 f7 hrU y y5
  obtain ⟨hrT, x0, x1, x2, x3, x4, x5, x6, x7⟩ := t.out.b.bx.eight
  rw [← HLS.out] at q1
  go_upto_region 7 with (first | (go_at_call 65; refine (ret_as (validBasket_any D.b _) HBD.out).mono ?_; rintro e w' ⟨rfl, g, rfl⟩) | (go_at_call 66; refine (ret_as (validStops_any N nc D.stops _ ((HSD.out _ (t.out.a.up.tr bw_).below).1) HZD.out.s) q1).mono ?_; rintro e w' ⟨rfl, g, rfl⟩))
  refine wpg (R := fun U => Hid (MD w U r q (dkcs D N B nc e))) (hd_ (t.out.b.below bw_)) (fun U z => ?_)
  clear x0 x1 x2 x3 x4 x5 x6 x7 t hrT
  generalize p = p0 at *
  generalize r = p at *
  have hC : cel8 U.drew p D N B nc e := z.out.cel
  refine wp_region_T (fun U => U.cell? ⟨p, 0, none⟩ = some (i64 (D).b.bars) ∧ U.cell? ⟨p, 1, none⟩ = some (i64 (D).b.rise) ∧ U.cell? ⟨p, 2, none⟩ = some (i64 (D).b.fall) ∧ U.cell? ⟨p, 3, none⟩ = some (i64 (D).b.clr) ∧ U.cell? ⟨p, 4, none⟩ = some (i64 (D).b.near) ∧ U.cell? ⟨p, 5, none⟩ = some (.slice N (D).stops.length nc) ∧ U.cell? ⟨p, 6, none⟩ = some (.slice B (D).drills.length e) ∧ U.cell? ⟨p, 7, none⟩ = some (.string (D).log)) 5 (by kernel_rfl) ?_
  
  refine wtl 0 (hC) ?_
  refine wtl 1 (hC) ?_
  refine wto 2 fun K hK => ?_
  go_simp
  go_at_call 11
  refine (deskTextI_any D N B nc e _ (HSD.out _ (z.out.up.tr bw_).below) HZD.out (HT.out.below (z.out.up.tr bw_).below)).mono ?_
  rintro r w' ⟨rfl, gx, rfl⟩
  have z2 := hd_ (z.out.below (V' := up U.drew gx) (bl_up (Below.drew (Below.refl _ _)) gx))
  refine hK.out _ _ (fun _ => z2.out.cel) (wtn ?_)
  clear hK K
  have hqU := z2.out.rs.lt
  have HLE := hd_ z2.out.up.below.size
  obtain ⟨hqT, r0, r1, r2, r3, r4, r5, r6, r7⟩ := z2.out.rs.eight
  obtain ⟨f0, f1, f2, f3, f4, f5, f6, f7⟩ := z2.out.rs.open8
  refine wpAnyT_ready (rs := [3, 4]) (by kernel_rfl) (by simp) (AllReadyT.cons rfl (fun K hK => ?_) (AllReadyT.cons rfl (fun K hK => ?_) AllReadyT.nil))
  ·go_simp
   have z3 := hd_ (z2.out.below (V' := (up U.drew gx).alloc (.cells #[.string (dkText (D))] 9)) bw_)
   have OX := hd_ (World.ownsRow_lit (base := (up U.drew gx).heap.size) (e := 9) (size := 1) (up U.drew gx) #[.string (dkText (D))] 1 (Nat.le_refl _) (by unfold maxLen; omega) rfl)
   refine hK.out _ _ (fun _ => z3.out.cel) (wtn ?_)
   clear hK K
   refine wto 4 fun K hK => ?_
   go_simp
   refine hK.out _ _ (fun _ => (blk_far8 z3.out.bx z3.out.ne _ _ _ _ _ _ _ _).eight.2) (wtn ?_)
   clear hK K
   refine wto 5 fun K hK => ?_
   go_simp
   refine hK.out _ _ tf_ (wtn ?_)
   clear hK K
   refine wtd ?_
   go_wp2_with fail
   refine post_gen (R := fun W => Blk W q 31 (dkcs (D) N B nc e) ∧ W.ownsRow w.heap.size 9 1 (.slice (some ⟨(up U.drew gx).heap.size, 0, none⟩) 1 1) 1 (strs [dkText (D)]) ∧ UpOf w W) ⟨blk_put8 z3.out.rs _ _ _ _ _ _ _ _, own_mono (own_all OX.out hqU _ _ _ _ _ _ _ _) HLE.out, put8_up z3.out.up z3.out.hq _ _ _ _ _ _ _ _⟩ (fun W st => ?_)
   obtain ⟨s1, s2, s3⟩ := st
   obtain ⟨hqW, w0, w1, w2, w3, w4, w5, w6, w7⟩ := s1.eight
   clear s1 r0 r1 r2 r3 r4 r5 r6 r7 f0 f1 f2 f3 f4 f5 f6 f7
   exact bodyPost_ret (v := .tuple #[dkv (D) N B nc e, .slice (some ⟨(up U.drew gx).heap.size, 0, none⟩) 1 1]) (by simp [results, Tryz.results73, go_sem, hqW, w0, w1, w2, w3, w4, w5, w6, w7]) rfl ⟨_, _, rfl, s2, s3⟩
  ·go_simp
   refine hK.out _ _ (fun _ => (blk_far8 z2.out.bx z2.out.ne _ _ _ _ _ _ _ _).eight.2) (wtn ?_)
   clear hK K
   refine wto 3 fun K hK => ?_
   go_simp
   refine hK.out _ _ (fun _ => ((blk_far8 z2.out.bx z2.out.ne _ _ _ _ _ _ _ _).alloc _).eight.2) (wtn ?_)
   clear hK K
   refine wto 5 fun K hK => ?_
   go_simp
   refine hK.out _ _ tf_ (wtn ?_)
   clear hK K
   refine wtd ?_
   go_wp2_with fail
   refine post_gen (R := fun W => Blk W q 31 (dkcs (D) N B nc e) ∧ W.ownsRow w.heap.size 9 1 (.slice (some ⟨(up U.drew gx).heap.size, 0, none⟩) 1 1) 1 (strs [dkText (D)]) ∧ UpOf w W) ⟨(blk_put8 z2.out.rs _ _ _ _ _ _ _ _).alloc _, own_txt (put8_up z2.out.up z2.out.hq _ _ _ _ _ _ _ _) (dkText (D)) (by simp only [World.size_setCell]), (put8_up z2.out.up z2.out.hq _ _ _ _ _ _ _ _).tr ((Below.refl _ _).alloc (Nat.le_refl _) _)⟩ (fun W st => ?_)
   obtain ⟨s1, s2, s3⟩ := st
   obtain ⟨hqW, w0, w1, w2, w3, w4, w5, w6, w7⟩ := s1.eight
   clear s1 r0 r1 r2 r3 r4 r5 r6 r7 f0 f1 f2 f3 f4 f5 f6 f7
   exact bodyPost_ret (v := .tuple #[dkv (D) N B nc e, .slice (some ⟨(up U.drew gx).heap.size, 0, none⟩) 1 1]) (by simp [results, Tryz.results73, go_sem, hqW, w0, w1, w2, w3, w4, w5, w6, w7]) rfl ⟨_, _, rfl, s2, s3⟩
theorem absolute_any (n : Int) (w : World) (h : -1000000000 ≤ n ∧ n ≤ 1000000000) : Calls Tryz.prog 167 #[i64 n] w fun e w' => e = .returned (i64 (absN n)) ∧ UpOf w w' := by
 by_cases h1 : n < 0
 ·have hf := hd_ (show absN n = -n from if_pos h1)
  go_enter Tryz.func167, Tryz.ntmps167
  go_wp2_with fail
  go_ret
  exact ⟨by rw [hf.out] <;> first | rfl | (simp; done) | go_num, uw_⟩
 ·have hf := hd_ (show absN n = n from if_neg h1)
  go_enter Tryz.func167, Tryz.ntmps167
  go_wp2_with fail
  go_ret
  exact ⟨by rw [hf.out] <;> rfl, uw_⟩
theorem l00Size_any (n : Int) (w : World) (h : -1000000000 ≤ n ∧ n ≤ 1000000000) : Calls Tryz.prog 227 #[i64 n] w fun e w' => e = .returned (i64 (absN n)) ∧ UpOf w w' := by
 by_cases h1 : n < 0
 ·have hf := hd_ (show absN n = -n from if_pos h1)
  go_enter Tryz.func227, Tryz.ntmps227
  go_wp2_with fail
  go_ret
  exact ⟨by rw [hf.out] <;> first | rfl | (simp; done) | go_num, uw_⟩
 ·have hf := hd_ (show absN n = n from if_neg h1)
  go_enter Tryz.func227, Tryz.ntmps227
  go_wp2_with fail
  go_ret
  exact ⟨by rw [hf.out] <;> rfl, uw_⟩
theorem l00MaxD_any (a b : Int) (w : World) : Calls Tryz.prog 219 #[i64 a, i64 b] w fun e w' => e = .returned (i64 (if a > b then a else b)) ∧ w = w' := by
 by_cases h : a > b
 ·rw [if_pos h]
  go_enter Tryz.func219, Tryz.ntmps219
  go_wp2_with fail
  go_ret
  exact ⟨rfl, rfl⟩
 ·rw [if_neg h]
  go_enter Tryz.func219, Tryz.ntmps219
  go_wp2_with fail
  go_ret
  exact ⟨rfl, rfl⟩
theorem absN_bd {f s : Int} (hf : 0 ≤ f ∧ f ≤ 1000) (hs : 0 ≤ s ∧ s ≤ 1000) : 0 ≤ absN (f - s) ∧ absN (f - s) ≤ 1000 := by
 unfold absN; split <;> omega
theorem waitsI_any (b : Bsk) (f s : Int) (w : World) (hb : vBsk b = true) (hf : 0 ≤ f ∧ f ≤ 1000) (hs : 0 ≤ s ∧ s ≤ 1000) :
  Calls Tryz.prog 123 #[bsv b, i64 f, i64 s] w fun e w' => e = .returned (i64 (waitN b f s)) ∧ UpOf w w' := by
 obtain ⟨_, h2, h3, h4, h5⟩ := vBsk_inv hb
 clear hb
 by_cases q : f = s
 ·have hF := hd_ (show waitN b f s = b.rise + b.fall from if_pos q)
  have q' : (f == s) = true := by rw [beq_iff_eq]; exact q
  clear q
  go_enter Tryz.func123, Tryz.ntmps123
  go_wp2_with (first | ((with_reducible refine wru ?_); (repeat (go_big_quiet_step (fail))); refine wqn fun nq => ?_))
  go_ret
  exact ⟨by rw [hF.out] <;> first | rfl | (simp; done) | go_num, uw_⟩
 ·have q' : (f == s) = false := by rw [beq_eq_false_iff_ne]; exact q
  have hF := hd_ (show waitN b f s = b.clr + (if b.near - absN (f - s) > 0 then b.near - absN (f - s) else 0) from if_neg q)
  have hw : IntKind.i64.wrap (f - s) = f - s := by rw [IntKind.wrap_i64]; omega
  obtain ⟨a1, a2⟩ := absN_bd hf hs
  have ha := hd_ (absolute_any (f - s) · ⟨by omega, by omega⟩)
  generalize absN (f - s) = a at *
  have hw2 : IntKind.i64.wrap (b.near - a) = b.near - a := by rw [IntKind.wrap_i64]; omega
  clear q
  by_cases p : 0 < b.near - a
  ·rw [if_pos p] at hF
   go_enter Tryz.func123, Tryz.ntmps123
   go_wp2_with (first | ((with_reducible refine wru ?_); (repeat (go_big_quiet_step (first | (go_at_call 167; exact uq_ (ha.out _))))); refine wqn fun nq => ?_))
   all_goals go_ret
   all_goals exact ⟨by rw [hF.out] <;> first | rfl | (simp; done) | go_num, uw_⟩
  ·rw [if_neg p] at hF
   go_enter Tryz.func123, Tryz.ntmps123
   go_wp2_with (first | ((with_reducible refine wru ?_); (repeat (go_big_quiet_step (first | (go_at_call 167; exact uq_ (ha.out _))))); refine wqn fun nq => ?_))
   all_goals go_ret
   all_goals exact ⟨by rw [hF.out] <;> first | rfl | (simp; done) | go_num, uw_⟩
theorem l03Wait_any (b : Bsk) (f s : Int) (w : World) (hb : vBsk b = true) (hf : 0 ≤ f ∧ f ≤ 1000) (hs : 0 ≤ s ∧ s ≤ 1000) :
  Calls Tryz.prog 204 #[bsv b, i64 f, i64 s] w fun e w' => e = .returned (i64 (waitN b f s)) ∧ UpOf w w' := by
 obtain ⟨_, h2, h3, h4, h5⟩ := vBsk_inv hb
 clear hb
 by_cases q : f = s
 ·have hF := hd_ (show waitN b f s = b.rise + b.fall from if_pos q)
  have q' : (f == s) = true := by rw [beq_iff_eq]; exact q
  clear q
  go_enter Tryz.func204, Tryz.ntmps204
  go_wp2_with (first | ((with_reducible refine wru ?_); (repeat (go_big_quiet_step (fail))); refine wqn fun nq => ?_))
  go_ret
  exact ⟨by rw [hF.out] <;> first | rfl | (simp; done) | go_num, uw_⟩
 ·have q' : (f == s) = false := by rw [beq_eq_false_iff_ne]; exact q
  have hF := hd_ (show waitN b f s = b.clr + (if b.near - absN (f - s) > 0 then b.near - absN (f - s) else 0) from if_neg q)
  have hw : IntKind.i64.wrap (f - s) = f - s := by rw [IntKind.wrap_i64]; omega
  obtain ⟨a1, a2⟩ := absN_bd hf hs
  have ha := hd_ (l00Size_any (f - s) · ⟨by omega, by omega⟩)
  generalize absN (f - s) = a at *
  have hw2 : IntKind.i64.wrap (b.near - a) = b.near - a := by rw [IntKind.wrap_i64]; omega
  have hm : Hid ((if (0 : Int) > b.near - a then (0 : Int) else b.near - a) = (if b.near - a > 0 then b.near - a else 0)) := by show _ = _; split <;> split <;> omega
  clear q
  go_enter Tryz.func204, Tryz.ntmps204
  go_wp2_with (first | ((with_reducible refine wru ?_); (repeat (go_big_quiet_step (first | (go_at_call 227; exact uq_ (ha.out _)) | (go_at_call 219; exact uqs_ (l00MaxD_any _ _ _))))); refine wqn fun nq => ?_))
  all_goals go_ret
  all_goals exact ⟨by rw [hF.out, ← hm.out] <;> first | rfl | (simp; done) | go_num, uw_⟩
theorem hasBar_any (b : Bsk) (n : Int) (w : World) (hb : 2 ≤ b.bars ∧ b.bars ≤ 60) : Calls Tryz.prog 122 #[bsv b, i64 n] w fun e w' => e = .returned (.bool (barB b n)) ∧ UpOf w w' := by
 have hw : IntKind.i64.wrap (b.bars - 1) = b.bars - 1 := by rw [IntKind.wrap_i64]; omega
 go_enter Tryz.func122, Tryz.ntmps122
 go_wp2_with (first | (go_at_call 118; refine (between_any _ _ _ _).mono ?_; rintro e w' ⟨rfl, rfl⟩))
 go_ret
 exact ⟨rfl, uw_⟩
theorem l03Bar_any (b : Bsk) (n : Int) (w : World) (hb : 2 ≤ b.bars ∧ b.bars ≤ 60) : Calls Tryz.prog 203 #[bsv b, i64 n] w fun e w' => e = .returned (.bool (barB b n)) ∧ UpOf w w' := by
 have hw : IntKind.i64.wrap (b.bars - 1) = b.bars - 1 := by rw [IntKind.wrap_i64]; omega
 go_enter Tryz.func203, Tryz.ntmps203
 go_wp2_with (first | (go_at_call 141; refine (in_any _ _ _ _).mono ?_; rintro e w' ⟨rfl, rfl⟩))
 go_ret
 exact ⟨rfl, uw_⟩
theorem barB_bd {b : Bsk} {n : Int} (hb : 2 ≤ b.bars ∧ b.bars ≤ 60) (h : barB b n = true) : 0 ≤ n ∧ n ≤ 1000 := by have := btw_true h; omega
theorem mustWaitI_any (b : Bsk) (f s : Int) (w : World) : Calls Tryz.prog 71 #[bsv b, i64 f, i64 s] w fun e w' => e = .returned (.tuple #[i64 (mwR b f s).1, i64 (mwR b f s).2]) ∧ UpOf w w' := by
 cases hv : vBsk b
 ·have hF := hd_ (mwR_1 (f := f) (s := s) hv)
  go_enter Tryz.func71, Tryz.ntmps71
  go_wp2_with (first | (go_at_call 65; refine (ret_as (validBasket_any b _) hv).mono ?_; rintro e w' ⟨rfl, g, rfl⟩))
  go_ret2
  exact ⟨by rw [hF.out] <;> rfl, uw_⟩
 have HV := hd_ hv
 have hb := (vBsk_inv hv).1
 cases h1 : barB b f
 ·have hF := hd_ (mwR_2 (f := f) (s := s) hv (by rw [h1]; rfl))
  go_enter Tryz.func71, Tryz.ntmps71
  go_wp2_with (first | (go_at_call 65; refine (ret_as (validBasket_any b _) hv).mono ?_; rintro e w' ⟨rfl, g, rfl⟩) | (go_at_call 122; refine (ret_as (hasBar_any b f _ hb) h1).mono ?_; rintro e w' ⟨rfl, g, rfl⟩))
  go_ret2
  exact ⟨by rw [hF.out] <;> rfl, uw_⟩
 cases h2 : barB b s
 ·have hF := hd_ (mwR_2 (f := f) (s := s) hv (by rw [h1, h2]; rfl))
  go_enter Tryz.func71, Tryz.ntmps71
  go_wp2_with (first | (go_at_call 65; refine (ret_as (validBasket_any b _) hv).mono ?_; rintro e w' ⟨rfl, g, rfl⟩) | (go_at_call 122; refine (hasBar_any b _ _ hb).mono ?_; rintro e w' ⟨rfl, g, rfl⟩))
  go_ret2
  exact ⟨by rw [hF.out] <;> rfl, uw_⟩
 ·have hF := hd_ (mwR_0 hv h1 h2)
  have k1 := barB_bd hb h1
  have k2 := barB_bd hb h2
  go_enter Tryz.func71, Tryz.ntmps71
  go_wp2_with (first | (go_at_call 65; refine (ret_as (validBasket_any b _) hv).mono ?_; rintro e w' ⟨rfl, g, rfl⟩) | (go_at_call 122; refine (hasBar_any b _ _ hb).mono ?_; rintro e w' ⟨rfl, g, rfl⟩) | (go_at_call 123; refine (waitsI_any b f s _ HV.out k1 k2).mono ?_; rintro e w' ⟨rfl, g, rfl⟩))
  go_ret2
  exact ⟨by rw [hF.out] <;> rfl, uw_⟩
theorem mustWaitS_any (b : Bsk) (f s : Int) (w : World) : Calls Tryz.prog 165 #[bsv b, i64 f, i64 s] w fun e w' => e = .returned (.tuple #[i64 (mwR b f s).1, i64 (mwR b f s).2]) ∧ UpOf w w' := by
 cases hv : vBsk b
 ·have hF := hd_ (mwR_1 (f := f) (s := s) hv)
  go_enter Tryz.func165, Tryz.ntmps165
  go_wp2_with (first | (go_at_call 92; refine (ret_as (l03Ok_any b _) hv).mono ?_; rintro e w' ⟨rfl, g, rfl⟩))
  go_ret2
  exact ⟨by rw [hF.out] <;> rfl, uw_⟩
 have HV := hd_ hv
 have hb := (vBsk_inv hv).1
 cases h1 : barB b f
 ·have hF := hd_ (mwR_2 (f := f) (s := s) hv (by rw [h1]; rfl))
  go_enter Tryz.func165, Tryz.ntmps165
  go_wp2_with (first | (go_at_call 92; refine (ret_as (l03Ok_any b _) hv).mono ?_; rintro e w' ⟨rfl, g, rfl⟩) | (go_at_call 203; refine (ret_as (l03Bar_any b f _ hb) h1).mono ?_; rintro e w' ⟨rfl, g, rfl⟩))
  go_ret2
  exact ⟨by rw [hF.out] <;> rfl, uw_⟩
 cases h2 : barB b s
 ·have hF := hd_ (mwR_2 (f := f) (s := s) hv (by rw [h1, h2]; rfl))
  go_enter Tryz.func165, Tryz.ntmps165
  go_wp2_with (first | (go_at_call 92; refine (ret_as (l03Ok_any b _) hv).mono ?_; rintro e w' ⟨rfl, g, rfl⟩) | (go_at_call 203; refine (l03Bar_any b _ _ hb).mono ?_; rintro e w' ⟨rfl, g, rfl⟩))
  go_ret2
  exact ⟨by rw [hF.out] <;> rfl, uw_⟩
 ·have hF := hd_ (mwR_0 hv h1 h2)
  have k1 := barB_bd hb h1
  have k2 := barB_bd hb h2
  go_enter Tryz.func165, Tryz.ntmps165
  go_wp2_with (first | (go_at_call 92; refine (ret_as (l03Ok_any b _) hv).mono ?_; rintro e w' ⟨rfl, g, rfl⟩) | (go_at_call 203; refine (l03Bar_any b _ _ hb).mono ?_; rintro e w' ⟨rfl, g, rfl⟩) | (go_at_call 204; refine (l03Wait_any b f s _ HV.out k1 k2).mono ?_; rintro e w' ⟨rfl, g, rfl⟩))
  go_ret2
  exact ⟨by rw [hF.out] <;> rfl, uw_⟩
def stk (p : Int × Int) : List Value := [i64 p.1, i64 p.2]
def skcs (l : List (Int × Int)) : List Value := l.flatMap stk
theorem stk_len (p : Int × Int) : (stk p).length = 2 := rfl
theorem skcs_app (a b : List (Int × Int)) : skcs (a ++ b) = skcs a ++ skcs b := by simp [skcs]
theorem stk_at {w : World} {A : Option Addr} {l : List (Int × Int)} (h : Rds w 2 A l.length (skcs l)) {k : Nat} (hk : k < l.length) :
  ∃ b off, A = some ⟨b, off, none⟩ ∧ b < w.heap.size ∧ w.cell? ⟨b, off + k * 2, none⟩ = some (i64 (l.getD k (0, 0)).1) ∧ w.cell? ⟨b, off + k * 2 + 1, none⟩ = some (i64 (l.getD k (0, 0)).2) := by
 obtain ⟨b, off, e, hb, hc⟩ := rds_elem stk_len h hk (by omega)
 have e9 : l.getD k (0, 0) = l[k] := by simp [hk]
 rw [e9]
 exact ⟨b, off, e, hb, hc 0 _ rfl, hc 1 _ rfl⟩
theorem el_stk : ElemOf Tryz.prog 154 157 (.agg #[i64 0, i64 0]) 2 16 := elem_of Tryz.underlying154 (by kernel_rfl) rfl (by omega)
theorem fstK_bar (b : Bsk) (l : List Int) : ∀ n i, i < n → ((fstK b l n).1.getD i (0, 0)).1 = num l i
 | 0, i, h => by omega
 | n + 1, i, h => by
  have hl := fstK_len b l n
  rw [fstK, List.getD_eq_getElem?_getD]
  by_cases e : i < n
  ·rw [List.getElem?_append_left (by omega), ← List.getD_eq_getElem?_getD]
   exact fstK_bar b l n i e
  ·have : i = n := by omega
   subst this
   rw [List.getElem?_append_right (by omega), show i - (fstK b l i).1.length = 0 by omega]
   rfl
theorem Box.five {w : World} {b : Nat} {x0 x1 x2 x3 x4 : Value} (h : Box w b #[x0, x1, x2, x3, x4]) : b < w.heap.size ∧ w.cell? ⟨b, 0, none⟩ = some x0 ∧ w.cell? ⟨b, 1, none⟩ = some x1 ∧ w.cell? ⟨b, 2, none⟩ = some x2 ∧ w.cell? ⟨b, 3, none⟩ = some x3 ∧ w.cell? ⟨b, 4, none⟩ = some x4 :=
 ⟨h.1, h.2 0 _ rfl, h.2 1 _ rfl, h.2 2 _ rfl, h.2 3 _ rfl, h.2 4 _ rfl⟩
theorem barsB_at {b : Bsk} {l : List Int} {k : Nat} (hk : k < l.length) (h : barB b (num l k) = false) : barsB b l = false := rall_at hk h
theorem barsB_true {b : Bsk} {l : List Int} (h : ∀ k, k < l.length → barB b (num l k) = true) : barsB b l = true := rall_true h
theorem barsB_inv {b : Bsk} {l : List Int} (h : barsB b l = true) : ∀ k, k < l.length → barB b (num l k) = true := by
 simpa only [barsB, List.all_eq_true, List.mem_range] using h
theorem areBars_any (b : Bsk) (A : Option Addr) (c : Nat) (l : List Int) (w : World) (hb : 2 ≤ b.bars ∧ b.bars ≤ 60) (h : Rds w 1 A l.length (ics l)) (hn : l.length ≤ 100000000) :
  Calls Tryz.prog 124 #[bsv b, .slice A l.length c] w fun e w' => e = .returned (.bool (barsB b l && decide (l.length ≤ 60))) ∧ UpOf w w' := by
 go_enter Tryz.func124, Tryz.ntmps124
 go_upto_region 1 with (fail)
 refine wpg (R := fun V => Box V w.heap.size #[i64 b.bars, i64 b.rise, i64 b.fall, i64 b.clr, i64 b.near] ∧ UpOf w V) ⟨Box.new _ _ _, uw_⟩ (fun V z => ?_)
 obtain ⟨hb9, hB⟩ := z
 obtain ⟨hq, x0, x1, x2, x3, x4⟩ := hb9.five
 have HB := hd_ hB
 have HLV := hd_ (h.below hB.below)
 clear hb9 hB h
 generalize w.heap.size = q at *
 go_wp2_with fail
 go_loopw [9] (fun i wr => ∃ k : Nat, k ≤ l.length ∧ i = i64 k ∧ Hid (∀ j, j < k → barB b (num l j) = true) ∧ ∃ g : Up V, wr = up V g) (fun i _ => l.length - (intOf i).toNat)
 case atStart => exact ⟨0, by omega, rfl, fun i hi => by omega, ex_up bw_⟩
 case round =>
  obtain ⟨k, hk, rfl, hok, g, rfl⟩ := hrel
  by_cases hlt : k < l.length
  ·obtain ⟨b1, o1, rfl, hb1, c0⟩ := num_at HLV.out hlt
   cases p1 : barB b (num l k)
   ·have hf := hd_ (show (barsB b l && decide (l.length ≤ 60)) = false by rw [barsB_at hlt p1]; rfl)
    go_wp2_with (first | (go_at_call 122; refine (ret_as (hasBar_any b _ _ hb) p1).mono ?_; rintro e w' ⟨rfl, g, rfl⟩))
    go_ret
    exact ⟨ret_bool hf.out.symm, HB.out.tr bw_⟩
   ·have hq := hd_ p1
    go_wp2_with (first | (go_at_call 122; refine (ret_as (hasBar_any b _ _ hb) p1).mono ?_; rintro e w' ⟨rfl, g, rfl⟩))
    go_roundw
    case rel => exact ⟨k + 1, by omega, by go_num, lt_extD (P := fun j => barB b (num l j) = true) hok.out hq.out, ex_up bw_⟩
    case measure => (simp [intOf]; try omega)
  ·have hf := hd_ (show (barsB b l && decide (l.length ≤ 60)) = decide (l.length ≤ 60) by rw [barsB_true (fun i hi => hok.out i (by omega))]; rfl)
   go_wp2_with fail
   go_ret
   exact ⟨ret_bool (by rw [hf.out, decide_eq_decide] <;> omega), HB.out.tr bw_⟩
theorem l03Code_any (b : Bsk) (A : Option Addr) (c : Nat) (l : List Int) (w : World) (h : Rds w 1 A l.length (ics l)) (hn : l.length ≤ 100000000) :
  Calls Tryz.prog 194 #[bsv b, .slice A l.length c] w fun e w' => e = .returned (i64 (tfR b l).2) ∧ UpOf w w' := by
 go_enter Tryz.func194, Tryz.ntmps194
 go_upto_region 1 with (fail)
 refine wpg (R := fun V => Box V w.heap.size #[i64 b.bars, i64 b.rise, i64 b.fall, i64 b.clr, i64 b.near] ∧ UpOf w V) ⟨Box.new _ _ _, uw_⟩ (fun V z => ?_)
 obtain ⟨hb9, hB⟩ := z
 obtain ⟨hq, x0, x1, x2, x3, x4⟩ := hb9.five
 have HB := hd_ hB
 have HLV := hd_ (h.below hB.below)
 clear hb9 hB h
 generalize w.heap.size = q at *
 cases hv : vBsk b
 ·have hf := hd_ (tfR_1 (l := l) hv)
  go_wp2_with (first | (go_at_call 92; refine (ret_as (l03Ok_any b _) hv).mono ?_; rintro e w' ⟨rfl, g, rfl⟩) | ((with_reducible refine wru ?_); (repeat (go_big_quiet_step (fail))); refine wqn fun nq => ?_))
  go_ret
  exact ⟨by rw [hf.out] <;> rfl, HB.out.tr bw_⟩
 have HV := hd_ hv
 have hb := (vBsk_inv hv).1
 go_wp2_with (first | (go_at_call 92; refine (ret_as (l03Ok_any b _) hv).mono ?_; rintro e w' ⟨rfl, g, rfl⟩) | ((with_reducible refine wru ?_); (repeat (go_big_quiet_step (fail))); refine wqn fun nq => ?_))
 clear hv
 go_loopw [5] (fun i wr => ∃ k : Nat, k ≤ l.length ∧ i = i64 k ∧ Hid (∀ j, j < k → barB b (num l j) = true) ∧ ∃ g : Up V, wr = up V g) (fun i _ => l.length - (intOf i).toNat)
 case atStart => exact ⟨0, by omega, rfl, fun i hi => by omega, ex_up bw_⟩
 case round =>
  obtain ⟨k, hk, rfl, hok, g, rfl⟩ := hrel
  by_cases hlt : k < l.length
  ·obtain ⟨b1, o1, rfl, hb1, c0⟩ := num_at HLV.out hlt
   cases p1 : barB b (num l k)
   ·have hf := hd_ (tfR_2 (l := l) HV.out (by rw [barsB_at hlt p1]; rfl))
    go_wp2_with (first | ((with_reducible refine wru ?_); (repeat (go_big_quiet_step (first | (go_at_call 203; exact uq_ (ret_as (l03Bar_any b _ _ hb) p1))))); refine wqn fun nq => ?_))
    go_ret
    exact ⟨by rw [hf.out] <;> rfl, HB.out.tr bw_⟩
   ·have hq := hd_ p1
    go_wp2_with (first | ((with_reducible refine wru ?_); (repeat (go_big_quiet_step (first | (go_at_call 203; exact uq_ (ret_as (l03Bar_any b _ _ hb) p1))))); refine wqn fun nq => ?_))
    go_roundw
    case rel => exact ⟨k + 1, by omega, by go_num, lt_extD (P := fun j => barB b (num l j) = true) hok.out hq.out, ex_up bw_⟩
    case measure => (simp [intOf]; try omega)
  ·have ha := barsB_true (b := b) (l := l) (fun i hi => hok.out i (by omega))
   by_cases h6 : l.length ≤ 60
   ·have hf := hd_ (show (tfR b l).2 = 0 by
     by_cases e : l.length = 0
     ·rw [tfR_e HV.out (by rw [ha, decide_eq_true h6]; rfl) e]
     ·rw [tfR_0 HV.out (by rw [ha, decide_eq_true h6]; rfl) e])
    clear ha
    have h6' : ¬ (60 : Int) < (l.length : Int) := by omega
    clear h6
    go_wp2_with (first | ((with_reducible refine wru ?_); (repeat (go_big_quiet_step (fail))); refine wqn fun nq => ?_))
    go_ret
    exact ⟨by rw [hf.out] <;> rfl, HB.out.tr bw_⟩
   ·have hf := hd_ (tfR_2 (l := l) HV.out (by rw [ha, decide_eq_false h6]; rfl))
    clear ha
    have h6' : (60 : Int) < (l.length : Int) := by omega
    clear h6
    go_wp2_with (first | ((with_reducible refine wru ?_); (repeat (go_big_quiet_step (fail))); refine wqn fun nq => ?_))
    go_ret
    exact ⟨by rw [hf.out] <;> rfl, HB.out.tr bw_⟩
theorem fstK_step (b : Bsk) (l : List Int) (k : Nat) : fstK b l (k + 1) = ((fstK b l k).1 ++ [(num l k, tkM b (num l k) (fstK b l k).1 k (fstK b l k).2)], tkM b (num l k) (fstK b l k).1 k (fstK b l k).2) := by
 rw [fstK, fstK_len]
theorem tkM_gt {b : Bsk} {bar : Int} {T : List (Int × Int)} {k : Nat} {t : Int} (h : tkM b bar T k t < (T.getD k (0, 0)).2 + waitN b (T.getD k (0, 0)).1 bar) : tkM b bar T (k + 1) t = (T.getD k (0, 0)).2 + waitN b (T.getD k (0, 0)).1 bar := by rw [tkM, if_pos h]
theorem tkM_le {b : Bsk} {bar : Int} {T : List (Int × Int)} {k : Nat} {t : Int} (h : ¬ tkM b bar T k t < (T.getD k (0, 0)).2 + waitN b (T.getD k (0, 0)).1 bar) : tkM b bar T (k + 1) t = tkM b bar T k t := by rw [tkM, if_neg h]
theorem fastest_any (b : Bsk) (A : Option Addr) (c : Nat) (l : List Int) (w : World) (hv : vBsk b = true) (hbs : barsB b l = true) (h : Rds w 1 A l.length (ics l)) (hn : l.length ≤ 60) :
  Calls Tryz.prog 125 #[bsv b, .slice A l.length c] w fun e w' => ∃ A' c', e = .returned (.slice A' l.length c') ∧ w'.ownsRow w.heap.size 157 2 (.slice A' l.length c') l.length (skcs (fstK b l l.length).1) ∧ UpOf w w' := by
 have HV := hd_ hv
 have BO := hd_ (fun j (hj : j < l.length) => barB_bd (vBsk_inv hv).1 (barsB_inv hbs j hj))
 clear hv hbs
 go_enter Tryz.func125, Tryz.ntmps125
 go_upto_region 1 with (fail)
 refine wpg (R := fun V => Box V w.heap.size #[i64 b.bars, i64 b.rise, i64 b.fall, i64 b.clr, i64 b.near] ∧ UpOf w V) ⟨Box.new _ _ _, uw_⟩ (fun V z => ?_)
 obtain ⟨hb9, hB⟩ := z
 obtain ⟨hq, x0, x1, x2, x3, x4⟩ := hb9.five
 have HB := hd_ hB
 have HLV := hd_ (h.below hB.below)
 clear hb9 hB h
 generalize w.heap.size = q at *
 have hOwn := hd_ (World.ownsRow_lit (base := V.heap.size) (e := 157) (size := 2) V #[] 0 (Nat.le_refl _) (by unfold maxLen; omega) rfl)
 go_wp2_with (first | ((with_reducible refine wru ?_); (repeat (go_big_quiet_step (fail))); refine wqn fun nq => ?_))
 go_loopw [5, 6, 14] (fun o t i wr => ∃ (k : Nat) (A1 : Option Addr) (c1 : Nat), k ≤ l.length ∧ i = i64 k ∧ t = i64 (fstK b l k).2 ∧ o = .slice A1 k c1 ∧ wr.ownsRow V.heap.size 157 2 (.slice A1 k c1) k (skcs (fstK b l k).1) ∧ ∃ g : Up V, wr = up V g) (fun _ _ i _ => l.length - (intOf i).toNat)
 case atStart => exact ⟨0, _, _, by omega, rfl, rfl, rfl, hOwn.out, ex_up bw_⟩
 case round =>
  obtain ⟨k, A1, c1, hk, rfl, rfl, rfl, hown, g, rfl⟩ := hrel
  have HOW := hd_ hown
  have hlenT := fstK_len b l k
  have hT0 := (fstK_bd HV.out l k).1
  have hTB := hd_ (fstK_bd HV.out l k).2
  clear hown
  have hlenT := hd_ hlenT
  have hT0 := hd_ hT0
  by_cases hlt : k < l.length
  ·have hlt' : (k : Int) < (l.length : Int) := by omega
   obtain ⟨b1, o1, rfl, hb1, c0⟩ := num_at HLV.out hlt
   have HB2 := hd_ (BO.out k hlt)
   go_wp2_with (first | ((with_reducible refine wru ?_); (repeat (go_big_quiet_step (fail))); refine wqn fun nq => ?_))
   go_loopw [6, 20] (fun t jj wr => ∃ (j : Nat), j ≤ k ∧ jj = i64 j ∧ t = i64 (tkM b (num l k) (fstK b l k).1 j (fstK b l k).2) ∧ ∃ g3 : Up (up V g), wr = up V (g.tr g3)) (fun _ jj _ => k - (intOf jj).toNat)
   case atStart => exact ⟨0, by omega, rfl, by rw [tkM], ex_tr bw_⟩
   case round =>
    obtain ⟨j, hj, rfl, rfl, g3, rfl⟩ := hrel
    by_cases hjt : j < k
    ·have hjt' : (j : Int) < (k : Int) := by omega
     obtain ⟨b2, o2, rfl, hb2, s0, s1⟩ := stk_at (l := (fstK b l k).1) (by rw [hlenT.out]; exact Rds.of_own HOW.out) (k := j) (by rw [hlenT.out]; exact hjt)
     have hbj := (fstK_bar b l k j hjt)
     rw [hbj] at s0
     have hB1 := BO.out j (by omega)
     have hwt := waitN_bd HV.out (num l j) (num l k)
     have ht := hTB.out j hjt
     have hM := tkM_bd HV.out (num l k) (fstK b l k).1 (M := 200 * (k : Int)) (fun i hi => hTB.out i (by rw [hlenT.out] at hi; exact hi)) j (fstK b l k).2 (by rw [hlenT.out]; omega) hT0.out.1 hT0.out.2
     have hgt := hd_ (tkM_gt (b := b) (bar := num l k) (T := (fstK b l k).1) (k := j) (t := (fstK b l k).2))
     have hle := hd_ (tkM_le (b := b) (bar := num l k) (T := (fstK b l k).1) (k := j) (t := (fstK b l k).2))
     rw [hbj] at hgt hle
     have hcl := hd_ (fun (U : World) => waitsI_any b (num l j) (num l k) U HV.out hB1 HB2.out)
     clear hbj hB1
     generalize waitN b (num l j) (num l k) = wt at *
     generalize ((fstK b l k).1.getD j (0, 0)).2 = tk at *
     obtain ⟨M, hMe⟩ : ∃ M, tkM b (num l k) (fstK b l k).1 j (fstK b l k).2 = M := ⟨_, rfl⟩
     rw [hMe] at hM hgt hle
     rw [hMe]
     clear hMe
     by_cases hc : M < tk + wt
     ·have hv2 := hd_ (hgt.out hc)
      have hc2 : ¬ tk + wt < M := by omega
      have hc3 : M ≤ tk + wt := by omega
      go_wp2_with (first | ((with_reducible refine wru ?_); (repeat (go_big_quiet_step (first | (go_at_call 123; exact uq_ (hcl.out _))))); refine wqn fun nq => ?_))
      go_roundw
      case rel => exact ⟨j + 1, by omega, by go_num, by rw [hv2.out] <;> go_num, ex_tr bw_⟩
      case measure => (simp [intOf]; try omega)
     ·have hv2 := hd_ (hle.out hc)
      have hc2 : tk + wt ≤ M := by omega
      go_wp2_with (first | ((with_reducible refine wru ?_); (repeat (go_big_quiet_step (first | (go_at_call 123; exact uq_ (hcl.out _))))); refine wqn fun nq => ?_))
      go_roundw
      case rel => exact ⟨j + 1, by omega, by go_num, by rw [hv2.out] <;> go_num, ex_tr bw_⟩
      case measure => (simp [intOf]; try omega)
    ·obtain rfl : k = j := by omega
     have hstep := fstK_step b l k
     obtain ⟨M, hMe⟩ : ∃ M, tkM b (num l k) (fstK b l k).1 k (fstK b l k).2 = M := ⟨_, rfl⟩
     rw [hMe] at hstep
     rw [hMe]
     have HST := hd_ hstep
     clear hMe hstep
     go_wp2_with (first | (at_builtin; go_must (refine wpl_appU rfl _ _ 154 rfl V V.heap.size 157 _ 2 16 el_stk (.slice A1 k c1) k (skcs (fstK b l k).1) rfl (own_below HOW.out bw_) _ 1 1 [i64 (num l k), i64 M] rfl (rds_new _ #[i64 (num l k), i64 M] _ 2 1 rfl) (fun u hu => by simp at hu; rcases hu with rfl | rfl <;> rfl) (by unfold maxLen; omega) (by omega) (up_below V _).size bw_ (Nat.le_refl _) ?_; intro A2 c2 g2 o2)) | ((with_reducible refine wru ?_); (repeat (go_big_quiet_step (fail))); refine wqn fun nq => ?_))
     go_roundw
     case rel => exact ⟨k + 1, A2, c2, by omega, by go_num, by rw [HST.out], rfl, by rw [HST.out, skcs_app]; exact o2, ex_up bw_⟩
     case measure => (simp [intOf]; try omega)
  ·obtain rfl : k = l.length := by omega
   go_wp2_with (first | ((with_reducible refine wru ?_); (repeat (go_big_quiet_step (fail))); refine wqn fun nq => ?_))
   go_ret
   exact ⟨A1, c1, rfl, own_mono (own_below HOW.out bw_) HB.out.below.size, HB.out.tr bw_⟩
theorem l03Fast_any (b : Bsk) (A : Option Addr) (c : Nat) (l : List Int) (w : World) (hv : vBsk b = true) (hbs : barsB b l = true) (h : Rds w 1 A l.length (ics l)) (hn : l.length ≤ 60) :
  Calls Tryz.prog 195 #[bsv b, .slice A l.length c] w fun e w' => ∃ A' c', e = .returned (.slice A' l.length c') ∧ w'.ownsRow w.heap.size 157 2 (.slice A' l.length c') l.length (skcs (fstK b l l.length).1) ∧ UpOf w w' := by
 have HV := hd_ hv
 have BO := hd_ (fun j (hj : j < l.length) => barB_bd (vBsk_inv hv).1 (barsB_inv hbs j hj))
 clear hv hbs
 go_enter Tryz.func195, Tryz.ntmps195
 go_upto_region 1 with (fail)
 refine wpg (R := fun V => Box V w.heap.size #[i64 b.bars, i64 b.rise, i64 b.fall, i64 b.clr, i64 b.near] ∧ UpOf w V) ⟨Box.new _ _ _, uw_⟩ (fun V z => ?_)
 obtain ⟨hb9, hB⟩ := z
 obtain ⟨hq, x0, x1, x2, x3, x4⟩ := hb9.five
 have HB := hd_ hB
 have HLV := hd_ (h.below hB.below)
 clear hb9 hB h
 generalize w.heap.size = q at *
 have hOwn := hd_ (World.ownsRow_lit (base := V.heap.size) (e := 157) (size := 2) V #[] 0 (Nat.le_refl _) (by unfold maxLen; omega) rfl)
 go_wp2_with (first | ((with_reducible refine wru ?_); (repeat (go_big_quiet_step (fail))); refine wqn fun nq => ?_))
 go_loopw [5, 6, 7] (fun o t i wr => ∃ (k : Nat) (A1 : Option Addr) (c1 : Nat), k ≤ l.length ∧ i = i64 k ∧ t = i64 (fstK b l k).2 ∧ o = .slice A1 k c1 ∧ wr.ownsRow V.heap.size 157 2 (.slice A1 k c1) k (skcs (fstK b l k).1) ∧ ∃ g : Up V, wr = up V g) (fun _ _ i _ => l.length - (intOf i).toNat)
 case atStart => exact ⟨0, _, _, by omega, rfl, rfl, rfl, hOwn.out, ex_up bw_⟩
 case round =>
  obtain ⟨k, A1, c1, hk, rfl, rfl, rfl, hown, g, rfl⟩ := hrel
  have HOW := hd_ hown
  have hlenT := fstK_len b l k
  have hT0 := (fstK_bd HV.out l k).1
  have hTB := hd_ (fstK_bd HV.out l k).2
  clear hown
  have hlenT := hd_ hlenT
  have hT0 := hd_ hT0
  by_cases hlt : k < l.length
  ·have hlt' : (k : Int) < (l.length : Int) := by omega
   obtain ⟨b1, o1, rfl, hb1, c0⟩ := num_at HLV.out hlt
   have HB2 := hd_ (BO.out k hlt)
   go_wp2_with (first | ((with_reducible refine wru ?_); (repeat (go_big_quiet_step (fail))); refine wqn fun nq => ?_))
   go_loopw [6, 8] (fun t jj wr => ∃ (j : Nat), j ≤ k ∧ jj = i64 j ∧ t = i64 (tkM b (num l k) (fstK b l k).1 j (fstK b l k).2) ∧ ∃ g3 : Up (up V g), wr = up V (g.tr g3)) (fun _ jj _ => k - (intOf jj).toNat)
   case atStart => exact ⟨0, by omega, rfl, by rw [tkM], ex_tr bw_⟩
   case round =>
    obtain ⟨j, hj, rfl, rfl, g3, rfl⟩ := hrel
    by_cases hjt : j < k
    ·have hjt' : (j : Int) < (k : Int) := by omega
     obtain ⟨b2, o2, rfl, hb2, s0, s1⟩ := stk_at (l := (fstK b l k).1) (by rw [hlenT.out]; exact Rds.of_own HOW.out) (k := j) (by rw [hlenT.out]; exact hjt)
     have hbj := (fstK_bar b l k j hjt)
     rw [hbj] at s0
     have hB1 := BO.out j (by omega)
     have hwt := waitN_bd HV.out (num l j) (num l k)
     have ht := hTB.out j hjt
     have hM := tkM_bd HV.out (num l k) (fstK b l k).1 (M := 200 * (k : Int)) (fun i hi => hTB.out i (by rw [hlenT.out] at hi; exact hi)) j (fstK b l k).2 (by rw [hlenT.out]; omega) hT0.out.1 hT0.out.2
     have hgt := hd_ (tkM_gt (b := b) (bar := num l k) (T := (fstK b l k).1) (k := j) (t := (fstK b l k).2))
     have hle := hd_ (tkM_le (b := b) (bar := num l k) (T := (fstK b l k).1) (k := j) (t := (fstK b l k).2))
     rw [hbj] at hgt hle
     have hcl := hd_ (fun (U : World) => l03Wait_any b (num l j) (num l k) U HV.out hB1 HB2.out)
     clear hbj hB1
     generalize waitN b (num l j) (num l k) = wt at *
     generalize ((fstK b l k).1.getD j (0, 0)).2 = tk at *
     obtain ⟨M, hMe⟩ : ∃ M, tkM b (num l k) (fstK b l k).1 j (fstK b l k).2 = M := ⟨_, rfl⟩
     rw [hMe] at hM hgt hle
     rw [hMe]
     clear hMe
     have hmx := hd_ (fun (U : World) => l00MaxD_any M (tk + wt) U)
     by_cases hc : M < tk + wt
     ·have hv2 := hd_ (hgt.out hc)
      rw [if_neg (by omega)] at hmx
      go_wp2_with (first | ((with_reducible refine wru ?_); (repeat (go_big_quiet_step (first | (go_at_call 204; exact uq_ (hcl.out _)) | (go_at_call 219; exact uqs_ (hmx.out _))))); refine wqn fun nq => ?_))
      go_roundw
      case rel => exact ⟨j + 1, by omega, by go_num, by rw [hv2.out] <;> go_num, ex_tr bw_⟩
      case measure => (simp [intOf]; try omega)
     ·have hv2 := hd_ (hle.out hc)
      have hmy : Hid (∀ U : World, Calls Tryz.prog 219 #[i64 M, i64 (tk + wt)] U fun e w' => e = .returned (i64 M) ∧ U = w') := by
       intro U
       have := hmx.out U
       by_cases h9 : M > tk + wt
       ·rwa [if_pos h9] at this
       ·rw [if_neg h9] at this
        have e9 : tk + wt = M := by omega
        rw [e9] at this ⊢
        exact this
      clear hmx
      go_wp2_with (first | ((with_reducible refine wru ?_); (repeat (go_big_quiet_step (first | (go_at_call 204; exact uq_ (hcl.out _)) | (go_at_call 219; exact uqs_ (hmy.out _))))); refine wqn fun nq => ?_))
      go_roundw
      case rel => exact ⟨j + 1, by omega, by go_num, by rw [hv2.out] <;> go_num, ex_tr bw_⟩
      case measure => (simp [intOf]; try omega)
    ·obtain rfl : k = j := by omega
     have hstep := fstK_step b l k
     obtain ⟨M, hMe⟩ : ∃ M, tkM b (num l k) (fstK b l k).1 k (fstK b l k).2 = M := ⟨_, rfl⟩
     rw [hMe] at hstep
     rw [hMe]
     have HST := hd_ hstep
     clear hMe hstep
     go_wp2_with (first | (at_builtin; go_must (refine wpl_appU rfl _ _ 154 rfl V V.heap.size 157 _ 2 16 el_stk (.slice A1 k c1) k (skcs (fstK b l k).1) rfl (own_below HOW.out bw_) _ 1 1 [i64 (num l k), i64 M] rfl (rds_new _ #[i64 (num l k), i64 M] _ 2 1 rfl) (fun u hu => by simp at hu; rcases hu with rfl | rfl <;> rfl) (by unfold maxLen; omega) (by omega) (up_below V _).size bw_ (Nat.le_refl _) ?_; intro A2 c2 g2 o2)) | ((with_reducible refine wru ?_); (repeat (go_big_quiet_step (fail))); refine wqn fun nq => ?_))
     go_roundw
     case rel => exact ⟨k + 1, A2, c2, by omega, by go_num, by rw [HST.out], rfl, by rw [HST.out, skcs_app]; exact o2, ex_up bw_⟩
     case measure => (simp [intOf]; try omega)
  ·obtain rfl : k = l.length := by omega
   go_wp2_with (first | ((with_reducible refine wru ?_); (repeat (go_big_quiet_step (fail))); refine wqn fun nq => ?_))
   go_ret
   exact ⟨A1, c1, rfl, own_mono (own_below HOW.out bw_) HB.out.below.size, HB.out.tr bw_⟩
theorem ticksForI_any (b : Bsk) (A : Option Addr) (c : Nat) (l : List Int) (w : World) (h : Rds w 1 A l.length (ics l)) (hn : l.length ≤ 100000000) :
  Calls Tryz.prog 72 #[bsv b, .slice A l.length c] w fun e w' => e = .returned (.tuple #[i64 (tfR b l).1, i64 (tfR b l).2]) ∧ UpOf w w' := by
 go_enter Tryz.func72, Tryz.ntmps72
 go_upto_region 1 with (fail)
 refine wpg (R := fun V => Box V w.heap.size #[i64 b.bars, i64 b.rise, i64 b.fall, i64 b.clr, i64 b.near] ∧ UpOf w V) ⟨Box.new _ _ _, uw_⟩ (fun V z => ?_)
 obtain ⟨hb9, hB⟩ := z
 obtain ⟨hq, x0, x1, x2, x3, x4⟩ := hb9.five
 have HB := hd_ hB
 have HLV := hd_ (h.below hB.below)
 clear hb9 hB h
 generalize w.heap.size = q at *
 cases hv : vBsk b
 ·have hf := hd_ (tfR_1 (l := l) hv)
  go_wp2_with (first | (go_at_call 65; refine (ret_as (validBasket_any b _) hv).mono ?_; rintro e w' ⟨rfl, g, rfl⟩) | ((with_reducible refine wru ?_); (repeat (go_big_quiet_step (fail))); refine wqn fun nq => ?_))
  go_ret2
  exact ⟨by rw [hf.out] <;> rfl, HB.out.tr bw_⟩
 have HV := hd_ hv
 have hb := (vBsk_inv hv).1
 cases hb1 : (barsB b l && decide (l.length ≤ 60))
 ·have hf := hd_ (tfR_2 hv hb1)
  go_wp2_with (first | (go_at_call 65; refine (ret_as (validBasket_any b _) hv).mono ?_; rintro e w' ⟨rfl, g, rfl⟩) | (go_at_call 124; refine (ret_as (areBars_any b _ _ _ _ hb (HLV.out.below bw_) hn) hb1).mono ?_; rintro e w' ⟨rfl, g, rfl⟩) | ((with_reducible refine wru ?_); (repeat (go_big_quiet_step (fail))); refine wqn fun nq => ?_))
  go_ret2
  exact ⟨by rw [hf.out] <;> rfl, HB.out.tr bw_⟩
 have hcl := hd_ (fun (W : World) hW => ret_as (areBars_any b A c l W hb (HLV.out.below hW) hn) hb1)
 rw [Bool.and_eq_true, decide_eq_true_eq] at hb1
 obtain ⟨hb1, h6⟩ := hb1
 have HB1 := hd_ hb1
 clear hb1
 by_cases h0 : l.length = 0
 ·have hf := hd_ (tfR_e hv (by rw [HB1.out, decide_eq_true h6]; rfl) h0)
  have h0' : ((l.length : Int) == 0) = true := by rw [beq_iff_eq]; omega
  clear h0
  go_wp2_with (first | (go_at_call 65; refine (ret_as (validBasket_any b _) hv).mono ?_; rintro e w' ⟨rfl, g, rfl⟩) | (go_at_call 124; refine (hcl.out _ bw_).mono ?_; rintro e w' ⟨rfl, g, rfl⟩) | ((with_reducible refine wru ?_); (repeat (go_big_quiet_step (fail))); refine wqn fun nq => ?_))
  go_ret2
  exact ⟨by rw [hf.out] <;> rfl, HB.out.tr bw_⟩
 ·have h0' : ((l.length : Int) == 0) = false := by rw [beq_eq_false_iff_ne]; omega
  go_wp2_with (first | (go_at_call 65; refine (ret_as (validBasket_any b _) hv).mono ?_; rintro e w' ⟨rfl, g, rfl⟩) | (go_at_call 124; refine (hcl.out _ bw_).mono ?_; rintro e w' ⟨rfl, g, rfl⟩) | ((with_reducible refine wru ?_); (repeat (go_big_quiet_step (fail))); refine wqn fun nq => ?_))
  refine (fastest_any b _ _ l _ HV.out HB1.out (HLV.out.below bw_) h6).mono ?_
  rintro e w' ⟨A1, c1, rfl, hown, g9, rfl⟩
  obtain ⟨m, hm⟩ : ∃ m, l.length = m + 1 := ⟨l.length - 1, by omega⟩
  have hl9 := fstK_len b l l.length
  have hlast := fstK_last b l m
  rw [← hm] at hlast
  have hbd := (fstK_bd HV.out l l.length).1
  have hf := hd_ (tfR_0 HV.out (by rw [HB1.out, decide_eq_true h6]; rfl) h0)
  obtain ⟨b2, o2, rfl, hb2, s0, s1⟩ := stk_at (l := (fstK b l l.length).1) (by rw [hl9]; exact Rds.of_own hown) (k := m) (by rw [hl9]; omega)
  rw [hlast] at s1
  simp only [up_up] at s1 hb2
  have HM := hd_ hm
  have hm1 : (l.length : Int) = (m : Int) + 1 := by omega
  have hm2 : (m : Int) < (l.length : Int) := by omega
  have hm3 : IntKind.i64.wrap ((l.length : Int) - 1) = (m : Int) := by rw [IntKind.wrap_i64]; omega
  obtain ⟨v1, v2, v3, v4, v5⟩ := vBsk_inv HV.out
  generalize (fstK b l l.length).2 = tk at *
  clear hown hlast hl9 s0 hm hm1
  go_wp2_with (first | ((with_reducible refine wru ?_); (repeat (go_big_quiet_step (fail))); refine wqn fun nq => ?_))
  go_ret2
  exact ⟨by rw [hf.out] <;> rfl, HB.out.tr bw_⟩
theorem ticksForS_any (b : Bsk) (A : Option Addr) (c : Nat) (l : List Int) (w : World) (h : Rds w 1 A l.length (ics l)) (hn : l.length ≤ 100000000) :
  Calls Tryz.prog 159 #[bsv b, .slice A l.length c] w fun e w' => e = .returned (.tuple #[i64 (tfR b l).1, i64 (tfR b l).2]) ∧ UpOf w w' := by
 obtain ⟨cd, hcd⟩ : ∃ cd, (tfR b l).2 = cd := ⟨_, rfl⟩
 have hcl := hd_ (fun (W : World) (hW : Rds W 1 A l.length (ics l)) => show Calls Tryz.prog 194 #[bsv b, .slice A l.length c] W fun e w' => e = .returned (i64 cd) ∧ UpOf W w' from hcd ▸ l03Code_any b A c l W hW hn)
 go_enter Tryz.func159, Tryz.ntmps159
 go_upto_region 1 with (fail)
 refine wpg (R := fun V => Box V w.heap.size #[i64 b.bars, i64 b.rise, i64 b.fall, i64 b.clr, i64 b.near] ∧ UpOf w V) ⟨Box.new _ _ _, uw_⟩ (fun V z => ?_)
 obtain ⟨hb9, hB⟩ := z
 obtain ⟨hq, x0, x1, x2, x3, x4⟩ := hb9.five
 have HB := hd_ hB
 have HLV := hd_ (h.below hB.below)
 clear hb9 hB h
 generalize w.heap.size = q at *
 by_cases h : cd = 0
 ·subst h
  have h5 : vBsk b = true ∧ (barsB b l && decide (l.length ≤ 60)) = true := by
   cases hv : vBsk b
   ·rw [tfR_1 hv] at hcd; cases hcd
   ·cases h1 : (barsB b l && decide (l.length ≤ 60))
    ·rw [tfR_2 hv h1] at hcd; cases hcd
    ·exact ⟨rfl, rfl⟩
  have HV := hd_ h5.1
  have hb1 := h5.2
  rw [Bool.and_eq_true, decide_eq_true_eq] at hb1
  obtain ⟨hb1, h6⟩ := hb1
  have HB1 := hd_ hb1
  clear hb1 h5 hcd
  go_wp2_with fail
  refine (hcl.out _ (HLV.out.below bw_)).mono ?_
  rintro e w' ⟨rfl, g1, rfl⟩
  go_wp2_with fail
  refine (l03Fast_any b _ _ l _ HV.out HB1.out (HLV.out.below bw_) h6).mono ?_
  rintro e w' ⟨A1, c1, rfl, hown, g9, rfl⟩
  by_cases h0 : l.length = 0
  ·have hf := hd_ (tfR_e HV.out (by rw [HB1.out, decide_eq_true h6]; rfl) h0)
   have h0' : ((l.length : Int) == 0) = true := by rw [beq_iff_eq]; omega
   clear h0 hown
   go_wp2_with (first | ((with_reducible refine wru ?_); (repeat (go_big_quiet_step (fail))); refine wqn fun nq => ?_))
   go_ret2
   exact ⟨by rw [hf.out] <;> rfl, HB.out.tr bw_⟩
  ·have h0' : ((l.length : Int) == 0) = false := by rw [beq_eq_false_iff_ne]; omega
   obtain ⟨m, hm⟩ : ∃ m, l.length = m + 1 := ⟨l.length - 1, by omega⟩
   have hl9 := fstK_len b l l.length
   have hlast := fstK_last b l m
   rw [← hm] at hlast
   have hbd := (fstK_bd HV.out l l.length).1
   have hf := hd_ (tfR_0 HV.out (by rw [HB1.out, decide_eq_true h6]; rfl) h0)
   obtain ⟨b2, o2, rfl, hb2, s0, s1⟩ := stk_at (l := (fstK b l l.length).1) (by rw [hl9]; exact Rds.of_own hown) (k := m) (by rw [hl9]; omega)
   rw [hlast] at s1
   simp only [up_up] at s1 hb2
   have HM := hd_ hm
   have hm1 : (l.length : Int) = (m : Int) + 1 := by omega
   have hm2 : (m : Int) < (l.length : Int) := by omega
   have hm3 : IntKind.i64.wrap ((l.length : Int) - 1) = (m : Int) := by rw [IntKind.wrap_i64]; omega
   obtain ⟨v1, v2, v3, v4, v5⟩ := vBsk_inv HV.out
   generalize (fstK b l l.length).2 = tk at *
   clear hown hlast hl9 s0 hm hm1
   go_wp2_with (first | ((with_reducible refine wru ?_); (repeat (go_big_quiet_step (fail))); refine wqn fun nq => ?_))
   go_ret2
   exact ⟨by rw [hf.out] <;> rfl, HB.out.tr bw_⟩
 ·have hne : (cd != 0) = true := by rw [bne_iff_ne]; exact h
  have hf : Hid (tfR b l = (0, cd)) := by
   show _ = _
   cases hv : vBsk b
   ·rw [tfR_1 hv] at hcd ⊢; rw [← hcd]
   ·cases h1 : (barsB b l && decide (l.length ≤ 60))
    ·rw [tfR_2 hv h1] at hcd ⊢; rw [← hcd]
    ·exfalso
     by_cases h0 : l.length = 0
     ·rw [tfR_e hv h1 h0] at hcd; exact h hcd.symm
     ·rw [tfR_0 hv h1 h0] at hcd; exact h hcd.symm
  clear hcd h
  go_wp2_with fail
  refine (hcl.out _ (HLV.out.below bw_)).mono ?_
  rintro e w' ⟨rfl, g1, rfl⟩
  go_wp2_with (first | ((with_reducible refine wru ?_); (repeat (go_big_quiet_step (fail))); refine wqn fun nq => ?_))
  go_ret2
  exact ⟨by rw [hf.out] <;> rfl, HB.out.tr bw_⟩
theorem mwR_bd (b : Bsk) (f s : Int) : 0 ≤ (mwR b f s).1 ∧ (mwR b f s).1 ≤ 200 := by
 cases hv : vBsk b with
 | false => rw [mwR_1 hv]; decide
 | true =>
  have := waitN_bd hv f s
  rw [mwR, if_pos hv]
  split
  ·show 0 ≤ waitN b f s ∧ waitN b f s ≤ 200; omega
  ·decide
theorem tfR_bd (b : Bsk) (l : List Int) : 0 ≤ (tfR b l).1 ∧ (tfR b l).1 ≤ 20000 := by
 cases hv : vBsk b with
 | false => rw [tfR_1 hv]; decide
 | true =>
  rw [tfR, if_pos hv]
  split
  ·rename_i h
   rw [Bool.and_eq_true, decide_eq_true_eq] at h
   split
   ·decide
   ·have h1 := (fstK_bd hv l l.length).1
    have h2 := vBsk_inv hv
    show 0 ≤ (fstK b l l.length).2 + b.rise + b.fall ∧ (fstK b l l.length).2 + b.rise + b.fall ≤ 20000
    omega
  ·decide
theorem cell_far8 {V : World} {b o q : Nat} {v : Value} (h : V.cell? ⟨b, o, none⟩ = some v) (hne : b ≠ q) (u0 u1 u2 u3 u4 u5 u6 u7 : Value) : ((((((((V.setCell ⟨q, 0, none⟩ u0).setCell ⟨q, 1, none⟩ u1).setCell ⟨q, 2, none⟩ u2).setCell ⟨q, 3, none⟩ u3).setCell ⟨q, 4, none⟩ u4).setCell ⟨q, 5, none⟩ u5).setCell ⟨q, 6, none⟩ u6).setCell ⟨q, 7, none⟩ u7).cell? ⟨b, o, none⟩ = some v := by
 have hn : ∀ i : Nat, (⟨q, i, none⟩ : Addr) ≠ ⟨b, o, none⟩ := fun i e => hne (by injection e with e; exact e.symm)
 rw [World.cell?_setCell_other (h := hn 7), World.cell?_setCell_other (h := hn 6), World.cell?_setCell_other (h := hn 5), World.cell?_setCell_other (h := hn 4), World.cell?_setCell_other (h := hn 3), World.cell?_setCell_other (h := hn 2), World.cell?_setCell_other (h := hn 1), World.cell?_setCell_other (h := hn 0), h]
theorem bnFast_any (d : DeskD) (A B : Option Addr) (c e : Nat) (ws : List ByteArray) (W : Option Addr) (wc : Nat) (s : ByteArray) (l : List Int) (w : World) (h : Rds w 1 W ws.length (strs ws)) (hn : ws.length ≤ 10000000) (hf : ∀ i, i < ws.length → (wd ws i).size ≤ 100000000) (ht : Tab w) (hno : numsOf ws = some l) (hl : l.length ≤ 10000000) (hk : kindOf s = 6) :
  Calls Tryz.prog 30 #[dkv d A B c e, .string s, .slice W ws.length wc] w fun r w' => mdPost d (nmb (tfR d.b l)) A B c e w r w' := by
 have HR := hd_ h
 have HF := hd_ hf
 have HT := hd_ ht
 have q6 : (s.toList == [102, 97, 115, 116]) = true := by
  have := kind_test2 s (i := 6) (by omega)
  rw [hk] at this
  exact this
 have q13 : (s.toList == [119, 97, 105, 116]) = false := by
  have := kind_test2 s (i := 13) (by omega)
  rw [hk] at this
  exact this
 have hbd := tfR_bd d.b l
 obtain ⟨R1, hR1⟩ : ∃ R1, (tfR d.b l).1 = R1 := ⟨_, rfl⟩
 obtain ⟨R2, hR2⟩ : ∃ R2, (tfR d.b l).2 = R2 := ⟨_, rfl⟩
 have hRR : tfR d.b l = (R1, R2) := by rw [← hR1, ← hR2]
 rw [hR1] at hbd
 have HTF : Hid (∀ V A1 c1, Rds V 1 A1 l.length (ics l) → Calls Tryz.prog 72 #[bsv d.b, .slice A1 l.length c1] V fun e w' => e = .returned (.tuple #[i64 R1, i64 R2]) ∧ UpOf V w') := hd_ fun V A1 c1 hr => by
  have := ticksForI_any d.b A1 c1 l V hr (by omega)
  rw [hR1, hR2] at this
  exact this
 rw [hRR]
 clear h hf ht hk hR1 hR2 hRR
 go_enter Tryz.func30, Tryz.ntmps30
 go_upto_region 1 with (fail)
 refine wpg (R := fun V => Hid (MD w V w.heap.size (w.heap.size + 1) (dkcs d A B c e))) (hd_ (MD.new _ _)) (fun V z => ?_)
 generalize hp9 : w.heap.size = p at z ⊢
 generalize hq9 : p + 1 = q at z ⊢
 clear hp9 hq9
 go_wp2_with fail
 refine (readNumbers_any W wc ws _ (HR.out.below z.out.up.below) hn HF.out (HT.out.below z.out.up.below)).mono ?_
 rintro r w' hr
 unfold rnPost at hr
 rw [hno] at hr
 obtain ⟨AN, cn, rfl, on, g1, rfl⟩ := hr
 have z1 := hd_ (z.out.below (up_below V g1))
 have ON := hd_ on
 have HNQ := hd_ (show q < V.heap.size from z.out.rs.lt)
 clear on
 go_upto_region 8 with (fail)
 refine wpg (R := fun U => Hid (MD w U p q (dkcs d A B c e)) ∧ Hid (Rds U 1 AN l.length (ics l))) ⟨z1, hd_ (Rds.of_own ON.out)⟩ (fun U y => ?_)
 obtain ⟨z, HL⟩ := y
 clear z1 ON
 have hC : cel8 U.drew p d A B c e := z.out.cel
 refine wp_region_T (fun U => U.cell? ⟨p, 0, none⟩ = some (i64 (d).b.bars) ∧ U.cell? ⟨p, 1, none⟩ = some (i64 (d).b.rise) ∧ U.cell? ⟨p, 2, none⟩ = some (i64 (d).b.fall) ∧ U.cell? ⟨p, 3, none⟩ = some (i64 (d).b.clr) ∧ U.cell? ⟨p, 4, none⟩ = some (i64 (d).b.near) ∧ U.cell? ⟨p, 5, none⟩ = some (.slice A (d).stops.length c) ∧ U.cell? ⟨p, 6, none⟩ = some (.slice B (d).drills.length e) ∧ U.cell? ⟨p, 7, none⟩ = some (.string (d).log)) 9 (by kernel_rfl) ?_
 
 refine wtl 0 (hC) ?_
 refine wtp 1 (fun _ => hC) ?_
 refine wtl 2 (hC) ?_
 refine wtp 3 (fun _ => hC) ?_
 refine wto 4 fun K hK => ?_
 go_simp
 go_at_call 72
 refine (HTF.out _ AN cn (HL.out.below bw_)).mono ?_
 rintro r w' ⟨rfl, gf, rfl⟩
 have z2 := hd_ (z.out.below (V' := up U.drew gf) (bl_up (Below.drew (Below.refl _ _)) gf))
 refine hK.out _ _ (fun _ => z2.out.cel) (wtn ?_)
 clear hK K
 refine wpAnyT_gen (R := fun U1 => Hid (MD w U1 p q (dkcs d A B c e))) z2 (fun U1 z1 => ?_)
 clear z2 hC z
 refine wtp 5 (fun _ => z1.out.cel) ?_
 refine wtp 6 (fun _ => z1.out.cel) ?_
 refine wto 7 fun K hK => ?_
 go_simp
 go_at_call 35
 refine (number_any R1 R2 _ (by omega) (by omega) (HT.out.below z1.out.up.below)).mono ?_
 rintro r w' ⟨X, n, rfl, ox, gx, rfl⟩
 have z2 := hd_ ((z1).out.below (V' := up U1 gx) (bl_up (Below.refl _ _) gx))
 have OX := hd_ ox
 clear ox
 refine hK.out _ _ (fun _ => z2.out.cel) (wtn ?_)
 clear hK K
 obtain ⟨hqT, r0, r1, r2, r3, r4, r5, r6, r7⟩ := z2.out.rs.eight
 obtain ⟨f0, f1, f2, f3, f4, f5, f6, f7⟩ := z2.out.rs.open8
 refine wto 8 fun K hK => ?_
 go_simp
 refine hK.out _ _ (fun _ => (blk_far8 z2.out.bx z2.out.ne _ _ _ _ _ _ _ _).eight.2) (wtn ?_)
 clear hK K
 refine wto 9 fun K hK => ?_
 go_simp
 refine hK.out _ _ tf_ (wtn ?_)
 clear hK K
 refine wtd ?_
 have hqW0 := (z1).out.rs.lt
 have HLE0 := hd_ (z1).out.up.below.size
 go_wp2_with fail
 refine post_gen (R := fun W => Blk W q 31 (dkcs (d) A B c e) ∧ W.ownsRow w.heap.size 9 1 (.slice X (nmb (R1, R2)).length n) (nmb (R1, R2)).length (strs (nmb (R1, R2))) ∧ UpOf w W) ⟨blk_put8 z2.out.rs _ _ _ _ _ _ _ _, own_mono (own_all OX.out hqW0 _ _ _ _ _ _ _ _) HLE0.out, put8_up z2.out.up z2.out.hq _ _ _ _ _ _ _ _⟩ (fun W st => ?_)
 obtain ⟨s1, s2, s3⟩ := st
 obtain ⟨hqW, w0, w1, w2, w3, w4, w5, w6, w7⟩ := s1.eight
 clear s1 r0 r1 r2 r3 r4 r5 r6 r7 f0 f1 f2 f3 f4 f5 f6 f7
 exact bodyPost_ret (v := .tuple #[dkv (d) A B c e, .slice X (nmb (R1, R2)).length n]) (by simp [results, Tryz.results30, go_sem, hqW, w0, w1, w2, w3, w4, w5, w6, w7]) rfl ⟨_, _, rfl, s2, s3⟩
theorem bnWait_any (d : DeskD) (A B : Option Addr) (c e : Nat) (ws : List ByteArray) (W : Option Addr) (wc : Nat) (s : ByteArray) (l : List Int) (w : World) (h : Rds w 1 W ws.length (strs ws)) (hn : ws.length ≤ 10000000) (hf : ∀ i, i < ws.length → (wd ws i).size ≤ 100000000) (ht : Tab w) (hno : numsOf ws = some l) (hl : l.length = 2) (hk : kindOf s = 13) :
  Calls Tryz.prog 30 #[dkv d A B c e, .string s, .slice W ws.length wc] w fun r w' => mdPost d (nmb (mwR d.b (num l 0) (num l 1))) A B c e w r w' := by
 have HR := hd_ h
 have HF := hd_ hf
 have HT := hd_ ht
 have q13 : (s.toList == [119, 97, 105, 116]) = true := by
  have := kind_test2 s (i := 13) (by omega)
  rw [hk] at this
  exact this
 have hbd := mwR_bd d.b (num l 0) (num l 1)
 obtain ⟨R1, hR1⟩ : ∃ R1, (mwR d.b (num l 0) (num l 1)).1 = R1 := ⟨_, rfl⟩
 obtain ⟨R2, hR2⟩ : ∃ R2, (mwR d.b (num l 0) (num l 1)).2 = R2 := ⟨_, rfl⟩
 have hRR : mwR d.b (num l 0) (num l 1) = (R1, R2) := by rw [← hR1, ← hR2]
 rw [hR1] at hbd
 obtain ⟨N0, hN0⟩ : ∃ n, num l 0 = n := ⟨_, rfl⟩
 obtain ⟨N1, hN1⟩ : ∃ n, num l 1 = n := ⟨_, rfl⟩
 have HTF : Hid (∀ V, Calls Tryz.prog 71 #[bsv d.b, i64 N0, i64 N1] V fun e w' => e = .returned (.tuple #[i64 R1, i64 R2]) ∧ UpOf V w') := hd_ fun V => by
  have := mustWaitI_any d.b (num l 0) (num l 1) V
  rw [hR1, hR2, hN0, hN1] at this
  exact this
 rw [hRR]
 have HN0 := hd_ hN0
 have HN1 := hd_ hN1
 clear h hf ht hk hR1 hR2 hRR hN0 hN1
 go_enter Tryz.func30, Tryz.ntmps30
 go_upto_region 1 with (fail)
 refine wpg (R := fun V => Hid (MD w V w.heap.size (w.heap.size + 1) (dkcs d A B c e))) (hd_ (MD.new _ _)) (fun V z => ?_)
 generalize hp9 : w.heap.size = p at z ⊢
 generalize hq9 : p + 1 = q at z ⊢
 clear hp9 hq9
 go_wp2_with fail
 refine (readNumbers_any W wc ws _ (HR.out.below z.out.up.below) hn HF.out (HT.out.below z.out.up.below)).mono ?_
 rintro r w' hr
 unfold rnPost at hr
 rw [hno] at hr
 obtain ⟨AN, cn, rfl, on, g1, rfl⟩ := hr
 have z1 := hd_ (z.out.below (up_below V g1))
 have ON := hd_ on
 have HNQ := hd_ (show q < V.heap.size from z.out.rs.lt)
 clear on
 rw [hl]
 go_upto_region 6 with (fail)
 obtain ⟨bN, rfl⟩ : ∃ g, AN = some ⟨g, 0, none⟩ := by
  obtain ⟨_, ⟨_, h2⟩ | ⟨g, cap, cur, h1, _⟩⟩ := ON.out
  ·omega
  ·injection h1 with h1
   exact ⟨g, h1⟩
 have hbN := ON.out.lt bN rfl
 have hcc : ∀ i, i < 2 → (up V g1).cell? ⟨bN, i, none⟩ = some (i64 (num l i)) := fun i hi => by
  obtain ⟨b9, o9, e9, _, hc9⟩ := (Rds.of_own ON.out).at (by omega)
  injection e9 with e9
  injection e9 with e91 e92
  subst e91 e92
  have := hc9 i (i64 (num l i)) (by rw [ics, List.getElem?_map, List.getElem?_eq_getElem (by omega), num_eq (by omega)]; rfl)
  rwa [Nat.zero_add] at this
 refine wpg (R := fun U => Hid (MD w U p q (dkcs d A B c e)) ∧ U.cell? ⟨bN, 0, none⟩ = some (i64 N0) ∧ U.cell? ⟨bN, 1, none⟩ = some (i64 N1) ∧ bN < U.heap.size ∧ bN ≠ q) ⟨z1, by rw [← HN0.out]; exact hcc 0 (by omega), by rw [← HN1.out]; exact hcc 1 (by omega), hbN.2, by have := HNQ.out; omega⟩ (fun U y => ?_)
 obtain ⟨z, n0, n1, hbU, hbq⟩ := y
 clear z1 ON hcc hbN
 have hC : cel8 U.drew p d A B c e := z.out.cel
 have hD : U.drew.cell? ⟨bN, 0, none⟩ = some (i64 N0) ∧ U.drew.cell? ⟨bN, 1, none⟩ = some (i64 N1) := ⟨n0, n1⟩
 refine wp_region_T (fun U => (U.cell? ⟨p, 0, none⟩ = some (i64 d.b.bars) ∧ U.cell? ⟨p, 1, none⟩ = some (i64 d.b.rise) ∧ U.cell? ⟨p, 2, none⟩ = some (i64 d.b.fall) ∧ U.cell? ⟨p, 3, none⟩ = some (i64 d.b.clr) ∧ U.cell? ⟨p, 4, none⟩ = some (i64 d.b.near) ∧ U.cell? ⟨p, 5, none⟩ = some (.slice A d.stops.length c) ∧ U.cell? ⟨p, 6, none⟩ = some (.slice B d.drills.length e) ∧ U.cell? ⟨p, 7, none⟩ = some (.string d.log)) ∧ U.cell? ⟨bN, 0, none⟩ = some (i64 N0) ∧ U.cell? ⟨bN, 1, none⟩ = some (i64 N1)) 14 (by kernel_rfl) ?_
 refine wtl 0 (⟨hC, hD⟩) ?_
 refine wtp 1 (fun _ => ⟨hC, hD⟩) ?_
 refine wtl 2 (⟨hC, hD⟩) ?_
 refine wtp 3 (fun _ => ⟨hC, hD⟩) ?_
 refine wtp 4 (fun _ => ⟨hC, hD⟩) ?_
 refine wtl 5 (⟨hC, hD⟩) ?_
 refine wtp 6 (fun _ => ⟨hC, hD⟩) ?_
 refine wtp 7 (fun _ => ⟨hC, hD⟩) ?_
 refine wtl 8 (⟨hC, hD⟩) ?_
 refine wto 9 fun K hK => ?_
 go_simp
 go_at_call 71
 refine (HTF.out _).mono ?_
 rintro r w' ⟨rfl, gf, rfl⟩
 have z2 := hd_ (z.out.below (V' := up U.drew gf) (bl_up (Below.drew (Below.refl _ _)) gf))
 have m0 := ((up_below U.drew gf).cell (p := ⟨bN, 0, none⟩) hbU).trans n0
 have m1 := ((up_below U.drew gf).cell (p := ⟨bN, 1, none⟩) hbU).trans n1
 have hbU2 : bN < (up U.drew gf).heap.size := Nat.lt_of_lt_of_le hbU (up_below U.drew gf).size
 refine hK.out _ _ (fun _ => ⟨z2.out.cel, m0, m1⟩) (wtn ?_)
 clear hK K
 refine wpAnyT_gen (R := fun U1 => Hid (MD w U1 p q (dkcs d A B c e)) ∧ U1.cell? ⟨bN, 0, none⟩ = some (i64 N0) ∧ U1.cell? ⟨bN, 1, none⟩ = some (i64 N1) ∧ bN < U1.heap.size) ⟨z2, m0, m1, hbU2⟩ (fun U1 y => ?_)
 obtain ⟨z1, n0, n1, hbU1⟩ := y
 clear z2 hC hD z m0 m1 hbU2
 refine wtp 10 (fun _ => ⟨z1.out.cel, n0, n1⟩) ?_
 refine wtp 11 (fun _ => ⟨z1.out.cel, n0, n1⟩) ?_
 refine wto 12 fun K hK => ?_
 go_simp
 go_at_call 35
 refine (number_any R1 R2 _ (by omega) (by omega) (HT.out.below z1.out.up.below)).mono ?_
 rintro r w' ⟨X, n, rfl, ox, gx, rfl⟩
 have z2 := hd_ ((z1).out.below (V' := up U1 gx) (bl_up (Below.refl _ _) gx))
 have OX := hd_ ox
 clear ox
 refine hK.out _ _ (fun _ => ⟨z2.out.cel, ((up_below U1 gx).cell (p := ⟨bN, 0, none⟩) hbU1).trans n0, ((up_below U1 gx).cell (p := ⟨bN, 1, none⟩) hbU1).trans n1⟩) (wtn ?_)
 clear hK K
 have m0 := ((up_below U1 gx).cell (p := ⟨bN, 0, none⟩) hbU1).trans n0
 have m1 := ((up_below U1 gx).cell (p := ⟨bN, 1, none⟩) hbU1).trans n1
 obtain ⟨hqT, r0, r1, r2, r3, r4, r5, r6, r7⟩ := z2.out.rs.eight
 obtain ⟨f0, f1, f2, f3, f4, f5, f6, f7⟩ := z2.out.rs.open8
 refine wto 13 fun K hK => ?_
 go_simp
 refine hK.out _ _ (fun _ => ⟨(blk_far8 z2.out.bx z2.out.ne _ _ _ _ _ _ _ _).eight.2, cell_far8 m0 hbq _ _ _ _ _ _ _ _, cell_far8 m1 hbq _ _ _ _ _ _ _ _⟩) (wtn ?_)
 clear hK K
 refine wto 14 fun K hK => ?_
 go_simp
 refine hK.out _ _ tf_ (wtn ?_)
 clear hK K
 refine wtd ?_
 have hqW0 := (z1).out.rs.lt
 have HLE0 := hd_ (z1).out.up.below.size
 go_wp2_with fail
 refine post_gen (R := fun W => Blk W q 31 (dkcs (d) A B c e) ∧ W.ownsRow w.heap.size 9 1 (.slice X (nmb (R1, R2)).length n) (nmb (R1, R2)).length (strs (nmb (R1, R2))) ∧ UpOf w W) ⟨blk_put8 z2.out.rs _ _ _ _ _ _ _ _, own_mono (own_all OX.out hqW0 _ _ _ _ _ _ _ _) HLE0.out, put8_up z2.out.up z2.out.hq _ _ _ _ _ _ _ _⟩ (fun W st => ?_)
 obtain ⟨s1, s2, s3⟩ := st
 obtain ⟨hqW, w0, w1, w2, w3, w4, w5, w6, w7⟩ := s1.eight
 clear s1 r0 r1 r2 r3 r4 r5 r6 r7 f0 f1 f2 f3 f4 f5 f6 f7
 exact bodyPost_ret (v := .tuple #[dkv (d) A B c e, .slice X (nmb (R1, R2)).length n]) (by simp [results, Tryz.results30, go_sem, hqW, w0, w1, w2, w3, w4, w5, w6, w7]) rfl ⟨_, _, rfl, s2, s3⟩
theorem bnBask_any (d : DeskD) (A B : Option Addr) (c e : Nat) (ws : List ByteArray) (W : Option Addr) (wc : Nat) (s : ByteArray) (l : List Int) (w : World) (h : Rds w 1 W ws.length (strs ws)) (hn : ws.length ≤ 10000000) (hf : ∀ i, i < ws.length → (wd ws i).size ≤ 100000000) (ht : Tab w) (hno : numsOf ws = some l) (hl : l.length = 5) (hk : kindOf s = 1)
  (hS : DSee w d A B) (hz : DkSz d e) (hv : vDesk d = true) :
  Calls Tryz.prog 30 #[dkv d A B c e, .string s, .slice W ws.length wc] w fun r w' =>
   mdPost (if vBsk (bskOf l) then { d with b := bskOf l } else d) (if vBsk (bskOf l) then [dkText { d with b := bskOf l }] else [errL 1]) A B c e w r w' := by
 have HR := hd_ h
 have HF := hd_ hf
 have HT := hd_ ht
 have q6 : (s.toList == [102, 97, 115, 116]) = false := by
  have := kind_test2 s (i := 6) (by omega)
  rw [hk] at this
  exact this
 have q13 : (s.toList == [119, 97, 105, 116]) = false := by
  have := kind_test2 s (i := 13) (by omega)
  rw [hk] at this
  exact this
 have HS := hd_ hS
 have HZ := hd_ hz
 have HV := hd_ hv
 have HK := hd_ hk
 have H5 := hd_ hl
 clear h hf ht hk hS hz hv hl
 cases q1 : vBsk (bskOf l) with
 | false =>
  show Calls _ _ _ _ fun r w' => mdPost d [errL 1] A B c e w r w'
  go_enter Tryz.func30, Tryz.ntmps30
  go_upto_region 1 with (fail)
  refine wpg (R := fun V => Hid (MD w V w.heap.size (w.heap.size + 1) (dkcs d A B c e))) (hd_ (MD.new _ _)) (fun V z => ?_)
  generalize hp9 : w.heap.size = p at z ⊢
  generalize hq9 : p + 1 = q at z ⊢
  clear hp9 hq9
  go_wp2_with fail
  refine (readNumbers_any W wc ws _ (HR.out.below z.out.up.below) hn HF.out (HT.out.below z.out.up.below)).mono ?_
  rintro r w' hr
  unfold rnPost at hr
  rw [hno] at hr
  obtain ⟨AN, cn, rfl, on, g1, rfl⟩ := hr
  have z1 := hd_ (z.out.below (up_below V g1))
  have ON := hd_ on
  have HNQ := hd_ (show q < V.heap.size from z.out.rs.lt)
  clear on
  go_upto_region 9 with (fail)
  refine wpg (R := fun U => Hid (MD w U p q (dkcs d A B c e)) ∧ Hid (Rds U 1 AN l.length (ics l))) ⟨z1, hd_ (Rds.of_own ON.out)⟩ (fun U y => ?_)
  obtain ⟨z, HL⟩ := y
  clear z1 ON
  obtain ⟨hpU, x0, x1, x2, x3, x4, x5, x6, x7⟩ := z.out.bx.eight
  go_wp2_with fail
  refine (settingB_any d A B c e l AN cn s U (HS.out.below z.out.up.below) HZ.out (HT.out.below z.out.up.below) HV.out HL.out H5.out HK.out).mono ?_
  rintro r w' hs
  rw [q1] at hs
  replace hs : mdPost d [errL 1] A B c e U r w' := hs
  obtain ⟨X, n, rfl, ox, g2, rfl⟩ := hs
  have z2 := hd_ (z.out.below (V' := up U g2) (up_below U g2))
  have OX := hd_ ox
  have hqW0 := z.out.rs.lt
  have HLE0 := hd_ z.out.up.below.size
  obtain ⟨hqT, r0, r1, r2, r3, r4, r5, r6, r7⟩ := z2.out.rs.eight
  obtain ⟨f0, f1, f2, f3, f4, f5, f6, f7⟩ := z2.out.rs.open8
  clear ox x0 x1 x2 x3 x4 x5 x6 x7 hpU
  go_wp2_with fail
  refine post_gen (R := fun W => Blk W q 31 (dkcs (d) A B c e) ∧ W.ownsRow w.heap.size 9 1 (.slice X 1 n) 1 (strs ([errL 1])) ∧ UpOf w W) ⟨blk_put8 z2.out.rs _ _ _ _ _ _ _ _, own_mono (own_all OX.out hqW0 _ _ _ _ _ _ _ _) HLE0.out, put8_up z2.out.up z2.out.hq _ _ _ _ _ _ _ _⟩ (fun W st => ?_)
  obtain ⟨s1, s2, s3⟩ := st
  obtain ⟨hqW, w0, w1, w2, w3, w4, w5, w6, w7⟩ := s1.eight
  clear s1 r0 r1 r2 r3 r4 r5 r6 r7 f0 f1 f2 f3 f4 f5 f6 f7
  refine bodyPost_ret (v := .tuple #[dkv (d) A B c e, .slice X 1 n]) (by simp [results, Tryz.results30, go_sem, hqW, w0, w1, w2, w3, w4, w5, w6, w7]) rfl ?_
  exact ⟨_, _, rfl, s2, s3⟩
 | true =>
  obtain ⟨D, hD⟩ : ∃ D : DeskD, { d with b := bskOf l } = D := ⟨_, rfl⟩
  have HD := hd_ hD
  rw [hD]
  clear hD
  show Calls _ _ _ _ fun r w' => mdPost D [dkText D] A B c e w r w'
  go_enter Tryz.func30, Tryz.ntmps30
  go_upto_region 1 with (fail)
  refine wpg (R := fun V => Hid (MD w V w.heap.size (w.heap.size + 1) (dkcs d A B c e))) (hd_ (MD.new _ _)) (fun V z => ?_)
  generalize hp9 : w.heap.size = p at z ⊢
  generalize hq9 : p + 1 = q at z ⊢
  clear hp9 hq9
  go_wp2_with fail
  refine (readNumbers_any W wc ws _ (HR.out.below z.out.up.below) hn HF.out (HT.out.below z.out.up.below)).mono ?_
  rintro r w' hr
  unfold rnPost at hr
  rw [hno] at hr
  obtain ⟨AN, cn, rfl, on, g1, rfl⟩ := hr
  have z1 := hd_ (z.out.below (up_below V g1))
  have ON := hd_ on
  have HNQ := hd_ (show q < V.heap.size from z.out.rs.lt)
  clear on
  go_upto_region 9 with (fail)
  refine wpg (R := fun U => Hid (MD w U p q (dkcs d A B c e)) ∧ Hid (Rds U 1 AN l.length (ics l))) ⟨z1, hd_ (Rds.of_own ON.out)⟩ (fun U y => ?_)
  obtain ⟨z, HL⟩ := y
  clear z1 ON
  obtain ⟨hpU, x0, x1, x2, x3, x4, x5, x6, x7⟩ := z.out.bx.eight
  go_wp2_with fail
  refine (settingB_any d A B c e l AN cn s U (HS.out.below z.out.up.below) HZ.out (HT.out.below z.out.up.below) HV.out HL.out H5.out HK.out).mono ?_
  rintro r w' hs
  rw [q1, HD.out] at hs
  replace hs : mdPost D [dkText D] A B c e U r w' := hs
  obtain ⟨X, n, rfl, ox, g2, rfl⟩ := hs
  have z2 := hd_ (z.out.below (V' := up U g2) (up_below U g2))
  have OX := hd_ ox
  have hqW0 := z.out.rs.lt
  have HLE0 := hd_ z.out.up.below.size
  obtain ⟨hqT, r0, r1, r2, r3, r4, r5, r6, r7⟩ := z2.out.rs.eight
  obtain ⟨f0, f1, f2, f3, f4, f5, f6, f7⟩ := z2.out.rs.open8
  clear ox x0 x1 x2 x3 x4 x5 x6 x7 hpU
  go_wp2_with fail
  refine post_gen (R := fun W => Blk W q 31 (dkcs (D) A B c e) ∧ W.ownsRow w.heap.size 9 1 (.slice X 1 n) 1 (strs ([dkText D])) ∧ UpOf w W) ⟨blk_put8 z2.out.rs _ _ _ _ _ _ _ _, own_mono (own_all OX.out hqW0 _ _ _ _ _ _ _ _) HLE0.out, put8_up z2.out.up z2.out.hq _ _ _ _ _ _ _ _⟩ (fun W st => ?_)
  obtain ⟨s1, s2, s3⟩ := st
  obtain ⟨hqW, w0, w1, w2, w3, w4, w5, w6, w7⟩ := s1.eight
  clear s1 r0 r1 r2 r3 r4 r5 r6 r7 f0 f1 f2 f3 f4 f5 f6 f7
  refine bodyPost_ret (v := .tuple #[dkv (D) A B c e, .slice X 1 n]) (by simp [results, Tryz.results30, go_sem, hqW, w0, w1, w2, w3, w4, w5, w6, w7]) rfl ?_
  exact ⟨_, _, rfl, s2, s3⟩
def stPost (d : DeskD) (l : List Int) (A B : Option Addr) (c e : Nat) (w : World) (r : Ending) (w' : World) : Prop :=
 if vStops l then ∃ N nc, w'.ownsRow w.heap.size 2 1 (.slice N l.length nc) l.length (ics l) ∧ mdPost { d with stops := l } [dkText { d with stops := l }] N B nc e w r w' else mdPost d [errL 1] A B c e w r w'
theorem bnStop_any (d : DeskD) (A B : Option Addr) (c e : Nat) (ws : List ByteArray) (W : Option Addr) (wc : Nat) (s : ByteArray) (l : List Int) (w : World) (h : Rds w 1 W ws.length (strs ws)) (hn : ws.length ≤ 10000000) (hf : ∀ i, i < ws.length → (wd ws i).size ≤ 100000000) (ht : Tab w) (hno : numsOf ws = some l) (hl : l.length ≤ 10000000) (hk : kindOf s = 12)
  (hS : DSee w d A B) (hz : DkSz d e) (hv : vDesk d = true) :
  Calls Tryz.prog 30 #[dkv d A B c e, .string s, .slice W ws.length wc] w fun r w' => stPost d l A B c e w r w' := by
 have HR := hd_ h
 have HF := hd_ hf
 have HT := hd_ ht
 have q6 : (s.toList == [102, 97, 115, 116]) = false := by
  have := kind_test2 s (i := 6) (by omega)
  rw [hk] at this
  exact this
 have q13 : (s.toList == [119, 97, 105, 116]) = false := by
  have := kind_test2 s (i := 13) (by omega)
  rw [hk] at this
  exact this
 have HS := hd_ hS
 have HZ := hd_ hz
 have HV := hd_ hv
 have HK := hd_ hk
 clear h hf ht hk hS hz hv
 unfold stPost
 cases q1 : vStops l with
 | false =>
  show Calls _ _ _ _ fun r w' => mdPost d [errL 1] A B c e w r w'
  go_enter Tryz.func30, Tryz.ntmps30
  go_upto_region 1 with (fail)
  refine wpg (R := fun V => Hid (MD w V w.heap.size (w.heap.size + 1) (dkcs d A B c e))) (hd_ (MD.new _ _)) (fun V z => ?_)
  generalize hp9 : w.heap.size = p at z ⊢
  generalize hq9 : p + 1 = q at z ⊢
  clear hp9 hq9
  go_wp2_with fail
  refine (readNumbers_any W wc ws _ (HR.out.below z.out.up.below) hn HF.out (HT.out.below z.out.up.below)).mono ?_
  rintro r w' hr
  unfold rnPost at hr
  rw [hno] at hr
  obtain ⟨AN, cn, rfl, on, g1, rfl⟩ := hr
  have z1 := hd_ (z.out.below (up_below V g1))
  have ON := hd_ on
  have HNQ := hd_ (show q < V.heap.size from z.out.rs.lt)
  clear on
  go_upto_region 9 with (fail)
  refine wpg (R := fun U => Hid (MD w U p q (dkcs d A B c e)) ∧ Hid (Rds U 1 AN l.length (ics l))) ⟨z1, hd_ (Rds.of_own ON.out)⟩ (fun U y => ?_)
  obtain ⟨z, HL⟩ := y
  clear z1 ON
  obtain ⟨hpU, x0, x1, x2, x3, x4, x5, x6, x7⟩ := z.out.bx.eight
  go_wp2_with fail
  refine (settingS_any d A B c e l AN cn s U (HS.out.below z.out.up.below) HZ.out (HT.out.below z.out.up.below) HV.out HL.out (by omega) HK.out).mono ?_
  rintro r w' hs
  rw [q1] at hs
  replace hs : mdPost d [errL 1] A B c e U r w' := hs
  obtain ⟨X, n, rfl, ox, g2, rfl⟩ := hs
  have z2 := hd_ (z.out.below (V' := up U g2) (up_below U g2))
  have OX := hd_ ox
  have hqW0 := z.out.rs.lt
  have HLE0 := hd_ z.out.up.below.size
  obtain ⟨hqT, r0, r1, r2, r3, r4, r5, r6, r7⟩ := z2.out.rs.eight
  obtain ⟨f0, f1, f2, f3, f4, f5, f6, f7⟩ := z2.out.rs.open8
  clear ox x0 x1 x2 x3 x4 x5 x6 x7 hpU
  go_wp2_with fail
  refine post_gen (R := fun W => Blk W q 31 (dkcs (d) A B c e) ∧ W.ownsRow w.heap.size 9 1 (.slice X 1 n) 1 (strs ([errL 1])) ∧ UpOf w W) ⟨blk_put8 z2.out.rs _ _ _ _ _ _ _ _, own_mono (own_all OX.out hqW0 _ _ _ _ _ _ _ _) HLE0.out, put8_up z2.out.up z2.out.hq _ _ _ _ _ _ _ _⟩ (fun W st => ?_)
  obtain ⟨s1, s2, s3⟩ := st
  obtain ⟨hqW, w0, w1, w2, w3, w4, w5, w6, w7⟩ := s1.eight
  clear s1 r0 r1 r2 r3 r4 r5 r6 r7 f0 f1 f2 f3 f4 f5 f6 f7
  refine bodyPost_ret (v := .tuple #[dkv (d) A B c e, .slice X 1 n]) (by simp [results, Tryz.results30, go_sem, hqW, w0, w1, w2, w3, w4, w5, w6, w7]) rfl ?_
  exact ⟨_, _, rfl, s2, s3⟩
 | true =>
  obtain ⟨D, hD⟩ : ∃ D : DeskD, { d with stops := l } = D := ⟨_, rfl⟩
  have HD := hd_ hD
  rw [hD]
  have HDs := hd_ (show D.stops.length = l.length by rw [← hD])
  clear hD
  show Calls _ _ _ _ fun r w' => ∃ N nc, w'.ownsRow w.heap.size 2 1 (.slice N l.length nc) l.length (ics l) ∧ mdPost D [dkText D] N B nc e w r w'
  go_enter Tryz.func30, Tryz.ntmps30
  go_upto_region 1 with (fail)
  refine wpg (R := fun V => Hid (MD w V w.heap.size (w.heap.size + 1) (dkcs d A B c e))) (hd_ (MD.new _ _)) (fun V z => ?_)
  generalize hp9 : w.heap.size = p at z ⊢
  generalize hq9 : p + 1 = q at z ⊢
  clear hp9 hq9
  go_wp2_with fail
  refine (readNumbers_any W wc ws _ (HR.out.below z.out.up.below) hn HF.out (HT.out.below z.out.up.below)).mono ?_
  rintro r w' hr
  unfold rnPost at hr
  rw [hno] at hr
  obtain ⟨AN, cn, rfl, on, g1, rfl⟩ := hr
  have z1 := hd_ (z.out.below (up_below V g1))
  have ON := hd_ on
  have HNQ := hd_ (show q < V.heap.size from z.out.rs.lt)
  clear on
  go_upto_region 9 with (fail)
  refine wpg (R := fun U => Hid (MD w U p q (dkcs d A B c e)) ∧ Hid (U.ownsRow V.heap.size 2 1 (.slice AN l.length cn) l.length (ics l)) ∧ Hid (w.heap.size ≤ V.heap.size)) ⟨z1, ON, hd_ z.out.up.below.size⟩ (fun U y => ?_)
  obtain ⟨z, HL, HVw⟩ := y
  clear z1 ON
  obtain ⟨hpU, x0, x1, x2, x3, x4, x5, x6, x7⟩ := z.out.bx.eight
  go_wp2_with fail
  refine (settingS_any d A B c e l AN cn s U (HS.out.below z.out.up.below) HZ.out (HT.out.below z.out.up.below) HV.out (Rds.of_own HL.out) (by omega) HK.out).mono ?_
  rintro r w' hs
  rw [q1, HD.out] at hs
  replace hs : mdPost D [dkText D] AN B cn e U r w' := hs
  obtain ⟨X, n, rfl, ox, g2, rfl⟩ := hs
  have z2 := hd_ (z.out.below (V' := up U g2) (up_below U g2))
  have OX := hd_ ox
  have ON2 := hd_ (own_below HL.out (up_below U g2))
  have hqW0 := z.out.rs.lt
  have HLE0 := hd_ z.out.up.below.size
  obtain ⟨hqT, r0, r1, r2, r3, r4, r5, r6, r7⟩ := z2.out.rs.eight
  obtain ⟨f0, f1, f2, f3, f4, f5, f6, f7⟩ := z2.out.rs.open8
  clear ox x0 x1 x2 x3 x4 x5 x6 x7 hpU
  go_wp2_with fail
  refine post_gen (R := fun W => Blk W q 31 (dkcs D AN B cn e) ∧ W.ownsRow w.heap.size 9 1 (.slice X 1 n) 1 (strs [dkText D]) ∧ W.ownsRow w.heap.size 2 1 (.slice AN l.length cn) l.length (ics l) ∧ UpOf w W) ⟨blk_put8 z2.out.rs _ _ _ _ _ _ _ _, own_mono (own_all OX.out hqW0 _ _ _ _ _ _ _ _) HLE0.out, own_mono (own_all ON2.out HNQ.out _ _ _ _ _ _ _ _) HVw.out, put8_up z2.out.up z2.out.hq _ _ _ _ _ _ _ _⟩ (fun W st => ?_)
  obtain ⟨s1, s2, s4, s3⟩ := st
  obtain ⟨hqW, w0, w1, w2, w3, w4, w5, w6, w7⟩ := s1.eight
  clear s1 r0 r1 r2 r3 r4 r5 r6 r7 f0 f1 f2 f3 f4 f5 f6 f7
  refine bodyPost_ret (v := .tuple #[dkv D AN B cn e, .slice X 1 n]) (by simp [results, Tryz.results30, go_sem, hqW, w0, w1, w2, w3, w4, w5, w6, w7]) rfl ?_
  exact ⟨AN, cn, s4, _, _, rfl, s2, s3⟩
def mvX (l : List Int) (k c : Nat) : Int := if k = 0 then (l.find? fun s => decide ((c : Int) < s)).getD 0 else if k = 1 then (c : Int) - 1 else (c : Int) + 1
theorem mvX_eq {l : List Int} {k c d : Nat} (hv : vStops l = true) (h : mvTo l k c = some d) : mvX l k c = d := by
 unfold mvTo at h
 unfold mvX
 by_cases h0 : k = 0
 ·rw [if_pos h0] at h ⊢
  simp only [tabOf, Option.map_eq_some_iff] at h
  obtain ⟨s, hs, rfl⟩ := h
  have := stop_bd hv s (List.mem_of_find?_eq_some hs)
  rw [hs]
  show s = _
  omega
 ·rw [if_neg h0] at h ⊢
  by_cases h1 : k = 1
  ·rw [if_pos h1] at h ⊢
   split at h
   ·injection h with h; omega
   ·cases h
  ·rw [if_neg h1] at h ⊢
   split at h
   ·injection h with h; omega
   ·cases h
theorem find_num {l : List Int} {c k : Nat} (hk : k < l.length) (h : (c : Int) < num l k) (hn : ∀ j, j < k → ¬ (c : Int) < num l j) : l.find? (fun s => decide ((c : Int) < s)) = some (num l k) := by
 rw [List.find?_eq_some_iff_getElem]
 refine ⟨decide_eq_true h, k, hk, num_eq hk, fun j hj => ?_⟩
 have := hn j hj
 rw [← num_eq (by omega)] at this
 simp [this]
theorem find_none {l : List Int} {c : Nat} (hn : ∀ j, j < l.length → ¬ (c : Int) < num l j) : l.find? (fun s => decide ((c : Int) < s)) = none := by
 rw [List.find?_eq_none]
 intro s hs
 obtain ⟨j, hj, rfl⟩ := List.getElem_of_mem hs
 rw [num_eq hj]
 simpa using hn j hj
theorem moved_any (k c : Nat) (A : Option Addr) (cap : Nat) (l : List Int) (w : World) (hk : k < 3) (hc : c ≤ 30) (h : Rds w 1 A l.length (ics l)) (hn : l.length ≤ 100000000) (x : Int) (hx : ((mvB k).toNat : Int) = x) :
  Calls Tryz.prog 207 #[.slice A l.length cap, i64 c, .int .u8 x] w fun e w' => e = .returned (.tuple #[i64 (mvX l k c), .bool (mvTo l k c).isSome]) ∧ UpOf w w' := by
 have h3 : k = 2 ∨ k = 1 ∨ k = 0 := by omega
 rcases h3 with rfl | rfl | rfl
 ·obtain rfl : x = 62 := hx.symm
  have hf : Hid (mvX l 2 c = (c : Int) + 1 ∧ (mvTo l 2 c).isSome = decide ((c : Int) < 30)) := by
   refine ⟨rfl, ?_⟩
   by_cases q : c < 30
   ·rw [decide_eq_true (by omega), mvTo, if_neg (by omega), if_neg (by omega), if_pos q]; rfl
   ·rw [decide_eq_false (by omega), mvTo, if_neg (by omega), if_neg (by omega), if_neg q]; rfl
  go_enter Tryz.func207, Tryz.ntmps207
  go_wp2_with fail
  all_goals go_ret2
  all_goals exact ⟨by rw [hf.out.1, hf.out.2] <;> rfl, uw_⟩
 ·obtain rfl : x = 60 := hx.symm
  have hf : Hid (mvX l 1 c = (c : Int) - 1 ∧ (mvTo l 1 c).isSome = decide (0 < c)) := by
   refine ⟨rfl, ?_⟩
   by_cases q : 0 < c
   ·rw [decide_eq_true (by omega), mvTo, if_neg (by omega), if_pos rfl, if_pos q]; rfl
   ·rw [decide_eq_false (by omega), mvTo, if_neg (by omega), if_pos rfl, if_neg q]; rfl
  go_enter Tryz.func207, Tryz.ntmps207
  go_wp2_with fail
  all_goals go_ret2
  all_goals exact ⟨by rw [hf.out.1, hf.out.2] <;> rfl, uw_⟩
 ·obtain rfl : x = 35 := hx.symm
  go_enter Tryz.func207, Tryz.ntmps207
  go_wp2_with fail
  go_loopw [25] (fun i wr => ∃ k : Nat, k ≤ l.length ∧ i = i64 k ∧ Hid (∀ j, j < k → ¬ (c : Int) < num l j) ∧ ∃ g : Up w, wr = up w g) (fun i _ => l.length - (intOf i).toNat)
  case atStart => exact ⟨0, by omega, rfl, fun i hi => by omega, ex_up bw_⟩
  case round =>
   obtain ⟨k, hk, rfl, hok, g, rfl⟩ := hrel
   by_cases hlt : k < l.length
   ·obtain ⟨b, off, rfl, hb, c0⟩ := num_at h hlt
    by_cases q : (c : Int) < num l k
    ·have hf : Hid (mvX l 0 c = num l k ∧ (mvTo l 0 c).isSome = true) := by
      have := find_num hlt q hok.out
      exact ⟨by rw [mvX, if_pos rfl, this]; rfl, by rw [mvTo, if_pos rfl, tabOf, this]; rfl⟩
     go_wp2_with fail
     go_ret2
     exact ⟨by rw [hf.out.1, hf.out.2] <;> rfl, uw_⟩
    ·have hq := hd_ q
     go_wp2_with fail
     go_roundw
     case rel => exact ⟨k + 1, by omega, by go_num, lt_extD (P := fun j => ¬ (c : Int) < num l j) hok.out hq.out, ex_up bw_⟩
     case measure => (simp [intOf]; try omega)
   ·have hf : Hid (mvX l 0 c = 0 ∧ (mvTo l 0 c).isSome = false) := by
     have := find_none (l := l) (c := c) (fun i hi => hok.out i (by omega))
     exact ⟨by rw [mvX, if_pos rfl, this]; rfl, by rw [mvTo, if_pos rfl, tabOf, this]; rfl⟩
    go_wp2_with fail
    go_ret2
    exact ⟨by rw [hf.out.1, hf.out.2] <;> rfl, uw_⟩
theorem l11Tab_any (c : Nat) (A : Option Addr) (cap : Nat) (l : List Int) (w : World) (h : Rds w 1 A l.length (ics l)) (hn : l.length ≤ 100000000) :
  Calls Tryz.prog 232 #[.slice A l.length cap, i64 c] w fun e w' => e = .returned (i64 ((l.find? fun s => decide ((c : Int) < s)).getD (-1))) ∧ UpOf w w' := by
 go_enter Tryz.func232, Tryz.ntmps232
 go_wp2_with fail
 go_loopw [5] (fun i wr => ∃ k : Nat, k ≤ l.length ∧ i = i64 k ∧ Hid (∀ j, j < k → ¬ (c : Int) < num l j) ∧ ∃ g : Up w, wr = up w g) (fun i _ => l.length - (intOf i).toNat)
 case atStart => exact ⟨0, by omega, rfl, fun i hi => by omega, ex_up bw_⟩
 case round =>
  obtain ⟨k, hk, rfl, hok, g, rfl⟩ := hrel
  by_cases hlt : k < l.length
  ·obtain ⟨b, off, rfl, hb, c0⟩ := num_at h hlt
   by_cases q : (c : Int) < num l k
   ·have hf := hd_ (find_num hlt q hok.out)
    go_wp2_with fail
    go_ret
    exact ⟨by rw [hf.out] <;> rfl, uw_⟩
   ·have hq := hd_ q
    go_wp2_with fail
    go_roundw
    case rel => exact ⟨k + 1, by omega, by go_num, lt_extD (P := fun j => ¬ (c : Int) < num l j) hok.out hq.out, ex_up bw_⟩
    case measure => (simp [intOf]; try omega)
  ·have hf := hd_ (find_none (l := l) (c := c) (fun i hi => hok.out i (by omega)))
   go_wp2_with fail
   go_ret
   exact ⟨by rw [hf.out] <;> rfl, uw_⟩
theorem l11Column_any (n : Int) (w : World) : Calls Tryz.prog 233 #[i64 n] w fun e w' => e = .returned (.bool (btw n 0 30)) ∧ UpOf w w' := by
 go_enter Tryz.func233, Tryz.ntmps233
 go_wp2_with (first | (go_at_call 141; refine (in_any _ _ _ _).mono ?_; rintro e w' ⟨rfl, rfl⟩))
 go_ret
 exact ⟨rfl, uw_⟩
def nxX (l : List Int) (k c : Nat) : Int := match mvTo l k c with | some d => (d : Int) | none => -1
theorem nxX_some {l : List Int} {k c d : Nat} (h : mvTo l k c = some d) : nxX l k c = d := by rw [nxX, h]
theorem nxX_none {l : List Int} {k c : Nat} (h : mvTo l k c = none) : nxX l k c = -1 := by rw [nxX, h]
theorem l11Next_any (k c : Nat) (A : Option Addr) (cap : Nat) (l : List Int) (w : World) (hk : k < 3) (hc : c ≤ 30) (hv : vStops l = true) (h : Rds w 1 A l.length (ics l)) (hn : l.length ≤ 100000000) (x : Int) (hx : ((mvB k).toNat : Int) = x) :
  Calls Tryz.prog 231 #[.slice A l.length cap, i64 c, .int .u8 x] w fun e w' => e = .returned (i64 (nxX l k c)) ∧ UpOf w w' := by
 have h3 : k = 2 ∨ k = 1 ∨ k = 0 := by omega
 rcases h3 with rfl | rfl | rfl
 ·obtain rfl : x = 62 := hx.symm
  by_cases q : c < 30
  ·have hf := hd_ (nxX_some (l := l) (k := 2) (c := c) (d := c + 1) (by rw [mvTo, if_neg (by omega), if_neg (by omega), if_pos q]))
   have hb : btw ((c : Int) + 1) 0 30 = true := decide_eq_true (by omega)
   go_enter Tryz.func231, Tryz.ntmps231
   go_wp2_with (first | (go_at_call 233; refine (ret_as (l11Column_any _ _) hb).mono ?_; rintro e w' ⟨rfl, g, rfl⟩))
   go_ret
   exact ⟨by rw [hf.out] <;> rfl, uw_⟩
  ·have hf := hd_ (nxX_none (l := l) (k := 2) (c := c) (by rw [mvTo, if_neg (by omega), if_neg (by omega), if_neg q]))
   have hb : btw ((c : Int) + 1) 0 30 = false := decide_eq_false (by omega)
   go_enter Tryz.func231, Tryz.ntmps231
   go_wp2_with (first | (go_at_call 233; refine (ret_as (l11Column_any _ _) hb).mono ?_; rintro e w' ⟨rfl, g, rfl⟩))
   go_ret
   exact ⟨by rw [hf.out] <;> rfl, uw_⟩
 ·obtain rfl : x = 60 := hx.symm
  by_cases q : 0 < c
  ·have hf := hd_ (nxX_some (l := l) (k := 1) (c := c) (d := c - 1) (by rw [mvTo, if_neg (by omega), if_pos rfl, if_pos q]))
   have hb : btw ((c : Int) - 1) 0 30 = true := decide_eq_true (by omega)
   have he : Hid (((c - 1 : Nat) : Int) = (c : Int) - 1) := by show _ = _; omega
   go_enter Tryz.func231, Tryz.ntmps231
   go_wp2_with (first | (go_at_call 233; refine (ret_as (l11Column_any _ _) hb).mono ?_; rintro e w' ⟨rfl, g, rfl⟩))
   go_ret
   exact ⟨by rw [hf.out, he.out] <;> rfl, uw_⟩
  ·have hf := hd_ (nxX_none (l := l) (k := 1) (c := c) (by rw [mvTo, if_neg (by omega), if_pos rfl, if_neg q]))
   have hb : btw ((c : Int) - 1) 0 30 = false := decide_eq_false (by omega)
   go_enter Tryz.func231, Tryz.ntmps231
   go_wp2_with (first | (go_at_call 233; refine (ret_as (l11Column_any _ _) hb).mono ?_; rintro e w' ⟨rfl, g, rfl⟩))
   go_ret
   exact ⟨by rw [hf.out] <;> rfl, uw_⟩
 ·obtain rfl : x = 35 := hx.symm
  cases q : l.find? (fun s => decide ((c : Int) < s)) with
  | none =>
   have hf := hd_ (nxX_none (l := l) (k := 0) (c := c) (by rw [mvTo, if_pos rfl, tabOf, q]; rfl))
   have hcl := hd_ (fun (W : World) hW => show Calls Tryz.prog 232 #[.slice A l.length cap, i64 c] W fun e w' => e = .returned (i64 (-1)) ∧ UpOf W w' from by have := l11Tab_any c A cap l W (h.below hW) hn; rwa [q] at this)
   have hb : btw (-1) 0 30 = false := rfl
   clear q
   go_enter Tryz.func231, Tryz.ntmps231
   go_wp2_with (first | (go_at_call 232; refine (hcl.out _ bw_).mono ?_; rintro e w' ⟨rfl, g, rfl⟩) | (go_at_call 233; refine (ret_as (l11Column_any _ _) hb).mono ?_; rintro e w' ⟨rfl, g, rfl⟩))
   go_ret
   exact ⟨by rw [hf.out] <;> rfl, uw_⟩
  | some s =>
   have hs := stop_bd hv s (List.mem_of_find?_eq_some q)
   have hf := hd_ (nxX_some (l := l) (k := 0) (c := c) (d := s.toNat) (by rw [mvTo, if_pos rfl, tabOf, q]; rfl))
   have he : Hid (((s.toNat : Nat) : Int) = s) := by show _ = _; omega
   have hcl := hd_ (fun (W : World) hW => show Calls Tryz.prog 232 #[.slice A l.length cap, i64 c] W fun e w' => e = .returned (i64 s) ∧ UpOf W w' from by have := l11Tab_any c A cap l W (h.below hW) hn; rwa [q] at this)
   have hb : btw s 0 30 = true := decide_eq_true (by omega)
   clear q
   go_enter Tryz.func231, Tryz.ntmps231
   go_wp2_with (first | (go_at_call 232; refine (hcl.out _ bw_).mono ?_; rintro e w' ⟨rfl, g, rfl⟩) | (go_at_call 233; refine (ret_as (l11Column_any _ _) hb).mono ?_; rintro e w' ⟨rfl, g, rfl⟩))
   go_ret
   exact ⟨by rw [hf.out, he.out] <;> rfl, uw_⟩
end Go.Proofs.YtbianlkenallaaaGreatDoor
