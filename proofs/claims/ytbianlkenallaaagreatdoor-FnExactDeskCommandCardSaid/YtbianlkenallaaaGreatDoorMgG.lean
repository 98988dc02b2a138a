/-
  Common parts, put together: ConsP, Small1, Small2, Drill4, DkM, Small3, Small4, Dk1, ConsL, ConsR8, Own8, WordF, ConsR0, ConsR2, ConsR3, CodeT5, ConsR6, ConsR4, CodeW4, DkCopy, AlignR4, MarkDesk.
-/
import Derived.Test.YtbianlkenallaaaGreatDoorMgA
import Derived.Test.YtbianlkenallaaaGreatDoorMgF
import Derived.Test.YtbianlkenallaaaGreatDoorDeskOk
import Derived.Test.YtbianlkenallaaaGreatDoorMgB
import Derived.Test.YtbianlkenallaaaGreatDoorMgD
import Derived.Test.YtbianlkenallaaaGreatDoorDrill3
import Derived.Test.YtbianlkenallaaaGreatDoorCodeT4
import Derived.Test.YtbianlkenallaaaGreatDoorCodeW3
import Derived.Test.YtbianlkenallaaaGreatDoorAlignR5
import Derived.Test.YtbianlkenallaaaGreatDoorLawSameDesk
set_option linter.all false
set_option maxHeartbeats 8000000
set_option maxRecDepth 10000
namespace Go.Proofs.YtbianlkenallaaaGreatDoor
open Go.RowKit
def cnms : List ByteArray := [⟨#[111, 107]⟩, ⟨#[105, 110, 118, 97, 108, 105, 100]⟩, ⟨#[114, 97, 110, 103, 101]⟩, ⟨#[110, 111, 116, 45, 102, 111, 117, 110, 100]⟩, ⟨#[101, 120, 105, 115, 116, 115]⟩, ⟨#[102, 117, 108, 108]⟩, ⟨#[115, 116, 97, 116, 101]⟩, ⟨#[115, 121, 110, 116, 97, 120]⟩, ⟨#[102, 111, 114, 109, 97, 116]⟩, ⟨#[99, 108, 97, 115, 104]⟩, ⟨#[106, 97, 109]⟩]
def cnm (c : Int) : ByteArray := if btw c 0 10 then wd cnms c.toNat else ⟨#[]⟩
def errL (c : Int) : ByteArray := (⟨#[101, 114, 114, 111, 114, 32]⟩ : ByteArray) ++ cnm c
def cmds : List ByteArray := [⟨#[97, 108, 105, 103, 110]⟩, ⟨#[98, 97, 115, 107, 101, 116]⟩, ⟨#[99, 111, 100, 101]⟩, ⟨#[100, 114, 105, 108, 108]⟩, ⟨#[100, 114, 105, 108, 108, 115]⟩, ⟨#[101, 110, 116, 101, 114]⟩, ⟨#[102, 97, 115, 116]⟩, ⟨#[108, 105, 110, 101]⟩, ⟨#[108, 111, 103]⟩, ⟨#[109, 97, 114, 107]⟩, ⟨#[114, 111, 119]⟩, ⟨#[115, 101, 116]⟩, ⟨#[115, 116, 111, 112, 115]⟩, ⟨#[119, 97, 105, 116]⟩]
def kindOf (s : ByteArray) : Nat := (cmds.findIdx? fun x => decide (x = s)).getD 14
def fitK (k n : Nat) : Bool :=
 if k = 4 ∨ k = 8 then decide (n = 1) else if k = 0 ∨ k = 7 ∨ k = 9 ∨ k = 13 then decide (n = 3) else if k = 5 then decide (n = 4) else if k = 1 then decide (n = 6)
 else if k = 11 then decide (3 ≤ n) else if k = 14 then false else decide (2 ≤ n)
def sent (r : ByteArray × Int) : List ByteArray := if r.2 = 0 then [r.1] else [errL r.2]
def nmb (r : Int × Int) : List ByteArray := if r.2 = 0 then [dec r.1] else [errL r.2]
def numsOf (ws : List ByteArray) : Option (List Int) := if ws.all numB then some (ws.map sval) else none
def restW (ws : List ByteArray) (k : Nat) : ByteArray := ⟨(joinL 32 (ws.drop k)).toArray⟩
def okLine (n : Nat) : ByteArray := (⟨#[111, 107, 32]⟩ : ByteArray) ++ dec n
def hasName (l : List Drill) (n : ByteArray) : Bool := l.any fun x => decide (x.name = n)
def addD (l : List Drill) (d : Drill) : List Drill × Int :=
 if vDrills l then (if vDrill d then (if hasName l d.name then ([], 4) else if l.length = 10 then ([], 5) else (l ++ [d], 0)) else ([], 2)) else ([], 1)
def TwoOk (two : List ByteArray → ByteArray × Int) : Prop := ∀ ws, (vCode ws = true → IsTwo (lists ws) (two ws).1.data.toList (two ws).2) ∧ (vCode ws = false → two ws = (⟨#[]⟩, 1))
def codeOut (r : ByteArray × Int) : List ByteArray := if r.2 = 3 then [⟨#[117, 110, 105, 113, 117, 101]⟩] else sent r
def sumI : List Int → Int
 | [] => 0
 | x :: l => x + sumI l
def findD (l : List Drill) (n : ByteArray) : Option Drill := l.find? fun x => decide (x.name = n)
def doK (two : List ByteArray → ByteArray × Int) (d : DeskD) (ws : List ByteArray) (k : Nat) : DeskD × List ByteArray :=
 match k with
 | 0 => (d, sent (alnR (wd ws 1) (wd ws 2)))
 | 1 => match numsOf (ws.drop 1) with
   | none => (d, [errL 7])
   | some l => if vBsk ⟨num l 0, num l 1, num l 2, num l 3, num l 4⟩ then ({ d with b := ⟨num l 0, num l 1, num l 2, num l 3, num l 4⟩ }, [dkText { d with b := ⟨num l 0, num l 1, num l 2, num l 3, num l 4⟩ }]) else (d, [errL 1])
 | 2 => (d, codeOut (two (wordsA [] (restW ws 1).data.toList)))
 | 3 => match rdDrill (restW ws 1) with
   | none => (d, [errL 7])
   | some x => if (addD d.drills x).2 = 0 then ({ d with drills := (addD d.drills x).1 }, [dkText { d with drills := (addD d.drills x).1 }]) else (d, [errL (addD d.drills x).2])
 | 4 => (d, d.drills.map drText ++ [okLine d.drills.length])
 | 5 => match numsOf [wd ws 1, wd ws 3] with
   | none => (d, [errL 7])
   | some l => if (adR d.log ⟨num l 0, wd ws 2, num l 1⟩).2 = 0 then ({ d with log := (adR d.log ⟨num l 0, wd ws 2, num l 1⟩).1 }, nmb (sumI (vaR (adR d.log ⟨num l 0, wd ws 2, num l 1⟩).1 (wd ws 2)).1, (vaR (adR d.log ⟨num l 0, wd ws 2, num l 1⟩).1 (wd ws 2)).2)) else (d, [errL (adR d.log ⟨num l 0, wd ws 2, num l 1⟩).2])
 | 6 => match numsOf (ws.drop 1) with
   | none => (d, [errL 7])
   | some l => (d, nmb (tfR d.b l))
 | 7 => if numB (wd ws 2) then (match findD d.drills (wd ws 1) with | none => (d, [errL 3]) | some x => (d, sent (dlR x (sval (wd ws 2))))) else (d, [errL 7])
 | 8 => (d, (entsL d.log).map ewords ++ [okLine (entsL d.log).length])
 | 9 => (d, nmb (mrkR (wd ws 1) (wd ws 2)))
 | 10 => (d, sent (rowR d.stops (restW ws 1)))
 | 11 => if numB (wd ws 1) then (d, sent (setR (wordsA [] (restW ws 2).data.toList) (sval (wd ws 1)))) else (d, [errL 7])
 | 12 => match numsOf (ws.drop 1) with
   | none => (d, [errL 7])
   | some l => if vStops l then ({ d with stops := l }, [dkText { d with stops := l }]) else (d, [errL 1])
 | _ => match numsOf (ws.drop 1) with
   | none => (d, [errL 7])
   | some l => (d, nmb (mwR d.b (num l 0) (num l 1)))
def doL (two : List ByteArray → ByteArray × Int) (d : DeskD) (line : ByteArray) : Option (DeskD × List ByteArray) :=
 if fitK (kindOf (wd (splitA 32 [] line.data.toList) 0)) (splitA 32 [] line.data.toList).length then some (doK two d (splitA 32 [] line.data.toList) (kindOf (wd (splitA 32 [] line.data.toList) 0))) else none
def txPost (l : List ByteArray) (w : World) (e : Ending) (w' : World) : Prop :=
 ∃ A c, e = .returned (.slice A l.length c) ∧ w'.ownsRow w.heap.size 9 1 (.slice A l.length c) l.length (strs l) ∧ UpOf w w'
theorem tx_one (w : World) (s : ByteArray) : txPost [s] w (.returned (.slice (some ⟨w.heap.size, 0, none⟩) 1 1)) (w.alloc (.cells #[.string s] 9)) :=
 ⟨_, _, rfl, World.ownsRow_lit (base := w.heap.size) (e := 9) (size := 1) w #[.string s] 1 (Nat.le_refl _) (by unfold maxLen; omega) rfl, uw_⟩
theorem tx_up {l : List ByteArray} {w w1 : World} {e : Ending} {w' : World} (hu : UpOf w w1) (h : txPost l w1 e w') : txPost l w e w' := by
 obtain ⟨A, c, h1, h2, h3⟩ := h
 exact ⟨A, c, h1, om_ h2 hu.below.size, hu.tr h3.below⟩
theorem codeName_any (c : Int) (w : World) : Calls Tryz.prog 121 #[i64 c] w fun e w' => e = .returned (.string (cnm c)) ∧ UpOf w w' := by
 go_enter Tryz.func121, Tryz.ntmps121
 go_upto_region 2 with (fail)
 refine wpg (R := fun V => (∀ i, i < 11 → V.cell? ⟨w.heap.size, i, none⟩ = some (.string (wd cnms i))) ∧ w.heap.size < V.heap.size ∧ UpOf w V) ⟨fun i hi => ?_, by simp, uw_⟩ (fun V z => ?_)
 ·rw [World.cell?_alloc_new]
  have : i = 0 ∨ i = 1 ∨ i = 2 ∨ i = 3 ∨ i = 4 ∨ i = 5 ∨ i = 6 ∨ i = 7 ∨ i = 8 ∨ i = 9 ∨ i = 10 := by omega
  rcases this with rfl | rfl | rfl | rfl | rfl | rfl | rfl | rfl | rfl | rfl | rfl <;> rfl
 obtain ⟨hc, hq, hu⟩ := z
 have HU := hd_ hu
 have HC := hd_ hc
 clear hc hu
 generalize w.heap.size = q at *
 by_cases h0 : c < 0
 ·have hr : Hid (cnm c = ⟨#[]⟩) := hd_ (by rw [cnm, btw, decide_eq_false (by omega)]; rfl)
  have h0' : decide (c < 0) = true := decide_eq_true h0
  go_wp2_with fail
  go_ret
  rw [hr.out]
  exact ⟨rfl, HU.out.tr bw_⟩
 ·have h0' : decide (c < 0) = false := decide_eq_false h0
  by_cases h1 : (11 : Int) ≤ c
  ·have hr : Hid (cnm c = ⟨#[]⟩) := hd_ (by rw [cnm, btw, decide_eq_false (by omega)]; rfl)
   have h1' : decide ((11 : Int) ≤ c) = true := decide_eq_true h1
   go_wp2_with fail
   go_ret
   rw [hr.out]
   exact ⟨rfl, HU.out.tr bw_⟩
  ·have h1' : decide ((11 : Int) ≤ c) = false := decide_eq_false h1
   obtain ⟨n, rfl⟩ : ∃ n : Nat, c = (n : Int) := ⟨c.toNat, by omega⟩
   have hn : n < 11 := by omega
   have hn' : (n : Int) < 11 := by omega
   have hx := HC.out n hn
   have hr : Hid (cnm n = wd cnms n) := hd_ (by rw [cnm, btw, decide_eq_true (by omega)]; rfl)
   go_wp2_with fail
   go_ret
   rw [hr.out]
   exact ⟨rfl, HU.out.tr bw_⟩
theorem cnm_size (c : Int) : (cnm c).size ≤ 9 := by
 rw [cnm]
 split
 ·rename_i h
  have hb := btw_true h
  obtain ⟨n, rfl⟩ : ∃ n : Nat, c = (n : Int) := ⟨c.toNat, by omega⟩
  have : n = 0 ∨ n = 1 ∨ n = 2 ∨ n = 3 ∨ n = 4 ∨ n = 5 ∨ n = 6 ∨ n = 7 ∨ n = 8 ∨ n = 9 ∨ n = 10 := by omega
  rcases this with rfl | rfl | rfl | rfl | rfl | rfl | rfl | rfl | rfl | rfl | rfl <;> decide
 ·decide
theorem report_any (c : Int) (w : World) : Calls Tryz.prog 70 #[i64 c] w fun e w' => txPost [errL c] w e w' := by
 have hs := cnm_size c
 go_enter Tryz.func70, Tryz.ntmps70
 go_wp2_with (first | (go_at_call 121; refine cu_ (codeName_any c _) fun g => ?_))
 go_ret
 exact tx_up (uw_) (tx_one _ _)
theorem sentence_any (s : ByteArray) (c : Int) (w : World) : Calls Tryz.prog 33 #[.string s, i64 c] w fun e w' => txPost (sent (s, c)) w e w' := by
 by_cases h : c = 0
 ·subst h
  have hr := hd_ (show sent (s, 0) = [s] from rfl)
  rw [hr.out]
  go_enter Tryz.func33, Tryz.ntmps33
  go_wp2_with fail
  go_ret
  exact tx_one _ _
 ·have h1 : (c != 0) = true := by rw [bne_iff_ne]; exact h
  have hr : sent (s, c) = [errL c] := by rw [sent, if_neg h]
  rw [hr]
  clear hr h
  go_enter Tryz.func33, Tryz.ntmps33
  go_wp2_with fail
  refine (report_any c _).mono ?_
  rintro e w' ⟨A, c', rfl, o, g, rfl⟩
  go_wp2_with fail
  go_ret
  exact ⟨A, c', rfl, o, uw_⟩
theorem number_any (n : Int) (c : Int) (w : World) (h0 : -9223372036854775808 ≤ n) (h1 : n ≤ 9223372036854775807) (ht : Tab w) : Calls Tryz.prog 35 #[i64 n, i64 c] w fun e w' => txPost (nmb (n, c)) w e w' := by
 have HT := hd_ ht
 clear ht
 by_cases h : c = 0
 ·subst h
  have hr := hd_ (show nmb (n, 0) = [dec n] from rfl)
  rw [hr.out]
  go_enter Tryz.func35, Tryz.ntmps35
  go_wp2_with (first | (go_at_call 41; refine cu_ (decI_any n _ h0 h1 (HT.out.below bw_)) fun g => ?_))
  go_ret
  exact tx_up (uw_) (tx_one _ _)
 ·have h2 : (c != 0) = true := by rw [bne_iff_ne]; exact h
  have hr : nmb (n, c) = [errL c] := by rw [nmb, if_neg h]
  rw [hr]
  clear hr h
  go_enter Tryz.func35, Tryz.ntmps35
  go_wp2_with fail
  refine (report_any c _).mono ?_
  rintro e w' ⟨A, c', rfl, o, g, rfl⟩
  go_wp2_with fail
  go_ret
  exact ⟨A, c', rfl, o, uw_⟩
theorem el_int64 : ElemOf Tryz.prog 28 2 (i64 0) 1 8 := elem_of Tryz.underlying28 (by kernel_rfl) rfl (by omega)
theorem listed_any (base : Nat) (A : Option Addr) (c : Nat) (l : List ByteArray) (w : World) (hb : base ≤ w.heap.size) (h : w.ownsRow base 9 1 (.slice A l.length c) l.length (strs l)) (hn : l.length ≤ 100000000) (ht : Tab w) (W : World) (hW : Below W.heap.size W w) (hWb : W.heap.size ≤ base) :
 Calls Tryz.prog 89 #[.slice A l.length c] w fun e w' => ∃ A' c', e = .returned (.slice A' (l.length + 1) c') ∧ w'.ownsRow base 9 1 (.slice A' (l.length + 1) c') (l.length + 1) (strs (l ++ [okLine l.length])) ∧ UpOf W w' := by
 have HT := hd_ ht
 have HO := hd_ h
 have hd := (dec_bytes (n := (l.length : Int)) (by omega) (by omega)).2.2
 have HWw := hd_ hW
 clear ht h hW
 go_enter Tryz.func89, Tryz.ntmps89
 go_wp2_with (first | (go_at_call 41; refine cu_ (decI_any (l.length : Int) _ (by omega) (by omega) (HT.out.below bw_)) fun g => ?_) | (at_builtin; go_must (refine wpl_appU rfl _ _ 24 rfl W base 9 _ 1 16 el_str (.slice A l.length c) l.length (strs l) rfl (ob_ HO.out bw_) _ 1 1 [.string (okLine l.length)] rfl (rds_new _ _ _ 1 1 rfl) (fun u hu => by simp at hu; subst hu; rfl) (by unfold maxLen; omega) (by omega) (Nat.le_trans hb (show Below w.heap.size w _ from bw_).size) (HWw.out.trans (Below.mono bw_ HWw.out.size)) hWb ?_; intro A2 c2 g2 o2)))
 go_ret
 exact ⟨A2, c2, rfl, by rw [strs_app]; exact o2, UpOf.of (ub_ _ _)⟩
def sumI' (l : List Int) (k : Nat) : Int := sumI (l.take k)
theorem sumI_app (a b : List Int) : sumI (a ++ b) = sumI a + sumI b := by
 induction a with
 | nil => simp [sumI]
 | cons x a ih => rw [List.cons_append, sumI, ih, sumI]; omega
theorem sumI'_step {l : List Int} {k : Nat} (h : k < l.length) : sumI' l (k + 1) = sumI' l k + num l k := by
 rw [sumI', sumI', List.take_succ, sumI_app, List.getElem?_eq_getElem h, num_eq h]
 show sumI _ + sumI [num l k] = _
 rw [sumI, sumI]; omega
theorem sumI'_bd {l : List Int} {B : Int} (hB : 0 ≤ B) (h : ∀ i, i < l.length → -B ≤ num l i ∧ num l i ≤ B) : ∀ k, k ≤ l.length → -(B * k) ≤ sumI' l k ∧ sumI' l k ≤ B * k
 | 0, _ => by rw [sumI', List.take_zero, sumI]; simp
 | k + 1, hk => by
   have h1 := sumI'_bd hB h k (by omega)
   have h2 := h k (by omega)
   rw [sumI'_step (by omega)]
   have : B * ((k + 1 : Nat) : Int) = B * k + B := by push_cast; rw [Int.mul_add, Int.mul_one]
   rw [this]
   omega
theorem sumOf_any (A : Option Addr) (c : Nat) (l : List Int) (w : World) (h : Rds w 1 A l.length (ics l)) (hn : l.length ≤ 1000000) (hv : ∀ i, i < l.length → -1000000000 ≤ num l i ∧ num l i ≤ 1000000000) :
 Calls Tryz.prog 87 #[.slice A l.length c] w fun e w' => e = .returned (i64 (sumI l)) ∧ w = w' := by
 have HV := hd_ hv
 have HR := hd_ h
 clear hv h
 go_enter Tryz.func87, Tryz.ntmps87
 go_wp2_with fail
 go_loopw [3, 8] (fun t3 t8 wr => ∃ (k : Nat) (z : Int), k ≤ l.length ∧ t8 = i64 k ∧ t3 = .int .i64 z ∧ Hid (z = sumI' l k) ∧ wr = w) (fun _ t8 _ => l.length - (intOf t8).toNat)
 case atStart => exact ⟨0, 0, by omega, rfl, rfl, hd_ rfl, rfl⟩
 case round =>
  obtain ⟨k, z, hk, rfl, rfl, HZ, rfl⟩ := hrel
  have hb0 := sumI'_bd (B := 1000000000) (by omega) HV.out k hk
  have hz1 : -1000000000000000 ≤ z := by rw [HZ.out]; omega
  have hz2 : z ≤ 1000000000000000 := by rw [HZ.out]; omega
  clear hb0
  by_cases hlt : k < l.length
  ·obtain ⟨b, off, rfl, hb, c0⟩ := num_at HR.out hlt
   have hx := HV.out k hlt
   obtain ⟨x, hx0⟩ := nm_ (num l k)
   have HZ2 := hd_ (show z + x = sumI' l (k + 1) by rw [sumI'_step hlt, HZ.out, hx0])
   rw [hx0] at hx c0
   obtain ⟨hx1, hx2⟩ := hx
   clear HZ hx0
   go_wp2_with fail
   refine ⟨⟨k + 1, _, by omega, by go_num, rfl, HZ2, by first | rfl | trivial⟩, by simp [intOf]; try omega⟩
  ·obtain rfl : k = l.length := by omega
   have HL : Hid (sumI l = z) := hd_ (by rw [HZ.out, sumI', List.take_length])
   clear HZ
   go_wp2_with fail
   go_ret
   rw [HL.out]
   exact ⟨rfl, rfl⟩
def rnPost (ws : List ByteArray) (w : World) (e : Ending) (w' : World) : Prop := match numsOf ws with
 | none => e = .returned (.tuple #[.slice none 0 0, .bool false]) ∧ UpOf w w'
 | some l => ∃ A c, e = .returned (.tuple #[.slice A l.length c, .bool true]) ∧ w'.ownsRow w.heap.size 2 1 (.slice A l.length c) l.length (ics l) ∧ UpOf w w'
theorem numsOf_no {ws : List ByteArray} {i : Nat} (hi : i < ws.length) (h : numB (wd ws i) = false) : numsOf ws = none := by
 rw [numsOf, if_neg]
 intro ha
 rw [List.all_eq_true] at ha
 have := ha (wd ws i) (by rw [← wd_eq hi]; exact List.getElem_mem hi)
 rw [h] at this
 cases this
theorem numsOf_yes {ws : List ByteArray} (h : ∀ i, i < ws.length → numB (wd ws i) = true) : numsOf ws = some (ws.map sval) := by
 rw [numsOf, if_pos]
 rw [List.all_eq_true]
 intro x hx
 obtain ⟨i, hi, rfl⟩ := List.getElem_of_mem hx
 rw [wd_eq hi]
 exact h i hi
theorem readNumbers_any (A : Option Addr) (c : Nat) (ws : List ByteArray) (w : World) (h : Rds w 1 A ws.length (strs ws)) (hn : ws.length ≤ 10000000) (hf : ∀ i, i < ws.length → (wd ws i).size ≤ 100000000) (ht : Tab w) :
 Calls Tryz.prog 69 #[.slice A ws.length c] w fun e w' => rnPost ws w e w' := by
 have HT := hd_ ht
 have HF := hd_ hf
 have HR := hd_ h
 have hOwn := hd_ (World.ownsRow_lit (base := w.heap.size) (e := 2) (size := 1) w #[] 0 (Nat.le_refl _) (by unfold maxLen; omega) rfl)
 clear ht hf h
 go_enter Tryz.func69, Tryz.ntmps69
 go_wp2_with fail
 go_loopw [4, 12] (fun t4 t12 wr => ∃ (k : Nat) (L : List Int) (A1 : Option Addr) (c1 : Nat), k ≤ ws.length ∧ t12 = i64 k ∧ t4 = .slice A1 L.length c1 ∧ Hid (L = (ws.take k).map sval) ∧ Hid (∀ j, j < k → numB (wd ws j) = true) ∧ Hid (wr.ownsRow w.heap.size 2 1 (.slice A1 L.length c1) L.length (ics L)) ∧ ∃ g : Up w, wr = up w g) (fun _ t12 _ => ws.length - (intOf t12).toNat)
 case atStart => exact ⟨0, [], _, _, by omega, rfl, rfl, hd_ rfl, hd_ (fun j hj => by omega), hd_ hOwn.out, ex_up bw_⟩
 case round =>
  obtain ⟨k, L, A1, c1, hk, rfl, rfl, HE, HK, HO, g, rfl⟩ := hrel
  clear hOwn
  by_cases hlt : k < ws.length
  ·obtain ⟨b, off, rfl, hb, c0⟩ := wd_at HR.out hlt
   have c0 := c0 k hlt
   have f1 := HF.out k hlt
   cases hv : numB (wd ws k) with
   | false =>
     have HC : Hid (∀ V, Tab V → Calls Tryz.prog 79 #[.string (wd ws k)] V fun e w' => e = .returned (.tuple #[i64 0, .bool false]) ∧ UpOf V w') := hd_ fun V hV => by
      have := readDecimal_any (wd ws k) V (by omega) hV
      rw [rdR_no hv] at this
      exact this
     have hf := hd_ (numsOf_no hlt hv)
     clear hv
     go_wp2_with (first | (go_at_call 79; refine cu_ (HC.out _ (HT.out.below bw_)) fun g => ?_))
     go_ret2
     unfold rnPost
     rw [hf.out]
     exact ⟨rfl, uw_⟩
   | true =>
     obtain ⟨x, hx⟩ := nm_ (sval (wd ws k))
     have HC : Hid (∀ V, Tab V → Calls Tryz.prog 79 #[.string (wd ws k)] V fun e w' => e = .returned (.tuple #[i64 x, .bool true]) ∧ UpOf V w') := hd_ fun V hV => by
      have := readDecimal_any (wd ws k) V (by omega) hV
      rw [rdR_ok hv, hx] at this
      exact this
     have HK2 := hd_ (lt_ext (P := fun j => numB (wd ws j) = true) HK.out hv)
     have HE2 := hd_ (show L ++ [x] = (ws.take (k + 1)).map sval by
      rw [List.take_succ, List.map_append, ← HE.out, List.getElem?_eq_getElem hlt, wd_eq hlt, ← hx]; rfl)
     have hL : L.length ≤ 10000000 := by rw [HE.out, List.length_map, List.length_take]; omega
     clear hv hx HE
     go_wp2_with (first | (go_at_call 79; refine cu_ (HC.out _ (HT.out.below bw_)) fun g => ?_) | (at_builtin; go_must (refine wpl_appU rfl _ _ 28 rfl w w.heap.size 2 _ 1 8 el_int64 (.slice A1 L.length c1) L.length (ics L) rfl (ob_ HO.out bw_) _ 1 1 [i64 x] rfl (rds_new _ _ _ 1 1 rfl) (fun u hu => by simp at hu; subst hu; rfl) (by unfold maxLen; omega) (by omega) (ub_ w _).size bw_ (Nat.le_refl _) ?_; intro A2 c2 g2 o2)))
     go_roundw
     case rel => exact ⟨k + 1, L ++ [x], A2, c2, by omega, by go_num, congrArg (fun n => Value.slice A2 n c2) (by simp), HE2, HK2, hd_ (by rw [List.length_append]; simpa [ics] using o2), ex_up bw_⟩
     case measure => simp [intOf]; try omega
  ·obtain rfl : k = ws.length := by omega
   have hf := hd_ (show numsOf ws = some L by rw [numsOf_yes HK.out, HE.out, List.take_length])
   clear HE
   go_wp2_with fail
   go_ret2
   unfold rnPost
   rw [hf.out]
   exact ⟨A1, c1, rfl, ob_ HO.out bw_, uw_⟩
theorem el_drl : ElemOf Tryz.prog 29 112 (.agg #[.string ByteArray.empty, .string ByteArray.empty, i64 0]) 3 40 := elem_of Tryz.underlying29 (by kernel_rfl) rfl (by omega)
theorem step_appK {P : Program} {ops : Array Oper} {o : Oper} {a : Act} {w : World} {K : Act → World → Prop} {Q : Exit → Act → World → Prop} {E : Prop} (hgd : o.guard = none) (s x : Operand) (t : TypeId)
 (ho : o.op = .call { callee := .builtin .append, args := #[s, x], argTypes := #[t, t] })
 (W : World) (base : Nat) (e : TypeId) (z : Value) (size bytes : Nat) (el : ElemOf P t e z size bytes)
 (v : Value) (n : Nat) (xs : List Value) (hs : a.eval s = v) (hown : w.ownsRow base e size v n xs)
 (A : Option Addr) (m c : Nat) (news : List Value) (hx : a.eval x = .slice A m c) (hr : Rds w size A m news) (h1 : ∀ u ∈ news, u.oneCell' = true)
 (h63 : n + m ≤ maxLen) (hbytes : (n + m) * bytes ≤ 140737488355328) (hbase : base ≤ w.heap.size) (hW : Below W.heap.size W w) (hWb : W.heap.size ≤ base) {N : Nat} (hN : n + m = N)
 (h : ∀ A' c' (g : Up W), (up W g).ownsRow base e size (.slice A' N c') N (xs ++ news) → (∀ b t cs, Blk w b t cs → some b ≠ v.ownBlock → Blk (up W g) b t cs) → K (a.put o.dst (.slice A' N c')) (up W g)) :
 if Region.wanted o (yielded ops a.tmps) = true then Oper.wp P o a w K Q else E := by
 subst hN
 exact step_app hgd s x t ho base e z size bytes el v n xs hs hown A m c news hx hr h1 h63 hbytes hbase fun A' c' w' h2 h3 => by
  obtain ⟨g, rfl⟩ := own_grown hown hW hWb h3
  exact h A' c' g h2 fun b t cs hb hne => hb.grown h3 hne
theorem blk_new1' (w : World) (o : Obj) (t : TypeId) (cs : Array Value) : Blk ((w.alloc o).alloc (.cells cs t)) (w.heap.size + 1) t cs := by
 have := Blk.new (w.alloc o) t cs
 rwa [World.size_alloc] at this
theorem own_lit1 (w : World) (o : Obj) (e : TypeId) (size base : Nat) (h : base ≤ w.heap.size) : ((w.alloc o).alloc (.cells #[] e)).ownsRow base e size (.slice (some ⟨w.heap.size + 1, 0, none⟩) 0 0) 0 [] := by
 have := World.ownsRow_lit (base := base) (e := e) (size := size) (w.alloc o) #[] 0 (by rw [World.size_alloc]; omega) (by unfold maxLen; omega) (by simp)
 rw [World.size_alloc] at this
 exact this
theorem own_capD {w : World} {base e size n c : Nat} {A : Option Addr} {xs : List Value} (h : w.ownsRow base e size (.slice A n c) n xs) : n ≤ c := by
 obtain ⟨_, ⟨h1, h2⟩ | ⟨g, cap, cur, h1, _, _, h3, _⟩⟩ := h
 ·omega
 ·injection h1 with _ _ h1
  omega
theorem rds_blk {w : World} {b : Nat} {t : TypeId} {cs : Array Value} (h : Blk w b t cs) (sz m : Nat) (hc : cs.size = m * sz) : Rds w sz (some ⟨b, 0, none⟩) m cs.toList :=
 ⟨by simpa using hc, fun _ => ⟨_, _, rfl, h.lt, fun j u hu => by rw [Nat.zero_add, h.cell]; simpa using hu⟩⟩
def drsPost (n : Nat) (xs : List Drill) (c : Int) (w : World) (e : Ending) (w' : World) : Prop :=
 ∃ A' c', e = .returned (.tuple #[.slice A' n c', i64 c]) ∧ n ≤ c' ∧ w'.ownsRow w.heap.size 112 3 (.slice A' n c') n (drcs xs) ∧ UpOf w w'
theorem drcs_snoc (l : List Drill) (d : Drill) : drcs (l ++ [d]) = drcs l ++ [.string d.name, .string d.letters, i64 d.minutes] := by
 simp [drcs, Drill.cells]
theorem own_nil (w : World) (e : TypeId) (sz base : Nat) : w.ownsRow base e sz (.slice none 0 0) 0 [] := ⟨by simp, .inl ⟨rfl, rfl⟩⟩
theorem hasName_no {l : List Drill} {n : ByteArray} (h : ∀ i, i < l.length → (drl l i).name ≠ n) : hasName l n = false := by
 rw [hasName, List.any_eq_false]
 intro x hx
 obtain ⟨i, hi, rfl⟩ := List.getElem_of_mem hx
 have := h i hi
 rw [drl, List.getD_eq_getElem?_getD, List.getElem?_eq_getElem hi] at this
 simpa using this
theorem hasName_yes {l : List Drill} {n : ByteArray} {i : Nat} (hi : i < l.length) (h : (drl l i).name = n) : hasName l n = true := by
 rw [hasName, List.any_eq_true]
 refine ⟨l[i], List.getElem_mem hi, decide_eq_true ?_⟩
 rw [← h, drl, List.getD_eq_getElem?_getD, List.getElem?_eq_getElem hi]; rfl
theorem addDrill_any (A : Option Addr) (c : Nat) (l : List Drill) (d : Drill) (w : World) (h : Rds w 3 A l.length (drcs l)) (hn : l.length ≤ 100000000) (hf : DBd l) (h1 : d.name.size ≤ 100000000) (h2 : d.letters.size ≤ 100000000) :
 Calls Tryz.prog 78 #[.slice A l.length c, drv d] w fun e w' => drsPost (addD l d).1.length (addD l d).1 (addD l d).2 w e w' := by
 have HR := hd_ h
 have HF := hd_ hf
 clear h hf
 cases q1 : vDrills l with
 | false =>
   have hr : addD l d = ([], 1) := by rw [addD, q1]; rfl
   rw [hr]
   go_enter Tryz.func78, Tryz.ntmps78
   go_upto_region 1 with (fail)
   refine wpg (R := fun V => Box V w.heap.size #[.string d.name, .string d.letters, i64 d.minutes] ∧ UpOf w V) ⟨Box.new _ _ _, uw_⟩ (fun V z => ?_)
   obtain ⟨⟨hq, hc⟩, hB⟩ := z
   have c0 := hc 0 _ rfl
   have c1 := hc 1 _ rfl
   have c2 := hc 2 _ rfl
   have HB := hd_ hB
   clear hc hB
   generalize w.heap.size = q at *
   go_wp2_with (first | (go_at_call 67; refine cu_ (ra_ (validDrills_any A c l _ ((HR.out.below HB.out.below).below bw_) hn HF.out) q1) fun g => ?_) | ((with_reducible refine wru ?_); refine wrz fun _ => ?_))
   go_ret2
   refine ⟨none, 0, ?_, Nat.le_refl _, ?_, HB.out.tr bw_⟩
   ·rfl
   ·exact own_nil _ _ _ _
 | true =>
   cases q2 : vDrill d with
   | false =>
     have hr : addD l d = ([], 2) := by rw [addD, q1, q2]; rfl
     rw [hr]
     go_enter Tryz.func78, Tryz.ntmps78
     go_upto_region 1 with (fail)
     refine wpg (R := fun V => Box V w.heap.size #[.string d.name, .string d.letters, i64 d.minutes] ∧ UpOf w V) ⟨Box.new _ _ _, uw_⟩ (fun V z => ?_)
     obtain ⟨⟨hq, hc⟩, hB⟩ := z
     have c0 := hc 0 _ rfl
     have c1 := hc 1 _ rfl
     have c2 := hc 2 _ rfl
     have HB := hd_ hB
     clear hc hB
     generalize w.heap.size = q at *
     go_wp2_with (first | (go_at_call 67; refine cu_ (ra_ (validDrills_any A c l _ ((HR.out.below HB.out.below).below bw_) hn HF.out) q1) fun g => ?_) | (go_at_call 119; refine cu_ (ra_ (validDrill_any d _ (by omega) (by omega)) q2) fun g => ?_) | ((with_reducible refine wru ?_); refine wrz fun _ => ?_))
     go_ret2
     refine ⟨none, 0, ?_, Nat.le_refl _, ?_, HB.out.tr bw_⟩
     ·rfl
     ·exact own_nil _ _ _ _
   | true =>
     have hinv := vDrills_inv q1
     have hl10 := hinv.1
     have hnm := hd_ (show ∀ i, i < l.length → (drl l i).name.size ≤ 100000000 from fun i hi => (HF.out i hi).1)
     obtain ⟨R, hR⟩ := nm_ (addD l d)
     have HRR := hd_ (show R = if hasName l d.name then ([], 4) else if l.length = 10 then ([], 5) else (l ++ [d], 0) by rw [← hR, addD, q1, q2, if_pos rfl, if_pos rfl])
     rw [hR]
     clear hR hinv
     go_enter Tryz.func78, Tryz.ntmps78
     go_upto_region 1 with (fail)
     refine wpg (R := fun V => Box V w.heap.size #[.string d.name, .string d.letters, i64 d.minutes] ∧ UpOf w V) ⟨Box.new _ _ _, uw_⟩ (fun V z => ?_)
     obtain ⟨⟨hq, hc⟩, hB⟩ := z
     have c0 := hc 0 _ rfl
     have c1 := hc 1 _ rfl
     have c2 := hc 2 _ rfl
     have HB := hd_ hB
     clear hc hB
     generalize w.heap.size = q at *
     go_wp2_with (first | (go_at_call 67; refine cu_ (ra_ (validDrills_any A c l _ ((HR.out.below HB.out.below).below bw_) hn HF.out) q1) fun g => ?_) | (go_at_call 119; refine cu_ (ra_ (validDrill_any d _ (by omega) (by omega)) q2) fun g => ?_) | ((with_reducible refine wru ?_); refine wrz fun _ => ?_))
     clear q1 q2
     refine wpg (R := fun U => UpOf V U) (uw_) (fun V1 z => ?_)
     have HV1 := hd_ (HB.out.tr z.below)
     have c0 := (z.below.cell (p := ⟨q, 0, none⟩) hq).trans c0
     have c1 := (z.below.cell (p := ⟨q, 1, none⟩) hq).trans c1
     have c2 := (z.below.cell (p := ⟨q, 2, none⟩) hq).trans c2
     have hq := Nat.lt_of_lt_of_le hq z.below.size
     clear z
     go_loopw [16] (fun i wr => ∃ k : Nat, k ≤ l.length ∧ i = i64 k ∧ Hid (∀ i, i < k → (drl l i).name ≠ d.name) ∧ ∃ g : Up V1, wr = up V1 g) (fun i _ => l.length - (intOf i).toNat)
     case atStart => exact ⟨0, by omega, rfl, hd_ (fun i hi => by omega), ex_up bw_⟩
     case round =>
      obtain ⟨k, hk, rfl, HK, g, rfl⟩ := hrel
      by_cases hlt : k < l.length
      ·obtain ⟨b, off, rfl, hb, x0, x1, x2⟩ := drl_at ((HR.out.below HV1.out.below).below (ub_ V1 g)) hlt
       have f1 := hnm.out k hlt
       by_cases he : (drl l k).name = d.name
       ·have ht := tl_teq he
        have hr := hd_ (show R = ([], 4) by rw [HRR.out, hasName_yes hlt he, if_pos rfl])
        clear he
        go_wp2_with ((with_reducible refine wru ?_); refine wrz fun _ => ?_)
        go_ret2
        rw [hr.out]
        exact ⟨none, 0, rfl, Nat.le_refl _, own_nil _ _ _ _, HV1.out.tr bw_⟩
       ·have ht := tl_tne he
        have HK2 := hd_ (lt_ext (P := fun j => (drl l j).name ≠ d.name) HK.out he)
        clear he
        go_wp2_with ((with_reducible refine wru ?_); refine wrz fun _ => ?_)
        go_roundw
        case rel => exact ⟨k + 1, by omega, by go_num, HK2, ex_up bw_⟩
        case measure => simp [intOf]; try omega
      ·obtain rfl : k = l.length := by omega
       have hno := hd_ (hasName_no HK.out)
       by_cases h10 : l.length = 10
       ·have hr := hd_ (show R = ([], 5) by rw [HRR.out, hno.out, if_neg (by simp), if_pos h10])
        have ht : ((l.length : Int) == 10) = true := by rw [beq_iff_eq]; omega
        clear h10
        go_wp2_with ((with_reducible refine wru ?_); refine wrz fun _ => ?_)
        go_ret2
        rw [hr.out]
        exact ⟨none, 0, rfl, Nat.le_refl _, own_nil _ _ _ _, HV1.out.tr bw_⟩
       ·have hr := hd_ (show R = (l ++ [d], 0) by rw [HRR.out, hno.out, if_neg (by simp), if_neg h10])
        have ht : ((l.length : Int) == 10) = false := by rw [beq_eq_false_iff_ne]; omega
        have hll : l.length ≤ 9 := by omega
        clear h10
        go_wp2_with ((with_reducible refine wru ?_); refine wrz fun _ => ?_)
        refine wpg (R := fun U => UpOf V1 U) (uw_) (fun V2 z => ?_)
        have HV2 := hd_ (HV1.out.tr z.below)
        have d0 := (z.below.cell (p := ⟨q, 0, none⟩) hq).trans c0
        have d1 := (z.below.cell (p := ⟨q, 1, none⟩) hq).trans c1
        have d2 := (z.below.cell (p := ⟨q, 2, none⟩) hq).trans c2
        have hq2 := Nat.lt_of_lt_of_le hq z.below.size
        have HRd := HR.out.below HV2.out.below
        clear z c0 c1 c2 hq
        go_region_held3 (fun w' => (V2).heap.size ≤ w'.heap.size ∧ ∀ b o, b < (V2).heap.size → w'.cell? ⟨b, o, none⟩ = (V2).cell? ⟨b, o, none⟩) (exact sm_of bw_) (first | (refine step_appK rfl _ _ 29 (by rfl) V2 V2.heap.size 112 _ 3 40 el_drl _ 0 [] (by rfl) (by first | exact (own_lit1 V2 _ _ _ _ (Nat.le_refl _)).drew | exact own_lit1 V2 _ _ _ _ (Nat.le_refl _) | exact World.ownsRow_lit _ #[] 0 (show Below V2.heap.size V2 _ from bw_).size (by unfold maxLen; omega) rfl | exact ob_ (World.ownsRow_lit _ #[] 0 (show Below V2.heap.size V2 _ from bw_).size (by unfold maxLen; omega) rfl) bw_) _ l.length _ _ (by rfl) (HRd.below bw_) (dr_one l) (by unfold maxLen; omega) (by omega) (show Below V2.heap.size V2 _ from bw_).size bw_ (Nat.le_refl _) (Nat.zero_add _) ?_; intro A1 c1' g1 o1 k1; simp only [List.nil_append] at o1) | (refine step_appU rfl _ _ 29 (by rfl) V2 V2.heap.size 112 _ 3 40 el_drl _ l.length _ (by rfl) (ob_ o1 bw_) _ 1 1 [.string d.name, .string d.letters, i64 d.minutes] (by rfl) (by first | exact rds_new _ _ _ 3 1 rfl | exact (rds_new _ _ _ 3 1 rfl).below bw_ | exact rds_blk (k1 _ 112 #[.string d.name, .string d.letters, i64 d.minutes] (by repeat (first | exact Blk.new _ _ _ | exact blk_new1' _ _ _ _ | refine Blk.drew ?_ | refine Blk.alloc ?_ _)) (by intro hq; injection hq with hq; first | omega | (simp at hq))) 3 1 rfl) (fun u hu => by simp at hu; obtain rfl | rfl | rfl := hu <;> rfl) (by unfold maxLen; omega) (by omega) (show Below V2.heap.size V2 _ from bw_).size bw_ (Nat.le_refl _) ?_; intro A2 c2' g2 o2))
        all_goals
         rw [← drcs_snoc] at o2
         have hL : (l ++ [d]).length = l.length + 1 := by simp
         have O2 := hd_ o2
         clear o1 o2 k1
         go_wp2_with fail
         go_ret2
         rw [hr.out]
         unfold drsPost
         rw [hL]
         exact ⟨A2, c2', rfl, own_capD O2.out, om_ O2.out HV2.out.below.size, HV2.out.tr (ub_ V2 g2)⟩
structure MD (w V : World) (p q : Nat) (x : Array Value) : Prop where
 bx : Blk V p 31 x
 rs : Blk V q 31 zc
 up : UpOf w V
 hp : w.heap.size ≤ p
 hq : w.heap.size ≤ q
 ne : p ≠ q
section
variable {w V V' : World} {p q : Nat} {x : Array Value}
theorem MD.below (h : MD w V p q x) (hb : Below V.heap.size V V') : MD w V' p q x := ⟨h.bx.up ⟨V', hb⟩, h.rs.up ⟨V', hb⟩, h.up.tr hb, h.hp, h.hq, h.ne⟩
theorem MD.new (w : World) (x : Array Value) : MD w ((w.alloc (.cells x 31)).alloc (.cells zc 31)) w.heap.size (w.heap.size + 1) x :=
 ⟨(Blk.new w _ _).alloc _, blk_new1' _ _ _ _, uw_, Nat.le_refl _, by omega, by omega⟩
theorem MD.put (h : MD w V p q x) (i : Nat) (u : Value) : MD w (V.setCell ⟨p, i, none⟩ u) p q (x.setIfInBounds i u) :=
 ⟨h.bx.put i u, h.rs.far (p := ⟨p, i, none⟩) h.ne.symm u, UpOf.of (h.up.below.setCell (p := ⟨p, i, none⟩) h.hp u), h.hp, h.hq, h.ne⟩
theorem Blk.eight {t : TypeId} {x0 x1 x2 x3 x4 x5 x6 x7 : Value} (h : Blk V p t #[x0, x1, x2, x3, x4, x5, x6, x7]) : p < V.heap.size ∧ V.cell? ⟨p, 0, none⟩ = some x0 ∧ V.cell? ⟨p, 1, none⟩ = some x1 ∧ V.cell? ⟨p, 2, none⟩ = some x2 ∧ V.cell? ⟨p, 3, none⟩ = some x3 ∧
 V.cell? ⟨p, 4, none⟩ = some x4 ∧ V.cell? ⟨p, 5, none⟩ = some x5 ∧ V.cell? ⟨p, 6, none⟩ = some x6 ∧ V.cell? ⟨p, 7, none⟩ = some x7 :=
 ⟨h.lt, h.cell 0, h.cell 1, h.cell 2, h.cell 3, h.cell 4, h.cell 5, h.cell 6, h.cell 7⟩
theorem Blk.open8 {t : TypeId} {x : Array Value} (h : Blk V p t x) : V.frozen? ⟨p, 0, none⟩ = false ∧ V.frozen? ⟨p, 1, none⟩ = false ∧ V.frozen? ⟨p, 2, none⟩ = false ∧ V.frozen? ⟨p, 3, none⟩ = false ∧ V.frozen? ⟨p, 4, none⟩ = false ∧ V.frozen? ⟨p, 5, none⟩ = false ∧ V.frozen? ⟨p, 6, none⟩ = false ∧ V.frozen? ⟨p, 7, none⟩ = false :=
 ⟨h.free 0, h.free 1, h.free 2, h.free 3, h.free 4, h.free 5, h.free 6, h.free 7⟩
end
theorem put8_up {w V : World} {q : Nat} (hu : UpOf w V) (hq : w.heap.size ≤ q) (u0 u1 u2 u3 u4 u5 u6 u7 : Value) : UpOf w ((((((((V.setCell ⟨q, 0, none⟩ u0).setCell ⟨q, 1, none⟩ u1).setCell ⟨q, 2, none⟩ u2).setCell ⟨q, 3, none⟩ u3).setCell ⟨q, 4, none⟩ u4).setCell ⟨q, 5, none⟩ u5).setCell ⟨q, 6, none⟩ u6).setCell ⟨q, 7, none⟩ u7) := by
 have h0 := hu.below.setCell (p := ⟨q, 0, none⟩) hq u0
 have h1 := h0.setCell (p := ⟨q, 1, none⟩) hq u1
 have h2 := h1.setCell (p := ⟨q, 2, none⟩) hq u2
 have h3 := h2.setCell (p := ⟨q, 3, none⟩) hq u3
 have h4 := h3.setCell (p := ⟨q, 4, none⟩) hq u4
 have h5 := h4.setCell (p := ⟨q, 5, none⟩) hq u5
 have h6 := h5.setCell (p := ⟨q, 6, none⟩) hq u6
 exact UpOf.of (h6.setCell (p := ⟨q, 7, none⟩) hq u7)
def mdPost (d : DeskD) (l : List ByteArray) (A B : Option Addr) (c e : Nat) (w : World) (r : Ending) (w' : World) : Prop :=
 ∃ X n, r = .returned (.tuple #[dkv d A B c e, .slice X l.length n]) ∧ w'.ownsRow w.heap.size 9 1 (.slice X l.length n) l.length (strs l) ∧ UpOf w w'
def slLen (v : Value) : Nat := match v with
 | .slice _ n _ => n
 | _ => 0
def spl : Nat → List UInt8 → List ByteArray
 | 0, l => [bs l]
 | m + 1, l => if (cutA 32 [] l).2.2 then (cutA 32 [] l).1 :: spl m (cutA 32 [] l).2.1.data.toList else [bs l]
theorem cutA_no (b : UInt8) : ∀ (l cur : List UInt8), (cutA b cur l).2.2 = false → ∀ c ∈ l, c ≠ b
 | [], _, _ => fun c hc => by cases hc
 | c :: t, cur, h => by
   rw [cutA] at h
   split at h
   ·cases h
   ·rename_i hc
    intro d hd
    rcases List.mem_cons.1 hd with rfl | hd
    ·exact hc
    ·exact cutA_no b t _ h d hd
theorem spl_split : ∀ (m : Nat) (l : List UInt8), spl m l = if m < (splitA 32 [] l).length then (splitA 32 [] l).take m ++ [⟨(joinL 32 ((splitA 32 [] l).drop m)).toArray⟩] else splitA 32 [] l
 | 0, l => by
   have h := List.length_pos_iff.2 (splitA_ne 32 l [])
   rw [spl, if_pos h, List.take_zero, List.drop_zero, join_split, List.nil_append, List.nil_append]
 | m + 1, l => by
   rw [spl]
   cases hc : (cutA 32 [] l).2.2 with
   | false =>
     have h1 := splitA_last l (cutA_no 32 l [] hc)
     rw [if_neg (by simp), h1, if_neg (by simp)]
   | true =>
     rw [if_pos rfl]
     have h1 := cutA_join 32 l [] hc
     have h2 := cutA_free 32 l [] (by simp)
     generalize (cutA 32 [] l).1 = a at *
     generalize (cutA 32 [] l).2.1 = r at *
     rw [List.nil_append] at h1
     rw [← h1, splitA_part _ _ h2, bs_of, spl_split m]
     rw [List.length_cons, List.take_succ_cons, List.drop_succ_cons]
     by_cases hm : m < (splitA 32 [] r.data.toList).length
     ·rw [if_pos hm, if_pos (by omega)]; rfl
     ·rw [if_neg hm, if_neg (by omega)]
theorem spl_size : ∀ (m : Nat) (l : List UInt8), ∀ p ∈ spl m l, p.size ≤ l.length
 | 0, l, p, hp => by rw [spl, List.mem_singleton] at hp; rw [hp, bs_size]; exact Nat.le_refl _
 | m + 1, l, p, hp => by
   rw [spl] at hp
   have h := cutA_size 32 l []
   split at hp
   ·rcases List.mem_cons.1 hp with rfl | hp
    ·simpa using h.1
    ·have := spl_size m _ p hp
     rw [bsz] at this
     omega
   ·rw [List.mem_singleton] at hp; rw [hp, bs_size]; exact Nat.le_refl _
theorem spl_len : ∀ (m : Nat) (l : List UInt8), (spl m l).length ≤ m + 1
 | 0, l => by simp [spl]
 | m + 1, l => by
   rw [spl]
   split
   ·rw [List.length_cons]; have := spl_len m (cutA 32 [] l).2.1.data.toList; omega
   ·simp
theorem splitAt_any (s : ByteArray) (m : Nat) (w : World) (hs : s.size ≤ 1000000000) (hm : m ≤ 1000000000) :
 Calls Tryz.prog 27 #[.string s, .int .i64 ((m : Int) + 1)] w fun e w' => txPost (spl m s.data.toList) w e w' := by
 have hOwn := hd_ (World.ownsRow_lit (base := w.heap.size) (e := 9) (size := 1) w #[] 0 (Nat.le_refl _) (by unfold maxLen; omega) rfl)
 obtain ⟨R, hR⟩ := nm_ (spl m s.data.toList)
 have HR := hd_ hR
 have hRl : Hid (R.length ≤ m + 1) := hd_ (by rw [← hR]; exact spl_len m _)
 rw [hR]
 clear hR
 go_enter Tryz.func27, Tryz.ntmps27
 go_wp2_with fail
 go_loopw [0, 5] (fun t0 t5 wr => ∃ (S : ByteArray) (L : List ByteArray) (A1 : Option Addr) (c1 : Nat), L.length ≤ m ∧ S.size ≤ 1000000000 ∧ t0 = .string S ∧ t5 = .slice A1 L.length c1 ∧ Hid (R = L ++ spl (m - L.length) S.data.toList) ∧ Hid (wr.ownsRow w.heap.size 9 1 (.slice A1 L.length c1) L.length (strs L)) ∧ ∃ g : Up w, wr = up w g) (fun _ t5 _ => m - slLen t5)
 case atStart => exact ⟨s, [], _, _, by simp, hs, rfl, rfl, hd_ (by rw [HR.out.symm]; simp), hd_ hOwn.out, ex_up bw_⟩
 case round =>
  obtain ⟨S, L, A1, c1, hL, hS, rfl, rfl, HE, HO, g, rfl⟩ := hrel
  clear hOwn
  have hLN : L.length ≤ 1000000000 := by omega
  by_cases hlt : L.length < m
  ·have hlt' : (L.length : Int) < (m : Int) := by omega
   have hlt2 : (L.length : Int) + 1 < (m : Int) + 1 := by omega
   obtain ⟨j, hj⟩ : ∃ j, m - L.length = j + 1 := ⟨m - L.length - 1, by omega⟩
   have hcs := cutA_size 32 S.data.toList []
   cases hc : (cutA 32 [] S.data.toList).2.2 with
   | false =>
     obtain ⟨X, hX⟩ := nm_ ((cutA 32 [] S.data.toList).1)
     obtain ⟨Y, hY⟩ := nm_ ((cutA 32 [] S.data.toList).2.1)
     have HC : Hid (∀ V, Calls Tryz.prog 42 #[.string S, .string ⟨#[32]⟩] V fun e w' => e = .returned (.tuple #[.string X, .string Y, .bool false]) ∧ UpOf V w') := hd_ fun V => by
      have := cut_any S ⟨#[32]⟩ 32 rfl V (by omega)
      rw [hc, hX, hY] at this
      exact this
     have hfin : Hid (R = L ++ [S]) := hd_ (by rw [HE.out, hj, spl, hc, if_neg (by simp), bs_of])
     clear hc hX hY hcs hj HE
     go_wp2_with (first | (go_at_call 42; refine cu_ (HC.out _) fun g => ?_) | (at_builtin; go_must (refine wpl_appU rfl _ _ 24 rfl w w.heap.size 9 _ 1 16 el_str (.slice A1 L.length c1) L.length (strs L) rfl (ob_ HO.out bw_) _ 1 1 [.string S] rfl (rds_new _ _ _ 1 1 rfl) (fun u hu => by simp at hu; subst hu; rfl) (by unfold maxLen; omega) (by omega) (ub_ w _).size bw_ (Nat.le_refl _) ?_; intro A2 c2 g2 o2)))
     go_ret
     refine ⟨A2, c2, ?_, ?_, uw_⟩
     ·rw [hfin.out, List.length_append]; rfl
     ·rw [hfin.out, List.length_append, strs_app]; exact o2
   | true =>
     obtain ⟨X, hX⟩ := nm_ ((cutA 32 [] S.data.toList).1)
     obtain ⟨Y, hY⟩ := nm_ ((cutA 32 [] S.data.toList).2.1)
     have HC : Hid (∀ V, Calls Tryz.prog 42 #[.string S, .string ⟨#[32]⟩] V fun e w' => e = .returned (.tuple #[.string X, .string Y, .bool true]) ∧ UpOf V w') := hd_ fun V => by
      have := cut_any S ⟨#[32]⟩ 32 rfl V (by omega)
      rw [hc, hX, hY] at this
      exact this
     have hYs : Y.size ≤ 1000000000 := by
      rw [← hY]
      have := hcs.2
      rw [bsz] at this
      omega
     have HE2 : Hid (R = (L ++ [X]) ++ spl (m - (L ++ [X]).length) Y.data.toList) := hd_ (by
      rw [HE.out, hj, spl, hc, if_pos rfl, hX, hY, List.append_assoc, List.length_append]
      have e : m - (L.length + [X].length) = j := by simp; omega
      rw [e]; rfl)
     clear hc hX hY hcs hj HE
     go_wp2_with (first | (go_at_call 42; refine cu_ (HC.out _) fun g => ?_) | (at_builtin; go_must (refine wpl_appU rfl _ _ 24 rfl w w.heap.size 9 _ 1 16 el_str (.slice A1 L.length c1) L.length (strs L) rfl (ob_ HO.out bw_) _ 1 1 [.string X] rfl (rds_new _ _ _ 1 1 rfl) (fun u hu => by simp at hu; subst hu; rfl) (by unfold maxLen; omega) (by omega) (ub_ w _).size bw_ (Nat.le_refl _) ?_; intro A2 c2 g2 o2)))
     refine ⟨⟨Y, L ++ [X], A2, c2, by simp; omega, hYs, rfl, congrArg (fun n => Value.slice A2 n c2) (by simp), HE2, hd_ (by rw [List.length_append, strs_app]; exact o2), ex_up bw_⟩, ?_⟩
     show m - (L.length + 1) < m - L.length
     omega
  ·have hLm : L.length = m := by omega
   have hfin : Hid (R = L ++ [S]) := hd_ (by rw [HE.out, hLm, Nat.sub_self, spl, bs_of])
   have hlt' : ¬ (L.length : Int) < (m : Int) := by omega
   have hlt2 : ¬ (L.length : Int) + 1 < (m : Int) + 1 := by omega
   clear HE hLm
   go_wp2_with (first | (at_builtin; go_must (refine wpl_appU rfl _ _ 24 rfl w w.heap.size 9 _ 1 16 el_str (.slice A1 L.length c1) L.length (strs L) rfl (ob_ HO.out bw_) _ 1 1 [.string S] rfl (rds_new _ _ _ 1 1 rfl) (fun u hu => by simp at hu; subst hu; rfl) (by unfold maxLen; omega) (by omega) (ub_ w _).size bw_ (Nat.le_refl _) ?_; intro A2 c2 g2 o2)))
   go_ret
   refine ⟨A2, c2, ?_, ?_, uw_⟩
   ·rw [hfin.out, List.length_append]; rfl
   ·rw [hfin.out, List.length_append, strs_app]; exact o2
theorem kind_le (s : ByteArray) : kindOf s ≤ 14 := by
 unfold kindOf
 cases h : cmds.findIdx? fun x => decide (x = s) with
 | none => exact Nat.le_refl _
 | some i =>
   have := (List.findIdx?_eq_some_iff_getElem.1 h).1
   show i ≤ 14
   have h14 : cmds.length = 14 := rfl
   omega
theorem kind_iff (s : ByteArray) {i : Nat} (hi : i < 14) : kindOf s = i ↔ s = wd cmds i := by
 have hnd : ∀ i, i < 14 → ∀ j, j < 14 → wd cmds i = wd cmds j → i = j := by decide
 have h14 : cmds.length = 14 := rfl
 unfold kindOf
 cases h : cmds.findIdx? fun x => decide (x = s) with
 | none =>
   rw [List.findIdx?_eq_none_iff] at h
   constructor
   ·intro he
    have he' : 14 = i := he
    omega
   ·intro he
    have := h (wd cmds i) (by rw [← wd_eq (by omega)]; exact List.getElem_mem (by omega))
    rw [he] at this
    simp at this
 | some j =>
   obtain ⟨hj, h1, _⟩ := List.findIdx?_eq_some_iff_getElem.1 h
   have h1 := of_decide_eq_true h1
   rw [wd_eq hj] at h1
   show j = i ↔ _
   constructor
   ·intro e; rw [← e]; exact h1.symm
   ·intro e
    exact hnd j (by omega) i hi (by rw [h1, e])
theorem kind_test (s : ByteArray) {i : Nat} (hi : i < 14) : (s.toList == (wd cmds i).toList) = decide (kindOf s = i) := by
 by_cases h : kindOf s = i
 ·rw [decide_eq_true h]; exact tl_teq ((kind_iff s hi).1 h)
 ·rw [decide_eq_false h]; exact tl_tne (fun e => h ((kind_iff s hi).2 e))
theorem kind_test2 (s : ByteArray) {i : Nat} (hi : i < 14) : (s.toList == (wd cmds i).data.toList) = decide (kindOf s = i) := by
 rw [← kind_test s hi, ByteArray.toList_eq (wd cmds i)]
theorem kts {s : ByteArray} {k : Nat} (h : kindOf s = k) : ((s.toList == [97, 108, 105, 103, 110]) = decide (k = 0)) ∧ ((s.toList == [98, 97, 115, 107, 101, 116]) = decide (k = 1)) ∧ ((s.toList == [99, 111, 100, 101]) = decide (k = 2)) ∧ ((s.toList == [100, 114, 105, 108, 108]) = decide (k = 3)) ∧ ((s.toList == [100, 114, 105, 108, 108, 115]) = decide (k = 4)) ∧ ((s.toList == [101, 110, 116, 101, 114]) = decide (k = 5)) ∧ ((s.toList == [102, 97, 115, 116]) = decide (k = 6)) ∧ ((s.toList == [108, 105, 110, 101]) = decide (k = 7)) ∧ ((s.toList == [108, 111, 103]) = decide (k = 8)) ∧ ((s.toList == [109, 97, 114, 107]) = decide (k = 9)) ∧ ((s.toList == [114, 111, 119]) = decide (k = 10)) ∧ ((s.toList == [115, 101, 116]) = decide (k = 11)) ∧ ((s.toList == [115, 116, 111, 112, 115]) = decide (k = 12)) ∧ ((s.toList == [119, 97, 105, 116]) = decide (k = 13)) := by
 subst h
 exact ⟨kind_test2 s (i := 0) (by omega), kind_test2 s (i := 1) (by omega), kind_test2 s (i := 2) (by omega), kind_test2 s (i := 3) (by omega), kind_test2 s (i := 4) (by omega), kind_test2 s (i := 5) (by omega), kind_test2 s (i := 6) (by omega), kind_test2 s (i := 7) (by omega), kind_test2 s (i := 8) (by omega), kind_test2 s (i := 9) (by omega), kind_test2 s (i := 10) (by omega), kind_test2 s (i := 11) (by omega), kind_test2 s (i := 12) (by omega), kind_test2 s (i := 13) (by omega)⟩
def wcR (k : Nat) : Int × Bool :=
 if k = 4 ∨ k = 8 then (1, false) else if k = 0 ∨ k = 7 ∨ k = 9 ∨ k = 13 then (3, false) else if k = 5 then (4, false) else if k = 1 then (6, false)
 else if k = 11 then (3, true) else if k = 14 then (0, false) else (2, true)
theorem wordCounts_any (s : ByteArray) (w : World) : Calls Tryz.prog 28 #[.string s] w fun e w' => e = .returned (.tuple #[i64 (wcR (kindOf s)).1, .bool (wcR (kindOf s)).2]) ∧ w = w' := by
 obtain ⟨q0, q1, q2, q3, q4, q5, q6, q7, q8, q9, q10, q11, q12, q13⟩ := kts (s := s) rfl
 have hk := kind_le s
 obtain ⟨k, hkk⟩ := nm_ (kindOf s)
 rw [hkk] at hk q0 q1 q2 q3 q4 q5 q6 q7 q8 q9 q10 q11 q12 q13 ⊢
 clear hkk
 have h15 : k = 0 ∨ k = 1 ∨ k = 2 ∨ k = 3 ∨ k = 4 ∨ k = 5 ∨ k = 6 ∨ k = 7 ∨ k = 8 ∨ k = 9 ∨ k = 10 ∨ k = 11 ∨ k = 12 ∨ k = 13 ∨ k = 14 := by omega
 clear hk
 rcases h15 with rfl | rfl | rfl | rfl | rfl | rfl | rfl | rfl | rfl | rfl | rfl | rfl | rfl | rfl | rfl
 all_goals
  simp only [Nat.reduceEqDiff, eq_self, decide_true, decide_false] at q0 q1 q2 q3 q4 q5 q6 q7 q8 q9 q10 q11 q12 q13
  go_enter Tryz.func28, Tryz.ntmps28
  go_wp2_with fail
  go_ret2
  exact ⟨rfl, rfl⟩
theorem blk_far8 {V : World} {p q : Nat} {t : TypeId} {x : Array Value} (h : Blk V p t x) (hne : p ≠ q) (u0 u1 u2 u3 u4 u5 u6 u7 : Value) : Blk ((((((((V.setCell ⟨q, 0, none⟩ u0).setCell ⟨q, 1, none⟩ u1).setCell ⟨q, 2, none⟩ u2).setCell ⟨q, 3, none⟩ u3).setCell ⟨q, 4, none⟩ u4).setCell ⟨q, 5, none⟩ u5).setCell ⟨q, 6, none⟩ u6).setCell ⟨q, 7, none⟩ u7) p t x := by
 have h0 := h.far (p := ⟨q, 0, none⟩) hne u0
 have h1 := h0.far (p := ⟨q, 1, none⟩) hne u1
 have h2 := h1.far (p := ⟨q, 2, none⟩) hne u2
 have h3 := h2.far (p := ⟨q, 3, none⟩) hne u3
 have h4 := h3.far (p := ⟨q, 4, none⟩) hne u4
 have h5 := h4.far (p := ⟨q, 5, none⟩) hne u5
 have h6 := h5.far (p := ⟨q, 6, none⟩) hne u6
 exact h6.far (p := ⟨q, 7, none⟩) hne u7
theorem blk_put8 {V : World} {q : Nat} {t : TypeId} (h : Blk V q t zc) (u0 u1 u2 u3 u4 u5 u6 u7 : Value) : Blk ((((((((V.setCell ⟨q, 0, none⟩ u0).setCell ⟨q, 1, none⟩ u1).setCell ⟨q, 2, none⟩ u2).setCell ⟨q, 3, none⟩ u3).setCell ⟨q, 4, none⟩ u4).setCell ⟨q, 5, none⟩ u5).setCell ⟨q, 6, none⟩ u6).setCell ⟨q, 7, none⟩ u7) q t #[u0, u1, u2, u3, u4, u5, u6, u7] := by
 have h0 : Blk _ q t #[u0, i64 0, i64 0, i64 0, i64 0, .slice none 0 0, .slice none 0 0, .string ⟨#[]⟩] := h.put 0 u0
 have h1 : Blk _ q t #[u0, u1, i64 0, i64 0, i64 0, .slice none 0 0, .slice none 0 0, .string ⟨#[]⟩] := h0.put 1 u1
 have h2 : Blk _ q t #[u0, u1, u2, i64 0, i64 0, .slice none 0 0, .slice none 0 0, .string ⟨#[]⟩] := h1.put 2 u2
 have h3 : Blk _ q t #[u0, u1, u2, u3, i64 0, .slice none 0 0, .slice none 0 0, .string ⟨#[]⟩] := h2.put 3 u3
 have h4 : Blk _ q t #[u0, u1, u2, u3, u4, .slice none 0 0, .slice none 0 0, .string ⟨#[]⟩] := h3.put 4 u4
 have h5 : Blk _ q t #[u0, u1, u2, u3, u4, u5, .slice none 0 0, .string ⟨#[]⟩] := h4.put 5 u5
 have h6 : Blk _ q t #[u0, u1, u2, u3, u4, u5, u6, .string ⟨#[]⟩] := h5.put 6 u6
 have h7 : Blk _ q t #[u0, u1, u2, u3, u4, u5, u6, u7] := h6.put 7 u7
 exact h7
theorem own_txt {w V : World} (hu : UpOf w V) (s : ByteArray) {n : Nat} (hn : n = V.heap.size) : (V.alloc (.cells #[.string s] 9)).ownsRow w.heap.size 9 1 (.slice (some ⟨n, 0, none⟩) 1 1) 1 (strs [s]) := by
 subst hn
 exact World.ownsRow_lit (base := w.heap.size) (e := 9) (size := 1) V #[.string s] 1 hu.below.size (by unfold maxLen; omega) rfl
abbrev cel8 (U : World) (p : Nat) (d : DeskD) (A B : Option Addr) (c e : Nat) : Prop :=
 U.cell? ⟨p, 0, none⟩ = some (i64 d.b.bars) ∧ U.cell? ⟨p, 1, none⟩ = some (i64 d.b.rise) ∧ U.cell? ⟨p, 2, none⟩ = some (i64 d.b.fall) ∧ U.cell? ⟨p, 3, none⟩ = some (i64 d.b.clr) ∧ U.cell? ⟨p, 4, none⟩ = some (i64 d.b.near) ∧ U.cell? ⟨p, 5, none⟩ = some (.slice A d.stops.length c) ∧ U.cell? ⟨p, 6, none⟩ = some (.slice B d.drills.length e) ∧ U.cell? ⟨p, 7, none⟩ = some (.string d.log)
theorem MD.cel {w V : World} {p q : Nat} {d : DeskD} {A B : Option Addr} {c e : Nat} (h : MD w V p q (dkcs d A B c e)) : cel8 V p d A B c e := h.bx.eight.2
theorem bnNo_any (d : DeskD) (A B : Option Addr) (c e : Nat) (ws : List ByteArray) (W : Option Addr) (wc : Nat) (s : ByteArray) (w : World) (h : Rds w 1 W ws.length (strs ws)) (hn : ws.length ≤ 10000000) (hf : ∀ i, i < ws.length → (wd ws i).size ≤ 100000000) (ht : Tab w) (hno : numsOf ws = none) :
 Calls Tryz.prog 30 #[dkv d A B c e, .string s, .slice W ws.length wc] w fun r w' => mdPost d [errL 7] A B c e w r w' := by
 have HR := hd_ h
 have HF := hd_ hf
 have HT := hd_ ht
 clear h hf ht
 go_enter Tryz.func30, Tryz.ntmps30
 go_upto_region 1 with (fail)
 refine wpg (R := fun V => Hid (MD w V w.heap.size (w.heap.size + 1) (dkcs d A B c e))) (hd_ (MD.new _ _)) (fun V z => ?_)
 generalize hp9 : w.heap.size = p at z ⊢
 generalize hq9 : p + 1 = q at z ⊢
 clear hp9 hq9
 go_wp2_with fail
 refine (readNumbers_any W wc ws _ (HR.out.below z.out.up.below) hn HF.out (HT.out.below z.out.up.below)).mono ?_
 rintro r w' hr
 unfold rnPost at hr
 rw [hno] at hr
 obtain ⟨rfl, g1, rfl⟩ := hr
 have z1 := hd_ (z.out.below (ub_ V g1))
 go_upto_region 3 with (fail)
 refine wpg (R := fun U => Hid (MD w U p q (dkcs d A B c e))) z1 (fun U z => ?_)
 have hC : cel8 U.drew p d A B c e := z.out.cel
 refine wp_region_T (fun U => U.cell? ⟨p, 0, none⟩ = some (i64 (d).b.bars) ∧ U.cell? ⟨p, 1, none⟩ = some (i64 (d).b.rise) ∧ U.cell? ⟨p, 2, none⟩ = some (i64 (d).b.fall) ∧ U.cell? ⟨p, 3, none⟩ = some (i64 (d).b.clr) ∧ U.cell? ⟨p, 4, none⟩ = some (i64 (d).b.near) ∧ U.cell? ⟨p, 5, none⟩ = some (.slice A (d).stops.length c) ∧ U.cell? ⟨p, 6, none⟩ = some (.slice B (d).drills.length e) ∧ U.cell? ⟨p, 7, none⟩ = some (.string (d).log)) 2 (by kernel_rfl) ?_
 refine wtl 0 (hC) ?_
 refine wto 1 fun K hK => ?_
 go_simp
 go_at_call 70
 refine (report_any 7 _).mono ?_
 rintro r w' ⟨X, n, rfl, ox, gx, rfl⟩
 have z2 := hd_ (z.out.below (V' := up U.drew gx) (bl_up (Below.drew (Below.refl _ _)) gx))
 have OX := hd_ ox
 clear ox
 refine hK.out _ _ (fun _ => z2.out.cel) (wtn ?_)
 clear hK K
 obtain ⟨hqT, r0, r1, r2, r3, r4, r5, r6, r7⟩ := z2.out.rs.eight
 obtain ⟨f0, f1, f2, f3, f4, f5, f6, f7⟩ := z2.out.rs.open8
 refine wto 2 fun K hK => ?_
 go_simp
 refine hK.out _ _ tf_ (wtn ?_)
 clear hK K
 refine wtp 3 tf_ ?_
 refine wtd ?_
 have hqU := z.out.rs.lt
 go_wp2_with fail
 refine bodyPost_ret (v := .tuple #[dkv (d) A B c e, .slice X 1 n]) (by simp [results, Tryz.results30, go_sem, hqT, r0, r1, r2, r3, r4, r5, r6, r7]) rfl ?_
 exact ⟨X, n, rfl, om_ (oa_ OX.out hqU _ _ _ _ _ _ _ _) z.out.up.below.size, put8_up z2.out.up z2.out.hq _ _ _ _ _ _ _ _⟩
theorem logF_on (b : List UInt8) : ∀ (k k' : Nat) (l : List Entry) (st : Int) (sz : Nat) (a : List UInt8), (logF k l st sz a).2.2 = sz + a.length → a.length + b.length < k' → ∃ k2, b.length < k2 ∧ logF k' l st sz (a ++ b) = logF k2 (logF k l st sz a).1 (logF k l st sz a).2.1 (sz + a.length) b
 | 0, k', l, st, sz, a, h, hk => by
   have ha : a = [] := List.eq_nil_of_length_eq_zero (by rw [logF] at h; simp at h; simpa using h)
   subst ha
   exact ⟨k', by simpa using hk, rfl⟩
 | k + 1, k', l, st, sz, a, h, hk => by
   obtain ⟨k', rfl⟩ : ∃ j, k' = j + 1 := ⟨k' - 1, by omega⟩
   cases hc : (cutA 10 [] a).2.2
   ·rw [logF_end hc] at h ⊢
    have ha : a = [] := List.eq_nil_of_length_eq_zero (by simp at h; simpa using h)
    subst ha
    exact ⟨k' + 1, by simpa using hk, rfl⟩
   ·cases ht : takeB (dayL l) st (cutA 10 [] a).1 (wordsA [] (cutA 10 [] a).1.data.toList)
    ·rw [logF_bad (takeOf_none ht)] at h ⊢
     have ha : a = [] := List.eq_nil_of_length_eq_zero (by simp at h; simpa using h)
     subst ha
     exact ⟨k' + 1, by simpa using hk, rfl⟩
    ·have hp := cut_app (b := b) hc
     have hl := congrArg List.length (cut_split hc).1
     rw [List.length_append, List.length_cons] at hl
     rw [logF_go hc (takeOf_some ht)] at h ⊢
     rw [logF_go (rest := a ++ b) (x := eOf (wordsA [] (cutA 10 [] a).1.data.toList)) (st' := stampP st (eOf (wordsA [] (cutA 10 [] a).1.data.toList))) (by rw [hp]) (by rw [hp]; exact takeOf_some ht), hp]
     have e : sz + a.length = (sz + (cutA 10 [] a).1.size + 1) + (cutA 10 [] a).2.1.data.toList.length := by rw [bsz] at hl; omega
     rw [e] at h ⊢
     exact logF_on b k k' _ _ _ _ h (by omega)
theorem adR_valid {s : ByteArray} {x : Entry} (h : (adR s x).2 = 0) : codeL (adR s x).1 = 0 := by
 by_cases h1 : codeL s = 0
 ·cases h2 : vEntry x with
  | false => rw [adR_7 h1 h2] at h; cases h
  | true =>
    by_cases h3 : x.day < dayL (entsL s)
    ·rw [adR_6 h1 h2 h3] at h; cases h
    ·by_cases h4 : (s ++ newLine (stL s) x).size ≤ 4000
     ·rw [adR_0 h1 h2 h3 h4]
      have hb := stampP_bd (stL s) x
      obtain ⟨_, hz⟩ := codeL_inv h1
      have hnl : (newLine (stL s) x).data.toList = (lineP x (stampP (stL s) x)).data.toList ++ 10 :: [] := by simp [newLine, ByteArray.data_append]
      have hsz : (newLine (stL s) x).size = (lineP x (stampP (stL s) x)).size + 1 := by rw [← bsz, hnl, List.length_append, bsz]; rfl
      have hl : (s ++ newLine (stL s) x).data.toList = s.data.toList ++ (newLine (stL s) x).data.toList := by rw [ByteArray.data_append, Array.toList_append]
      obtain ⟨k2, hk2, e⟩ := logF_on (newLine (stL s) x).data.toList (s.size + 1) ((s ++ newLine (stL s) x).size + 1) [] 0 0 s.data.toList (by rw [Nat.zero_add, bsz]; exact hz) (by rw [bsz, bsz, ByteArray.size_append]; omega)
      have hr : logR (s ++ newLine (stL s) x) = logF k2 (entsL s) (stL s) (0 + s.data.toList.length) (newLine (stL s) x).data.toList := by
       rw [← hl] at e
       exact e
      obtain ⟨k3, rfl⟩ : ∃ k3, k2 = k3 + 1 := ⟨k2 - 1, by omega⟩
      have hc : cutA 10 [] (newLine (stL s) x).data.toList = (lineP x (stampP (stL s) x), bs [], true) := by
       rw [hnl, cutA_part _ _ (lineP_no h2 hb.1 hb.2), bs_of]
      have ht := take_line h2 (d0 := dayL (entsL s)) (st := stL s) (by omega)
      rw [logF_go (x := x) (st' := stampP (stL s) x) (by rw [hc]) (by rw [hc]; exact ht), hc] at hr
      have hr2 : logR (s ++ newLine (stL s) x) = (entsL s ++ [x], stampP (stL s) x, 0 + s.data.toList.length + (lineP x (stampP (stL s) x)).size + 1) := by
       rw [hr]; exact logF_end rfl
      refine codeL_0 h4 ?_
      rw [hr2, ByteArray.size_append, hsz, bsz]
      simp only
      omega
     ·rw [adR_5 h1 h2 h3 h4] at h; cases h
 ·rw [adR_1 h1] at h; exact absurd h h1
theorem drl_snoc_lt {l : List Drill} {x : Drill} {i : Nat} (h : i < l.length) : drl (l ++ [x]) i = drl l i := by
 rw [drl, drl, List.getD_eq_getElem?_getD, List.getD_eq_getElem?_getD, List.getElem?_append_left h]
theorem drl_snoc_eq {l : List Drill} {x : Drill} : drl (l ++ [x]) l.length = x := by
 rw [drl, List.getD_eq_getElem?_getD, List.getElem?_append_right (Nat.le_refl _), Nat.sub_self]; rfl
theorem addD_valid {l : List Drill} {x : Drill} (h : (addD l x).2 = 0) : vDrills (addD l x).1 = true := by
 unfold addD at h ⊢
 split at h
 ·rename_i h1
  split at h
  ·rename_i h2
   split at h
   ·cases h
   ·rename_i h3
    split at h
    ·cases h
    ·rename_i h4
     rw [if_pos h1, if_pos h2, if_neg h3, if_neg h4]
     obtain ⟨hl, hi⟩ := vDrills_inv h1
     have hn : ∀ k, k < l.length → (drl l k).name ≠ x.name := fun k hk he => h3 (by
      rw [hasName, List.any_eq_true]
      exact ⟨l[k], List.getElem_mem hk, by rw [drl_eq hk]; exact decide_eq_true he⟩)
     refine vDrills_true (by rw [List.length_append, List.length_singleton]; omega) fun i hi2 => ?_
     rw [List.length_append, List.length_singleton] at hi2
     rcases Nat.lt_or_ge i l.length with hlt | hge
     ·refine okD_true (by rw [drl_snoc_lt hlt]; exact (hi i hlt).1) fun k hk => ?_
      rw [drl_snoc_lt hlt, drl_snoc_lt (Nat.lt_trans hk hlt)]
      exact (hi i hlt).2 k hk
     ·obtain rfl : i = l.length := by omega
      refine okD_true (by rw [drl_snoc_eq]; exact h2) fun k hk => ?_
      rw [drl_snoc_eq, drl_snoc_lt hk]
      exact hn k hk
  ·cases h
 ·cases h
theorem vDesk_of {d : DeskD} (h1 : vBsk d.b = true) (h2 : vStops d.stops = true) (h3 : vDrills d.drills = true) (h4 : codeL d.log = 0) : vDesk d = true := by
 rw [vDesk_4 h1 h2 h3, h4]; rfl
theorem sent_len (r : ByteArray × Int) : 1 ≤ (sent r).length := by unfold sent; split <;> simp
theorem nmb_len (r : Int × Int) : 1 ≤ (nmb r).length := by unfold nmb; split <;> simp
theorem codeOut_len (r : ByteArray × Int) : 1 ≤ (codeOut r).length := by
 unfold codeOut
 split
 ·simp
 ·exact sent_len _
theorem doK_ok (two : List ByteArray → ByteArray × Int) {d : DeskD} (ws : List ByteArray) (k : Nat) (hv : vDesk d = true) : vDesk (doK two d ws k).1 = true ∧ 1 ≤ (doK two d ws k).2.length := by
 obtain ⟨v1, v2, v3, v4⟩ := vDesk_inv hv
 unfold doK
 split
 ·exact ⟨hv, sent_len _⟩
 ·split
  ·exact ⟨hv, by simp⟩
  ·split
   ·rename_i h
    exact ⟨vDesk_of h v2 v3 v4, by simp⟩
   ·exact ⟨hv, by simp⟩
 ·exact ⟨hv, codeOut_len _⟩
 ·split
  ·exact ⟨hv, by simp⟩
  ·split
   ·rename_i h
    exact ⟨vDesk_of v1 v2 (addD_valid h) v4, by simp⟩
   ·exact ⟨hv, by simp⟩
 ·exact ⟨hv, by simp⟩
 ·split
  ·exact ⟨hv, by simp⟩
  ·split
   ·rename_i h
    exact ⟨vDesk_of v1 v2 v3 (adR_valid h), nmb_len _⟩
   ·exact ⟨hv, by simp⟩
 ·split
  ·exact ⟨hv, by simp⟩
  ·exact ⟨hv, nmb_len _⟩
 ·split
  ·split
   ·exact ⟨hv, by simp⟩
   ·exact ⟨hv, sent_len _⟩
  ·exact ⟨hv, by simp⟩
 ·exact ⟨hv, by simp⟩
 ·exact ⟨hv, nmb_len _⟩
 ·exact ⟨hv, sent_len _⟩
 ·split
  ·exact ⟨hv, sent_len _⟩
  ·exact ⟨hv, by simp⟩
 ·split
  ·exact ⟨hv, by simp⟩
  ·split
   ·rename_i h
    exact ⟨vDesk_of v1 h v3 v4, by simp⟩
   ·exact ⟨hv, by simp⟩
 ·split
  ·exact ⟨hv, by simp⟩
  ·exact ⟨hv, nmb_len _⟩
theorem doL_ok (two : List ByteArray → ByteArray × Int) {d : DeskD} {s : ByteArray} {r : DeskD × List ByteArray} (hv : vDesk d = true) (h : doL two d s = some r) : vDesk r.1 = true ∧ 1 ≤ r.2.length := by
 unfold doL at h
 split at h
 ·injection h with h
  rw [← h]
  exact doK_ok two _ _ hv
 ·cases h
theorem dkSz_of {d : DeskD} {e : Nat} (hv : vDesk d = true) (he : d.drills.length ≤ e) : DkSz d e := by
 obtain ⟨v1, v2, v3, v4⟩ := vDesk_inv hv
 have h1 := (vStops_inv v2).1
 have h2 := vDrills_inv v3
 have h3 := (codeL_inv v4).1
 refine ⟨by omega, by omega, fun i hi => ?_, by omega, he⟩
 obtain ⟨a, b, c, _⟩ := vDrill_inv (h2.2 i hi).1
 have := (nameB_bd a).2
 have := (txtB_inv c).1
 omega
theorem l00Own_any (A : Option Addr) (c : Nat) (l : List Int) (w : World) (h : Rds w 1 A l.length (ics l)) (hn : l.length ≤ 10000000) :
 Calls Tryz.prog 115 #[.slice A l.length c] w fun e w' => ∃ A' c', e = .returned (.slice A' l.length c') ∧ w'.ownsRow w.heap.size 2 1 (.slice A' l.length c') l.length (ics l) ∧ UpOf w w' := by
 have HR := hd_ h
 have HOw := hd_ (World.ownsRow_lit (base := w.heap.size) (e := 2) (size := 1) w #[] 0 (Nat.le_refl _) (by unfold maxLen; omega) rfl)
 clear h
 go_enter Tryz.func115, Tryz.ntmps115
 go_wp2_with (at_builtin; go_must (refine wpl_appU rfl _ _ 28 rfl w w.heap.size 2 _ 1 8 el_int64 (.slice (some ⟨w.heap.size, 0, none⟩) 0 0) 0 [] rfl HOw.out A l.length c (ics l) rfl (HR.out.below bw_) (fun u hu => by simp only [ics, List.mem_map] at hu; obtain ⟨b, _, rfl⟩ := hu; rfl) (by unfold maxLen; omega) (by omega) (show Below w.heap.size w _ from bw_).size bw_ (Nat.le_refl _) ?_; intro A1 c1 g1 o1; simp only [List.nil_append, Nat.zero_add] at o1))
 go_ret
 exact ⟨A1, c1, rfl, o1, uw_⟩
def lastF (c : UInt8) (i n : Nat) : Nat := if c = 114 ∨ c = 108 then n else i + 2
def partF (c : UInt8) (i : Nat) (W : List ByteArray) : List ByteArray := (W.take (lastF c i W.length)).drop (i + 1)
def wF (W : List ByteArray) : List UInt8 → Nat → List Int → List ByteArray → Option (List Int × List ByteArray)
 | [], _, ns, ts => some (ns, ts)
 | c :: f, i, ns, ts => if c = 110 ∨ c = 108 then (match numsOf (partF c i W) with | none => none | some l => wF W f (i + 1) (ns ++ l) ts)
   else wF W f (i + 1) ns (ts ++ [⟨(joinL 32 (partF c i W)).toArray⟩])
theorem numsOf_nil : numsOf [] = some [] := rfl
theorem numsOf_cons (x : ByteArray) (l : List ByteArray) : numsOf (x :: l) = if numB x = true then (match numsOf l with | none => none | some r => some (sval x :: r)) else none := by
 unfold numsOf
 cases h : numB x
 ·simp [h]
 ·cases h2 : l.all numB <;> simp [h, h2]
theorem numsOf_app (a b : List ByteArray) : numsOf (a ++ b) = match numsOf a, numsOf b with | some x, some y => some (x ++ y) | _, _ => none := by
 unfold numsOf
 cases h : a.all numB <;> cases h2 : b.all numB <;> simp [List.all_append, h, h2]
theorem numsOf_snoc {a : List ByteArray} {x : ByteArray} {l : List Int} (h : numsOf a = some l) (hx : numB x = true) : numsOf (a ++ [x]) = some (l ++ [sval x]) := by
 rw [numsOf_app, h, numsOf_cons, if_pos hx, numsOf_nil]
theorem numsOf_bad {a b : List ByteArray} {x : ByteArray} (hx : numB x = false) : numsOf (a ++ x :: b) = none := by
 rw [numsOf_app, numsOf_cons, if_neg (by rw [hx]; simp)]
 cases numsOf a <;> rfl
theorem joinL_cons (b : UInt8) (x : ByteArray) {l : List ByteArray} (h : l ≠ []) : joinL b (x :: l) = x.data.toList ++ b :: joinL b l := by
 cases l with
 | nil => exact absurd rfl h
 | cons y l => rfl
theorem joinL_snoc (b : UInt8) : ∀ (l : List ByteArray) (x : ByteArray), l ≠ [] → joinL b (l ++ [x]) = joinL b l ++ (b :: x.data.toList)
 | [], x, h => absurd rfl h
 | [y], x, _ => by simp [joinL]
 | y :: z :: l, x, _ => by
   have h := joinL_snoc b (z :: l) x (by simp)
   rw [List.cons_append, joinL_cons b y (by simp), h, joinL_cons b y (by simp)]
   simp
theorem drop_one {W : List ByteArray} {i n : Nat} (h : i < n) (hn : n ≤ W.length) : (W.take n).drop i = wd W i :: (W.take n).drop (i + 1) := by
 rw [List.drop_eq_getElem_cons (by rw [List.length_take]; omega), List.getElem_take, wd_eq]
theorem part_snoc {W : List ByteArray} {j k : Nat} (h : j ≤ k) (hk : k < W.length) : (W.take (k + 1)).drop j = (W.take k).drop j ++ [wd W k] := by
 rw [List.take_add_one, List.getElem?_eq_getElem hk, Option.toList_some, wd_eq hk, List.drop_append_of_le_length]
 rw [List.length_take]; omega
theorem part_nil (W : List ByteArray) (j : Nat) : (W.take j).drop j = [] := by
 apply List.drop_eq_nil_of_le
 rw [List.length_take]; omega
theorem part_split {W : List ByteArray} {j k n : Nat} (h : j ≤ k) (hk : k < n) (hn : n ≤ W.length) : (W.take n).drop j = (W.take k).drop j ++ wd W k :: (W.take n).drop (k + 1) := by
 have e : W.take n = W.take k ++ (W.take n).drop k := by
  have h1 := List.take_append_drop k (W.take n)
  rw [List.take_take, Nat.min_eq_left (by omega)] at h1
  exact h1.symm
 rw [← drop_one hk hn]
 conv => lhs; rw [e]
 rw [List.drop_append_of_le_length]
 rw [List.length_take]; omega
theorem codeNameS_any (c : Int) (w : World) : Calls Tryz.prog 96 #[i64 c] w fun e w' => e = .returned (.string (cnm c)) ∧ UpOf w w' := by
 have HN : Hid (∀ V : World, Rds (V.alloc (.cells (strs cnms).toArray 9)) 1 (some ⟨V.heap.size, 0, none⟩) 11 (strs cnms)) := hd_ fun V => rds_new V (strs cnms).toArray 9 1 11 rfl
 cases hb : btw c 0 10 with
 | false =>
   have hr := hd_ (show cnm c = ⟨#[]⟩ by rw [cnm, hb]; rfl)
   go_enter Tryz.func96, Tryz.ntmps96
   go_upto_region 2 with (fail)
   refine wpg (R := fun V => Hid (UpOf w V)) (hd_ (show UpOf w (w.alloc (.cells (strs cnms).toArray 9)) from uw_)) (fun V hu => ?_)
   obtain ⟨g, rfl⟩ := hu.out
   go_wp2_with (first | (go_at_call 141; refine cs_ (ra_ (in_any c 0 10 _) hb) ?_))
   go_ret
   rw [hr.out]
   exact ⟨rfl, uw_⟩
 | true =>
   have h1 := btw_true hb
   obtain ⟨n, rfl⟩ : ∃ n : Nat, c = (n : Int) := ⟨c.toNat, by omega⟩
   have hn : n < 11 := by omega
   have hn' : (n : Int) < 11 := by omega
   have hr := hd_ (show cnm (n : Int) = wd cnms n by rw [cnm, hb, if_pos rfl, Int.toNat_natCast])
   go_enter Tryz.func96, Tryz.ntmps96
   go_upto_region 2 with (fail)
   refine wpg (R := fun V => Hid (UpOf w V) ∧ Rds V 1 (some ⟨w.heap.size, 0, none⟩) 11 (strs cnms)) ⟨hd_ (show UpOf w (w.alloc (.cells (strs cnms).toArray 9)) from uw_), HN.out w⟩ (fun V hu => ?_)
   obtain ⟨hu, hrd⟩ := hu
   obtain ⟨g, rfl⟩ := hu.out
   obtain ⟨b, off, e9, hb9, hc9⟩ := wd_at (ws := cnms) hrd (i := n) hn
   injection e9 with e9
   injection e9 with e91 e92
   subst e91 e92
   have c0 := hc9 n hn
   rw [Nat.zero_add] at c0
   clear hc9 hrd
   go_wp2_with fail
   refine cs_ (ra_ (in_any (n : Int) 0 10 _) hb) ?_
   go_wp2_with fail
   go_ret
   rw [hr.out]
   exact ⟨rfl, uw_⟩
structure SzO (w V : World) : Prop where
 size : w.heap.size ≤ V.heap.size
structure UpX (w : World) (sb : Nat) (V : World) : Prop where
 below : SzO w V
 os : V.os = w.os
 tape : V.tape = w.tape
 output : V.output = w.output
 block : ∀ k, k < w.heap.size → k ≠ sb → V.heap[k]? = w.heap[k]?
theorem UpX.tr {w V V' : World} {sb : Nat} (h : UpX w sb V) (hb : Below V.heap.size V V') : UpX w sb V' :=
 ⟨⟨Nat.le_trans h.below.size hb.size⟩, hb.os.trans h.os, hb.tape.trans h.tape, hb.output.trans h.output, fun k hk hne => (hb.block k (Nat.lt_of_lt_of_le hk h.below.size)).trans (h.block k hk hne)⟩
theorem UpX.grown {w V V' : World} {sb : Nat} {row : Option Nat} (h : UpX w sb V) (hg : V.grownBy V' row) (hr : ∀ k, row = some k → w.heap.size ≤ k) : UpX w sb V' :=
 ⟨⟨Nat.le_trans h.below.size hg.size⟩, hg.os.trans h.os, hg.tape.trans h.tape, hg.output.trans h.output, fun k hk hne => (hg.block k (Nat.lt_of_lt_of_le hk h.below.size) (fun e => by
   have := hr k (by first | exact e | exact e.symm)
   omega)).trans (h.block k hk hne)⟩
theorem UpX.set {w V : World} {sb : Nat} (h : UpX w sb V) (i : Nat) (u : Value) : UpX w sb (V.setCell ⟨sb, i, none⟩ u) :=
 ⟨⟨by rw [World.size_setCell]; exact h.below.size⟩, h.os, h.tape, h.output, fun k hk hne => (Below.heap_setCell V ⟨sb, i, none⟩ u k hne).trans (h.block k hk hne)⟩
theorem UpX.of {w V : World} {sb : Nat} (h : Below w.heap.size w V) : UpX w sb V := ⟨⟨h.size⟩, h.os, h.tape, h.output, fun k hk _ => h.block k hk⟩
structure LE (w0 V : World) (sb : Nat) (D : DeskD) (A B : Option Addr) (c e : Nat) (O : Option Addr) (oc : Nat) (L : List ByteArray) (x y : Value) : Prop where
 bk : Blk V sb 77 #[i64 D.b.bars, i64 D.b.rise, i64 D.b.fall, i64 D.b.clr, i64 D.b.near, .slice A D.stops.length c, .slice B D.drills.length e, .string D.log, .slice O L.length oc, x, y]
 dw : DOwn w0.heap.size V D A B c e
 ow : V.ownsRow w0.heap.size 9 1 (.slice O L.length oc) L.length (strs L)
 up : UpX w0 sb V
 lo : True
section
variable {w0 V V' : World} {sb : Nat} {D : DeskD} {A B O : Option Addr} {c e oc : Nat} {L : List ByteArray} {x y : Value}
theorem LE.below (h : LE w0 V sb D A B c e O oc L x y) (hb : Below V.heap.size V V') : LE w0 V' sb D A B c e O oc L x y :=
 ⟨h.bk.up ⟨V', hb⟩, ⟨ob_ h.dw.1 hb, ob_ h.dw.2 hb⟩, ob_ h.ow hb, h.up.tr hb, h.lo⟩
theorem LE.cel (h : LE w0 V sb D A B c e O oc L x y) : sb < V.heap.size ∧ (V.cell? ⟨sb, 0, none⟩ = some (i64 D.b.bars) ∧ V.cell? ⟨sb, 1, none⟩ = some (i64 D.b.rise) ∧ V.cell? ⟨sb, 2, none⟩ = some (i64 D.b.fall) ∧ V.cell? ⟨sb, 3, none⟩ = some (i64 D.b.clr) ∧ V.cell? ⟨sb, 4, none⟩ = some (i64 D.b.near) ∧ V.cell? ⟨sb, 5, none⟩ = some (.slice A D.stops.length c) ∧ V.cell? ⟨sb, 6, none⟩ = some (.slice B D.drills.length e) ∧ V.cell? ⟨sb, 7, none⟩ = some (.string D.log)) ∧ V.cell? ⟨sb, 8, none⟩ = some (.slice O L.length oc) ∧ V.cell? ⟨sb, 9, none⟩ = some x ∧ V.cell? ⟨sb, 10, none⟩ = some y :=
 ⟨h.bk.lt, ⟨h.bk.cell 0, h.bk.cell 1, h.bk.cell 2, h.bk.cell 3, h.bk.cell 4, h.bk.cell 5, h.bk.cell 6, h.bk.cell 7⟩, h.bk.cell 8, h.bk.cell 9, h.bk.cell 10⟩
theorem LE.said {O' : Option Addr} {oc' : Nat} {L' : List ByteArray} (h : LE w0 V sb D A B c e O oc L x y) (hg : V.grownBy V' (Value.slice O L.length oc).ownBlock)
 (ho : V'.ownsRow w0.heap.size 9 1 (.slice O' L'.length oc') L'.length (strs L')) : LE w0 (V'.setCell ⟨sb, 8, none⟩ (.slice O' L'.length oc')) sb D A B c e O' oc' L' x y := by
 have hb := h.bk.grown hg (blk_tne h.bk h.ow (by decide))
 have hu : UpX w0 sb V' := h.up.grown hg fun k hk => (h.ow.lt k hk).1
 exact ⟨hb.put 8 _, ⟨own_set1 (h.dw.1.kept hg (own_tne h.dw.1 h.ow (by decide))) hb (by decide) 8 _, own_set1 (h.dw.2.kept hg (own_tne h.dw.2 h.ow (by decide))) hb (by decide) 8 _⟩, own_set1 ho hb (by decide) 8 _, hu.set 8 _, h.lo⟩
end
def lePost (w0 : World) (sb : Nat) (D : DeskD) (L : List ByteArray) (x y : Value) (w' : World) : Prop := ∃ A B c e O oc, LE w0 w' sb D A B c e O oc L x y
section
variable (w0 : World) (sb : Nat) (D : DeskD) (A B : Option Addr) (c e : Nat) (O : Option Addr) (oc : Nat) (L : List ByteArray) (x y : Value)
theorem say_any (s : ByteArray) (w : World) (h : LE w0 w sb D A B c e O oc L x y) (hn : L.length ≤ 1000000) :
 Calls Tryz.prog 47 #[.pointer (some ⟨sb, 0, none⟩), .string s] w fun r w' => r = .returned (.tuple #[]) ∧ lePost w0 sb D (L ++ [s]) x y w' := by
 have HE := hd_ h
 obtain ⟨hsb, _, k8, _, _⟩ := h.cel
 have HB := hd_ (h.below (bl_alloc (Below.refl _ _) (.cells #[.string s] 9)))
 clear h
 go_enter Tryz.func47, Tryz.ntmps47
 go_wp2_with (at_builtin; go_must (refine wpl_appW rfl _ _ rfl w0.heap.size O oc L rfl HB.out.ow s w.heap.size rfl (by simp) (by omega) HB.out.up.below.size _ rfl ?_); intro g c2 L2 W2 hL2 o2 g2 l2 hg2; have hrb2 : sb < W2.heap.size := Nat.lt_of_lt_of_le HB.out.bk.lt g2.size; have hf0 : W2.frozen? ⟨sb, 8, none⟩ = false := (HB.out.bk.grown g2 (blk_tne HB.out.bk HB.out.ow (by decide))).free 8; have hc0 : W2.cell? ⟨sb, 8, none⟩ = some (.slice O L.length oc) := (HB.out.bk.grown g2 (blk_tne HB.out.bk HB.out.ow (by decide))).cell 8)
 go_end0
 refine ⟨rfl, ?_⟩
 rw [← hL2.out]
 exact ⟨A, B, c, e, _, c2, HB.out.said g2 o2⟩
theorem errL_sum (c : Int) : ∀ V, (Op.stringOp .add (⟨#[101, 114, 114, 111, 114, 32]⟩ : ByteArray) (cnm c)).run Tryz.prog V = .ok (.string (errL c)) V := fun V => run_string_add_sum V _ _ (by
 have := cnm_size c
 have e : (⟨#[101, 114, 114, 111, 114, 32]⟩ : ByteArray).size = 6 := rfl
 omega)
theorem reportR0_any (p : Option Addr) (w : World) : Calls Tryz.prog 45 #[.pointer p, i64 0] w fun r w' => r = .returned (.bool false) ∧ w = w' := by
 go_enter Tryz.func45, Tryz.ntmps45
 go_wp2_with fail
 go_ret
 exact ⟨rfl, rfl⟩
theorem reportR_any (n : Int) (w : World) (h : LE w0 w sb D A B c e O oc L x y) (hn : L.length ≤ 1000000) (hc : ¬ n = 0) :
 Calls Tryz.prog 45 #[.pointer (some ⟨sb, 0, none⟩), i64 n] w fun r w' => r = .returned (.bool true) ∧ lePost w0 sb D (L ++ [errL n]) x y w' := by
 have HE := hd_ h
 have h1 : (n == 0) = false := by rw [beq_eq_false_iff_ne]; exact hc
 have es := errL_sum n
 clear h hc
 go_enter Tryz.func45, Tryz.ntmps45
 go_wp2_with fail
 refine cu_ (codeNameS_any n _) fun g1 => ?_
 go_wp2_with fail
 refine (say_any w0 sb D A B c e O oc L x y _ _ (HE.out.below bw_) hn).mono ?_
 rintro r w' ⟨rfl, hp⟩
 go_wp2_with fail
 go_ret
 exact ⟨rfl, hp⟩
theorem listR_any (X : Option Addr) (xc : Nat) (S : List ByteArray) (w : World) (h : LE w0 w sb D A B c e O oc L x y) (hx : Rds w 1 X S.length (strs S)) (hn : L.length + S.length ≤ 900000) :
 Calls Tryz.prog 154 #[.pointer (some ⟨sb, 0, none⟩), .slice X S.length xc] w fun r w' => r = .returned (.tuple #[]) ∧ lePost w0 sb D (L ++ S ++ [okLine S.length]) x y w' := by
 have HE := hd_ h
 have HX := hd_ hx
 obtain ⟨hsb, _, k8, _, _⟩ := h.cel
 have es : ∀ V, (Op.stringOp .add (⟨#[111, 107, 32]⟩ : ByteArray) (dec (S.length : Int))).run Tryz.prog V = .ok (.string (okLine S.length)) V := fun V => run_string_add_sum V _ _ (by
  have := dec_len (n := (S.length : Int)) (by omega) (by omega)
  have e : (⟨#[111, 107, 32]⟩ : ByteArray).size = 3 := rfl
  omega)
 clear h hx
 go_enter Tryz.func154, Tryz.ntmps154
 go_upto_region 1 with (at_builtin; go_must (refine wpl_app rfl _ _ 24 rfl w0.heap.size 9 (.string ByteArray.empty) 1 16 el_str (.slice O L.length oc) L.length (strs L) rfl HE.out.ow X S.length xc (strs S) rfl HX.out (fun u hu => by simp only [strs, List.mem_map] at hu; obtain ⟨b, _, rfl⟩ := hu; rfl) (by unfold maxLen; omega) (by omega) HE.out.up.below.size ?_); intro O2 c2 W2 o2 g2; have hrb2 : sb < W2.heap.size := Nat.lt_of_lt_of_le HE.out.bk.lt g2.size; have hf0 : W2.frozen? ⟨sb, 8, none⟩ = false := (HE.out.bk.grown g2 (blk_tne HE.out.bk HE.out.ow (by decide))).free 8; have hc0 : W2.cell? ⟨sb, 8, none⟩ = some (.slice O L.length oc) := (HE.out.bk.grown g2 (blk_tne HE.out.bk HE.out.ow (by decide))).cell 8)
 obtain ⟨L2, hL2⟩ := nm_ (L ++ S)
 have hl2 : L.length + S.length = L2.length := by rw [← hL2, List.length_append]
 have hs2 : strs L ++ strs S = strs L2 := by rw [← hL2]; simp [strs]
 rw [hl2, hs2] at o2
 rw [hl2]
 refine wpg (R := fun V => Hid (LE w0 V sb D A B c e O2 c2 L2 x y)) (hd_ (HE.out.said g2 o2)) (fun V HV => ?_)
 have hL3 : L2.length ≤ 1000000 := by omega
 have HL2 := hd_ hL2
 clear o2 g2 hrb2 hf0 hc0 HE HX hs2 hl2 k8 hsb hL2
 go_wp2_with fail
 refine cu_ (l01Dec_any (S.length : Int) _ (by omega) (by omega)) fun g1 => ?_
 go_wp2_with fail
 refine (say_any w0 sb D A B c e O2 c2 L2 x y _ _ (HV.out.below bw_) hL3).mono ?_
 rintro r w' ⟨rfl, hp⟩
 go_wp2_with fail
 go_end0
 exact ⟨rfl, by rw [HL2.out]; exact hp⟩
end
def formK (k : Nat) : ByteArray := if k = 0 ∨ k = 9 then ⟨#[120, 120]⟩ else if k = 1 then ⟨#[110, 110, 110, 110, 110]⟩ else if k = 2 ∨ k = 3 ∨ k = 10 then ⟨#[114]⟩ else if k = 6 ∨ k = 12 then ⟨#[108]⟩
 else if k = 11 then ⟨#[110, 114]⟩ else if k = 7 then ⟨#[120, 110]⟩ else if k = 13 then ⟨#[110, 110]⟩ else if k = 5 then ⟨#[110, 120, 110]⟩ else if k = 4 ∨ k = 8 then ⟨#[]⟩ else ⟨#[45]⟩
theorem l28Form_any (s : ByteArray) (w : World) : Calls Tryz.prog 97 #[.string s] w fun e w' => e = .returned (.string (formK (kindOf s))) ∧ w = w' := by
 obtain ⟨q0, q1, q2, q3, q4, q5, q6, q7, q8, q9, q10, q11, q12, q13⟩ := kts (s := s) rfl
 have hk := kind_le s
 obtain ⟨k, hkk⟩ := nm_ (kindOf s)
 rw [hkk] at hk q0 q1 q2 q3 q4 q5 q6 q7 q8 q9 q10 q11 q12 q13 ⊢
 clear hkk
 have h15 : k = 0 ∨ k = 1 ∨ k = 2 ∨ k = 3 ∨ k = 4 ∨ k = 5 ∨ k = 6 ∨ k = 7 ∨ k = 8 ∨ k = 9 ∨ k = 10 ∨ k = 11 ∨ k = 12 ∨ k = 13 ∨ k = 14 := by omega
 clear hk
 rcases h15 with rfl | rfl | rfl | rfl | rfl | rfl | rfl | rfl | rfl | rfl | rfl | rfl | rfl | rfl | rfl
 all_goals
  simp only [Nat.reduceEqDiff, eq_self, decide_true, decide_false] at q0 q1 q2 q3 q4 q5 q6 q7 q8 q9 q10 q11 q12 q13
  go_enter Tryz.func97, Tryz.ntmps97
  go_wp2_with fail
  go_ret
  exact ⟨rfl, rfl⟩
theorem l28Fits_any (k n : Nat) (hk : k < 14) (hn : n ≤ 2000000) (w : World) : Calls Tryz.prog 98 #[.string (formK k), i64 n] w fun e w' => e = .returned (.bool (fitK k (n + 1))) ∧ w = w' := by
 have h14 : k = 0 ∨ k = 1 ∨ k = 2 ∨ k = 3 ∨ k = 4 ∨ k = 5 ∨ k = 6 ∨ k = 7 ∨ k = 8 ∨ k = 9 ∨ k = 10 ∨ k = 11 ∨ k = 12 ∨ k = 13 := by omega
 clear hk
 obtain ⟨B, hB⟩ := nm_ (fitK k (n + 1))
 obtain ⟨F, hF⟩ := nm_ (formK k)
 rw [hB, hF]
 have HB := hd_ hB
 have HN := hd_ hn
 clear hB hn
 rcases h14 with rfl | rfl | rfl | rfl | rfl | rfl | rfl | rfl | rfl | rfl | rfl | rfl | rfl | rfl
 all_goals
  simp [formK] at hF
  subst hF
  go_enter Tryz.func98, Tryz.ntmps98
  go_wp2_with fail
  all_goals go_ret
  all_goals first
   | (exfalso; rename_i h9; exact absurd h9 (by decide))
   | (exfalso; rename_i h9 h8; exact absurd h9 (by decide))
   | (refine ⟨?_, rfl⟩; rw [← HB.out]; simp [fitK]; done)
   | (refine ⟨?_, rfl⟩; rw [← HB.out]; simp [fitK]; omega)
   | (refine ⟨?_, rfl⟩; rw [← HB.out]; simp [fitK]; rw [Bool.eq_iff_iff]; simp; done)
   | (refine ⟨?_, rfl⟩; rw [← HB.out]; simp [fitK]; rw [Bool.eq_iff_iff]; simp; omega)
theorem words_filter : ∀ (l cur : List UInt8), wordsA cur l = (splitA 32 cur l).filter fun x => decide (0 < x.size)
 | [], cur => by
   rw [wordsA, splitA]
   cases cur with
   | nil => rfl
   | cons c t =>
     rw [if_neg (by simp), List.filter_cons_of_pos]
     ·rfl
     ·rw [← bsz]; simp
 | c :: t, cur => by
   rw [wordsA, splitA]
   by_cases hc : c = 32
   ·rw [if_pos hc, if_pos hc, words_filter t []]
    cases cur with
    | nil => rw [if_pos rfl, List.filter_cons_of_neg]; simp [← bsz]
    | cons d u => rw [if_neg (by simp), List.filter_cons_of_pos]; rw [← bsz]; simp
   ·rw [if_neg hc, if_neg hc, words_filter t (cur ++ [c])]
theorem splitWordsS_any (s : ByteArray) (w : World) (hs : s.size ≤ 1048576) : Calls Tryz.prog 150 #[.string s] w fun e w' => txPost (wordsA [] s.data.toList) w e w' := by
 obtain ⟨P, hP⟩ := nm_ (splitA 32 [] s.data.toList)
 obtain ⟨R, hR⟩ := nm_ (wordsA [] s.data.toList)
 have HR := hd_ (show R = P.filter fun x => decide (0 < x.size) by rw [← hR, words_filter, hP])
 have hPl : P.length ≤ 1048577 := by
  have := split_len 32 s.data.toList []
  rw [hP, bsz] at this
  omega
 have HPS : Hid (∀ i, i < P.length → (wd P i).size ≤ 1048576) := hd_ fun i hi => by
  have := split_size 32 s.data.toList [] (wd P i) (by rw [hP, ← wd_eq hi]; exact List.getElem_mem hi)
  rw [bsz] at this
  simp at this
  omega
 have HC := hd_ (l01Split_any s 32 32 rfl w (by omega))
 rw [hP] at HC
 rw [hR]
 clear hP hR hs
 go_enter Tryz.func150, Tryz.ntmps150
 go_wp2_with fail
 refine HC.out.mono ?_
 rintro e w' ⟨A, c, rfl, ho, g0, rfl⟩
 have HRD := hd_ (Rds.of_own ho)
 have HU := hd_ (show UpOf w (up w g0) from uw_)
 obtain ⟨V0, hV0⟩ := nm_ (up w g0)
 rw [hV0] at HRD HU ⊢
 clear hV0 ho HC g0
 have hOwn := hd_ (World.ownsRow_lit (base := V0.heap.size) (e := 9) (size := 1) V0 #[] 0 (Nat.le_refl _) (by unfold maxLen; omega) rfl)
 go_wp2_with fail
 go_loopw [4, 5] (fun t4 t5 wr => ∃ (k : Nat) (L : List ByteArray) (A1 : Option Addr) (c1 : Nat), k ≤ P.length ∧ t5 = i64 k ∧ t4 = .slice A1 L.length c1 ∧ Hid (L = (P.take k).filter fun x => decide (0 < x.size)) ∧ Hid (wr.ownsRow V0.heap.size 9 1 (.slice A1 L.length c1) L.length (strs L)) ∧ ∃ g : Up V0, wr = up V0 g) (fun _ t5 _ => P.length - (intOf t5).toNat)
 case atStart => exact ⟨0, [], _, _, by omega, rfl, rfl, hd_ rfl, hd_ hOwn.out, ex_up bw_⟩
 case round =>
  obtain ⟨k, L, A1, c1, hk, rfl, rfl, HE, HO, g, rfl⟩ := hrel
  clear hOwn
  by_cases hlt : k < P.length
  ·have hlt' : (k : Int) < (P.length : Int) := by omega
   obtain ⟨b, off, rfl, hb, -⟩ := wd_at HRD.out hlt
   obtain ⟨-, c0⟩ := ws_at HRD.out hlt
   have hT : P.take (k + 1) = P.take k ++ [wd P k] := by rw [List.take_add_one, List.getElem?_eq_getElem hlt, Option.toList_some, wd_eq hlt]
   have hL : L.length ≤ 1048577 := by
    have h1 := List.length_filter_le (fun x : ByteArray => decide (0 < x.size)) (P.take k)
    rw [← HE.out, List.length_take] at h1
    omega
   have hKs := HPS.out k hlt
   obtain ⟨KW, hKW⟩ := nm_ (wd P k)
   rw [hKW] at hT c0 hKs
   clear hKW
   by_cases h0 : 0 < KW.size
   ·have he := isEmpty_no h0
    have HE2 := hd_ (show L ++ [KW] = (P.take (k + 1)).filter fun x => decide (0 < x.size) by rw [hT, List.filter_append, ← HE.out, List.filter_cons_of_pos (by simpa using h0), List.filter_nil])
    clear HE hT
    go_wp2_with (first | (at_builtin; go_must (refine wpl_appU rfl _ _ 24 rfl V0 V0.heap.size 9 _ 1 16 el_str (.slice A1 L.length c1) L.length (strs L) rfl (ob_ HO.out bw_) _ 1 1 [.string KW] rfl (rds_new _ _ _ 1 1 rfl) (fun u hu => by simp at hu; subst hu; rfl) (by unfold maxLen; omega) (by omega) (ub_ V0 _).size bw_ (Nat.le_refl _) ?_; intro A2 c2 g2 o2)))
    go_roundw
    case rel => exact ⟨k + 1, L ++ [KW], A2, c2, by omega, by go_num, congrArg (fun n => Value.slice A2 n c2) (by simp), HE2, hd_ (by rw [List.length_append]; simpa [strs] using o2), ex_up bw_⟩
    case measure => simp [intOf]; try omega
   ·have he := isEmpty_yes (s := KW) (by omega)
    have HE2 := hd_ (show L = (P.take (k + 1)).filter fun x => decide (0 < x.size) by rw [hT, List.filter_append, ← HE.out, List.filter_cons_of_neg (by simpa using h0), List.filter_nil, List.append_nil])
    clear HE hT
    go_wp2_with fail
    go_roundw
    case rel => exact ⟨k + 1, L, A1, c1, by omega, by go_num, rfl, HE2, HO, ex_up bw_⟩
    case measure => simp [intOf]; try omega
  ·obtain rfl : k = P.length := by omega
   have HF := hd_ (show L = R by rw [HE.out, List.take_length, HR.out])
   clear HE
   go_wp2_with fail
   go_ret
   rw [← HF.out]
   exact ⟨A1, c1, rfl, om_ HO.out HU.out.below.size, HU.out.tr (ub_ _ _)⟩
theorem l00Sum_any (A : Option Addr) (c : Nat) (l : List Int) (w : World) (h : Rds w 1 A l.length (ics l)) (hn : l.length ≤ 1000000) (hv : ∀ i, i < l.length → -1000000000 ≤ num l i ∧ num l i ≤ 1000000000) :
 Calls Tryz.prog 158 #[.slice A l.length c] w fun e w' => e = .returned (i64 (sumI l)) ∧ w = w' := by
 have HV := hd_ hv
 have HR := hd_ h
 clear hv h
 go_enter Tryz.func158, Tryz.ntmps158
 go_wp2_with fail
 go_loopw [3, 4] (fun t3 t4 wr => ∃ (k : Nat) (z : Int), k ≤ l.length ∧ t4 = i64 k ∧ t3 = .int .i64 z ∧ Hid (z = sumI' l k) ∧ wr = w) (fun _ t4 _ => l.length - (intOf t4).toNat)
 case atStart => exact ⟨0, 0, by omega, rfl, rfl, hd_ rfl, rfl⟩
 case round =>
  obtain ⟨k, z, hk, rfl, rfl, HZ, rfl⟩ := hrel
  have hb0 := sumI'_bd (B := 1000000000) (by omega) HV.out k hk
  have hz1 : -1000000000000000 ≤ z := by rw [HZ.out]; omega
  have hz2 : z ≤ 1000000000000000 := by rw [HZ.out]; omega
  clear hb0
  by_cases hlt : k < l.length
  ·obtain ⟨b, off, rfl, hb, c0⟩ := num_at HR.out hlt
   have hx := HV.out k hlt
   obtain ⟨x, hx0⟩ := nm_ (num l k)
   have HZ2 := hd_ (show z + x = sumI' l (k + 1) by rw [sumI'_step hlt, HZ.out, hx0])
   rw [hx0] at hx c0
   obtain ⟨hx1, hx2⟩ := hx
   clear HZ hx0
   go_wp2_with fail
   refine ⟨⟨k + 1, _, by omega, by go_num, rfl, HZ2, by first | rfl | trivial⟩, by simp [intOf]; try omega⟩
  ·obtain rfl : k = l.length := by omega
   have HL : Hid (sumI l = z) := hd_ (by rw [HZ.out, sumI', List.take_length])
   clear HZ
   go_wp2_with fail
   go_ret
   rw [HL.out]
   exact ⟨rfl, rfl⟩
theorem twoReadingsS_any {two : List ByteArray → ByteArray × Int} (h2 : TwoOk two) (A : Option Addr) (c : Nat) (ws : List ByteArray) (w : World) (h : Rds w 1 A ws.length (strs ws)) (hc : ws.length ≤ c) (hn : ws.length ≤ 100000000) (hf : ∀ i, i < ws.length → (wd ws i).size ≤ 100000000) :
 Calls Tryz.prog 149 #[.slice A ws.length c] w fun e w' => e = .returned (.tuple #[.string (two ws).1, i64 (two ws).2]) ∧ UpOf w w' := by
 have HR := hd_ h
 have HF := hd_ hf
 have HC := hd_ hc
 clear h hf hc
 cases hv : vCode ws with
 | false =>
   have hr := hd_ ((h2 ws).2 hv)
   go_enter Tryz.func149, Tryz.ntmps149
   go_wp2_with (first | (go_at_call 186; refine cu_ (ra_ (l17Ok_any A c ws _ (HR.out.below bw_) HC.out hn HF.out) hv) fun g => ?_))
   go_ret2
   rw [hr.out]
   exact ⟨rfl, uw_⟩
 | true =>
   obtain ⟨h10, hi⟩ := vCode_inv hv
   have h8 : ∀ i, i < ws.length → (wd ws i).size ≤ 8 := fun i hi2 => (txtB_inv (hi i hi2).2.1).1
   have HT := hd_ ((h2 ws).1 hv)
   have HRS : Hid (∀ V, Below w.heap.size w V → Calls Tryz.prog 187 #[.slice A ws.length c] V fun e w' => rsPost ws V e w') := hd_ fun V hV => l17Rests_any A c ws V (HR.out.below hV) h10 h8
   clear h8 hi
   go_enter Tryz.func149, Tryz.ntmps149
   go_wp2_with fail
   refine cu_ (ra_ (l17Ok_any A c ws _ (HR.out.below bw_) HC.out hn HF.out) hv) fun g1 => ?_
   go_wp2_with fail
   refine (HRS.out _ bw_).mono ?_
   rintro e V ⟨rb, R, more, A1, c1, E1, d1, rfl, hq, hfx, hnd, hR⟩
   have HQ := hd_ hq
   have HU := hd_ (show UpOf w V from (show UpOf w (up w g1) from uw_).tr hq.up.below)
   have hrb := hq.bk.lt
   have k0 : V.cell? ⟨rb, 0, none⟩ = some (.slice A1 (keysB R).length c1) := hq.bk.cell 0
   have k1 : V.cell? ⟨rb, 1, none⟩ = some (.slice E1 (textsB R).length d1) := hq.bk.cell 1
   have h3 := hfx.two (nodup_key hnd)
   have hix := idxS_is (keysB R) ⟨#[]⟩
   have HIX : Hid (Calls Tryz.prog 188 #[.slice A1 (keysB R).length c1, .string ⟨#[]⟩] V fun e w' => e = .returned (i64 (idxS (keysB R) ⟨#[]⟩)) ∧ V = w') := hd_ (l17IdxS_any A1 c1 (keysB R) ⟨#[]⟩ V (Rds.of_own hq.ka) (by rw [keysB_len]; omega))
   obtain ⟨z, hz⟩ := nm_ (idxS (keysB R) ⟨#[]⟩)
   rw [hz] at hix HIX
   clear hz hq hfx hnd HRS
   rcases hix with ⟨rfl, hno⟩ | ⟨k, rfl, hk, he, _⟩
   ·have hni : ∀ t, (([] : List UInt8), t) ∉ R := fun t ht => by
     obtain ⟨i, hi, e⟩ := List.getElem_of_mem ht
     refine hno i (by rw [keysB_len]; exact hi) ?_
     have e2 : om R i = ([], t) := by rw [om, List.getD_eq_getElem?_getD, List.getElem?_eq_getElem hi, e]; rfl
     rw [wd_keys hi, e2]
    have hres := hd_ (show ((two ws).1, (two ws).2) = (⟨#[]⟩, 3) by
     obtain ⟨e1, e2⟩ := HT.out.uniq (h3.2 hni)
     rw [e2, ← bs_of (two ws).1, e1])
    clear h3 hno hni
    go_wp2_with fail
    refine HIX.out.mono ?_
    rintro e w' ⟨rfl, rfl⟩
    go_wp2_with fail
    go_ret2
    have e := hres.out
    rw [Prod.mk.injEq] at e
    rw [e.1, e.2]
    exact ⟨rfl, HU.out⟩
   ·have hkR : k < R.length := by rw [keysB_len] at hk; exact hk
    obtain ⟨gE, rfl⟩ := own_someT HQ.out.te (by rw [textsB_len]; omega)
    obtain ⟨hgE, cE⟩ := ws_at (Rds.of_own HQ.out.te) (i := k) (by rw [textsB_len]; exact hkR)
    rw [Nat.zero_add, wd_texts hkR] at cE
    rw [wd_keys hkR] at he
    have he2 : (om R k).1 = [] := by
     have := congrArg (fun x : ByteArray => x.data.toList) he
     simpa using this
    have hin : ([], (om R k).2) ∈ R := by
     have := om_mem hkR
     rw [show om R k = ([], (om R k).2) by rw [← he2]] at this
     exact this
    have hres := hd_ (show ((two ws).1, (two ws).2) = (bs (om R k).2, 0) by
     obtain ⟨e1, e2⟩ := HT.out.uniq (h3.1 _ hin)
     rw [e2, ← e1, bs_of])
    have hTl := textsB_len R
    have hltT : (k : Int) < ((textsB R).length : Int) := by omega
    obtain ⟨X, hX⟩ := nm_ (bs (om R k).2)
    rw [hX] at cE hres
    clear h3 he he2 hin hX hTl hk hkR
    go_wp2_with fail
    refine HIX.out.mono ?_
    rintro e w' ⟨rfl, rfl⟩
    go_wp2_with fail
    go_ret2
    have e := hres.out
    rw [Prod.mk.injEq] at e
    rw [e.1, e.2]
    exact ⟨rfl, HU.out⟩
set_option maxRecDepth 100000 in
theorem conv_take {w w1 : World} {base n c m g : Nat} {l : List UInt8} (h : w.ownsRow base 5 1 (.slice (some ⟨g, 0, none⟩) n c) n (Lib.byteCells l)) (hn : n = l.length) (hm : m ≤ n) (hb : Below w.heap.size w w1) :
 (convert 22 9 (.slice (some ⟨g, 0, none⟩) m c)).run Tryz.prog w1 = .ok (.string ⟨(l.take m).toArray⟩) w1 := by
 subst hn
 have h1 := ob_ h hb
 have := run_convert_bytes_back w1 22 9 5 ⟨g, 0, none⟩ c (l.take m) Tryz.underlying22 Tryz.underlying5 Tryz.underlying9 (fun j hj => h1.cells (g := g) rfl j _ (by
  have hj2 : j < l.length := by rw [List.length_take] at hj; omega
  simp [Lib.byteCells, hj2]))
 rw [List.length_take, Nat.min_eq_left hm] at this
 exact this
theorem dlU_snoc (d : Drill) (k : Nat) : dlU d (k + 1) = dlU d k ++ [dlC d k] := by
 simp [dlU, List.range_succ]
set_option maxRecDepth 10000 in
theorem drillLineS_any (d : Drill) (n : Int) (w : World) (h1 : d.name.size ≤ 9223372036854775807) (h2 : d.letters.size ≤ 9223372036854775807) :
 Calls Tryz.prog 160 #[drv d, i64 n] w fun e w' => e = .returned (.tuple #[.string (dlR d n).1, i64 (dlR d n).2]) ∧ UpOf w w' := by
 cases hv : vDrill d with
 | false =>
   have hr := hd_ (show dlR d n = (⟨#[]⟩, 1) by rw [dlR, hv]; rfl)
   go_enter Tryz.func160, Tryz.ntmps160
   go_upto_region 1 with (fail)
   refine wpg (R := fun V => Box V w.heap.size #[.string d.name, .string d.letters, i64 d.minutes] ∧ UpOf w V) ⟨Box.new _ _ _, uw_⟩ (fun V z => ?_)
   obtain ⟨⟨hq, hc⟩, hB⟩ := z
   have c0 := hc 0 _ rfl
   have c1 := hc 1 _ rfl
   have c2 := hc 2 _ rfl
   have HB := hd_ hB
   clear hc hB
   generalize w.heap.size = q at *
   go_wp2_with (first | (go_at_call 143; refine cu_ (ra_ (l21One_any d _ h1 h2) hv) fun g => ?_) | ((with_reducible refine wru ?_); refine wrz fun _ => ?_))
   go_ret2
   rw [hr.out]
   exact ⟨rfl, HB.out.tr bw_⟩
 | true =>
   cases hb : btw n 1 80 with
   | false =>
     have hr := hd_ (show dlR d n = (⟨#[]⟩, 2) by rw [dlR, hv, hb]; rfl)
     go_enter Tryz.func160, Tryz.ntmps160
     go_upto_region 1 with (fail)
     refine wpg (R := fun V => Box V w.heap.size #[.string d.name, .string d.letters, i64 d.minutes] ∧ UpOf w V) ⟨Box.new _ _ _, uw_⟩ (fun V z => ?_)
     obtain ⟨⟨hq, hc⟩, hB⟩ := z
     have c0 := hc 0 _ rfl
     have c1 := hc 1 _ rfl
     have c2 := hc 2 _ rfl
     have HB := hd_ hB
     clear hc hB
     generalize w.heap.size = q at *
     go_wp2_with (first | (go_at_call 143; refine cu_ (ra_ (l21One_any d _ h1 h2) hv) fun g => ?_) | (go_at_call 141; refine cs_ (ra_ (in_any n 1 80 _) hb) ?_) | ((with_reducible refine wru ?_); refine wrz fun _ => ?_))
     go_ret2
     rw [hr.out]
     exact ⟨rfl, HB.out.tr bw_⟩
   | true =>
     have hr := hd_ (show dlR d n = (bs (dlA d n.toNat), 0) by rw [dlR, hv, hb]; rfl)
     have hbb := btw_true hb
     obtain ⟨N, rfl⟩ : ∃ N : Nat, n = (N : Int) := ⟨n.toNat, by omega⟩
     have hN1 : 1 ≤ N := by omega
     have hN2 : N ≤ 80 := by omega
     have hinv := vDrill_inv hv
     have hl0 : 0 < d.letters.size := hinv.2.1
     have hl8 : d.letters.size ≤ 8 := (txtB_inv hinv.2.2.1).1
     have HNE : Hid (∀ i, i % 4 ≠ 3 → dlC d i ≠ 32) := hd_ fun i hi he => by
      rw [dlC, if_neg hi] at he
      have := (txtB_inv hinv.2.2.1).2 (i / 4 % d.letters.size) (Nat.mod_lt _ hl0)
      rw [he] at this
      exact absurd this.1 (by decide)
     clear hinv hbb
     go_enter Tryz.func160, Tryz.ntmps160
     go_upto_region 1 with (fail)
     refine wpg (R := fun V => Box V w.heap.size #[.string d.name, .string d.letters, i64 d.minutes] ∧ UpOf w V) ⟨Box.new _ _ _, uw_⟩ (fun V z => ?_)
     obtain ⟨⟨hq, hc⟩, hB⟩ := z
     have c0 := hc 0 _ rfl
     have c1 := hc 1 _ rfl
     have c2 := hc 2 _ rfl
     have HB := hd_ hB
     clear hc hB
     generalize w.heap.size = q at *
     go_wp2_with fail
     refine cu_ (ra_ (l21One_any d _ h1 h2) hv) fun g1 => ?_
     go_wp2_with fail
     refine cs_ (ra_ (in_any (N : Int) 1 80 _) hb) ?_
     go_upto_region 5 with (fail)
     refine wpg (R := fun U => UpOf V U) (uw_) (fun V2 z => ?_)
     have HV2 := hd_ (HB.out.tr z.below)
     have d0 := (z.below.cell (p := ⟨q, 0, none⟩) hq).trans c0
     have d1 := (z.below.cell (p := ⟨q, 1, none⟩) hq).trans c1
     have d2 := (z.below.cell (p := ⟨q, 2, none⟩) hq).trans c2
     have hq2 := Nat.lt_of_lt_of_le hq z.below.size
     have HOw := hd_ (World.ownsRow_lit (base := V2.heap.size) (e := 5) (size := 1) V2 #[] 0 (Nat.le_refl _) (by unfold maxLen; omega) rfl)
     clear z c0 c1 c2 hq hv hb
     go_wp2_with fail
     go_loopw [6, 7] (fun t6 t7 wr => ∃ (k : Nat) (L : List UInt8) (A1 : Option Addr) (c1 : Nat), k ≤ N ∧ t7 = i64 k ∧ t6 = .slice A1 L.length c1 ∧ Hid (L = dlU d k) ∧ Hid (L.length = k) ∧ Hid (wr.ownsRow V2.heap.size 5 1 (.slice A1 L.length c1) L.length (Lib.byteCells L)) ∧ ∃ g : Up V2, wr = up V2 g) (fun _ t7 _ => N - (intOf t7).toNat)
     case atStart => exact ⟨0, [], _, _, by omega, rfl, rfl, hd_ rfl, hd_ rfl, hd_ HOw.out, ex_up bw_⟩
     case round =>
      clear HOw
      obtain ⟨k, L, A1, c1, hk, rfl, rfl, HE, HLL, HO, g, rfl⟩ := hrel
      by_cases hlt : k < N
      ·have hlt' : (k : Int) < (N : Int) := by omega
       have HE2 := hd_ (show L ++ [dlC d k] = dlU d (k + 1) by rw [dlU_snoc, HE.out])
       have HLk : L.length ≤ 80 := by rw [HLL.out]; omega
       have HLL2 := hd_ (show (L ++ [dlC d k]).length = k + 1 by rw [List.length_append, HLL.out]; rfl)
       by_cases h4 : k % 4 = 3
       ·have h4' : (k : Int) % 4 = 3 := by omega
        have hch : dlC d k = 32 := by rw [dlC, if_pos h4]
        rw [hch] at HE2 HLL2
        clear hch h4
        go_wp2_with (first | (at_builtin; go_must (refine wpl_appU rfl _ _ 22 rfl V2 V2.heap.size 5 _ 1 1 el_byte (.slice A1 L.length c1) L.length (Lib.byteCells L) rfl (ob_ HO.out bw_) _ 1 1 [.int .u8 32] rfl (rds_new _ #[.int .u8 32] _ 1 1 rfl) (fun u hu => by simp at hu; subst hu; rfl) (by unfold maxLen; omega) (by omega) (ub_ V2 _).size bw_ (Nat.le_refl _) ?_; intro A2 c2 g2 o2)) | ((with_reducible refine wru ?_); refine wrz fun _ => ?_))
        go_roundw
        case rel => exact ⟨k + 1, L ++ [32], A2, c2, by omega, by go_num, congrArg (fun n => Value.slice A2 n c2) (by simp), HE2, HLL2, hd_ (by rw [List.length_append]; simpa [Lib.byteCells] using o2), ex_up bw_⟩
        case measure => simp [intOf]; try omega
       ·have h4' : ¬ (k : Int) % 4 = 3 := by omega
        obtain ⟨a, ha⟩ := nm_ (k / 4 % d.letters.size)
        have hal : a < d.letters.size := by rw [← ha]; exact Nat.mod_lt _ hl0
        have hdv : (k : Int) / 4 = ((k / 4 : Nat) : Int) := by omega
        have hmod : ((k / 4 : Nat) : Int) % (d.letters.size : Int) = (a : Int) := by rw [← ha]; rfl
        have hch : dlC d k = byteAt d.letters a := by rw [dlC, if_neg h4, ha]
        have hbe := byteAt_eq hal
        rw [← hbe] at hch
        obtain ⟨qk, hqk⟩ := nm_ (k / 4)
        rw [hqk] at hdv hmod
        obtain ⟨ch, hc9⟩ := nm_ (d.letters[a])
        rw [hc9] at hch
        rw [hch] at HE2 HLL2
        have hal' : (a : Int) < (d.letters.size : Int) := by omega
        have hz1 : ((d.letters.size : Int) == 0) = false := by rw [beq_eq_false_iff_ne]; omega
        have hz2 : ¬ (d.letters.size : Int) = 0 := by omega
        have hz3 : ¬ d.letters.size = 0 := by omega
        have hmt : Int.tmod (qk : Int) (d.letters.size : Int) = (a : Int) := by rw [Int.tmod_eq_emod_of_nonneg (by omega)]; exact hmod
        have hqw : IntKind.i64.wrap (qk : Int) = (qk : Int) := by rw [IntKind.wrap_i64]; omega
        have hwr : IntKind.i64.wrap (a : Int) = (a : Int) := by rw [IntKind.wrap_i64]; omega
        clear hch h4 ha hbe hqk
        go_wp2_with fail
        go_region_held3 (fun w' => (V2).heap.size ≤ w'.heap.size ∧ ∀ b o, b < (V2).heap.size → w'.cell? ⟨b, o, none⟩ = (V2).cell? ⟨b, o, none⟩) (exact sm_of bw_) (first | (refine step_appU rfl _ _ 22 (by rfl) V2 V2.heap.size 5 _ 1 1 el_byte _ L.length _ (by rfl) (ob_ HO.out bw_) _ 1 1 [.int .u8 (ch.toNat : Int)] (by rfl) (by first | exact rds_new _ #[.int .u8 (ch.toNat : Int)] _ 1 1 rfl | exact (rds_new _ #[.int .u8 (ch.toNat : Int)] _ 1 1 rfl).below bw_) (fun u hu => by simp at hu; subst hu; rfl) (by unfold maxLen; omega) (by omega) (show Below V2.heap.size V2 _ from bw_).size bw_ (Nat.le_refl _) ?_; intro A2 c2 g2 o2))
        all_goals
         go_wp2_with fail
         go_roundw
         case rel => exact ⟨k + 1, L ++ [ch], A2, c2, by omega, by go_num, congrArg (fun n => Value.slice A2 n c2) (by simp), HE2, HLL2, hd_ (by rw [List.length_append]; simpa [Lib.byteCells] using o2), ex_up bw_⟩
         case measure => simp [intOf]; try omega
      ·obtain rfl : k = N := by omega
       have hL0 : 0 < L.length := by rw [HLL.out]; omega
       obtain ⟨gb, rfl⟩ := own_someT HO.out hL0
       have hcap := own_capD HO.out
       have hLl := HLL.out
       rw [hLl] at hcap
       have hgb := Rds.of_own HO.out
       obtain ⟨m, hm⟩ := nm_ (k - 1)
       have hlast : (up V2 g).cell? ⟨gb, m, none⟩ = some (.int .u8 ((dlC d m).toNat : Int)) := by
        obtain ⟨b9, o9, e9, -, hc9⟩ := hgb.2 (by omega)
        injection e9 with e9
        injection e9 with e91 e92
        subst e91 e92
        have := hc9 m (.int .u8 ((dlC d m).toNat : Int)) (by
         have hmk : m < k := by omega
         rw [HE.out]
         simp [Lib.byteCells, dlU, hmk])
        rwa [Nat.zero_add] at this
       have hgl := (HO.out.lt gb rfl).2
       have hkm : (k : Int) - 1 = (m : Int) := by omega
       have hmk : (m : Int) < (k : Int) := by omega
       have hmc : (m : Int) ≤ (c1 : Int) := by omega
       by_cases h4 : k % 4 = 0
       ·have hch : dlC d m = 32 := by rw [dlC, if_pos (by omega)]
        rw [hch] at hlast
        have hlast' : (up V2 g).cell? ⟨gb, m, none⟩ = some (.int .u8 32) := hlast
        have HF := hd_ (show (bs (dlA d k) : ByteArray) = ⟨(L.take m).toArray⟩ by
         rw [dlA, if_pos h4, HE.out, dlU_take d (by omega), hm])
        have hcv := conv_take (w1 := up V2 g) (m := m) HO.out rfl (by omega) (Below.refl _ _)
        clear hlast hch h4 hm hgb hL0
        go_wp2_with fail
        go_ret2
        rw [hr.out]
        rw [Int.toNat_natCast, HF.out]
        exact ⟨rfl, HV2.out.tr (ub_ _ _)⟩
       ·have hch : ((dlC d m).toNat : Int) ≠ 32 := fun e => HNE.out m (by omega) (UInt8.toNat_inj.1 (by rw [show ((32 : UInt8).toNat) = 32 from rfl]; omega))
        have hch' : (((dlC d m).toNat : Int) == 32) = false := by rw [beq_eq_false_iff_ne]; exact hch
        have HF := hd_ (show (bs (dlA d k) : ByteArray) = ⟨L.toArray⟩ by
         rw [dlA, if_neg h4, HE.out])
        have hcv := conv_own (w := up V2 g) (w1 := up V2 g) HO.out rfl (Below.refl _ _)
        rw [hLl] at hcv
        clear hch h4 hm hgb hL0
        go_wp2_with fail
        go_ret2
        rw [hr.out]
        rw [Int.toNat_natCast, HF.out]
        exact ⟨rfl, HV2.out.tr (ub_ _ _)⟩
theorem addDrillS_any (A : Option Addr) (c : Nat) (l : List Drill) (d : Drill) (w : World) (h : Rds w 3 A l.length (drcs l)) (hc : l.length ≤ c) (hn : l.length ≤ 100000000) (hf : DBd l) (h1 : d.name.size ≤ 100000000) (h2 : d.letters.size ≤ 100000000) :
 Calls Tryz.prog 152 #[.slice A l.length c, drv d] w fun e w' => drsPost (addD l d).1.length (addD l d).1 (addD l d).2 w e w' := by
 have HR := hd_ h
 have HF := hd_ hf
 clear h hf
 cases q1 : vDrills l with
 | false =>
   have hr : addD l d = ([], 1) := by rw [addD, q1]; rfl
   rw [hr]
   go_enter Tryz.func152, Tryz.ntmps152
   go_upto_region 1 with (fail)
   refine wpg (R := fun V => Box V w.heap.size #[.string d.name, .string d.letters, i64 d.minutes] ∧ UpOf w V) ⟨Box.new _ _ _, uw_⟩ (fun V z => ?_)
   obtain ⟨⟨hq, hc⟩, hB⟩ := z
   have c0 := hc 0 _ rfl
   have c1 := hc 1 _ rfl
   have c2 := hc 2 _ rfl
   have HB := hd_ hB
   clear hc hB
   generalize w.heap.size = q at *
   go_wp2_with (first | (go_at_call 94; refine cu_ (ra_ (l21Ok_any A c l _ ((HR.out.below HB.out.below).below bw_) hc hn HF.out) q1) fun g => ?_))
   go_ret2
   refine ⟨none, 0, ?_, Nat.le_refl _, ?_, HB.out.tr bw_⟩
   ·rfl
   ·exact own_nil _ _ _ _
 | true =>
   cases q2 : vDrill d with
   | false =>
     have hr : addD l d = ([], 2) := by rw [addD, q1, q2]; rfl
     rw [hr]
     go_enter Tryz.func152, Tryz.ntmps152
     go_upto_region 1 with (fail)
     refine wpg (R := fun V => Box V w.heap.size #[.string d.name, .string d.letters, i64 d.minutes] ∧ UpOf w V) ⟨Box.new _ _ _, uw_⟩ (fun V z => ?_)
     obtain ⟨⟨hq, hc⟩, hB⟩ := z
     have c0 := hc 0 _ rfl
     have c1 := hc 1 _ rfl
     have c2 := hc 2 _ rfl
     have HB := hd_ hB
     clear hc hB
     generalize w.heap.size = q at *
     go_wp2_with (first | (go_at_call 94; refine cu_ (ra_ (l21Ok_any A c l _ ((HR.out.below HB.out.below).below bw_) hc hn HF.out) q1) fun g => ?_) | (go_at_call 143; refine cu_ (ra_ (l21One_any d _ (by omega) (by omega)) q2) fun g => ?_))
     go_ret2
     refine ⟨none, 0, ?_, Nat.le_refl _, ?_, HB.out.tr bw_⟩
     ·rfl
     ·exact own_nil _ _ _ _
   | true =>
     have hinv := vDrills_inv q1
     have hl10 := hinv.1
     obtain ⟨R, hR⟩ := nm_ (addD l d)
     have HRR := hd_ (show R = if hasName l d.name then ([], 4) else if l.length = 10 then ([], 5) else (l ++ [d], 0) by rw [← hR, addD, q1, q2, if_pos rfl, if_pos rfl])
     rw [hR]
     clear hR hinv
     rcases idxD_some l l.length d.name with ⟨e1, e2⟩ | ⟨k, hk, e1, e2, -⟩
     ·have HFD : Hid (∀ V, Rds V 3 A l.length (drcs l) → Calls Tryz.prog 144 #[.slice A l.length c, .string d.name] V fun e w' => e = .returned (i64 (-1)) ∧ V = w') := hd_ fun V hV => by
       have := l21Find_any A l.length c l d.name V hV (Nat.le_refl _) hn
       rw [e1] at this
       exact this
      have hno := hd_ (hasName_no e2)
      clear e1 e2
      by_cases h10 : l.length = 10
      ·have hr := hd_ (show R = ([], 5) by rw [HRR.out, hno.out, if_neg (by simp), if_pos h10])
       have ht : (10 : Int) ≤ (l.length : Int) := by omega
       clear h10
       go_enter Tryz.func152, Tryz.ntmps152
       go_upto_region 1 with (fail)
       refine wpg (R := fun V => Box V w.heap.size #[.string d.name, .string d.letters, i64 d.minutes] ∧ UpOf w V) ⟨Box.new _ _ _, uw_⟩ (fun V z => ?_)
       obtain ⟨⟨hq, hc⟩, hB⟩ := z
       have c0 := hc 0 _ rfl
       have c1 := hc 1 _ rfl
       have c2 := hc 2 _ rfl
       have HB := hd_ hB
       clear hc hB
       generalize w.heap.size = q at *
       go_wp2_with (first | (go_at_call 94; refine cu_ (ra_ (l21Ok_any A c l _ ((HR.out.below HB.out.below).below bw_) hc hn HF.out) q1) fun g => ?_) | (go_at_call 143; refine cu_ (ra_ (l21One_any d _ (by omega) (by omega)) q2) fun g => ?_) | (go_at_call 144; refine cs_ (HFD.out _ ((HR.out.below HB.out.below).below bw_)) ?_))
       go_ret2
       rw [hr.out]
       exact ⟨none, 0, rfl, Nat.le_refl _, own_nil _ _ _ _, HB.out.tr bw_⟩
      ·have hr := hd_ (show R = (l ++ [d], 0) by rw [HRR.out, hno.out, if_neg (by simp), if_neg h10])
       have ht : ¬ (10 : Int) ≤ (l.length : Int) := by omega
       have hll : l.length ≤ 9 := by omega
       clear h10
       go_enter Tryz.func152, Tryz.ntmps152
       go_upto_region 1 with (fail)
       refine wpg (R := fun V => Box V w.heap.size #[.string d.name, .string d.letters, i64 d.minutes] ∧ UpOf w V) ⟨Box.new _ _ _, uw_⟩ (fun V z => ?_)
       obtain ⟨⟨hq, hc⟩, hB⟩ := z
       have c0 := hc 0 _ rfl
       have c1 := hc 1 _ rfl
       have c2 := hc 2 _ rfl
       have HB := hd_ hB
       clear hc hB
       generalize w.heap.size = q at *
       go_wp2_with fail
       refine cu_ (ra_ (l21Ok_any A c l _ ((HR.out.below HB.out.below).below bw_) hc hn HF.out) q1) fun g1 => ?_
       go_wp2_with fail
       refine cu_ (ra_ (l21One_any d _ (by omega) (by omega)) q2) fun g2 => ?_
       go_wp2_with fail
       refine cs_ (HFD.out _ ((HR.out.below HB.out.below).below bw_)) ?_
       go_upto_region 9 with (fail)
       refine wpg (R := fun U => UpOf V U) (uw_) (fun V2 z => ?_)
       have HV2 := hd_ (HB.out.tr z.below)
       have d0 := (z.below.cell (p := ⟨q, 0, none⟩) hq).trans c0
       have d1 := (z.below.cell (p := ⟨q, 1, none⟩) hq).trans c1
       have d2 := (z.below.cell (p := ⟨q, 2, none⟩) hq).trans c2
       have hq2 := Nat.lt_of_lt_of_le hq z.below.size
       have HRd := hd_ (HR.out.below HV2.out.below)
       have HOw := hd_ (World.ownsRow_lit (base := V2.heap.size) (e := 112) (size := 3) V2 #[] 0 (Nat.le_refl _) (by unfold maxLen; omega) rfl)
       clear z c0 c1 c2 hq q1 q2 HFD
       go_upto_region 10 with (at_builtin; go_must (refine wpl_appU rfl _ _ 29 rfl V2 V2.heap.size 112 _ 3 40 el_drl _ 0 [] rfl HOw.out A l.length c (drcs l) rfl (HRd.out.below bw_) (dr_one l) (by unfold maxLen; omega) (by omega) (show Below V2.heap.size V2 _ from bw_).size bw_ (Nat.le_refl _) ?_; intro A1 c1 g1 o1; simp only [List.nil_append, Nat.zero_add] at o1))
       have O1 := hd_ o1
       clear o1 HOw
       go_wp2_with (at_builtin; go_must (refine wpl_appU rfl _ _ 29 rfl V2 V2.heap.size 112 _ 3 40 el_drl _ l.length _ rfl (ob_ O1.out bw_) _ 1 1 [.string d.name, .string d.letters, i64 d.minutes] rfl (rds_new _ _ _ 3 1 rfl) (fun u hu => by simp at hu; obtain rfl | rfl | rfl := hu <;> rfl) (by unfold maxLen; omega) (by omega) (show Below V2.heap.size V2 _ from bw_).size bw_ (Nat.le_refl _) ?_; intro A2 c2' g2 o2; rw [← drcs_snoc] at o2))
       have hL : (l ++ [d]).length = l.length + 1 := by simp
       have O2 := hd_ o2
       clear o2
       go_ret2
       rw [hr.out]
       unfold drsPost
       rw [hL]
       exact ⟨A2, c2', rfl, own_capD O2.out, om_ O2.out HV2.out.below.size, HV2.out.tr (ub_ V2 g2)⟩
     ·have HFD : Hid (∀ V, Rds V 3 A l.length (drcs l) → Calls Tryz.prog 144 #[.slice A l.length c, .string d.name] V fun e w' => e = .returned (i64 (k : Int)) ∧ V = w') := hd_ fun V hV => by
       have := l21Find_any A l.length c l d.name V hV (Nat.le_refl _) hn
       rw [e1] at this
       exact this
      have hr := hd_ (show R = ([], 4) by rw [HRR.out, hasName_yes hk e2, if_pos rfl])
      clear e1 e2
      go_enter Tryz.func152, Tryz.ntmps152
      go_upto_region 1 with (fail)
      refine wpg (R := fun V => Box V w.heap.size #[.string d.name, .string d.letters, i64 d.minutes] ∧ UpOf w V) ⟨Box.new _ _ _, uw_⟩ (fun V z => ?_)
      obtain ⟨⟨hq, hc⟩, hB⟩ := z
      have c0 := hc 0 _ rfl
      have c1 := hc 1 _ rfl
      have c2 := hc 2 _ rfl
      have HB := hd_ hB
      clear hc hB
      generalize w.heap.size = q at *
      go_wp2_with (first | (go_at_call 94; refine cu_ (ra_ (l21Ok_any A c l _ ((HR.out.below HB.out.below).below bw_) hc hn HF.out) q1) fun g => ?_) | (go_at_call 143; refine cu_ (ra_ (l21One_any d _ (by omega) (by omega)) q2) fun g => ?_) | (go_at_call 144; refine cs_ (HFD.out _ ((HR.out.below HB.out.below).below bw_)) ?_))
      go_ret2
      rw [hr.out]
      exact ⟨none, 0, rfl, Nat.le_refl _, own_nil _ _ _ _, HB.out.tr bw_⟩
theorem l21Text_any (d : Drill) (w : World) (h1 : d.name.size ≤ 1048576) (h2 : d.letters.size ≤ 1048576) (h3 : -1000000000000000000 < d.minutes) (h4 : d.minutes < 1000000000000000000) :
 Calls Tryz.prog 153 #[drv d] w fun e w' => e = .returned (.string (drTextV d)) ∧ UpOf w w' := by
 have s3 := (dec_bytes (n := d.minutes) (by omega) (by omega)).2.2
 have hr := hd_ (show drTextV d = (((d.name ++ ⟨#[32]⟩) ++ d.letters) ++ ⟨#[32]⟩) ++ dec d.minutes from rfl)
 go_enter Tryz.func153, Tryz.ntmps153
 go_upto_region 1 with (fail)
 refine wpg (R := fun V => Box V w.heap.size #[.string d.name, .string d.letters, i64 d.minutes] ∧ UpOf w V) ⟨Box.new _ _ _, uw_⟩ (fun V z => ?_)
 obtain ⟨⟨hq, hc⟩, hB⟩ := z
 have c0 := hc 0 _ rfl
 have c1 := hc 1 _ rfl
 have c2 := hc 2 _ rfl
 have HB := hd_ hB
 clear hc hB
 generalize w.heap.size = q at *
 go_wp2_with (first | ((with_reducible refine wru ?_); (repeat (go_big_quiet_step (first | (go_at_call 157; exact uq_ (l01Dec_any d.minutes _ (by omega) (by omega)))))); refine wqn fun nq => ?_))
 go_ret
 rw [hr.out]
 exact ⟨rfl, HB.out.tr bw_⟩
theorem vCode_8 {ws : List ByteArray} (h : vCode ws = true) : ws.length ≤ 10 ∧ ∀ i, i < ws.length → (wd ws i).size ≤ 8 := by
 obtain ⟨h1, h2⟩ := vCode_inv h
 exact ⟨h1, fun i hi => (txtB_inv (h2 i hi).2.1).1⟩
theorem twoReadings_any {two : List ByteArray → ByteArray × Int} (h2 : TwoOk two) (A : Option Addr) (c : Nat) (ws : List ByteArray) (w : World) (h : Rds w 1 A ws.length (strs ws)) (hn : ws.length ≤ 100000000) (hf : ∀ i, i < ws.length → (wd ws i).size ≤ 100000000) :
 Calls Tryz.prog 75 #[.slice A ws.length c] w fun e w' => e = .returned (.tuple #[.string (two ws).1, i64 (two ws).2]) ∧ UpOf w w' := by
 have HR := hd_ h
 have HF := hd_ hf
 clear h hf
 cases hv : vCode ws with
 | false =>
   have hr := hd_ ((h2 ws).2 hv)
   go_enter Tryz.func75, Tryz.ntmps75
   go_wp2_with (first | (go_at_call 128; refine cu_ (ra_ (validCode_any A c ws _ (HR.out.below bw_) hn HF.out) hv) fun g => ?_))
   go_ret2
   rw [hr.out]
   exact ⟨rfl, uw_⟩
 | true =>
   have h8 := vCode_8 hv
   have HT := hd_ ((h2 ws).1 hv)
   have HRT : Hid (∀ V, Below w.heap.size w V → Calls Tryz.prog 129 #[.slice A ws.length c] V fun e w' => rtPost ws V e w') := hd_ fun V hV => restTexts_any A c ws V (HR.out.below hV) h8.1 h8.2
   clear h8
   go_enter Tryz.func75, Tryz.ntmps75
   go_wp2_with fail
   refine cu_ (ra_ (validCode_any A c ws _ (HR.out.below bw_) hn HF.out) hv) fun g1 => ?_
   go_wp2_with fail
   refine (HRT.out _ bw_).mono ?_
   rintro e w' ⟨mb, R, rfl, hm, hd, g2, rfl⟩
   have h3 := hd.two
   by_cases hin : ∃ t, (([] : List UInt8), t) ∈ R
   ·obtain ⟨t, ht⟩ := hin
    have hlook := hm.look Tryz.underlying160 Tryz.underlying9 Tryz.underlying9 zeroStr ⟨#[]⟩ (by unfold maxLen; decide) ht ⟨_, Below.refl _ _⟩
    have hres := hd_ (show ((two ws).1, (two ws).2) = (⟨t.toArray⟩, 0) by
     obtain ⟨e1, e2⟩ := HT.out.uniq (h3.1 t ht)
     rw [← e1, e2, show (⟨(two ws).1.data.toList.toArray⟩ : ByteArray) = (two ws).1 from bs_of _])
    have HL := hd_ hlook
    clear h3 hd hm ht hlook
    replace HL : (Instr.lookup 160 (.map (some mb)) (.string ⟨#[]⟩) true).run Tryz.prog (up w (g1.tr g2)) = .ok (.tuple #[.string ⟨t.toArray⟩, .bool true]) (up w (g1.tr g2)) := HL.out
    go_wp2_with fail
    go_ret2
    have e := hres.out
    rw [Prod.mk.injEq] at e
    rw [e.1, e.2]
    exact ⟨rfl, uw_⟩
   ·have hni : ∀ t, (([] : List UInt8), t) ∉ R := fun t ht => hin ⟨t, ht⟩
    obtain ⟨y, hy⟩ := hm.look_no Tryz.underlying160 Tryz.underlying9 Tryz.underlying9 zeroStr ⟨#[]⟩ (by unfold maxLen; decide) hni
    have hres := hd_ (show ((two ws).1, (two ws).2) = (⟨#[]⟩, 3) by
     obtain ⟨e1, e2⟩ := HT.out.uniq (h3.2 hni)
     rw [e2, ← bs_of (two ws).1, e1])
    have HL := hd_ (hy ⟨_, Below.refl _ _⟩)
    clear h3 hd hm hy hni hin
    replace HL : (Instr.lookup 160 (.map (some mb)) (.string ⟨#[]⟩) true).run Tryz.prog (up w (g1.tr g2)) = .ok (.tuple #[.string y, .bool false]) (up w (g1.tr g2)) := HL.out
    go_wp2_with fail
    go_ret2
    have e := hres.out
    rw [Prod.mk.injEq] at e
    rw [e.1, e.2]
    exact ⟨rfl, uw_⟩
def valB : List UInt8 → Nat
 | [] => 0
 | c :: t => c.toNat * 256 ^ t.length + valB t
theorem valB_lt : ∀ l, valB l < 256 ^ l.length
 | [] => by simp [valB]
 | c :: t => by
   have h1 := valB_lt t
   have h2 := UInt8.toNat_lt c
   rw [valB, List.length_cons, Nat.pow_succ]
   have : c.toNat * 256 ^ t.length ≤ 255 * 256 ^ t.length := Nat.mul_le_mul_right _ (by omega)
   omega
theorem valB_less : ∀ a b : List UInt8, a.length = b.length → Op.bytesLess a b = true → valB a < valB b
 | [], [], _, h => by simp [Op.bytesLess] at h
 | [], _ :: _, h, _ => by simp at h
 | _ :: _, [], h, _ => by simp at h
 | a :: x, b :: y, hl, h => by
   have hl' : x.length = y.length := by simpa using hl
   simp only [Op.bytesLess, Bool.or_eq_true, Bool.and_eq_true, decide_eq_true_eq, beq_iff_eq] at h
   rw [valB, valB, hl']
   rcases h with h | ⟨rfl, h⟩
   ·have h1 := valB_lt x
    rw [hl'] at h1
    rw [UInt8.lt_iff_toNat_lt] at h
    have : (a.toNat + 1) * 256 ^ y.length ≤ b.toNat * 256 ^ y.length := Nat.mul_le_mul_right _ h
    rw [Nat.add_mul] at this
    omega
   ·have := valB_less x y hl' h
    omega
def valN (l : List UInt8) : Nat := 256 ^ l.length + valB l
theorem valN_less {a b : List UInt8} (h : lessT a b = true) : valN a < valN b := by
 rcases lessT_iff.1 h with h | ⟨h1, h2⟩
 ·have h1 := valB_lt a
  have h2 : 256 ^ (a.length + 1) ≤ 256 ^ b.length := Nat.pow_le_pow_right (by omega) h
  rw [Nat.pow_succ] at h2
  unfold valN
  omega
 ·have := valB_less a b h1 h2
  unfold valN
  rw [h1]
  omega
theorem two_ex : ∃ two, TwoOk two := by
 have key : ∀ ws : List ByteArray, ∃ r : ByteArray × Int, (vCode ws = true → IsTwo (lists ws) r.1.data.toList r.2) ∧ (vCode ws = false → r = (⟨#[]⟩, 1)) := fun ws => by
  cases hv : vCode ws with
  | false => exact ⟨(⟨#[]⟩, 1), fun h => (by cases h), fun _ => rfl⟩
  | true =>
    by_cases hs : ∃ s, Rst (lists ws) [] s
    ·obtain ⟨s, hs⟩ := hs
     obtain ⟨n, ⟨t, ht, hn⟩, hmin⟩ := exists_least (p := fun n => ∃ t, Rst (lists ws) [] t ∧ valN t = n) ⟨_, s, hs, rfl⟩
     refine ⟨(⟨t.toArray⟩, 0), fun _ => .inl ⟨rfl, ht, fun u hu => ?_⟩, fun h => (by cases h)⟩
     show lessT u t = false
     cases hl : lessT u t
     ·rfl
     ·have h1 := valN_less hl
      have h2 := hmin _ ⟨u, hu, rfl⟩
      omega
    ·exact ⟨(⟨#[]⟩, 3), fun _ => .inr ⟨rfl, rfl, fun s h => hs ⟨s, h⟩⟩, fun h => (by cases h)⟩
 exact ⟨fun ws => Classical.choose (key ws), fun ws => Classical.choose_spec (key ws)⟩
theorem copied_any (d : DeskD) (A B : Option Addr) (c e : Nat) (w : World) (h : DSee w d A B) (hn : d.stops.length ≤ 100000000) (hm : d.drills.length ≤ 100000000) :
 Calls Tryz.prog 29 #[dkv d A B c e] w fun r w' => ∃ A' B' c' e', r = .returned (dkv d A' B' c' e') ∧ DOwn w.heap.size w' d A' B' c' e' ∧ UpOf w w' := by
 have HR := hd_ h
 clear h
 go_enter Tryz.func29, Tryz.ntmps29
 go_upto_region 1 with (fail)
 refine wpg (R := fun V => Hid (MD w V w.heap.size (w.heap.size + 1) (dkcs d A B c e))) (hd_ (MD.new _ _)) (fun V z => ?_)
 generalize hp9 : w.heap.size = p at z ⊢
 generalize hq9 : p + 1 = q at z ⊢
 obtain ⟨hpV, x0, x1, x2, x3, x4, x5, x6, x7⟩ := z.out.bx.eight
 obtain ⟨f0, f1, f2, f3, f4, f5, f6, f7⟩ := z.out.bx.open8
 have HQ : Hid (q < V.heap.size) := hd_ z.out.rs.lt
 have hst := hd_ (World.ownsRow_lit (base := V.heap.size) (e := 2) (size := 1) V #[] 0 (Nat.le_refl _) (by unfold maxLen; omega) rfl)
 have HSt := hd_ (HR.out.1.below z.out.up.below)
 go_upto_region 2 with (at_builtin; go_must (refine wpl_appU rfl _ _ 28 rfl V V.heap.size 2 _ 1 8 el_int64 (.slice (some ⟨V.heap.size, 0, none⟩) 0 0) 0 [] rfl hst.out _ d.stops.length _ (ics d.stops) rfl (HSt.out.below bw_) (fun u hu => by simp only [ics, List.mem_map] at hu; obtain ⟨_, _, rfl⟩ := hu; rfl) (by unfold maxLen; omega) (by omega) (show Below V.heap.size V _ from bw_).size bw_ (Nat.le_refl _) ?_; intro A1 c1 g1 o1))
 have HPV := hd_ hpV
 have HQV := HQ
 have HVW := hd_ z.out.up.below.size
 refine wpg (R := fun U => Hid (MD w U p q (dkcs d A1 B c1 e)) ∧ Hid (U.ownsRow V.heap.size 2 1 (.slice A1 d.stops.length c1) d.stops.length (ics d.stops)) ∧ V.heap.size ≤ U.heap.size) ⟨hd_ (by
  have := (z.out.below (ub_ V g1)).put 5 (.slice A1 d.stops.length c1)
  exact this), hd_ (own_setOld (p := ⟨p, 5, none⟩) (by simpa using o1) hpV _), by rw [World.size_setCell]; exact (ub_ V g1).size⟩ (fun U y => ?_)
 obtain ⟨y1, y2, y3⟩ := y
 clear x0 x1 x2 x3 x4 x5 x6 x7 f0 f1 f2 f3 f4 f5 f6 f7 hpV hst HSt HQ z
 obtain ⟨hpU, x0, x1, x2, x3, x4, x5, x6, x7⟩ := y1.out.bx.eight
 obtain ⟨f0, f1, f2, f3, f4, f5, f6, f7⟩ := y1.out.bx.open8
 have hst := hd_ (World.ownsRow_lit (base := U.heap.size) (e := 112) (size := 3) U #[] 0 (Nat.le_refl _) (by unfold maxLen; omega) rfl)
 have HSt := hd_ (HR.out.2.below y1.out.up.below)
 go_upto_region 3 with (at_builtin; go_must (refine wpl_appU rfl _ _ 29 rfl U U.heap.size 112 _ 3 40 el_drl (.slice (some ⟨U.heap.size, 0, none⟩) 0 0) 0 [] rfl hst.out _ d.drills.length _ (drcs d.drills) rfl (HSt.out.below bw_) (dr_one d.drills) (by unfold maxLen; omega) (by omega) (show Below U.heap.size U _ from bw_).size bw_ (Nat.le_refl _) ?_; intro A2 c2 g2 o2))
 refine wpg (R := fun T => Hid (MD w T p q (dkcs d A1 A2 c1 c2)) ∧ Hid (T.ownsRow V.heap.size 2 1 (.slice A1 d.stops.length c1) d.stops.length (ics d.stops)) ∧ Hid (T.ownsRow U.heap.size 112 3 (.slice A2 d.drills.length c2) d.drills.length (drcs d.drills))) ⟨hd_ (by
  have := (y1.out.below (ub_ U g2)).put 6 (.slice A2 d.drills.length c2)
  exact this), hd_ (own_setOld (p := ⟨p, 6, none⟩) (ob_ y2.out (ub_ U g2)) HPV.out _), hd_ (own_setOld (p := ⟨p, 6, none⟩) (by simpa using o2) hpU _)⟩ (fun T s => ?_)
 obtain ⟨s1, s2, s3⟩ := s
 have hqV := HQV.out
 clear x0 x1 x2 x3 x4 x5 x6 x7 f0 f1 f2 f3 f4 f5 f6 f7 hpU hst HSt y1 y2
 obtain ⟨hpT, x0, x1, x2, x3, x4, x5, x6, x7⟩ := s1.out.bx.eight
 obtain ⟨hqT, r0, r1, r2, r3, r4, r5, r6, r7⟩ := s1.out.rs.eight
 obtain ⟨f0, f1, f2, f3, f4, f5, f6, f7⟩ := s1.out.rs.open8
 have hne := s1.out.ne
 go_wp2_with fail
 refine bodyPost_ret (v := dkv d A1 A2 c1 c2) (by simp [results, Tryz.results29, go_sem, hqT, r0, r1, r2, r3, r4, r5, r6, r7]) rfl ?_
 exact ⟨A1, A2, c1, c2, rfl, ⟨om_ (oa_ s2.out (by omega) _ _ _ _ _ _ _ _) HVW.out, om_ (oa_ s3.out (by omega) _ _ _ _ _ _ _ _) (Nat.le_trans HVW.out y3)⟩, put8_up s1.out.up s1.out.hq _ _ _ _ _ _ _ _⟩
theorem alignTextsS_any (a b : ByteArray) (w : World) (ha : a.size ≤ 9223372036854775807) (hb : b.size ≤ 9223372036854775807) :
 Calls Tryz.prog 147 #[.string a, .string b] w fun e w' => e = .returned (.tuple #[.string (alnR a b).1, i64 (alnR a b).2]) ∧ UpOf w w' := by
 have HT := hd_ (fun V => l19Two_any a b V ha hb)
 cases h1 : (typed a && typed b) with
 | false =>
   have hr := hd_ (show alnR a b = (⟨#[]⟩, 2) by unfold alnR; rw [h1]; rfl)
   have hc : (if (typed a && typed b) = true then (0 : Int) else 2) = 2 := by rw [h1]; rfl
   rw [hc] at HT
   go_enter Tryz.func147, Tryz.ntmps147
   go_wp2_with fail
   refine cs_ (HT.out _) ?_
   go_wp2_with fail
   go_ret2
   rw [hr.out]
   exact ⟨rfl, uw_⟩
 | true =>
   have hr := hd_ (show alnR a b = (bs (alnA a b 0 0), 0) by unfold alnR; rw [h1]; rfl)
   have hc : (if (typed a && typed b) = true then (0 : Int) else 2) = 0 := by rw [h1]; rfl
   rw [hc] at HT
   rw [Bool.and_eq_true] at h1
   have l1 := typed_len h1.1
   have l2 := typed_len h1.2
   clear h1 hc
   go_enter Tryz.func147, Tryz.ntmps147
   go_wp2_with fail
   refine cs_ (HT.out _) ?_
   go_wp2_with fail
   refine cu_ (l19Align_any a b _ l1 l2) fun g => ?_
   go_wp2_with fail
   go_ret2
   rw [hr.out]
   exact ⟨rfl, uw_⟩
def someC (a b : ByteArray) : Int := if typed a && typed b then (if a.size = 0 then 3 else 0) else 2
theorem l19Some_any (a b : ByteArray) (w : World) (ha : a.size ≤ 9223372036854775807) (hb : b.size ≤ 9223372036854775807) :
 Calls Tryz.prog 196 #[.string a, .string b] w fun e w' => e = .returned (i64 (someC a b)) ∧ w = w' := by
 have HT := hd_ (fun V => l19Two_any a b V ha hb)
 cases h1 : (typed a && typed b) with
 | false =>
   have hr := hd_ (show someC a b = 2 by unfold someC; rw [h1]; rfl)
   have hc : (if (typed a && typed b) = true then (0 : Int) else 2) = 2 := by rw [h1]; rfl
   rw [hc] at HT
   go_enter Tryz.func196, Tryz.ntmps196
   go_wp2_with fail
   refine cs_ (HT.out _) ?_
   go_wp2_with fail
   go_ret
   rw [hr.out]
   exact ⟨rfl, rfl⟩
 | true =>
   have hc : (if (typed a && typed b) = true then (0 : Int) else 2) = 0 := by rw [h1]; rfl
   rw [hc] at HT
   by_cases h0 : a.size = 0
   ·have hz := isEmpty_yes h0
    have hr := hd_ (show someC a b = 3 by unfold someC; rw [h1, if_pos rfl, if_pos h0])
    clear h1 hc h0
    go_enter Tryz.func196, Tryz.ntmps196
    go_wp2_with fail
    refine cs_ (HT.out _) ?_
    go_wp2_with fail
    go_ret
    rw [hr.out]
    exact ⟨rfl, rfl⟩
   ·have hz := isEmpty_no (s := a) (by omega)
    have hr := hd_ (show someC a b = 0 by unfold someC; rw [h1, if_pos rfl, if_neg h0])
    clear h1 hc h0
    go_enter Tryz.func196, Tryz.ntmps196
    go_wp2_with fail
    refine cs_ (HT.out _) ?_
    go_wp2_with fail
    go_ret
    rw [hr.out]
    exact ⟨rfl, rfl⟩
theorem someC_0 {a b : ByteArray} (h : someC a b = 0) : typed a = true ∧ typed b = true ∧ ¬ a.size = 0 ∧ mrkR a b = (markL (cst a b 0 0) a.size 5 1 1, 0) := by
 unfold someC at h
 cases h1 : typed a
 ·rw [h1] at h; simp at h
 ·cases h2 : typed b
  ·rw [h1, h2] at h; simp at h
  ·rw [h1, h2, if_pos (by rfl)] at h
   by_cases h3 : a.size = 0
   ·rw [if_pos h3] at h; cases h
   ·exact ⟨rfl, rfl, h3, by unfold mrkR; rw [h1, h2, if_pos (show (true && true) = true from rfl), if_neg h3]; rfl⟩
theorem someC_n {a b : ByteArray} (h : ¬ someC a b = 0) : mrkR a b = (0, someC a b) := by
 unfold someC mrkR at *
 split at h
 ·split at h
  ·rename_i h1 h2
   rw [if_pos h1, if_pos h2, if_pos h1, if_pos h2]
  ·exact absurd rfl h
 ·rename_i h1
  rw [if_neg h1, if_neg h1]
theorem markOfS_any (a b : ByteArray) (w : World) (ha : a.size ≤ 9223372036854775807) (hb : b.size ≤ 9223372036854775807) :
 Calls Tryz.prog 162 #[.string a, .string b] w fun e w' => e = .returned (.tuple #[i64 (mrkR a b).1, i64 (mrkR a b).2]) ∧ UpOf w w' := by
 have HS := hd_ (fun V => l19Some_any a b V ha hb)
 obtain ⟨cd, hcd⟩ := nm_ (someC a b)
 rw [hcd] at HS
 by_cases h0 : cd = 0
 ·subst h0
  obtain ⟨h1, h2, h3, hr⟩ := someC_0 hcd
  have HRR := hd_ hr
  clear hr
  obtain ⟨n, hn⟩ := nm_ (a.size)
  have HN := hd_ hn
  have hn60 : n ≤ 60 := by rw [← hn]; exact typed_len h1
  have hn1 : 0 < n := by omega
  have HTY := hd_ (show typed a = true ∧ typed b = true from ⟨h1, h2⟩)
  clear h1 h2 h3 hcd
  go_enter Tryz.func162, Tryz.ntmps162
  go_wp2_with fail
  refine cs_ (HS.out _) ?_
  go_wp2_with fail
  refine (l19Costs_any a b _ (typed_len HTY.out.1) (typed_len HTY.out.2)).mono ?_
  rintro e w' ⟨B, Q, rfl, HT⟩
  have HU := hd_ HT.u
  have r0 := HT.row (i := 0) (by omega) (by omega)
  have r1 := HT.cell (i := 0) (j := 0) (by omega) (by omega) (by omega)
  have r2 := HT.o.lt
  have r3 := (HT.r 0 (by omega) (by omega)).lt
  obtain ⟨e0, he0⟩ := nm_ (cst a b 0 0)
  have he1 : 0 ≤ e0 := by rw [← he0]; exact cst_nn _ _ _ _
  have he2 : e0 ≤ 120 := by
   have := cst_bd a b _ 0 0 rfl
   have := typed_len HTY.out.2
   omega
  have HR := hd_ (show mrkR a b = (markL e0 n 5 1 1, 0) from by rw [HRR.out, he0, HN.out])
  rw [he0] at r1
  clear HRR he0 HT HS
  go_wp2_with fail
  go_loopw [8, 9] (fun t8 t9 wr => ∃ (f T : Nat) (P mk : Int), f ≤ 5 ∧ T = 2 ^ (5 - f) ∧ Hid (P = (T : Int) * (n : Int)) ∧ mk = 6 - (f : Int) ∧ t8 = .int .i64 P ∧ t9 = .int .i64 mk ∧ Hid (markL e0 n 5 1 1 = markL e0 n f T mk) ∧ wr = w') (fun _ t9 _ => (6 - intOf t9).toNat)
  case atStart => exact ⟨5, 1, n, 1, by omega, rfl, hd_ (by simp), by omega, rfl, rfl, hd_ rfl, rfl⟩
  case round =>
   obtain ⟨f, T, P, mk, hf, hT, HP, hmk, rfl, rfl, HK, rfl⟩ := hrel
   have hT32 : T ≤ 32 := by rw [hT]; exact pow5_le f
   have hTn : P ≤ 1920 := by
    have h9 : T * n ≤ 32 * 60 := Nat.mul_le_mul hT32 hn60
    rw [HP.out]
    exact_mod_cast h9
   have hTn0 : 0 ≤ P := by rw [HP.out]; exact Int.mul_nonneg (by omega) (by omega)
   cases f with
   | zero =>
     have hfin := hd_ (show markL e0 n 5 1 1 = 6 from by rw [HK.out, show mk = 6 by omega]; rfl)
     have hm6 : ¬ mk ≤ 5 := by omega
     have hm7 : decide (mk ≤ 5) = false := decide_eq_false hm6
     clear hmk hT HK
     go_wp2_with fail
     go_ret2
     rw [HR.out, hfin.out]
     exact ⟨rfl, HU.out⟩
   | succ f =>
     have hT2 := pow5 (f := f) (by omega)
     rw [← hT] at hT2
     have HT2 := hd_ hT2
     have HMK := hd_ hmk
     have hm7 : decide (mk ≤ 5) = true := decide_eq_true (by omega)
     have hm8 : mk ≤ 5 := by omega
     have hm9 : 1 ≤ mk := by omega
     by_cases hlt : 100 * e0 ≤ P
     ·have ht : decide (100 * e0 ≤ P) = true := decide_eq_true hlt
      have hfin := hd_ (show markL e0 n 5 1 1 = mk from by rw [HK.out, markL, if_neg (by rw [← HP.out]; omega)])
      clear hT HK hlt hT2 hmk
      go_wp2_with fail
      go_ret2
      rw [HR.out, hfin.out]
      exact ⟨rfl, HU.out⟩
     ·have ht : decide (100 * e0 ≤ P) = false := decide_eq_false hlt
      have HK2 := hd_ (show markL e0 n 5 1 1 = markL e0 n f ((T * 2 : Nat) : Int) (mk + 1) from by
       rw [HK.out, markL, if_pos (by rw [← HP.out]; omega)]; push_cast; rfl)
      have HP2 := hd_ (show P * 2 = ((T * 2 : Nat) : Int) * (n : Int) from by
       rw [HP.out]; push_cast; rw [Int.mul_right_comm])
      clear hT HK hlt hT2 hmk
      go_wp2_with fail
      refine ⟨⟨f, T * 2, P * 2, mk + 1, by omega, HT2.out, HP2, by have := HMK.out; omega, rfl, rfl, HK2, by first | rfl | trivial⟩, by simp [intOf]; try omega⟩
 ·have hr := hd_ (show mrkR a b = (0, cd) by rw [someC_n (by rw [hcd]; exact h0), hcd])
  have hq : (cd != 0) = true := by rw [bne_iff_ne]; exact h0
  clear hcd
  go_enter Tryz.func162, Tryz.ntmps162
  go_wp2_with fail
  refine cs_ (HS.out _) ?_
  go_wp2_with fail
  go_ret2
  rw [hr.out]
  exact ⟨rfl, uw_⟩
def MkD (base : Nat) (w : World) (D : DeskD) (A B : Option Addr) (c e k0 : Nat) : Prop :=
 w.ownsRow base 2 1 (.slice A D.stops.length c) D.stops.length (ics (mi k0 D.stops.length)) ∧ w.ownsRow base 112 3 (.slice B D.drills.length e) D.drills.length (drcs (drM (k0 + D.stops.length) D.drills.length))
theorem MkD.below {base k0 : Nat} {w w' : World} {D : DeskD} {A B : Option Addr} {c e : Nat} (h : MkD base w D A B c e k0) (hb : Below w.heap.size w w') : MkD base w' D A B c e k0 := ⟨ob_ h.1 hb, ob_ h.2 hb⟩
section
variable (D : DeskD) (A B : Option Addr)
theorem markDesk_any (c e k0 base hi : Nat) (w : World) (h : DOwn base w D A B c e) (hA : ∀ k, (Value.slice A D.stops.length c).ownBlock = some k → k < hi) (hB : ∀ k, (Value.slice B D.drills.length e).ownBlock = some k → k < hi) (hk0 : 1 ≤ k0) (hn : k0 + D.stops.length + 3 * D.drills.length < 1000000000) :
 Calls Tryz.prog 19 #[dkv D A B c e, i64 (k0 : Int)] w fun r w' => r = .returned (i64 ((k0 + D.stops.length + 3 * D.drills.length : Nat) : Int)) ∧ MkD base w' D A B c e k0 ∧ Only base hi w w' ∧ ∀ (v : Value) (n : Nat) (xs : List Value), w.ownsRow base 9 1 v n xs → w'.ownsRow base 9 1 v n xs := by
 have H := hd_ h
 have HA := hd_ hA
 have HB := hd_ hB
 obtain ⟨k1, hk1⟩ := nm_ (k0 + D.stops.length)
 obtain ⟨k2, hk2⟩ := nm_ (k1 + 3 * D.drills.length)
 have HC1 := hd_ (fun (V : World) (hV : DOwn base V D A B c e) => markInt64S_any base A _ c k0 _ V hV.1 hk0 (by omega))
 have HC2 := hd_ (fun (V : World) (hV : V.ownsRow base 112 3 (.slice B D.drills.length e) D.drills.length (drcs D.drills)) => markDrillS_any base B _ e k1 _ V hV (by omega) (by omega))
 unfold MkD
 rw [hk1] at HC1 ⊢
 rw [hk2] at HC2 ⊢
 clear h hA hB hn hk1 hk2
 go_enter Tryz.func19, Tryz.ntmps19
 go_wp2_with fail
 refine calls_gen (R := fun V => Hid (Blk V w.heap.size 31 (dkcs D A B c e)) ∧ Hid (DOwn base V D A B c e) ∧ Hid (UpOf w V)) ⟨hd_ (Blk.new _ _ _), hd_ ⟨ob_ H.out.1 bw_, ob_ H.out.2 bw_⟩, hd_ uw_⟩ (fun W0 st => ?_)
 obtain ⟨s1, s2, s3⟩ := st
 generalize w.heap.size = p at s1 ⊢
 refine (HC1.out _ s2.out).mono ?_
 rintro r w1 ⟨rfl, m1, hg1⟩
 have HB1 := hd_ (s1.out.grown hg1 (blk_tne s1.out s2.out.1 (by decide)))
 have HD1 := hd_ (s2.out.2.kept hg1 (own_tne s2.out.2 s2.out.1 (by decide)))
 have HO1 := hd_ (show Only base hi w w1 from by
  obtain ⟨g, rfl⟩ := s3.out
  exact ((Only.refl base hi w).up g).grown hg1 fun k hk => ⟨(s2.out.1.lt k hk).1, HA.out k hk⟩)
 have HT1 := hd_ (show ∀ (v : Value) (n : Nat) (xs : List Value), w.ownsRow base 9 1 v n xs → w1.ownsRow base 9 1 v n xs from fun v n xs hv => (ob_ hv s3.out.below).kept hg1 (own_tne (ob_ hv s3.out.below) s2.out.1 (by decide)))
 have HM1 := hd_ m1
 obtain ⟨hp, x0, x1, x2, x3, x4, x5, x6, x7⟩ := HB1.out.eight
 clear m1 hg1 s1 s2 s3 x0 x1 x2 x3 x4
 go_wp2_with fail
 refine (HC2.out _ HD1.out).mono ?_
 rintro r w2 ⟨rfl, m2, hg2⟩
 have HM2 := hd_ m2
 have HM1' := hd_ (HM1.out.kept hg2 (own_tne HM1.out HD1.out (by decide)))
 have HO2 := hd_ (HO1.out.grown hg2 fun k hk => ⟨(HD1.out.lt k hk).1, HB.out k hk⟩)
 have HT2 := hd_ (show ∀ (v : Value) (n : Nat) (xs : List Value), w.ownsRow base 9 1 v n xs → w2.ownsRow base 9 1 v n xs from fun v n xs hv => (HT1.out v n xs hv).kept hg2 (own_tne (HT1.out v n xs hv) HD1.out (by decide)))
 clear m2 hg2 x5 x6 x7 hp
 go_wp2_with fail
 go_ret
 exact ⟨rfl, ⟨HM1'.out, HM2.out⟩, HO2.out, HT2.out⟩
theorem heldDesk_any (c e k0 base : Nat) (w : World) (h : MkD base w D A B c e k0) (hk0 : 1 ≤ k0) (hn : k0 + D.stops.length + 3 * D.drills.length < 1000000000) :
 Calls Tryz.prog 21 #[dkv D A B c e, i64 (k0 : Int)] w fun r w' => r = .returned (i64 ((k0 + D.stops.length + 3 * D.drills.length : Nat) : Int)) ∧ UpOf w w' := by
 obtain ⟨k1, hk1⟩ := nm_ (k0 + D.stops.length)
 obtain ⟨k2, hk2⟩ := nm_ (k1 + 3 * D.drills.length)
 have HC1 := hd_ (fun (V : World) (hV : Rds V 1 A D.stops.length (ics (mi k0 D.stops.length))) => heldInt64S_any A _ c k0 V hV hk0 (by omega))
 have HC2 := hd_ (fun (V : World) (hV : Rds V 3 B D.drills.length (drcs (drM k1 D.drills.length))) => heldDrillS_any B _ e k1 V hV (by omega) (by omega))
 unfold MkD at h
 rw [hk1] at HC1 h ⊢
 rw [hk2] at HC2 ⊢
 have H := hd_ h
 have t1 : decide ((k1 : Int) < 0) = false := decide_eq_false (by omega)
 have t2 : decide ((k2 : Int) < 0) = false := decide_eq_false (by omega)
 clear h hn hk1 hk2
 go_enter Tryz.func21, Tryz.ntmps21
 go_wp2_with fail
 refine calls_gen (R := fun V => Hid (Blk V w.heap.size 31 (dkcs D A B c e)) ∧ Hid (UpOf w V)) ⟨hd_ (Blk.new _ _ _), hd_ uw_⟩ (fun W0 st => ?_)
 obtain ⟨s1, s3⟩ := st
 obtain ⟨hp, x0, x1, x2, x3, x4, x5, x6, x7⟩ := s1.out.eight
 generalize w.heap.size = p at hp x5 x6 x7 ⊢
 clear s1 x0 x1 x2 x3 x4
 refine cu_ (HC1.out _ ((Rds.of_own H.out.1).below s3.out.below)) fun g1 => ?_
 go_wp2_with fail
 refine cu_ (HC2.out _ (((Rds.of_own H.out.2).below s3.out.below).below bw_)) fun g2 => ?_
 go_wp2_with fail
 go_ret
 exact ⟨rfl, s3.out.tr bw_⟩
theorem markDesk1_any (c e base hi K : Nat) (w : World) (h : DOwn base w D A B c e) (hA : ∀ k, (Value.slice A D.stops.length c).ownBlock = some k → k < hi) (hB : ∀ k, (Value.slice B D.drills.length e).ownBlock = some k → k < hi) (hK : 1 + D.stops.length + 3 * D.drills.length = K) (hn : K < 1000000000) :
 Calls Tryz.prog 19 #[dkv D A B c e, i64 1] w fun r w' => r = .returned (i64 (K : Int)) ∧ MkD base w' D A B c e 1 ∧ Only base hi w w' ∧ ∀ (v : Value) (n : Nat) (xs : List Value), w.ownsRow base 9 1 v n xs → w'.ownsRow base 9 1 v n xs := by
 subst hK
 exact markDesk_any D A B c e 1 base hi w h hA hB (by omega) hn
theorem heldDesk1_any (c e base K : Nat) (w : World) (h : MkD base w D A B c e 1) (hK : 1 + D.stops.length + 3 * D.drills.length = K) (hn : K < 1000000000) :
 Calls Tryz.prog 21 #[dkv D A B c e, i64 1] w fun r w' => r = .returned (i64 (K : Int)) ∧ UpOf w w' := by
 subst hK
 exact heldDesk_any D A B c e 1 base w h (by omega) hn
end
theorem markStrK_any (base : Nat) (X : Option Addr) (c K K2 : Nat) (L : List ByteArray) (w : World) (h : w.ownsRow base 9 1 (.slice X L.length c) L.length (strs L)) (hk : 1 ≤ K) (hK : K + L.length = K2) (hn : K2 < 1000000000) :
 Calls Tryz.prog 20 #[.slice X L.length c, i64 (K : Int)] w fun r w' => r = .returned (i64 (K2 : Int)) ∧ w'.ownsRow base 9 1 (.slice X L.length c) L.length (strs (marks K L.length)) ∧ w.grownBy w' (Value.slice X L.length c).ownBlock := by
 subst hK
 exact markStringS_any base X L.length c K _ w h hk hn
theorem heldStrK_any (X : Option Addr) (n c K K2 : Nat) (w : World) (h : Rds w 1 X n (strs (marks K n))) (hk : 1 ≤ K) (hK : K + n = K2) (hn : K2 < 1000000000) :
 Calls Tryz.prog 22 #[.slice X n c, i64 (K : Int)] w fun r w' => r = .returned (i64 (K2 : Int)) ∧ UpOf w w' := by
 subst hK
 exact heldStringS_any X n c K w h hk hn
end Go.Proofs.YtbianlkenallaaaGreatDoor
