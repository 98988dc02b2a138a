/-
  The reference's console: a line is done. The bounds stand at it; the methods align and mark: as premises.
-/
import Derived.Test.YtbianlkenallaaaGreatDoorConsRG
import Derived.Test.YtbianlkenallaaaGreatDoorMgB
set_option linter.all false
set_option maxHeartbeats 16000000
set_option maxRecDepth 10000
namespace Go.Proofs.YtbianlkenallaaaGreatDoor
open Go.RowKit
def KOk (two : List ByteArray → ByteArray × Int) (k f : Nat) : Prop := ∀ (w0 : World) (sb : Nat) (D : DeskD) (A B : Option Addr) (c e : Nat) (O : Option Addr) (oc : Nat) (L : List ByteArray) (NA : Option Addr) (nc : Nat) (ns : List Int) (TA : Option Addr) (tc : Nat) (ts : List ByteArray) (w : World) (W : List ByteArray), ME w0 w sb D A B c e O oc L NA nc ns TA tc ts → DoH D L W → fitK k W.length = true →
 wF W (formK k).data.toList 0 [] [] = some (ns, ts) → Calls Tryz.prog f #[.pointer (some ⟨sb, 0, none⟩)] w fun r w' => mePost w0 sb (doK two D W k).1 (L ++ (doK two D W k).2) r w'
theorem formK_ok {k n : Nat} (hk : k < 14) (h : fitK k n = true) : (formK k).size + 1 ≤ n ∧ (formK k).size ≤ 10 ∧ (∀ b ∈ (formK k).data.toList, b = 110 ∨ b = 108 ∨ b = 114 ∨ b = 120) ∧ ((formK k).toList == [45]) = false := by
 have h14 : k = 0 ∨ k = 1 ∨ k = 2 ∨ k = 3 ∨ k = 4 ∨ k = 5 ∨ k = 6 ∨ k = 7 ∨ k = 8 ∨ k = 9 ∨ k = 10 ∨ k = 11 ∨ k = 12 ∨ k = 13 := by omega
 clear hk
 rcases h14 with rfl | rfl | rfl | rfl | rfl | rfl | rfl | rfl | rfl | rfl | rfl | rfl | rfl | rfl
 all_goals
  simp [fitK] at h
  refine ⟨?_, by decide, by decide, by rw [ByteArray.toList_eq]; decide⟩
  simp [formK, ByteArray.size]
  omega
theorem formK_min {k : Nat} (hk : k < 14) : ((formK k).toList == [45]) = false := by
 have h14 : k = 0 ∨ k = 1 ∨ k = 2 ∨ k = 3 ∨ k = 4 ∨ k = 5 ∨ k = 6 ∨ k = 7 ∨ k = 8 ∨ k = 9 ∨ k = 10 ∨ k = 11 ∨ k = 12 ∨ k = 13 := by omega
 clear hk
 rcases h14 with rfl | rfl | rfl | rfl | rfl | rfl | rfl | rfl | rfl | rfl | rfl | rfl | rfl | rfl
 all_goals (rw [ByteArray.toList_eq]; decide)
theorem WS.me {w0 w V : World} {sb : Nat} {D : DeskD} {A B O X NA TA : Option Addr} {c e oc xc nc tc : Nat} {L W ts : List ByteArray} {ns : List Int} (h : WS w0 w V sb D A B c e O oc L X xc W NA nc ns TA tc ts) : ME w0 V sb D A B c e O oc L NA nc ns TA tc ts :=
 ⟨h.le, own_mono h.nw h.lt, own_mono h.tw h.lt⟩
def doPost (two : List ByteArray → ByteArray × Int) (w0 : World) (sb : Nat) (D : DeskD) (L : List ByteArray) (o : Option (DeskD × List ByteArray)) (r : Ending) (w' : World) : Prop := match o with
 | none => r = .returned (.bool false) ∧ ∃ x y, lePost w0 sb D L x y w'
 | some p => r = .returned (.bool true) ∧ ∃ x y, lePost w0 sb p.1 (L ++ p.2) x y w'
theorem do_any {two : List ByteArray → ByteArray × Int} (h2 : TwoOk two) (hal : KOk two 0 100) (hmk : KOk two 9 109) (w0 : World) (sb : Nat) (D : DeskD) (A B : Option Addr) (c e : Nat) (O : Option Addr) (oc : Nat) (L : List ByteArray) (x y : Value) (s : ByteArray) (w : World) (h : LE w0 w sb D A B c e O oc L x y) (hs : s.size ≤ 1048576) (hd : DoH D L (splitA 32 [] s.data.toList)) :
  Calls Tryz.prog 46 #[.pointer (some ⟨sb, 0, none⟩), .string s] w fun r w' => doPost two w0 sb D L (doL two D s) r w' := by
 have HE := hd_ h
 have HD := hd_ hd
 obtain ⟨W, hW⟩ : ∃ W, splitA 32 [] s.data.toList = W := ⟨_, rfl⟩
 obtain ⟨RS, hRS⟩ : ∃ RS, doL two D s = RS := ⟨_, rfl⟩
 have HRS : Hid (RS = if fitK (kindOf (wd W 0)) W.length then some (doK two D W (kindOf (wd W 0))) else none) := hd_ (by rw [← hRS, doL, hW])
 have hW1 : 0 < W.length := by rw [← hW]; exact List.length_pos_iff.2 (splitA_ne 32 _ _)
 have HSP := hd_ (fun V => l01Split_any s 32 32 rfl V (by omega))
 rw [hW] at HSP HD
 rw [hRS]
 clear h hd hRS hW
 have hWl := HD.out.wl
 obtain ⟨q0, q1, q2, q3, q4, q5, q6, q7, q8, q9, q10, q11, q12, q13⟩ := kts (s := wd W 0) rfl
 have hk := kind_le (wd W 0)
 have HFM := hd_ (fun V => l28Form_any (wd W 0) V)
 obtain ⟨Z, hZ⟩ : ∃ Z, wd W 0 = Z := ⟨_, rfl⟩
 have HZ := hd_ hZ
 rw [hZ] at q0 q1 q2 q3 q4 q5 q6 q7 q8 q9 q10 q11 q12 q13 hk HFM HRS
 obtain ⟨k, hkk⟩ : ∃ k, kindOf Z = k := ⟨_, rfl⟩
 rw [hkk] at q0 q1 q2 q3 q4 q5 q6 q7 q8 q9 q10 q11 q12 q13 hk HFM HRS
 clear hkk hZ
 obtain ⟨m, hm⟩ : ∃ m, W.length = m + 1 := ⟨W.length - 1, by omega⟩
 have hm1 : (W.length : Int) - 1 = (m : Int) := by omega
 have hW1' : (0 : Int) < (W.length : Int) := by omega
 have HM := hd_ hm
 clear hm
 go_enter Tryz.func46, Tryz.ntmps46
 go_wp2_with fail
 refine (HSP.out _).mono ?_
 rintro r w' ⟨AW, cW, rfl, ow, g1, rfl⟩
 obtain ⟨bW, rfl⟩ := own_someT ow hW1
 have HE1 := hd_ (HE.out.below (V' := up w g1) bw_)
 have HO1 := hd_ (own_mono ow HE.out.up.below.size)
 obtain ⟨V, hV⟩ : ∃ V, up w g1 = V := ⟨_, rfl⟩
 rw [hV] at HE1 HO1 ⊢
 clear hV ow HE g1 HSP
 obtain ⟨hbW, n0⟩ := ws_at (Rds.of_own HO1.out) hW1
 rw [Nat.zero_add, HZ.out] at n0
 go_wp2_with fail
 refine (HFM.out _).mono ?_
 rintro r w' ⟨rfl, rfl⟩
 obtain ⟨F, hF⟩ : ∃ F, formK k = F := ⟨_, rfl⟩
 rw [hF]
 have HF := hd_ hF
 clear hF
 by_cases hk14 : k = 14
 ·have ht : (F.toList == [45]) = true := by rw [← HF.out, hk14, ByteArray.toList_eq]; decide
  have hr : RS = none := by rw [HRS.out, hk14, if_neg (by simp [fitK])]
  subst hr
  clear q0 q1 q2 q3 q4 q5 q6 q7 q8 q9 q10 q11 q12 q13 hk14 hk
  go_wp2_with fail
  go_ret
  exact ⟨rfl, x, y, A, B, c, e, O, oc, HE1.out⟩
 ·have hk9 : k < 14 := by omega
  have ht : (F.toList == [45]) = false := by rw [← HF.out]; exact formK_min hk9
  have HFT : Hid (∀ V, Calls Tryz.prog 98 #[.string F, i64 (m : Int)] V fun e w' => e = .returned (.bool (fitK k W.length)) ∧ V = w') := hd_ fun V => by
   have := l28Fits_any k m hk9 (by have := HM.out; omega) V
   rw [HF.out, ← HM.out] at this
   exact this
  clear hk14 hk
  cases hf : fitK k W.length with
  | false =>
   rw [hf] at HFT
   have hr : RS = none := by rw [HRS.out, hf]; rfl
   subst hr
   clear q0 q1 q2 q3 q4 q5 q6 q7 q8 q9 q10 q11 q12 q13
   go_wp2_with fail
   refine (HFT.out _).mono ?_
   rintro r w' ⟨rfl, rfl⟩
   go_wp2_with fail
   go_ret
   exact ⟨rfl, x, y, A, B, c, e, O, oc, HE1.out⟩
  | true =>
   rw [hf] at HFT
   have HRR := hd_ (show RS = some (doK two D W k) by rw [HRS.out, hf]; rfl)
   obtain ⟨z1, z2, z3, -⟩ := formK_ok hk9 hf
   rw [HF.out] at z1 z2 z3
   have HWD := hd_ (wordsR_any w0 sb D A B c e O oc L x y (some ⟨bW, 0, none⟩) cW W F V HE1.out HO1.out z1 z3 z2 HD.out.wl HD.out.ws)
   clear z1 z2 z3 HRS
   go_wp2_with fail
   refine (HFT.out _).mono ?_
   rintro r w' ⟨rfl, rfl⟩
   go_wp2_with fail
   cases ho : wF W F.data.toList 0 [] [] with
   | none =>
    rw [ho] at HWD
    have HDK := hd_ (show RS = some (D, [errL 7]) by rw [HRR.out, doK_none hk9 hf (by rw [HF.out]; exact ho)])
    clear q0 q1 q2 q3 q4 q5 q6 q7 q8 q9 q10 q11 q12 q13 ho hf HRR
    refine (HWD.out).mono ?_
    rintro r w' ⟨rfl, x1, y1, hle⟩
    have HL := hd_ hle
    clear hle
    go_wp2_with fail
    refine (reportR_any w0 sb D _ _ _ _ _ _ L _ _ 7 _ (HL.out.below bw_) (by have := HD.out.n; omega) (by decide)).mono ?_
    rintro r w' ⟨rfl, hp⟩
    go_wp2_with fail
    go_ret
    rw [HDK.out]
    exact ⟨rfl, _, _, hp⟩
   | some p =>
    obtain ⟨ns, ts⟩ := p
    rw [ho] at HWD
    have HWF : Hid (wF W (formK k).data.toList 0 [] [] = some (ns, ts)) := hd_ (by rw [HF.out]; exact ho)
    have HFK := hd_ hf
    clear ho hf
    refine (HWD.out).mono ?_
    rintro r w' ⟨rfl, NA, nc, TA, tc, hws⟩
    have HWS := hd_ hws
    clear hws HWD hbW n0
    obtain ⟨hbW, n0⟩ := ws_at (Rds.of_own HWS.out.xw) hW1
    rw [Nat.zero_add, HZ.out] at n0
    have HKM : Hid (∀ f, KOk two k f → Calls Tryz.prog f #[.pointer (some ⟨sb, 0, none⟩)] w' fun r w' => mePost w0 sb (doK two D W k).1 (L ++ (doK two D W k).2) r w') := hd_ fun f hf => hf w0 sb D A B c e O oc L NA nc ns TA tc ts w' W HWS.out.me HD.out HFK.out HWF.out
    have HAL := hd_ hal
    have HMK := hd_ hmk
    obtain ⟨DR, hDR⟩ : ∃ DR, doK two D W k = DR := ⟨_, rfl⟩
    rw [hDR] at HKM
    have HR2 := hd_ (show RS = some DR by rw [HRR.out, hDR])
    clear HRR hDR hal hmk HWF HFK HFT ht
    have h14 : k = 0 ∨ k = 1 ∨ k = 2 ∨ k = 3 ∨ k = 4 ∨ k = 5 ∨ k = 6 ∨ k = 7 ∨ k = 8 ∨ k = 9 ∨ k = 10 ∨ k = 11 ∨ k = 12 ∨ k = 13 := by omega
    clear hk9
    rcases h14 with rfl | rfl | rfl | rfl | rfl | rfl | rfl | rfl | rfl | rfl | rfl | rfl | rfl | rfl
    ·simp only [Nat.reduceEqDiff, eq_self, decide_true, decide_false] at q0 q1 q2 q3 q4 q5 q6 q7 q8 q9 q10 q11 q12 q13
     go_wp2_with fail
     refine (HKM.out 100 HAL.out).mono ?_
     rintro r w' ⟨rfl, xx, yy, hp⟩
     go_wp2_with fail
     go_ret
     rw [HR2.out]
     exact ⟨rfl, xx, yy, hp⟩
    ·simp only [Nat.reduceEqDiff, eq_self, decide_true, decide_false] at q0 q1 q2 q3 q4 q5 q6 q7 q8 q9 q10 q11 q12 q13
     go_wp2_with fail
     refine (HKM.out 101 (fun w0 sb D A B c e O oc L NA nc ns TA tc ts w W h hd hf hw => k1 h2 w0 sb D A B c e O oc L NA nc ns TA tc ts w W h hd hf hw)).mono ?_
     rintro r w' ⟨rfl, xx, yy, hp⟩
     go_wp2_with fail
     go_ret
     rw [HR2.out]
     exact ⟨rfl, xx, yy, hp⟩
    ·simp only [Nat.reduceEqDiff, eq_self, decide_true, decide_false] at q0 q1 q2 q3 q4 q5 q6 q7 q8 q9 q10 q11 q12 q13
     go_wp2_with fail
     refine (HKM.out 102 (fun w0 sb D A B c e O oc L NA nc ns TA tc ts w W h hd hf hw => k2 h2 w0 sb D A B c e O oc L NA nc ns TA tc ts w W h hd hf hw)).mono ?_
     rintro r w' ⟨rfl, xx, yy, hp⟩
     go_wp2_with fail
     go_ret
     rw [HR2.out]
     exact ⟨rfl, xx, yy, hp⟩
    ·simp only [Nat.reduceEqDiff, eq_self, decide_true, decide_false] at q0 q1 q2 q3 q4 q5 q6 q7 q8 q9 q10 q11 q12 q13
     go_wp2_with fail
     refine (HKM.out 103 (fun w0 sb D A B c e O oc L NA nc ns TA tc ts w W h hd hf hw => k3 h2 w0 sb D A B c e O oc L NA nc ns TA tc ts w W h hd hf hw)).mono ?_
     rintro r w' ⟨rfl, xx, yy, hp⟩
     go_wp2_with fail
     go_ret
     rw [HR2.out]
     exact ⟨rfl, xx, yy, hp⟩
    ·simp only [Nat.reduceEqDiff, eq_self, decide_true, decide_false] at q0 q1 q2 q3 q4 q5 q6 q7 q8 q9 q10 q11 q12 q13
     go_wp2_with fail
     refine (HKM.out 104 (fun w0 sb D A B c e O oc L NA nc ns TA tc ts w W h hd hf hw => k4 h2 w0 sb D A B c e O oc L NA nc ns TA tc ts w W h hd hf hw)).mono ?_
     rintro r w' ⟨rfl, xx, yy, hp⟩
     go_wp2_with fail
     go_ret
     rw [HR2.out]
     exact ⟨rfl, xx, yy, hp⟩
    ·simp only [Nat.reduceEqDiff, eq_self, decide_true, decide_false] at q0 q1 q2 q3 q4 q5 q6 q7 q8 q9 q10 q11 q12 q13
     go_wp2_with fail
     refine (HKM.out 105 (fun w0 sb D A B c e O oc L NA nc ns TA tc ts w W h hd hf hw => k5 h2 w0 sb D A B c e O oc L NA nc ns TA tc ts w W h hd hf hw)).mono ?_
     rintro r w' ⟨rfl, xx, yy, hp⟩
     go_wp2_with fail
     go_ret
     rw [HR2.out]
     exact ⟨rfl, xx, yy, hp⟩
    ·simp only [Nat.reduceEqDiff, eq_self, decide_true, decide_false] at q0 q1 q2 q3 q4 q5 q6 q7 q8 q9 q10 q11 q12 q13
     go_wp2_with fail
     refine (HKM.out 106 (fun w0 sb D A B c e O oc L NA nc ns TA tc ts w W h hd hf hw => k6 h2 w0 sb D A B c e O oc L NA nc ns TA tc ts w W h hd hf hw)).mono ?_
     rintro r w' ⟨rfl, xx, yy, hp⟩
     go_wp2_with fail
     go_ret
     rw [HR2.out]
     exact ⟨rfl, xx, yy, hp⟩
    ·simp only [Nat.reduceEqDiff, eq_self, decide_true, decide_false] at q0 q1 q2 q3 q4 q5 q6 q7 q8 q9 q10 q11 q12 q13
     go_wp2_with fail
     refine (HKM.out 107 (fun w0 sb D A B c e O oc L NA nc ns TA tc ts w W h hd hf hw => k7 h2 w0 sb D A B c e O oc L NA nc ns TA tc ts w W h hd hf hw)).mono ?_
     rintro r w' ⟨rfl, xx, yy, hp⟩
     go_wp2_with fail
     go_ret
     rw [HR2.out]
     exact ⟨rfl, xx, yy, hp⟩
    ·simp only [Nat.reduceEqDiff, eq_self, decide_true, decide_false] at q0 q1 q2 q3 q4 q5 q6 q7 q8 q9 q10 q11 q12 q13
     go_wp2_with fail
     refine (HKM.out 108 (fun w0 sb D A B c e O oc L NA nc ns TA tc ts w W h hd hf hw => k8 h2 w0 sb D A B c e O oc L NA nc ns TA tc ts w W h hd hf hw)).mono ?_
     rintro r w' ⟨rfl, xx, yy, hp⟩
     go_wp2_with fail
     go_ret
     rw [HR2.out]
     exact ⟨rfl, xx, yy, hp⟩
    ·simp only [Nat.reduceEqDiff, eq_self, decide_true, decide_false] at q0 q1 q2 q3 q4 q5 q6 q7 q8 q9 q10 q11 q12 q13
     go_wp2_with fail
     refine (HKM.out 109 HMK.out).mono ?_
     rintro r w' ⟨rfl, xx, yy, hp⟩
     go_wp2_with fail
     go_ret
     rw [HR2.out]
     exact ⟨rfl, xx, yy, hp⟩
    ·simp only [Nat.reduceEqDiff, eq_self, decide_true, decide_false] at q0 q1 q2 q3 q4 q5 q6 q7 q8 q9 q10 q11 q12 q13
     go_wp2_with fail
     refine (HKM.out 110 (fun w0 sb D A B c e O oc L NA nc ns TA tc ts w W h hd hf hw => k10 h2 w0 sb D A B c e O oc L NA nc ns TA tc ts w W h hd hf hw)).mono ?_
     rintro r w' ⟨rfl, xx, yy, hp⟩
     go_wp2_with fail
     go_ret
     rw [HR2.out]
     exact ⟨rfl, xx, yy, hp⟩
    ·simp only [Nat.reduceEqDiff, eq_self, decide_true, decide_false] at q0 q1 q2 q3 q4 q5 q6 q7 q8 q9 q10 q11 q12 q13
     go_wp2_with fail
     refine (HKM.out 111 (fun w0 sb D A B c e O oc L NA nc ns TA tc ts w W h hd hf hw => k11 h2 w0 sb D A B c e O oc L NA nc ns TA tc ts w W h hd hf hw)).mono ?_
     rintro r w' ⟨rfl, xx, yy, hp⟩
     go_wp2_with fail
     go_ret
     rw [HR2.out]
     exact ⟨rfl, xx, yy, hp⟩
    ·simp only [Nat.reduceEqDiff, eq_self, decide_true, decide_false] at q0 q1 q2 q3 q4 q5 q6 q7 q8 q9 q10 q11 q12 q13
     go_wp2_with fail
     refine (HKM.out 112 (fun w0 sb D A B c e O oc L NA nc ns TA tc ts w W h hd hf hw => k12 h2 w0 sb D A B c e O oc L NA nc ns TA tc ts w W h hd hf hw)).mono ?_
     rintro r w' ⟨rfl, xx, yy, hp⟩
     go_wp2_with fail
     go_ret
     rw [HR2.out]
     exact ⟨rfl, xx, yy, hp⟩
    ·simp only [Nat.reduceEqDiff, eq_self, decide_true, decide_false] at q0 q1 q2 q3 q4 q5 q6 q7 q8 q9 q10 q11 q12 q13
     go_wp2_with fail
     refine (HKM.out 113 (fun w0 sb D A B c e O oc L NA nc ns TA tc ts w W h hd hf hw => k13 h2 w0 sb D A B c e O oc L NA nc ns TA tc ts w W h hd hf hw)).mono ?_
     rintro r w' ⟨rfl, xx, yy, hp⟩
     go_wp2_with fail
     go_ret
     rw [HR2.out]
     exact ⟨rfl, xx, yy, hp⟩
end Go.Proofs.YtbianlkenallaaaGreatDoor
