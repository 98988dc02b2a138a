/-
  Justified lines: the reference's. The bounds stand at each.
-/
import Derived.Test.YtbianlkenallaaaGreatDoorMgE
import Derived.Test.YtbianlkenallaaaGreatDoorMgA
import Derived.Test.YtbianlkenallaaaGreatDoorMgC
set_option linter.all false
set_option maxHeartbeats 4000000
set_option maxRecDepth 10000
namespace Go.Proofs.YtbianlkenallaaaGreatDoor
open Go.RowKit
theorem wordB_at {n : Int} {s : ByteArray} {i : Nat} (hi : i < s.size) (h : txtC 33 (byteAt s i) = false) : wordB n s = false := by
 rw [wordB, rall_at hi h, Bool.and_false]
theorem wordB_in {n : Int} {s : ByteArray} (h : ∀ i, i < s.size → txtC 33 (byteAt s i) = true) : wordB n s = btw (s.size : Int) 1 n := by
 rw [wordB, rall_true h, Bool.and_true]
 unfold btw
 rw [← Bool.decide_and, decide_eq_decide]
 omega
theorem l09Word_any (s : ByteArray) (n : Int) (w : World) (hs : s.size ≤ 9223372036854775807) :
  Calls Tryz.prog 225 #[.string s, i64 n] w fun e w' => e = .returned (.bool (wordB n s)) ∧ w = w' := by
 go_enter Tryz.func225, Tryz.ntmps225
 go_wp2_with fail
 go_loop [5] (fun i => ∃ k : Nat, k ≤ s.size ∧ i = i64 k ∧ Hid (∀ j, j < k → txtC 33 (byteAt s j) = true)) (fun i => s.size - (intOf i).toNat)
 case atStart => exact ⟨0, by omega, rfl, fun i hi => by omega⟩
 case round =>
  obtain ⟨k, hk, rfl, hok⟩ := hrel
  by_cases hlt : k < s.size
  ·have e := byteAt_eq hlt
   by_cases p1 : (byteAt s k).toNat < 33
   ·have hf := hd_ (wordB_at (n := n) hlt (decide_eq_false (by omega)))
    have p1' : ((byteAt s k).toNat : Int) < 33 := by omega
    rw [← e] at p1'
    go_wp2_with fail
    go_ret
    exact ⟨ret_bool hf.out.symm, rfl⟩
   by_cases p2 : 126 < (byteAt s k).toNat
   ·have hf := hd_ (wordB_at (n := n) hlt (decide_eq_false (by omega)))
    have p1' : 33 ≤ ((byteAt s k).toNat : Int) := by omega
    have p2' : 126 < ((byteAt s k).toNat : Int) := by omega
    rw [← e] at p1' p2'
    go_wp2_with fail
    go_ret
    exact ⟨ret_bool hf.out.symm, rfl⟩
   have hq := hd_ (show txtC 33 (byteAt s k) = true from decide_eq_true (by omega))
   have p1' : 33 ≤ ((byteAt s k).toNat : Int) := by omega
   have p2' : ((byteAt s k).toNat : Int) ≤ 126 := by omega
   rw [← e] at p1' p2'
   go_wp2_with fail
   go_round
   case rel => have hx := lt_ext (P := fun j => txtC 33 (byteAt s j) = true) hok.out hq.out; exact ⟨k + 1, by omega, by go_num, hx⟩
   case measure => (simp [intOf]; try omega)
  ·have hf := hd_ (wordB_in (n := n) (s := s) fun i hi => hok.out i (by omega))
   go_wp2_with fail
   refine (in_any (s.size : Int) 1 n w).mono ?_
   rintro e w' ⟨rfl, rfl⟩
   go_wp2_with fail
   go_ret
   exact ⟨by rw [hf.out] <;> rfl, rfl⟩
theorem l09Ok_any (n : Int) (A : Option Addr) (c : Nat) (ws : List ByteArray) (w : World) (h : Rds w 1 A ws.length (strs ws)) (hn : ws.length ≤ 100000000) (hf : WBd ws) :
  Calls Tryz.prog 200 #[.slice A ws.length c, i64 n] w fun e w' => e = .returned (.bool (vText ws n)) ∧ w = w' := by
 have HF := hd_ hf
 clear hf
 go_enter Tryz.func200, Tryz.ntmps200
 go_wp2_with fail
 go_loopw [5] (fun t5 wr => ∃ k : Nat, k ≤ ws.length ∧ t5 = i64 k ∧ Hid (∀ j, j < k → wordB n (wd ws j) = true) ∧ wr = w) (fun t5 _ => ws.length - (intOf t5).toNat)
 case atStart => exact ⟨0, by omega, rfl, hd_ fun j hj => absurd hj (by omega), rfl⟩
 case round =>
  obtain ⟨k, hk, rfl, HN, hw⟩ := hrel
  subst hw
  by_cases hlt : k < ws.length
  ·have hlt' : (k : Int) < (ws.length : Int) := by omega
   obtain ⟨b, off, rfl, hb, hc⟩ := wd_at h hlt
   have c0 := hc k hlt
   have hz := HF.out k hlt
   clear hc
   cases q : wordB n (wd ws k) with
   | false =>
    have hres := hd_ (vText_3 hlt q)
    go_wp2_with fail
    refine (ret_as (l09Word_any (wd ws k) n _ (by omega)) q).mono ?_
    rintro e w' ⟨rfl, rfl⟩
    go_wp2_with fail
    go_ret
    exact ⟨ret_bool hres.out.symm, rfl⟩
   | true =>
    have hq := hd_ q
    go_wp2_with fail
    refine (ret_as (l09Word_any (wd ws k) n _ (by omega)) q).mono ?_
    rintro e w' ⟨rfl, rfl⟩
    go_wp2_with fail
    go_roundw
    case rel => exact ⟨k + 1, by omega, by go_num, hd_ (lt_ext (P := fun j => wordB n (wd ws j) = true) HN.out hq.out), by first | rfl | trivial⟩
    case measure => (simp [intOf]; try omega)
  ·obtain rfl : k = ws.length := by omega
   by_cases h40 : ws.length ≤ 40
   ·have h40' : (ws.length : Int) ≤ 40 := by omega
    cases q : btw n 1 80 with
    | false =>
     have hres := hd_ (vText_1 (ws := ws) q)
     go_wp2_with fail
     refine (ret_as (in_any n 1 80 _) q).mono ?_
     rintro e w' ⟨rfl, rfl⟩
     go_wp2_with fail
     go_ret
     exact ⟨ret_bool hres.out.symm, rfl⟩
    | true =>
     have hres := hd_ (vText_0 q h40 HN.out)
     go_wp2_with fail
     refine (ret_as (in_any n 1 80 _) q).mono ?_
     rintro e w' ⟨rfl, rfl⟩
     go_wp2_with fail
     go_ret
     exact ⟨ret_bool hres.out.symm, rfl⟩
   ·have h40' : ¬ (ws.length : Int) ≤ 40 := by omega
    have hres := hd_ (vText_2 (n := n) h40)
    go_wp2_with fail
    go_ret
    exact ⟨ret_bool hres.out.symm, rfl⟩
theorem maxR_any (a b : Int) (w : World) :
  Calls Tryz.prog 219 #[i64 a, i64 b] w fun e w' => e = .returned (i64 (if a > b then a else b)) ∧ w = w' := by
 go_enter Tryz.func219, Tryz.ntmps219
 go_wp2
 all_goals go_ret
 all_goals exact ⟨ret_int (by first | rfl | omega), rfl⟩
theorem l09Long_any (A : Option Addr) (c : Nat) (ws : List ByteArray) (w : World) (h : Rds w 1 A ws.length (strs ws)) (hn : ws.length ≤ 100000000) (hf : WBd ws) :
  Calls Tryz.prog 201 #[.slice A ws.length c] w fun e w' => e = .returned (i64 (longL ws)) ∧ w = w' := by
 have HF := hd_ hf
 clear hf
 go_enter Tryz.func201, Tryz.ntmps201
 go_wp2_with fail
 go_loopw [3, 4] (fun t3 t4 wr => ∃ (k : Nat) (z : Int), k ≤ ws.length ∧ t4 = i64 k ∧ t3 = .int .i64 z ∧ Hid (z = (ws.length : Int) - 1 + sizes ws k) ∧ wr = w) (fun _ t4 _ => ws.length - (intOf t4).toNat)
 case atStart => exact ⟨0, _, by omega, rfl, rfl, hd_ (by rw [sizes]; omega), rfl⟩
 case round =>
  obtain ⟨k, z, hk, rfl, rfl, HZ, hw⟩ := hrel
  subst hw
  have hsz := sizes_bd HF.out k hk
  have hz1 : -1 ≤ z := by rw [HZ.out]; omega
  have hz2 : z ≤ 20000000000000000 := by rw [HZ.out]; omega
  by_cases hlt : k < ws.length
  ·have hlt' : (k : Int) < (ws.length : Int) := by omega
   obtain ⟨b, off, rfl, hb, c0⟩ := wd_at h hlt
   have c0 := c0 k hlt
   have f1 := HF.out k hlt
   have HZ2 := hd_ (show z + ((wd ws k).size : Int) = (ws.length : Int) - 1 + sizes ws (k + 1) from by rw [HZ.out, sizes]; omega)
   clear HZ hsz
   go_wp2_with fail
   go_roundw
   case rel => exact ⟨k + 1, _, by omega, by go_num, rfl, HZ2, by first | rfl | trivial⟩
   case measure => (simp [intOf]; try omega)
  ·obtain rfl : k = ws.length := by omega
   obtain ⟨v, hv⟩ : ∃ v, (if (0 : Int) > z then 0 else z) = v := ⟨_, rfl⟩
   have HL : Hid (longL ws = v) := hd_ (by rw [longL, ← HZ.out, ← hv]; (repeat' split) <;> omega)
   have HMX : Hid (∀ V, Calls Tryz.prog 219 #[i64 0, i64 z] V fun e w' => e = .returned (i64 v) ∧ V = w') := hd_ fun V => by rw [← hv]; exact maxR_any 0 z V
   clear HZ hsz hv
   go_wp2_with fail
   refine (HMX.out _).mono ?_
   rintro e w' ⟨rfl, rfl⟩
   go_wp2_with fail
   go_ret
   rw [HL.out]
   exact ⟨rfl, rfl⟩
theorem l09Blanks_any (n : Int) (w : World) (hn : n ≤ 100000) (h0 : -1000000000 ≤ n) :
  Calls Tryz.prog 226 #[i64 n] w fun e w' => e = .returned (.string (bs (List.replicate n.toNat 32))) ∧ UpOf w w' := by
 have hOwn := hd_ (World.ownsRow_lit (base := w.heap.size) (e := 5) (size := 1) w #[] 0 (Nat.le_refl _) (by unfold maxLen; omega) rfl)
 go_enter Tryz.func226, Tryz.ntmps226
 go_wp2_with fail
 go_loopw [0, 3] (fun t0 t3 wr => ∃ (k : Nat) (z : Int) (L : List UInt8) (A1 : Option Addr) (c1 : Nat), t0 = .int .i64 z ∧ t3 = .slice A1 L.length c1 ∧ z.toNat + k = n.toNat ∧ z ≤ n ∧ -1000000000 ≤ z ∧ Hid (L = List.replicate k 32) ∧ Hid (wr.ownsRow w.heap.size 5 1 (.slice A1 L.length c1) L.length (Lib.byteCells L)) ∧ UpOf w wr) (fun t0 _ _ => (intOf t0).toNat)
 case atStart => exact ⟨0, n, [], _, _, rfl, rfl, by omega, Int.le_refl _, h0, hd_ rfl, hd_ hOwn.out, uw_⟩
 case round =>
  obtain ⟨k, z, L, A1, c1, rfl, rfl, hzk, hzn, hz0, HE, HO, g, rfl⟩ := hrel
  clear hOwn
  by_cases hlt : 0 < z
  ·have hL : L.length ≤ 100000 := by rw [HE.out, List.length_replicate]; omega
   go_wp2_with (at_builtin; go_must (refine wpl_app rfl _ _ 22 rfl w.heap.size 5 (.int .u8 0) 1 1 el_byte (.slice A1 L.length c1) L.length (Lib.byteCells L) rfl (own_below HO.out bw_) _ 1 1 [.int .u8 32] rfl (rds_new _ #[.int .u8 32] _ 1 1 rfl) (fun u hu => by simp at hu; subst hu; rfl) (by unfold maxLen; omega) (by omega) (Below.size (B := w.heap.size) (w := w) bw_) ?_); intro A2 c2 W2 o2 hg2; have hu2 := up_of_grown (W := w) bw_ hg2 fun j hj => (HO.out.lt j hj).1)
   go_roundw
   case rel => exact ⟨k + 1, z - 1, L ++ [32], A2, c2, by go_num, by rw [List.length_append]; rfl, by omega, by omega, by omega, hd_ (by rw [HE.out, List.replicate_succ']), hd_ (by rw [List.length_append]; simpa [Lib.byteCells] using o2), hu2⟩
   case measure => (simp [intOf]; try omega)
  ·have hcv := conv_own (w := up w g) (w1 := up w g) HO.out rfl (Below.refl _ _)
   have hfin := hd_ (show L = List.replicate n.toNat 32 by rw [HE.out]; congr 1; omega)
   clear HE
   go_wp2_with fail
   go_ret
   rw [← hfin.out]
   exact ⟨rfl, uw_⟩
theorem l09Set_any (n : Int) (A : Option Addr) (c : Nat) (ws : List ByteArray) (w : World) (h : Rds w 1 A ws.length (strs ws)) (h1 : 1 ≤ ws.length) (hv : vText ws n = true) (hl : longL ws ≤ n) :
  Calls Tryz.prog 202 #[.slice A ws.length c, i64 n] w fun e w' => e = .returned (.string (bs (setA ws n))) ∧ UpOf w w' := by
 obtain ⟨⟨hn1, hn2⟩, h40, hws⟩ := vText_inv hv
 have HW := hd_ hws
 have HR := hd_ h
 have hWB : Hid (WBd ws) := hd_ fun i hi => by have := (hws i hi).2; omega
 obtain ⟨b, off, rfl, hb, c0⟩ := wd_at h (i := 0) (by omega)
 have HC0 := hd_ c0
 have hw0 := (hws 0 (by omega)).2
 have k0 := c0 0 (by omega)
 rw [Nat.add_zero] at k0
 obtain ⟨G, hG⟩ : ∃ G, ws.length = G + 1 := ⟨ws.length - 1, by omega⟩
 obtain ⟨LL, hLL⟩ : ∃ l, longL ws = l := ⟨_, rfl⟩
 have hl0 : 0 ≤ LL := by rw [← hLL]; exact longL_nn ws
 have HLL : Hid (∀ V, Below w.heap.size w V → Calls Tryz.prog 201 #[.slice (some ⟨b, off, none⟩) (G + 1) c] V fun e w' => e = .returned (i64 LL) ∧ V = w') := hd_ fun V hV => by
  have := l09Long_any _ c _ V (HR.out.below hV) (by omega) hWB.out
  rw [hLL, hG] at this
  exact this
 have hres1 : Hid (G = 0 → setA ws n = (wd ws 0).data.toList ++ List.replicate (n - LL).toNat 32) := hd_ fun e => by rw [setA, if_pos (by omega), hLL]
 have hres2 : Hid (0 < G → setA ws n = setU ws (n - LL) G G) := hd_ fun e => by
  rw [setA, if_neg (by omega), hLL, hG]; congr 1; omega
 have hl9 : LL ≤ n := by omega
 have hG40 : G ≤ 39 := by omega
 have HG := hd_ hG
 rw [hG]
 clear hws hv h hLL hl c0 h40 h1 hG
 obtain ⟨W0, hW0⟩ : ∃ W, wd ws 0 = W := ⟨_, rfl⟩
 have HW0 := hd_ hW0
 rw [hW0] at k0 hw0 hres1
 clear hW0
 by_cases hG0 : G = 0
 ·subst hG0
  obtain ⟨R, hR⟩ : ∃ R, bs (List.replicate (n - LL).toNat 32) = R := ⟨_, rfl⟩
  have hRz : R.size ≤ 100 := by rw [← hR, bs_size, List.length_replicate]; omega
  have HRd := hd_ hR
  have hrep : Hid (∀ V : World, Calls Tryz.prog 226 #[i64 (n - LL)] V fun e w' => e = .returned (.string R) ∧ UpOf V w') := hd_ fun V => by
   rw [← hR]; exact l09Blanks_any _ V (by omega) (by omega)
  have es : ∀ V, (Op.stringOp .add W0 R).run Tryz.prog V = .ok (.string (W0 ++ R)) V := fun V => run_string_add_sum V _ _ (by omega)
  clear hR
  go_enter Tryz.func202, Tryz.ntmps202
  go_wp2_with (first | (go_at_call 201; refine (HLL.out _ bw_).mono ?_; rintro e w' ⟨rfl, rfl⟩) | ((with_reducible refine wru ?_); (repeat (go_big_quiet_step (first | (go_at_call 226; exact uq_ (hrep.out _))))); refine wqn fun nq => ?_))
  go_ret
  refine ⟨?_, uw_⟩
  show Ending.returned (.string _) = _
  rw [hres1.out (by first | rfl | trivial), ← HRd.out]
  exact congrArg Ending.returned (congrArg Value.string (by apply ByteArray.ext; apply Array.ext'; simp))
 ·have hGp : 0 < G := by omega
  have hg0 : ((G : Int) == 0) = false := by rw [beq_eq_false_iff_ne]; omega
  have hgp : (0 : Int) < (G : Int) := by omega
  go_enter Tryz.func202, Tryz.ntmps202
  go_wp2_with (first | (go_at_call 201; refine (HLL.out _ bw_).mono ?_; rintro e w' ⟨rfl, rfl⟩) | ((with_reducible refine wru ?_); (repeat (go_big_quiet_step (fail))); refine wqn fun nq => ?_))
  obtain ⟨Q, hQ⟩ : ∃ o, (n - LL) / (G : Int) = o := ⟨_, rfl⟩
  obtain ⟨rm, hrm⟩ : ∃ o, (n - LL) % (G : Int) = o := ⟨_, rfl⟩
  have hQb : 0 ≤ Q ∧ Q ≤ 80 := by
   have h1 := Int.ediv_nonneg (a := n - LL) (b := (G : Int)) (by omega) (by omega)
   have h2 := Int.ediv_le_self (a := n - LL) (G : Int) (by omega)
   omega
  have hrb : 0 ≤ rm ∧ rm < G := by
   have h1 := Int.emod_nonneg (n - LL) (b := (G : Int)) (by omega)
   have h2 := Int.emod_lt_of_pos (n - LL) (b := (G : Int)) (by omega)
   omega
  have hgap : Hid (∀ k : Nat, gapN (n - LL) G (k + 1) = if ((k : Int) + 1) ≤ rm then 1 + Q + 1 else 1 + Q) := hd_ fun k => by
   rw [gapN, hQ, hrm]
   push_cast
   rfl
  obtain ⟨hQ1, hQ2⟩ := hQb
  obtain ⟨hr1, hr2⟩ := hrb
  go_loopw [7, 8] (fun t7 t8 wr => ∃ (k : Nat) (T : List UInt8), k ≤ G ∧ t8 = i64 (k + 1) ∧ t7 = .string (bs T) ∧ Hid (T = setU ws (n - LL) G k) ∧ Hid (T.length ≤ 80 + 300 * k) ∧ ∃ g : Up w, wr = up w g) (fun _ t8 _ => G + 1 - (intOf t8).toNat)
  case atStart => exact ⟨0, W0.data.toList, by omega, rfl, by rw [bs_of], hd_ (by rw [setU, HW0.out]), hd_ (by show W0.size ≤ _; omega), ex_up bw_⟩
  case round =>
   obtain ⟨k, T, hk, rfl, rfl, HT, HTl, g, rfl⟩ := hrel
   by_cases hlt : k < G
   ·have hlt' : (k : Int) + 1 ≤ (G : Int) := by omega
    have hltS : (k : Int) + 1 < (G : Int) + 1 := by omega
    have k1 := HC0.out (k + 1) (by rw [HG.out]; omega)
    have htn : ((k : Int) + 1).toNat = k + 1 := by omega
    have hsz : (wd ws (k + 1)).size ≤ 80 := by have := (HW.out (k + 1) (by rw [HG.out]; omega)).2; omega
    have hTl : T.length ≤ 80 + 300 * k := HTl.out
    obtain ⟨S, hS⟩ : ∃ S, wd ws (k + 1) = S := ⟨_, rfl⟩
    have HS := hd_ hS
    rw [hS] at k1 hsz
    clear hS
    by_cases hq : (k : Int) + 1 ≤ rm
    ·obtain ⟨R, hR⟩ : ∃ R, bs (List.replicate (1 + Q + 1).toNat 32) = R := ⟨_, rfl⟩
     have hRz : R.size ≤ 100 := by rw [← hR, bs_size, List.length_replicate]; omega
     have hrep : Hid (∀ V : World, Calls Tryz.prog 226 #[i64 (1 + Q + 1)] V fun e w' => e = .returned (.string R) ∧ UpOf V w') := hd_ fun V => by
      rw [← hR]; exact l09Blanks_any _ V (by omega) (by omega)
     have HT2 : Hid (T ++ (R.data.toList ++ S.data.toList) = setU ws (n - LL) G (k + 1)) := hd_ (by
      rw [setU, hgap.out, if_pos hq, HT.out, ← hR, bs_list, HS.out])
     have HTl2 : Hid ((T ++ (R.data.toList ++ S.data.toList)).length ≤ 80 + 300 * (k + 1)) := hd_ (by
      rw [List.length_append, List.length_append, bsz, bsz]; omega)
     have e1s : ∀ V, (Op.stringOp .add R S).run Tryz.prog V = .ok (.string (R ++ S)) V := fun V => run_string_add_sum V _ _ (by omega)
     have e2s : ∀ V, (Op.stringOp .add (bs T) (R ++ S)).run Tryz.prog V = .ok (.string (bs T ++ (R ++ S))) V := fun V => run_string_add_sum V _ _ (by rw [bs_size, ByteArray.size_append]; omega)
     clear hR HT hTl
     go_wp2_with (first | ((with_reducible refine wru ?_); (repeat (go_big_quiet_step (first | (go_at_call 226; exact uq_ (hrep.out _))))); refine wqn fun nq => ?_))
     go_roundw
     case rel => exact ⟨k + 1, _, by omega, by go_num, congrArg Value.string (by apply ByteArray.ext; apply Array.ext'; simp), HT2, HTl2, ex_up bw_⟩
     case measure => simp [intOf]; try omega
    ·obtain ⟨R, hR⟩ : ∃ R, bs (List.replicate (1 + Q).toNat 32) = R := ⟨_, rfl⟩
     have hRz : R.size ≤ 100 := by rw [← hR, bs_size, List.length_replicate]; omega
     have hrep : Hid (∀ V : World, Calls Tryz.prog 226 #[i64 (1 + Q)] V fun e w' => e = .returned (.string R) ∧ UpOf V w') := hd_ fun V => by
      rw [← hR]; exact l09Blanks_any _ V (by omega) (by omega)
     have HT2 : Hid (T ++ (R.data.toList ++ S.data.toList) = setU ws (n - LL) G (k + 1)) := hd_ (by
      rw [setU, hgap.out, if_neg hq, HT.out, ← hR, bs_list, HS.out])
     have HTl2 : Hid ((T ++ (R.data.toList ++ S.data.toList)).length ≤ 80 + 300 * (k + 1)) := hd_ (by
      rw [List.length_append, List.length_append, bsz, bsz]; omega)
     have e1s : ∀ V, (Op.stringOp .add R S).run Tryz.prog V = .ok (.string (R ++ S)) V := fun V => run_string_add_sum V _ _ (by omega)
     have e2s : ∀ V, (Op.stringOp .add (bs T) (R ++ S)).run Tryz.prog V = .ok (.string (bs T ++ (R ++ S))) V := fun V => run_string_add_sum V _ _ (by rw [bs_size, ByteArray.size_append]; omega)
     clear hR HT hTl
     go_wp2_with (first | ((with_reducible refine wru ?_); (repeat (go_big_quiet_step (first | (go_at_call 226; exact uq_ (hrep.out _))))); refine wqn fun nq => ?_))
     go_roundw
     case rel => exact ⟨k + 1, _, by omega, by go_num, congrArg Value.string (by apply ByteArray.ext; apply Array.ext'; simp), HT2, HTl2, ex_up bw_⟩
     case measure => simp [intOf]; try omega
   ·obtain rfl : k = G := by omega
    have hfin := hd_ (show setA ws n = T by rw [hres2.out hGp, HT.out])
    clear HT
    go_wp2_with (first | ((with_reducible refine wru ?_); (repeat (go_big_quiet_step (fail))); refine wqn fun nq => ?_))
    go_ret
    rw [hfin.out]
    exact ⟨rfl, uw_⟩
theorem setLineS_any (n : Int) (A : Option Addr) (c : Nat) (ws : List ByteArray) (w : World) (h : Rds w 1 A ws.length (strs ws)) (hn : ws.length ≤ 100000000) (hf : WBd ws) :
  Calls Tryz.prog 164 #[.slice A ws.length c, i64 n] w fun e w' => e = .returned (.tuple #[.string (setR ws n).1, i64 (setR ws n).2]) ∧ UpOf w w' := by
 have HR := hd_ h
 have HF := hd_ hf
 have HOK : Hid (∀ V, Below w.heap.size w V → Calls Tryz.prog 200 #[.slice A ws.length c, i64 n] V fun e w' => e = .returned (.bool (vText ws n)) ∧ V = w') := hd_ fun V hV => l09Ok_any n A c ws V (HR.out.below hV) hn HF.out
 have HLO : Hid (∀ V, Below w.heap.size w V → Calls Tryz.prog 201 #[.slice A ws.length c] V fun e w' => e = .returned (i64 (longL ws)) ∧ V = w') := hd_ fun V hV => l09Long_any A c ws V (HR.out.below hV) hn HF.out
 clear h hf
 cases hv : vText ws n with
 | false =>
  have hr := hd_ (show setR ws n = (⟨#[]⟩, 1) by rw [setR, hv]; rfl)
  go_enter Tryz.func164, Tryz.ntmps164
  go_wp2_with (first | (go_at_call 200; refine (ret_as (HOK.out _ bw_) hv).mono ?_; rintro e w' ⟨rfl, rfl⟩))
  go_ret2
  rw [hr.out]
  exact ⟨rfl, uw_⟩
 | true =>
  obtain ⟨LL, hLL⟩ : ∃ l, longL ws = l := ⟨_, rfl⟩
  rw [hLL] at HLO
  by_cases hlt : n < LL
  ·have hr := hd_ (show setR ws n = (⟨#[]⟩, 5) by rw [setR, hv, if_pos rfl, hLL, if_pos hlt])
   clear hLL
   go_enter Tryz.func164, Tryz.ntmps164
   go_wp2_with (first | (go_at_call 200; refine (ret_as (HOK.out _ bw_) hv).mono ?_; rintro e w' ⟨rfl, rfl⟩) | (go_at_call 201; refine (HLO.out _ bw_).mono ?_; rintro e w' ⟨rfl, rfl⟩))
   go_ret2
   rw [hr.out]
   exact ⟨rfl, uw_⟩
  ·have hge : ¬ n < LL := hlt
   by_cases h0 : ws.length = 0
   ·have hz : ((ws.length : Int) == 0) = true := by rw [beq_iff_eq]; omega
    have hr := hd_ (show setR ws n = (⟨#[]⟩, 3) by rw [setR, hv, if_pos rfl, hLL, if_neg hlt, if_pos h0])
    clear hLL h0
    go_enter Tryz.func164, Tryz.ntmps164
    go_wp2_with (first | (go_at_call 200; refine (ret_as (HOK.out _ bw_) hv).mono ?_; rintro e w' ⟨rfl, rfl⟩) | (go_at_call 201; refine (HLO.out _ bw_).mono ?_; rintro e w' ⟨rfl, rfl⟩))
    go_ret2
    rw [hr.out]
    exact ⟨rfl, uw_⟩
   ·have hz : ((ws.length : Int) == 0) = false := by rw [beq_eq_false_iff_ne]; omega
    have hr := hd_ (show setR ws n = (bs (setA ws n), 0) by rw [setR, hv, if_pos rfl, hLL, if_neg hlt, if_neg h0])
    have HST : Hid (∀ V, Below w.heap.size w V → Calls Tryz.prog 202 #[.slice A ws.length c, i64 n] V fun e w' => e = .returned (.string (bs (setA ws n))) ∧ UpOf V w') := hd_ fun V hV => l09Set_any n A c ws V (HR.out.below hV) (by omega) hv (by rw [hLL]; omega)
    obtain ⟨R, hR⟩ : ∃ R, bs (setA ws n) = R := ⟨_, rfl⟩
    rw [hR] at HST hr
    clear hLL h0 hR
    go_enter Tryz.func164, Tryz.ntmps164
    go_wp2_with (first | (go_at_call 200; refine (ret_as (HOK.out _ bw_) hv).mono ?_; rintro e w' ⟨rfl, rfl⟩) | (go_at_call 201; refine (HLO.out _ bw_).mono ?_; rintro e w' ⟨rfl, rfl⟩) | (go_at_call 202; refine (HST.out _ bw_).mono ?_; rintro e w' ⟨rfl, g, rfl⟩))
    go_ret2
    rw [hr.out]
    exact ⟨rfl, uw_⟩
end Go.Proofs.YtbianlkenallaaaGreatDoor
