/-
  The least numbers of errors of the ends of two texts: the program's. The bounds stand at it.
-/
import Derived.Test.YtbianlkenallaaaGreatDoorMgC
import Derived.Test.YtbianlkenallaaaGreatDoorAlign1
set_option linter.all false
set_option maxHeartbeats 4000000
set_option maxRecDepth 10000
namespace Go.Proofs.YtbianlkenallaaaGreatDoor
open Go.RowKit
theorem leastFrom_any (a b : ByteArray) (w : World) (ha : a.size ≤ 60) (hb : b.size ≤ 60) :
 Calls Tryz.prog 83 #[.string a, .string b] w fun e w' => ∃ B Q, e = .returned (.slice (some ⟨B, 0, none⟩) (a.size + 1) (a.size + 1)) ∧ Tb w w' B Q a b := by
 have hm1 : ∀ u : World, (Instr.makeSlice 122 (.int .i64 ((a.size : Int) + 1)) (.int .i64 ((a.size : Int) + 1))).run Tryz.prog u = .ok (.slice (some ⟨u.heap.size, 0, none⟩) (a.size + 1) (a.size + 1)) (u.alloc (.cells (rowQ a.size b.size (fun _ => 0) 0) 121)) := fun u => mk_rows u _ _ _ (by omega)
 have hm2 : ∀ u : World, (Instr.makeSlice 121 (.int .i64 ((b.size : Int) + 1)) (.int .i64 ((b.size : Int) + 1))).run Tryz.prog u = .ok (.slice (some ⟨u.heap.size, 0, none⟩) (b.size + 1) (b.size + 1)) (u.alloc (.cells (arrN b.size fun _ => 0) 3)) := fun u => mk_row u _ (by omega)
 obtain ⟨n, hn⟩ := nm_ (a.size)
 obtain ⟨m, hm⟩ := nm_ (b.size)
 have HN := hd_ hn
 have HM := hd_ hm
 rw [hn] at hm1 ha
 rw [hm] at hm1 hm2 hb
 go_enter Tryz.func83, Tryz.ntmps83
 go_upto_region 2 with (fail)
 have HF := hd_ (show Mx w (w.alloc (.cells (rowQ n m (fun _ => 0) 0) 121)) w.heap.size n m 0 (fun _ => 0) (fun _ _ => 0) from ⟨Blk.new _ _ _, fun i hi => by omega, uw_, Nat.le_refl _, fun i hi => by omega, fun i j hi => by omega⟩)
 obtain ⟨B, hB⟩ := nm_ (w.heap.size)
 rw [hB] at HF
 rw [hB]
 clear hB hm1
 go_wp2_with fail
 go_loopw [22] (fun i wr => ∃ k : Nat, k ≤ n + 1 ∧ i = i64 k ∧ ∃ Q, Hid (Mx w wr B n m k Q fun _ _ => 0)) (fun i _ => n + 1 - (intOf i).toNat)
 case atStart => exact ⟨0, by omega, rfl, _, HF⟩
 case round =>
  obtain ⟨k, hk, rfl, Q, D⟩ := hrel
  clear HF
  by_cases hlt : k < n + 1
  ·have hlt' : (k : Int) < (n : Int) + 1 := by omega
   have d0 := D.out.o.lt
   have d1 : wr.cell? ⟨B, k, none⟩ = some (.slice none 0 0) := by rw [D.out.o.cell, rowQ_get (by omega), if_neg (by omega)]
   have d2 := D.out.o.free k
   go_wp2_with fail
   go_roundw
   case rel => exact ⟨k + 1, by omega, by go_num, _, hd_ ((D.out.more' (by omega) fun _ => 0).congr fun i j hi hj => by
    by_cases e : i = k
    ·rw [if_pos e]
    ·rw [if_neg e])⟩
   case measure => (simp [intOf]; try omega)
  ·have hge : ¬ (k : Int) < (n : Int) + 1 := by omega
   obtain rfl : k = n + 1 := by omega
   clear hlt hk hm2
   go_wp2_with fail
   go_loopw [7] (fun t7 wr => ∃ (I : Nat) (z : Int), I ≤ n + 1 ∧ t7 = .int .i64 z ∧ z = (I : Int) - 1 ∧ Hid (Mx w wr B n m (n + 1) Q (mtF a b I (m + 1)))) (fun t7 _ => (intOf t7 + 1).toNat)
   case atStart => exact ⟨n + 1, n, by omega, rfl, by omega, hd_ (D.out.congr fun i j hi hj => by
    unfold mtF; rw [if_neg (by omega)])⟩
   case round =>
    obtain ⟨I, z, hI, rfl, hz, E⟩ := hrel
    clear D
    by_cases hI0 : I = 0
    ·obtain rfl : z = -1 := by omega
     have hfin : Hid (Tb w wr B Q a b) := hd_ (by
      unfold Tb
      rw [HN.out, HM.out]
      exact E.out.congr fun i j hi hj => by unfold mtF; rw [if_pos (by omega)])
     clear hz hI0 hI hge E
     go_wp2_with fail
     go_ret
     exact ⟨B, Q, by rw [HN.out]; rfl, hfin.out⟩
    ·obtain ⟨i, rfl⟩ : ∃ i, I = i + 1 := ⟨I - 1, by omega⟩
     obtain rfl : z = (i : Int) := by omega
     have hi' : i ≤ n := by omega
     have hi1 : (0 : Int) ≤ (i : Int) := by omega
     clear hz hI0 hI hge
     go_wp2_with fail
     go_loopw [8] (fun t8 wr => ∃ (K : Nat) (z : Int), K ≤ m + 1 ∧ t8 = .int .i64 z ∧ z = (K : Int) - 1 ∧ Hid (Mx w wr B n m (n + 1) Q (mtF a b (i + 1) K))) (fun t8 _ => (intOf t8 + 1).toNat)
     case atStart => exact ⟨m + 1, m, by omega, rfl, by omega, E⟩
     case round =>
      obtain ⟨K, z, hK, rfl, hz, F⟩ := hrel
      clear E
      by_cases hK0 : K = 0
      ·obtain rfl : z = -1 := by omega
       subst hK0
       have G := hd_ (F.out.congr (g := mtF a b i (m + 1)) fun x y hx hy => mtF_row a b hy)
       clear F hz hK
       go_wp2_with fail
       refine ⟨⟨i, (i : Int) - 1, by omega, rfl, rfl, G⟩, by simp [intOf]; try omega⟩
      ·obtain ⟨k, rfl⟩ : ∃ k, K = k + 1 := ⟨K - 1, by omega⟩
       obtain rfl : z = (k : Int) := by omega
       have hk' : k ≤ m := by omega
       have hk1 : (0 : Int) ≤ (k : Int) := by omega
       clear hz hK0 hK
       obtain ⟨q, hq⟩ := nm_ (wr.heap.size)
       have hcv : (convert 22 22 (.slice (some ⟨q, 0, none⟩) 5 5)).run Tryz.prog (wr.alloc (.cells #[.int .u8 43, .int .u8 45, .int .u8 61, .int .u8 120, .int .u8 126] 5)) = .ok (.slice (some ⟨q, 0, none⟩) 5 5) (wr.alloc (.cells #[.int .u8 43, .int .u8 45, .int .u8 61, .int .u8 120, .int .u8 126] 5 (5, 6))) := by
        subst hq
        exact Lib.run_convert_bytes_const wr 22 5 #[.int .u8 43, .int .u8 45, .int .u8 61, .int .u8 120, .int .u8 126] 5 5 Tryz.underlying22 Tryz.underlying5
       have hl5 : Hid (Lit5 (wr.alloc (.cells #[.int .u8 43, .int .u8 45, .int .u8 61, .int .u8 120, .int .u8 126] 5 (5, 6))) q) := by
        subst hq
        exact hd_ (by show (wr.heap.push _)[wr.heap.size]? = _; simp)
       go_wp2_with fail
       go_loopw [9, 48] (fun t9 t48 wr => ∃ (j : Nat) (bv : Int), j ≤ 5 ∧ t48 = i64 j ∧ t9 = .int .i64 bv ∧ Hid (bv = bst a b i k j) ∧ Hid (Lit5 wr q) ∧ Hid (Mx w wr B n m (n + 1) Q (mtF a b (i + 1) (k + 1)))) (fun _ t48 _ => 5 - (intOf t48).toNat)
       case atStart => exact ⟨0, -1, by omega, rfl, rfl, hd_ rfl, hl5, hd_ (F.out.below bw_)⟩
       case round =>
        obtain ⟨j, bv, hj, rfl, rfl, HB, HL, G⟩ := hrel
        clear F hl5 hcv
        by_cases hj5 : j < 5
        ·have hj' : (j : Int) < 5 := by omega
         have f1 := HL.out.cell hj5
         have f0 := HL.out.lt
         obtain ⟨di, hdi⟩ := nm_ (sdi j)
         obtain ⟨dk, hdk⟩ := nm_ (sdk j)
         obtain ⟨er, her⟩ := nm_ (ser j)
         have hst : ∀ V : World, Calls Tryz.prog 135 #[.string (a.extract i n), .string (b.extract k m), .int .u8 ((stB j).toNat : Int)] V fun e w' => e = .returned (.tuple #[i64 di, i64 dk, i64 er, .bool (okAl a b i k j)]) ∧ UpOf V w' := fun V => by
          have := stepAt_any (rst a i) (rst b k) j V hj5 (by rw [rst_size]; omega) (by rw [rst_size]; omega)
          rw [okAl_rst, hdi, hdk, her, rst, rst, HN.out, HM.out] at this
          exact this
         have hdi2 : di ≤ 2 := by rw [← hdi]; unfold sdi; (repeat' split) <;> omega
         have hdk2 : dk ≤ 2 := by rw [← hdk]; unfold sdk; (repeat' split) <;> omega
         cases hok : okAl a b i k j with
         | false =>
           have HC : Hid (∀ V : World, Calls Tryz.prog 135 #[.string (a.extract i n), .string (b.extract k m), .int .u8 ((stB j).toNat : Int)] V fun e w' => e = .returned (.tuple #[i64 di, i64 dk, i64 er, .bool false]) ∧ UpOf V w') := hd_ (by rw [hok] at hst; exact hst)
           have HB2 := hd_ (show bv = bst a b i k (j + 1) by rw [bst_no hok, HB.out])
           clear hst hok HB hdi hdk her
           go_wp2_with (first | ((with_reducible refine wru ?_); (repeat (go_big_quiet_step (first | (go_at_call 135; exact uq_ (HC.out _))))); refine wqn fun nq => ?_))
           go_roundw
           case rel => exact ⟨j + 1, bv, by omega, by go_num, rfl, HB2, hd_ (HL.out.below bw_), hd_ (G.out.below bw_)⟩
           case measure => simp [intOf]; try omega
         | true =>
           have HC : Hid (∀ V : World, Calls Tryz.prog 135 #[.string (a.extract i n), .string (b.extract k m), .int .u8 ((stB j).toNat : Int)] V fun e w' => e = .returned (.tuple #[i64 di, i64 dk, i64 er, .bool true]) ∧ UpOf V w') := hd_ (by rw [hok] at hst; exact hst)
           have hgo := okAl_go hok hj5
           rw [hdi, hdk] at hgo
           have hdn : i + di ≤ n := by have := hgo.2.1 (by omega); omega
           have hkn : k + dk ≤ m := by have := hgo.2.2 (by omega); omega
           have hin : (i : Int) + (di : Int) < (n : Int) + 1 := by omega
           have hkm : (k : Int) + (dk : Int) < (m : Int) + 1 := by omega
           have ht1 : ((i : Int) + (di : Int)).toNat = i + di := by omega
           have ht2 : ((k : Int) + (dk : Int)).toNat = k + dk := by omega
           have hcs : cst a b (i + di) (k + dk) = mtF a b (i + 1) (k + 1) (i + di) (k + dk) := by
            rw [mtF_done]
            omega
           obtain ⟨cv, hcv⟩ := nm_ (cst a b (i + di) (k + dk))
           have hc0 : 0 ≤ cv := by rw [← hcv]; exact cst_nn _ _ _ _
           have hc1 : cv ≤ 120 := by
            have := cst_bd a b _ (i + di) (k + dk) rfl
            rw [hcv] at this
            omega
           have her0 : 0 ≤ er := by rw [← her]; exact ser_nn j
           have her1 : er ≤ 1 := by rw [← her]; unfold ser; split <;> omega
           have hnv : nxV a b i k j = cv + er := by rw [nxV, hdi, hdk, her, hcv]
           have hr : ∀ g : Up wr, (up wr g).cell? ⟨B, i + di, none⟩ = some (.slice (some ⟨Q (i + di), 0, none⟩) (m + 1) (m + 1)) := fun g => (G.out.below g.below).row (by omega) (by omega)
           have hx : ∀ g : Up wr, (up wr g).cell? ⟨Q (i + di), k + dk, none⟩ = some (i64 cv) := fun g => by
            have := (G.out.below g.below).cell (i := i + di) (j := k + dk) (by omega) (by omega)
            rw [← hcs, hcv] at this
            exact this
           have HNEW : Hid (bv < 0 ∨ cv + er < bv → cv + er = bst a b i k (j + 1)) := hd_ fun h => by
            rw [bst_new hok (by rw [← HB.out, hnv]; exact h), hnv]
           have HOLD : Hid (¬ bv < 0 → ¬ cv + er < bv → bv = bst a b i k (j + 1)) := hd_ fun h1 h2 => by
            rw [bst_old (by rw [← HB.out]; exact h1) (by rw [← HB.out, hnv]; exact h2), HB.out]
           clear hcs hcv hgo hst hok hnv HB
           clear hdi hdk her
           by_cases hb0 : bv < 0
           ·have hb1 : decide (bv < 0) = true := decide_eq_true hb0
            go_wp2_with (first | ((with_reducible refine wru ?_); (repeat (go_big_quiet_step (first | (go_at_call 135; exact uq_ (HC.out _))))); refine wqn fun nq => ?_))
            go_roundw
            case rel => exact ⟨j + 1, cv + er, by omega, by go_num, rfl, hd_ (HNEW.out (.inl hb0)), hd_ (HL.out.below bw_), hd_ (G.out.below bw_)⟩
            case measure => simp [intOf]; try omega
           ·have hb1 : decide (bv < 0) = false := decide_eq_false hb0
            by_cases hb2 : cv + er < bv
            ·have hb3 : decide (cv + er < bv) = true := decide_eq_true hb2
             go_wp2_with (first | ((with_reducible refine wru ?_); (repeat (go_big_quiet_step (first | (go_at_call 135; exact uq_ (HC.out _))))); refine wqn fun nq => ?_))
             go_roundw
             case rel => exact ⟨j + 1, cv + er, by omega, by go_num, rfl, hd_ (HNEW.out (.inr hb2)), hd_ (HL.out.below bw_), hd_ (G.out.below bw_)⟩
             case measure => simp [intOf]; try omega
            ·have hb3 : decide (cv + er < bv) = false := decide_eq_false hb2
             go_wp2_with (first | ((with_reducible refine wru ?_); (repeat (go_big_quiet_step (first | (go_at_call 135; exact uq_ (HC.out _))))); refine wqn fun nq => ?_))
             go_roundw
             case rel => exact ⟨j + 1, bv, by omega, by go_num, rfl, hd_ (HOLD.out hb0 hb2), hd_ (HL.out.below bw_), hd_ (G.out.below bw_)⟩
             case measure => simp [intOf]; try omega
        ·obtain rfl : j = 5 := by omega
         have hv5 := hd_ (show cst a b i k = max bv 0 by rw [cst_bst, HB.out])
         clear HB
         have g0 := G.out.row (i := i) (by omega) (by omega)
         have g1 := G.out.cell (i := i) (j := k) (by omega) (by omega)
         have g2 := G.out.free (i := i) (by omega) k
         have g3 := G.out.o.lt
         have g4 := (G.out.r i (by omega)).lt
         have hin : (i : Int) < (n : Int) + 1 := by omega
         have hkm : (k : Int) < (m : Int) + 1 := by omega
         go_wp2_with fail
         refine ⟨⟨k, (k : Int) - 1, by omega, rfl, rfl, hd_ ?_⟩, by simp [intOf]; try omega⟩
         have e : (if bv < 0 then 0 else bv) = cst a b i k := by rw [hv5.out]; split <;> omega
         first | rw [e] | rw [← hv5.out]
         exact (G.out.put (i := i) (j := k) (by omega) (cst a b i k)).congr fun x y _ _ => mtF_put a b i k x y
end Go.Proofs.YtbianlkenallaaaGreatDoor
