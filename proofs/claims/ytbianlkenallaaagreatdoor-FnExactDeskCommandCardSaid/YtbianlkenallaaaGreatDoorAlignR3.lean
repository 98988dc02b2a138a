/-
  The least numbers of errors of two texts and their least alignment: the reference's. The bounds stand at each.
-/
import Derived.Test.YtbianlkenallaaaGreatDoorMgD
set_option linter.all false
set_option maxHeartbeats 8000000
set_option maxRecDepth 10000
namespace Go.Proofs.YtbianlkenallaaaGreatDoor
open Go.RowKit
theorem min_anyA {a b v : Int} (hv : min a b = v) (w : World) :
 Calls Tryz.prog 220 #[i64 a, i64 b] w fun e w' => e = .returned (i64 v) ∧ w = w' := by
 subst hv
 go_enter Tryz.func220, Tryz.ntmps220
 go_wp2
 all_goals go_ret
 all_goals exact ⟨ret_int (by omega), rfl⟩
theorem ext_self (b : ByteArray) (i : Nat) : b.extract i i = ByteArray.empty := by simp
theorem l19Costs_any (a b : ByteArray) (w : World) (ha : a.size ≤ 60) (hb : b.size ≤ 60) :
 Calls Tryz.prog 197 #[.string a, .string b] w fun e w' => ∃ B Q, e = .returned (.slice (some ⟨B, 0, none⟩) (a.size + 1) (a.size + 1)) ∧ Ax w w' B a.size b.size 0 Q a b := by
 have hm1 : ∀ u : World, (Instr.makeSlice 211 (.int .i64 ((a.size : Int) + 1)) (.int .i64 ((a.size : Int) + 1))).run Tryz.prog u = .ok (.slice (some ⟨u.heap.size, 0, none⟩) (a.size + 1) (a.size + 1)) (u.alloc (.cells (rowD a.size b.size (fun _ => 0) (a.size + 1)) 28)) := fun u => mkS_rows u _ _ _ (by omega)
 have hm2 : ∀ u : World, (Instr.makeSlice 28 (.int .i64 ((b.size : Int) + 1)) (.int .i64 ((b.size : Int) + 1))).run Tryz.prog u = .ok (.slice (some ⟨u.heap.size, 0, none⟩) (b.size + 1) (b.size + 1)) (u.alloc (.cells (arrN b.size fun _ => 0) 2)) := fun u => mkS_row u _ (by omega)
 obtain ⟨n, hn⟩ := nm_ (a.size)
 obtain ⟨m, hm⟩ := nm_ (b.size)
 have HN := hd_ hn
 have HM := hd_ hm
 rw [hn] at hm1 ha
 rw [hm] at hm1 hm2 hb
 go_enter Tryz.func197, Tryz.ntmps197
 go_upto_region 4 with (fail)
 have HF := hd_ (show Ax w (w.alloc (.cells (rowD n m (fun _ => 0) (n + 1)) 28)) w.heap.size n m (n + 1) (fun _ => 0) a b from ⟨Blk.new _ _ _, fun i h1 h2 => by omega, uw_, Nat.le_refl _⟩)
 obtain ⟨B, hB⟩ := nm_ (w.heap.size)
 rw [hB] at HF
 rw [hB]
 clear hB hm1
 go_wp2_with fail
 go_loopw [8] (fun t8 wr => ∃ (I : Nat) (z : Int) (Q : Nat → Nat), I ≤ n + 1 ∧ t8 = .int .i64 z ∧ z = (I : Int) - 1 ∧ Hid (Ax w wr B n m I Q a b)) (fun t8 _ => (intOf t8 + 1).toNat)
 case atStart => exact ⟨n + 1, n, _, by omega, rfl, by omega, HF⟩
 case round =>
  obtain ⟨I, z, Q, hI, rfl, hz, E⟩ := hrel
  clear HF
  by_cases hI0 : I = 0
  ·obtain rfl : z = -1 := by omega
   subst hI0
   have hfin : Hid (Ax w wr B a.size b.size 0 Q a b) := hd_ (by rw [HN.out, HM.out]; exact E.out)
   clear hz hI E
   go_wp2_with fail
   go_ret
   exact ⟨B, Q, by rw [HN.out]; rfl, hfin.out⟩
  ·obtain ⟨i, rfl⟩ : ∃ i, I = i + 1 := ⟨I - 1, by omega⟩
   obtain rfl : z = (i : Int) := by omega
   have hi' : i ≤ n := by omega
   have hi1 : (0 : Int) ≤ (i : Int) := by omega
   clear hz hI0 hI
   go_upto_region 8 with (fail)
   have HC := hd_ E.out.fresh
   obtain ⟨R, hR⟩ := nm_ (wr.heap.size)
   rw [hR] at HC
   rw [hR]
   clear hR
   refine wpg (R := fun V => Hid (Cx w V B n m i Q R (m + 1) a b)) HC (fun V HC1 => ?_)
   clear HC E
   go_wp2_with fail
   go_loopw [10] (fun t10 wr => ∃ (K : Nat) (z : Int), K ≤ m + 1 ∧ t10 = .int .i64 z ∧ z = (K : Int) - 1 ∧ Hid (Cx w wr B n m i Q R K a b)) (fun t10 _ => (intOf t10 + 1).toNat)
   case atStart => exact ⟨m + 1, m, by omega, rfl, by omega, HC1⟩
   case round =>
    obtain ⟨K, z, hK, rfl, hz, F⟩ := hrel
    clear HC1
    by_cases hK0 : K = 0
    ·obtain rfl : z = -1 := by omega
     subst hK0
     have G := hd_ (F.out.done hi')
     have g1 := F.out.t.o.lt
     have g2 := F.out.t.o.free i
     have g3 : wr.cell? ⟨B, i, none⟩ = some (.slice none 0 0) := by rw [F.out.t.o.cell, rowD_get hi', if_neg (by omega)]
     have hin : (i : Int) < (n : Int) + 1 := by omega
     clear F hz hK
     go_wp2_with fail
     refine ⟨⟨i, (i : Int) - 1, _, by omega, rfl, rfl, G⟩, by simp [intOf]; try omega⟩
    ·obtain ⟨k, rfl⟩ : ∃ k, K = k + 1 := ⟨K - 1, by omega⟩
     obtain rfl : z = (k : Int) := by omega
     have hk' : k ≤ m := by omega
     have hk1 : (0 : Int) ≤ (k : Int) := by omega
     have hkm : (k : Int) < (m : Int) + 1 := by omega
     have hkm' : (k : Int) ≤ (m : Int) := by omega
     have hin' : (i : Int) ≤ (n : Int) := by omega
     have g4 := F.out.r.lt
     obtain ⟨u0, g1⟩ := F.out.at (j := k) hk'
     have g2 := F.out.r.free k
     have ht1 : ((i : Int) + 1).toNat = i + 1 := by omega
     have ht2 : ((k : Int) + 1).toNat = k + 1 := by omega
     have ht3 : ((i : Int) + 2).toNat = i + 2 := by omega
     have ht4 : ((k : Int) + 2).toNat = k + 2 := by omega
     clear hz hK0 hK hm2
     by_cases hi2 : i < n
     ·have hi3 : (i : Int) < (n : Int) := by omega
      have a0 := byteAt_eq (s := a) (i := i) (by omega)
      obtain ⟨v10, hv10⟩ := nm_ (cst a b (i + 1) (k))
      have v100 : 0 ≤ v10 := by rw [← hv10]; exact cst_nn _ _ _ _
      have v101 : v10 ≤ 120 := by
       have := cst_bd a b _ (i + 1) (k) rfl
       rw [hv10, hn, hm] at this
       omega
      have rv10 : ∀ g : Up wr, (up wr g).cell? ⟨B, i + 1, none⟩ = some (.slice (some ⟨Q (i + 1), 0, none⟩) (m + 1) (m + 1)) := fun g => (F.out.t.below g.below).row (by omega) (by omega)
      have xv10 : ∀ g : Up wr, (up wr g).cell? ⟨Q (i + 1), k, none⟩ = some (i64 v10) := fun g => by
       have := (F.out.t.below g.below).cell (i := i + 1) (j := k) (by omega) (by omega) (by omega)
       rw [hv10] at this
       exact this
      by_cases hk2 : k < m
      ·have hk3 : (k : Int) < (m : Int) := by omega
       have b0 := byteAt_eq (s := b) (i := k) (by omega)
       obtain ⟨v11, hv11⟩ := nm_ (cst a b (i + 1) (k + 1))
       have v110 : 0 ≤ v11 := by rw [← hv11]; exact cst_nn _ _ _ _
       have v111 : v11 ≤ 120 := by
        have := cst_bd a b _ (i + 1) (k + 1) rfl
        rw [hv11, hn, hm] at this
        omega
       have rv11 : ∀ g : Up wr, (up wr g).cell? ⟨B, i + 1, none⟩ = some (.slice (some ⟨Q (i + 1), 0, none⟩) (m + 1) (m + 1)) := fun g => (F.out.t.below g.below).row (by omega) (by omega)
       have xv11 : ∀ g : Up wr, (up wr g).cell? ⟨Q (i + 1), k + 1, none⟩ = some (i64 v11) := fun g => by
        have := (F.out.t.below g.below).cell (i := i + 1) (j := k + 1) (by omega) (by omega) (by omega)
        rw [hv11] at this
        exact this
       obtain ⟨v01, hv01⟩ := nm_ (cst a b (i) (k + 1))
       have v010 : 0 ≤ v01 := by rw [← hv01]; exact cst_nn _ _ _ _
       have v011 : v01 ≤ 120 := by
        have := cst_bd a b _ (i) (k + 1) rfl
        rw [hv01, hn, hm] at this
        omega
       have xR : ∀ g : Up wr, (up wr g).cell? ⟨R, k + 1, none⟩ = some (i64 v01) := fun g => by
        have := (F.out.below g.below).cell (j := k + 1) (by omega) (by omega)
        rw [hv01] at this
        exact this
       by_cases q : byteAt a i = byteAt b k
       ·have q1 : (((byteAt a i).toNat : Int) == ((byteAt b k).toNat : Int)) = true := by rw [byte_beq, decide_eq_true q]
        have q2 : (((byteAt a i).toNat : Int) != ((byteAt b k).toNat : Int)) = false := by rw [byte_bne, decide_eq_false (fun h => h q)]
        obtain ⟨hval, hs⟩ := cst_D2 (a := a) (b := b) (i := i) (k := k) (by omega) (by omega) q
        rw [hv11, hv10, hv01, hn, hm] at hval
        obtain ⟨b1, hb1⟩ := nm_ (min ((n : Int) + (m : Int)) (v11))
        have HM1 := hd_ (fun V => min_anyA hb1 V)
        obtain ⟨b2, hb2⟩ := nm_ (min (b1) (v10 + 1))
        have HM2 := hd_ (fun V => min_anyA hb2 V)
        obtain ⟨b3, hb3⟩ := nm_ (min (b2) (v01 + 1))
        have HM3 := hd_ (fun V => min_anyA hb3 V)
        rw [hb1, hb2, hb3] at hval
        have HV := hd_ hval.symm
        have HSW : Hid (∀ V, Calls Tryz.prog 221 #[.string (a.extract i n), .string (b.extract k m)] V fun e w' => e = .returned (.bool false) ∧ UpOf V w') := hd_ fun V => by
         have := l19Swap_any (rst a i) (rst b k) V (by rw [rst_size]; omega) (by rw [rst_size]; omega)
         rw [okAl_rst, hs, rst, rst, hn, hm] at this
         exact this
        clear q hval hs hb1 hb2 hb3 hv11 hv10 hv01
        go_wp2_with ((with_reducible refine wru ?_); refine wrz fun _ => ?_)
        refine cs_ (HM1.out _) ?_
        go_wp2_with ((with_reducible refine wru ?_); refine wrz fun _ => ?_)
        refine cs_ (HM2.out _) ?_
        go_wp2_with ((with_reducible refine wru ?_); refine wrz fun _ => ?_)
        refine cs_ (HM3.out _) ?_
        go_wp2_with (first | ((with_reducible refine wru ?_); (repeat (go_big_quiet_step (first | (go_at_call 221; exact uq_ (HSW.out _))))); refine wqn fun nq => ?_))
        have h9 : ∀ V, Below wr.heap.size wr V → Cx w (V.setCell ⟨R, k, none⟩ (i64 b3)) B _ _ i Q R k a b := fun V hV => by
         have := (F.out.below hV).put (k := k)
         rw [HV.out] at this
         exact this
        refine ⟨⟨k, (k : Int) - 1, by omega, rfl, rfl, hd_ ?_⟩, by simp [intOf]; try omega⟩
        exact h9 _ bw_
       ·have q1 : (((byteAt a i).toNat : Int) == ((byteAt b k).toNat : Int)) = false := by rw [byte_beq, decide_eq_false q]
        have q2 : (((byteAt a i).toNat : Int) != ((byteAt b k).toNat : Int)) = true := by rw [byte_bne, decide_eq_true q]
        obtain ⟨b1, hb1⟩ := nm_ (min ((n : Int) + (m : Int)) (v11 + 1))
        have HM1 := hd_ (fun V => min_anyA hb1 V)
        obtain ⟨b2, hb2⟩ := nm_ (min (b1) (v10 + 1))
        have HM2 := hd_ (fun V => min_anyA hb2 V)
        obtain ⟨b3, hb3⟩ := nm_ (min (b2) (v01 + 1))
        have HM3 := hd_ (fun V => min_anyA hb3 V)
        cases hs : okAl a b i k 4 with
        | false =>
          have hval := cst_D3 (a := a) (b := b) (i := i) (k := k) (by omega) (by omega) q hs
          rw [hv11, hv10, hv01, hn, hm, hb1, hb2, hb3] at hval
          have HV := hd_ hval.symm
          have HSW : Hid (∀ V, Calls Tryz.prog 221 #[.string (a.extract i n), .string (b.extract k m)] V fun e w' => e = .returned (.bool false) ∧ UpOf V w') := hd_ fun V => by
           have := l19Swap_any (rst a i) (rst b k) V (by rw [rst_size]; omega) (by rw [rst_size]; omega)
           rw [okAl_rst, hs, rst, rst, hn, hm] at this
           exact this
          clear q hval hs hb1 hb2 hb3 hv11 hv10 hv01
          go_wp2_with ((with_reducible refine wru ?_); refine wrz fun _ => ?_)
          refine cs_ (HM1.out _) ?_
          go_wp2_with ((with_reducible refine wru ?_); refine wrz fun _ => ?_)
          refine cs_ (HM2.out _) ?_
          go_wp2_with ((with_reducible refine wru ?_); refine wrz fun _ => ?_)
          refine cs_ (HM3.out _) ?_
          go_wp2_with (first | ((with_reducible refine wru ?_); (repeat (go_big_quiet_step (first | (go_at_call 221; exact uq_ (HSW.out _))))); refine wqn fun nq => ?_))
          have h9 : ∀ V, Below wr.heap.size wr V → Cx w (V.setCell ⟨R, k, none⟩ (i64 b3)) B _ _ i Q R k a b := fun V hV => by
           have := (F.out.below hV).put (k := k)
           rw [HV.out] at this
           exact this
          refine ⟨⟨k, (k : Int) - 1, by omega, rfl, rfl, hd_ ?_⟩, by simp [intOf]; try omega⟩
          exact h9 _ bw_
        | true =>
          have hgo := okAl_go hs (by omega)
          have hval := cst_D4 (a := a) (b := b) (i := i) (k := k) (by omega) (by omega) q hs
          have hi4 : i + 2 ≤ n := by have := hgo.2.1 (by omega); rw [hn] at this; exact this
          have hk4 : k + 2 ≤ m := by have := hgo.2.2 (by omega); rw [hm] at this; exact this
          have hi5 : (i : Int) + 2 < (n : Int) + 1 := by omega
          have hk5 : (k : Int) + 2 < (m : Int) + 1 := by omega
          obtain ⟨v22, hv22⟩ := nm_ (cst a b (i + 2) (k + 2))
          have v220 : 0 ≤ v22 := by rw [← hv22]; exact cst_nn _ _ _ _
          have v221 : v22 ≤ 120 := by
           have := cst_bd a b _ (i + 2) (k + 2) rfl
           rw [hv22, hn, hm] at this
           omega
          have rv22 : ∀ g : Up wr, (up wr g).cell? ⟨B, i + 2, none⟩ = some (.slice (some ⟨Q (i + 2), 0, none⟩) (m + 1) (m + 1)) := fun g => (F.out.t.below g.below).row (by omega) (by omega)
          have xv22 : ∀ g : Up wr, (up wr g).cell? ⟨Q (i + 2), k + 2, none⟩ = some (i64 v22) := fun g => by
           have := (F.out.t.below g.below).cell (i := i + 2) (j := k + 2) (by omega) (by omega) (by omega)
           rw [hv22] at this
           exact this
          obtain ⟨b4, hb4⟩ := nm_ (min (b3) (v22 + 1))
          have HM4 := hd_ (fun V => min_anyA hb4 V)
          rw [hv11, hv10, hv01, hv22, hn, hm, hb1, hb2, hb3, hb4] at hval
          have HV := hd_ hval.symm
          have HSW : Hid (∀ V, Calls Tryz.prog 221 #[.string (a.extract i n), .string (b.extract k m)] V fun e w' => e = .returned (.bool true) ∧ UpOf V w') := hd_ fun V => by
           have := l19Swap_any (rst a i) (rst b k) V (by rw [rst_size]; omega) (by rw [rst_size]; omega)
           rw [okAl_rst, hs, rst, rst, hn, hm] at this
           exact this
          clear q hval hs hb1 hb2 hb3 hb4 hv11 hv10 hv01 hv22 hgo
          go_wp2_with ((with_reducible refine wru ?_); refine wrz fun _ => ?_)
          refine cs_ (HM1.out _) ?_
          go_wp2_with ((with_reducible refine wru ?_); refine wrz fun _ => ?_)
          refine cs_ (HM2.out _) ?_
          go_wp2_with ((with_reducible refine wru ?_); refine wrz fun _ => ?_)
          refine cs_ (HM3.out _) ?_
          go_wp2_with (first | ((with_reducible refine wru ?_); (repeat (go_big_quiet_step (first | (go_at_call 221; exact uq_ (HSW.out _))))); refine wqn fun nq => ?_))
          refine cs_ (HM4.out _) ?_
          go_wp2_with fail
          have h9 : ∀ V, Below wr.heap.size wr V → Cx w (V.setCell ⟨R, k, none⟩ (i64 b4)) B _ _ i Q R k a b := fun V hV => by
           have := (F.out.below hV).put (k := k)
           rw [HV.out] at this
           exact this
          refine ⟨⟨k, (k : Int) - 1, by omega, rfl, rfl, hd_ ?_⟩, by simp [intOf]; try omega⟩
          exact h9 _ bw_
      ·obtain rfl : k = m := by omega
       have hk3 : ¬ (k : Int) < (k : Int) := by omega
       have hval := cst_C (a := a) (b := b) (i := i) (k := k) (by omega) hm.symm
       have hs : okAl a b i k 4 = false := by
        simp only [okAl, if_false, Nat.reduceEqDiff, decide_eq_false_iff_not]
        omega
       obtain ⟨b1, hb1⟩ := nm_ (min ((n : Int) + (k : Int)) (v10 + 1))
       have HM1 := hd_ (fun V => min_anyA hb1 V)
       rw [hv10, hn, hm, hb1] at hval
       have HV := hd_ hval.symm
       have HSW : Hid (∀ V, Calls Tryz.prog 221 #[.string (a.extract i n), .string ByteArray.empty] V fun e w' => e = .returned (.bool false) ∧ UpOf V w') := hd_ fun V => by
        have := l19Swap_any (rst a i) (rst b k) V (by rw [rst_size]; omega) (by rw [rst_size]; omega)
        rw [okAl_rst, hs, rst, rst, hn, hm, ext_self] at this
        exact this
       clear hval hs hb1 hv10 hk2
       go_wp2_with ((with_reducible refine wru ?_); refine wrz fun _ => ?_)
       refine cs_ (HM1.out _) ?_
       go_wp2_with (first | ((with_reducible refine wru ?_); (repeat (go_big_quiet_step (first | (go_at_call 221; exact uq_ (HSW.out _))))); refine wqn fun nq => ?_))
       have h9 : ∀ V, Below wr.heap.size wr V → Cx w (V.setCell ⟨R, k, none⟩ (i64 b1)) B _ _ i Q R k a b := fun V hV => by
        have := (F.out.below hV).put (k := k)
        rw [HV.out] at this
        exact this
       refine ⟨⟨k, (k : Int) - 1, by omega, rfl, rfl, hd_ ?_⟩, by simp [intOf]; try omega⟩
       exact h9 _ bw_
     ·obtain rfl : i = n := by omega
      have hi3 : ¬ (i : Int) < (i : Int) := by omega
      have hs : okAl a b i k 4 = false := by
       simp only [okAl, if_false, Nat.reduceEqDiff, decide_eq_false_iff_not]
       omega
      have HSW : Hid (∀ V, Calls Tryz.prog 221 #[.string ByteArray.empty, .string (b.extract k m)] V fun e w' => e = .returned (.bool false) ∧ UpOf V w') := hd_ fun V => by
       have := l19Swap_any (rst a i) (rst b k) V (by rw [rst_size]; omega) (by rw [rst_size]; omega)
       rw [okAl_rst, hs, rst, rst, hn, hm, ext_self] at this
       exact this
      by_cases hk2 : k < m
      ·have hk3 : (k : Int) < (m : Int) := by omega
       have hval := cst_B (a := a) (b := b) (i := i) (k := k) hn.symm (by omega)
       obtain ⟨v01, hv01⟩ := nm_ (cst a b (i) (k + 1))
       have v010 : 0 ≤ v01 := by rw [← hv01]; exact cst_nn _ _ _ _
       have v011 : v01 ≤ 120 := by
        have := cst_bd a b _ (i) (k + 1) rfl
        rw [hv01, hn, hm] at this
        omega
       have xR : ∀ g : Up wr, (up wr g).cell? ⟨R, k + 1, none⟩ = some (i64 v01) := fun g => by
        have := (F.out.below g.below).cell (j := k + 1) (by omega) (by omega)
        rw [hv01] at this
        exact this
       obtain ⟨b1, hb1⟩ := nm_ (min ((i : Int) + (m : Int)) (v01 + 1))
       have HM1 := hd_ (fun V => min_anyA hb1 V)
       rw [hv01, hn, hm, hb1] at hval
       have HV := hd_ hval.symm
       clear hval hs hb1 hv01
       go_wp2_with ((with_reducible refine wru ?_); refine wrz fun _ => ?_)
       refine cs_ (HM1.out _) ?_
       go_wp2_with (first | ((with_reducible refine wru ?_); (repeat (go_big_quiet_step (first | (go_at_call 221; exact uq_ (HSW.out _))))); refine wqn fun nq => ?_))
       have h9 : ∀ V, Below wr.heap.size wr V → Cx w (V.setCell ⟨R, k, none⟩ (i64 b1)) B _ _ i Q R k a b := fun V hV => by
        have := (F.out.below hV).put (k := k)
        rw [HV.out] at this
        exact this
       refine ⟨⟨k, (k : Int) - 1, by omega, rfl, rfl, hd_ ?_⟩, by simp [intOf]; try omega⟩
       exact h9 _ bw_
      ·obtain rfl : k = m := by omega
       have hk3 : ¬ (k : Int) < (k : Int) := by omega
       have HV := hd_ (show cst a b i k = 0 from cst_end (by omega))
       have HSW2 : Hid (∀ V, Calls Tryz.prog 221 #[.string ByteArray.empty, .string ByteArray.empty] V fun e w' => e = .returned (.bool false) ∧ UpOf V w') := hd_ fun V => by
        have := HSW.out V
        rw [ext_self] at this
        exact this
       clear hs
       go_wp2_with (first | ((with_reducible refine wru ?_); (repeat (go_big_quiet_step (first | (go_at_call 221; exact uq_ (HSW2.out _))))); refine wqn fun nq => ?_))
       have h9 : ∀ V, Below wr.heap.size wr V → Cx w (V.setCell ⟨R, k, none⟩ (i64 0)) B _ _ i Q R k a b := fun V hV => by
        have := (F.out.below hV).put (k := k)
        rw [HV.out] at this
        exact this
       refine ⟨⟨k, (k : Int) - 1, by omega, rfl, rfl, hd_ ?_⟩, by simp [intOf]; try omega⟩
       exact h9 _ bw_
end Go.Proofs.YtbianlkenallaaaGreatDoor
