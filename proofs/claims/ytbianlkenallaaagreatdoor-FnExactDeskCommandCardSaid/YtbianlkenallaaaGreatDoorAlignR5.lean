/-
  The least alignment of two texts: the reference's. The bounds stand at each.
-/
import Derived.Test.YtbianlkenallaaaGreatDoorAlignR3
import Derived.Test.YtbianlkenallaaaGreatDoorAlign3
set_option linter.all false
set_option maxHeartbeats 8000000
set_option maxRecDepth 10000
namespace Go.Proofs.YtbianlkenallaaaGreatDoor
open Go.RowKit
theorem tight_no {a b : ByteArray} {i k j : Nat} (h : okAl a b i k j = false) : tight a b i k j = false := by rw [tight, h, Bool.false_and]
theorem tight_of {a b : ByteArray} {i k j : Nat} {v c : Int} (h : okAl a b i k j = true) (hv : cst a b (i + sdi j) (k + sdk j) + ser j = v) (hc : cst a b i k = c) : tight a b i k j = decide (v = c) := by rw [tight, h, Bool.true_and, hv, hc]
theorem ng1 {P : Nat → Prop} (h0 : P 0) : ∀ x, x < 1 → P x := fun x hx => by
 obtain rfl : x = 0 := by omega
 exact h0
theorem ng2 {P : Nat → Prop} (h0 : P 0) (h1 : P 1) : ∀ x, x < 2 → P x := fun x hx => by
 by_cases e : x = 1
 ·rw [e]; exact h1
 ·exact ng1 h0 x (by omega)
theorem ng3 {P : Nat → Prop} (h0 : P 0) (h1 : P 1) (h2 : P 2) : ∀ x, x < 3 → P x := fun x hx => by
 by_cases e : x = 2
 ·rw [e]; exact h2
 ·exact ng2 h0 h1 x (by omega)
theorem ng4 {P : Nat → Prop} (h0 : P 0) (h1 : P 1) (h2 : P 2) (h3 : P 3) : ∀ x, x < 4 → P x := fun x hx => by
 by_cases e : x = 3
 ·rw [e]; exact h3
 ·exact ng3 h0 h1 h2 x (by omega)
theorem al_next {a b : ByteArray} {i k i2 k2 j : Nat} {L : List UInt8} (hp : alnA a b i k = stB j :: alnA a b i2 k2) (h : L.length + (alnA a b i k).length ≤ 120 ∧ alnA a b 0 0 = L ++ alnA a b i k) : (L ++ [stB j]).length + (alnA a b i2 k2).length ≤ 120 ∧ alnA a b 0 0 = (L ++ [stB j]) ++ alnA a b i2 k2 := by
 obtain ⟨h1, h2⟩ := h
 rw [hp] at h1 h2
 rw [List.length_cons] at h1
 exact ⟨by rw [List.length_append]; simp; omega, by rw [h2, List.append_assoc]; rfl⟩
theorem al_own {w : World} {q c : Nat} {L : List UInt8} {A : Option Addr} {v : Value} {j : Nat} (h : w.ownsRow q 5 1 (.slice A (L.length + 1) c) (L.length + 1) (Lib.byteCells L ++ [v])) (hv : [v] = Lib.byteCells [stB j]) : w.ownsRow q 5 1 (.slice A (L ++ [stB j]).length c) (L ++ [stB j]).length (Lib.byteCells (L ++ [stB j])) := by
 rw [hv, byteCells_snoc, show L.length + 1 = (L ++ [stB j]).length by simp] at h
 exact h
theorem l19Align_any (a b : ByteArray) (w : World) (ha : a.size ≤ 60) (hb : b.size ≤ 60) :
 Calls Tryz.prog 185 #[.string a, .string b] w fun e w' => e = .returned (.string (bs (alnA a b 0 0))) ∧ UpOf w w' := by
 have HLF : Hid (∀ V, Calls Tryz.prog 197 #[.string a, .string b] V fun e w' => ∃ B Q, e = .returned (.slice (some ⟨B, 0, none⟩) (a.size + 1) (a.size + 1)) ∧ Ax V w' B a.size b.size 0 Q a b) := hd_ fun V => l19Costs_any a b V ha hb
 obtain ⟨n, hn⟩ := nm_ (a.size)
 obtain ⟨m, hm⟩ := nm_ (b.size)
 have HN := hd_ hn
 have HM := hd_ hm
 rw [hn] at ha
 rw [hm] at hb
 go_enter Tryz.func185, Tryz.ntmps185
 go_wp2_with fail
 refine (HLF.out _).mono ?_
 rintro e w' ⟨B, Q, rfl, HT⟩
 have HU := hd_ HT.u
 have HT := hd_ (show Ax w w' B n m 0 Q a b from by rw [HN.out, HM.out] at HT; exact HT)
 clear HLF
 have HOW : Hid ((w'.alloc (.cells #[] 5)).ownsRow w'.heap.size 5 1 (.slice (some ⟨w'.heap.size, 0, none⟩) 0 0) 0 (Lib.byteCells [])) := hd_
  (World.ownsRow_lit (base := w'.heap.size) (e := 5) (size := 1) w' #[] 0 (Nat.le_refl _) (by unfold maxLen; omega) rfl)
 go_wp2_with fail
 go_loopw [6, 7, 8] (fun t6 t7 t8 wr => ∃ (i k : Nat) (L : List UInt8) (A1 : Option Addr) (c1 : Nat), i ≤ n ∧ k ≤ m ∧ t7 = i64 i ∧ t8 = i64 k ∧ t6 = .slice A1 L.length c1 ∧ Hid (L.length + (alnA a b i k).length ≤ 120 ∧ alnA a b 0 0 = L ++ alnA a b i k) ∧ Hid (wr.ownsRow w'.heap.size 5 1 (.slice A1 L.length c1) L.length (Lib.byteCells L)) ∧ ∃ g : Up w', wr = up w' g) (fun _ t7 t8 _ => (n - (intOf t7).toNat) + (m - (intOf t8).toNat))
 case atStart => exact ⟨0, 0, [], _, _, by omega, by omega, rfl, rfl, rfl, hd_ ⟨by have := alnA_len a b 0 0; rw [HN.out, HM.out] at this; simp; omega, rfl⟩, HOW, ex_up bw_⟩
 case round =>
  obtain ⟨i, k, L, A1, c1, hi, hk, rfl, rfl, rfl, HK, HO, g1, rfl⟩ := hrel
  clear HOW
  have hT : True := trivial
  by_cases hend : i < n ∨ k < m
  ·have hi0 : (0 : Int) ≤ (i : Int) := by omega
   have hk0 : (0 : Int) ≤ (k : Int) := by omega
   have hi5 : (i : Int) < (n : Int) + 1 := by omega
   have hk5 : (k : Int) < (m : Int) + 1 := by omega
   have ht1 : ((i : Int) + 1).toNat = i + 1 := by omega
   have ht2 : ((k : Int) + 1).toNat = k + 1 := by omega
   obtain ⟨c0, hc0⟩ := nm_ (cst a b (i) (k))
   have c00 : 0 ≤ c0 := by rw [← hc0]; exact cst_nn _ _ _ _
   have c01 : c0 ≤ 120 := by
    have := cst_bd a b _ (i) (k) rfl
    rw [hc0, hn, hm] at this
    omega
   have rc0 : ∀ g : Up w', (up w' g).cell? ⟨B, i, none⟩ = some (.slice (some ⟨Q (i), 0, none⟩) (m + 1) (m + 1)) := fun g => (HT.out.below g.below).row (by omega) (by omega)
   have xc0 : ∀ g : Up w', (up w' g).cell? ⟨Q (i), k, none⟩ = some (i64 c0) := fun g => by
    have := (HT.out.below g.below).cell (i := i) (j := k) (by omega) (by omega) (by omega)
    rw [hc0] at this
    exact this
   have HEND := hd_ hend
   by_cases hi2 : i < n
   ·have hi3 : (i : Int) < (n : Int) := by omega
    obtain ⟨v10, hv10⟩ := nm_ (cst a b (i + 1) (k))
    have v100 : 0 ≤ v10 := by rw [← hv10]; exact cst_nn _ _ _ _
    have v101 : v10 ≤ 120 := by
     have := cst_bd a b _ (i + 1) (k) rfl
     rw [hv10, hn, hm] at this
     omega
    have rv10 : ∀ g : Up w', (up w' g).cell? ⟨B, i + 1, none⟩ = some (.slice (some ⟨Q (i + 1), 0, none⟩) (m + 1) (m + 1)) := fun g => (HT.out.below g.below).row (by omega) (by omega)
    have xv10 : ∀ g : Up w', (up w' g).cell? ⟨Q (i + 1), k, none⟩ = some (i64 v10) := fun g => by
     have := (HT.out.below g.below).cell (i := i + 1) (j := k) (by omega) (by omega) (by omega)
     rw [hv10] at this
     exact this
    have o1 : okAl a b i k 1 = true := by simp [okAl, hn, hi2]
    have t1 := tight_of (j := 1) (v := v10 + 1) o1 (by rw [← hv10]; rfl) hc0
    by_cases hk2 : k < m
    ·have hk3 : (k : Int) < (m : Int) := by omega
     obtain ⟨v01, hv01⟩ := nm_ (cst a b (i) (k + 1))
     have v010 : 0 ≤ v01 := by rw [← hv01]; exact cst_nn _ _ _ _
     have v011 : v01 ≤ 120 := by
      have := cst_bd a b _ (i) (k + 1) rfl
      rw [hv01, hn, hm] at this
      omega
     have rv01 : ∀ g : Up w', (up w' g).cell? ⟨B, i, none⟩ = some (.slice (some ⟨Q (i), 0, none⟩) (m + 1) (m + 1)) := fun g => (HT.out.below g.below).row (by omega) (by omega)
     have xv01 : ∀ g : Up w', (up w' g).cell? ⟨Q (i), k + 1, none⟩ = some (i64 v01) := fun g => by
      have := (HT.out.below g.below).cell (i := i) (j := k + 1) (by omega) (by omega) (by omega)
      rw [hv01] at this
      exact this
     have o0 : okAl a b i k 0 = true := by simp [okAl, hm, hk2]
     have t0 := tight_of (j := 0) (v := v01 + 1) o0 (by rw [← hv01]; rfl) hc0
     by_cases q0 : v01 + 1 = c0
     ·have q0' : (v01 + 1 == c0) = true := by rw [beq_iff_eq]; exact q0
      have TJ := hd_ (show tight a b i k 0 = true by rw [t0, decide_eq_true q0])
      clear t0 t1 o0 o1 q0 hc0 hv10 hv01
      have hps : Hid (alnA a b i k = stB 0 :: alnA a b (i) (k + 1)) := hd_ (alnA_step (by rw [hn, hm]; exact hend) (fstS_at (by omega) (fun x hx => by omega) TJ.out))
      have hL : L.length ≤ 120 := by
       have h1 := HK.out.1
       rw [hps.out, List.length_cons] at h1
       omega
      clear hT
      go_wp2_with (first | (at_builtin; go_must (refine wpl_appU rfl _ _ 22 rfl w' w'.heap.size 5 _ 1 1 el_byte (.slice A1 L.length c1) L.length (Lib.byteCells L) rfl (ob_ HO.out bw_) _ 1 1 [.int .u8 43] rfl (rds_new _ #[.int .u8 43] _ 1 1 rfl) (fun u hu => by simp at hu; subst hu; rfl) (by unfold maxLen; omega) (by omega) (show Below w'.heap.size w' _ from bw_).size bw_ (Nat.le_refl _) ?_; intro A2 c2 g2 o2)) | ((with_reducible refine wru ?_); refine wrz fun _ => ?_))
      refine ⟨⟨i, k + 1, L ++ [stB 0], A2, c2, by omega, by omega, by go_num, by go_num, congrArg (fun n => Value.slice A2 n c2) (by simp), hd_ (al_next hps.out HK.out), hd_ (al_own o2 rfl), ex_up bw_⟩, by simp [intOf]; omega⟩
     ·have q0' : (v01 + 1 == c0) = false := by rw [beq_eq_false_iff_ne]; exact q0
      have T0 := hd_ (show tight a b i k 0 = false by rw [t0, decide_eq_false q0])
      clear t0 o0 q0 hv01
      by_cases q1 : v10 + 1 = c0
      ·have q1' : (v10 + 1 == c0) = true := by rw [beq_iff_eq]; exact q1
       have TJ := hd_ (show tight a b i k 1 = true by rw [t1, decide_eq_true q1])
       clear t1 o1 q1 hc0 hv10
       have hps : Hid (alnA a b i k = stB 1 :: alnA a b (i + 1) (k)) := hd_ (alnA_step (by rw [hn, hm]; exact hend) (fstS_at (by omega) (ng1 (P := fun x => tight a b i k x = false) T0.out) TJ.out))
       have hL : L.length ≤ 120 := by
        have h1 := HK.out.1
        rw [hps.out, List.length_cons] at h1
        omega
       clear hT
       go_wp2_with (first | (at_builtin; go_must (refine wpl_appU rfl _ _ 22 rfl w' w'.heap.size 5 _ 1 1 el_byte (.slice A1 L.length c1) L.length (Lib.byteCells L) rfl (ob_ HO.out bw_) _ 1 1 [.int .u8 45] rfl (rds_new _ #[.int .u8 45] _ 1 1 rfl) (fun u hu => by simp at hu; subst hu; rfl) (by unfold maxLen; omega) (by omega) (show Below w'.heap.size w' _ from bw_).size bw_ (Nat.le_refl _) ?_; intro A2 c2 g2 o2)) | ((with_reducible refine wru ?_); refine wrz fun _ => ?_))
       refine ⟨⟨i + 1, k, L ++ [stB 1], A2, c2, by omega, by omega, by go_num, by go_num, congrArg (fun n => Value.slice A2 n c2) (by simp), hd_ (al_next hps.out HK.out), hd_ (al_own o2 rfl), ex_up bw_⟩, by simp [intOf]; omega⟩
      ·have q1' : (v10 + 1 == c0) = false := by rw [beq_eq_false_iff_ne]; exact q1
       have T1 := hd_ (show tight a b i k 1 = false by rw [t1, decide_eq_false q1])
       clear t1 o1 q1 hv10
       have a0 := byteAt_eq (s := a) (i := i) (by omega)
       have b0 := byteAt_eq (s := b) (i := k) (by omega)
       obtain ⟨v11, hv11⟩ := nm_ (cst a b (i + 1) (k + 1))
       have v110 : 0 ≤ v11 := by rw [← hv11]; exact cst_nn _ _ _ _
       have v111 : v11 ≤ 120 := by
        have := cst_bd a b _ (i + 1) (k + 1) rfl
        rw [hv11, hn, hm] at this
        omega
       have rv11 : ∀ g : Up w', (up w' g).cell? ⟨B, i + 1, none⟩ = some (.slice (some ⟨Q (i + 1), 0, none⟩) (m + 1) (m + 1)) := fun g => (HT.out.below g.below).row (by omega) (by omega)
       have xv11 : ∀ g : Up w', (up w' g).cell? ⟨Q (i + 1), k + 1, none⟩ = some (i64 v11) := fun g => by
        have := (HT.out.below g.below).cell (i := i + 1) (j := k + 1) (by omega) (by omega) (by omega)
        rw [hv11] at this
        exact this
       by_cases q : byteAt a i = byteAt b k
       ·have q2 : (((byteAt a i).toNat : Int) == ((byteAt b k).toNat : Int)) = true := by rw [byte_beq, decide_eq_true q]
        have q3 : (((byteAt a i).toNat : Int) != ((byteAt b k).toNat : Int)) = false := by rw [byte_bne, decide_eq_false (fun h => h q)]
        have t2 := tight_of (j := 2) (v := v11) (show okAl a b i k 2 = true by simp [okAl, hn, hm, hi2, hk2, q]) (by rw [← hv11]; simp [sdi, sdk, ser]) hc0
        have T3 := hd_ (tight_no (j := 3) (show okAl a b i k 3 = false by simp [okAl, q]))
        by_cases q4 : v11 = c0
        ·have q4' : (v11 == c0) = true := by rw [beq_iff_eq]; exact q4
         have TJ := hd_ (show tight a b i k 2 = true by rw [t2, decide_eq_true q4])
         clear t2 q q4 hc0 hv11 T3
         have hps : Hid (alnA a b i k = stB 2 :: alnA a b (i + 1) (k + 1)) := hd_ (alnA_step (by rw [hn, hm]; exact hend) (fstS_at (by omega) (ng2 (P := fun x => tight a b i k x = false) T0.out T1.out) TJ.out))
         have hL : L.length ≤ 120 := by
          have h1 := HK.out.1
          rw [hps.out, List.length_cons] at h1
          omega
         clear hT
         go_wp2_with (first | (at_builtin; go_must (refine wpl_appU rfl _ _ 22 rfl w' w'.heap.size 5 _ 1 1 el_byte (.slice A1 L.length c1) L.length (Lib.byteCells L) rfl (ob_ HO.out bw_) _ 1 1 [.int .u8 61] rfl (rds_new _ #[.int .u8 61] _ 1 1 rfl) (fun u hu => by simp at hu; subst hu; rfl) (by unfold maxLen; omega) (by omega) (show Below w'.heap.size w' _ from bw_).size bw_ (Nat.le_refl _) ?_; intro A2 c2 g2 o2)) | ((with_reducible refine wru ?_); refine wrz fun _ => ?_))
         refine ⟨⟨i + 1, k + 1, L ++ [stB 2], A2, c2, by omega, by omega, by go_num, by go_num, congrArg (fun n => Value.slice A2 n c2) (by simp), hd_ (al_next hps.out HK.out), hd_ (al_own o2 rfl), ex_up bw_⟩, by simp [intOf]; omega⟩
        ·have T2 := hd_ (show tight a b i k 2 = false by rw [t2, decide_eq_false q4])
         have T4 := hd_ (tight_no (cst_D2 (a := a) (b := b) (i := i) (k := k) (by omega) (by omega) q).2)
         exfalso
         obtain ⟨x9, hx9, ht9⟩ := tight_ex (a := a) (b := b) (i := i) (k := k) (by rw [hn, hm]; exact hend)
         have h5 : x9 = 0 ∨ x9 = 1 ∨ x9 = 2 ∨ x9 = 3 ∨ x9 = 4 := by omega
         rcases h5 with rfl | rfl | rfl | rfl | rfl
         ·rw [T0.out] at ht9; cases ht9
         ·rw [T1.out] at ht9; cases ht9
         ·rw [T2.out] at ht9; cases ht9
         ·rw [T3.out] at ht9; cases ht9
         ·rw [T4.out] at ht9; cases ht9
       ·have q2 : (((byteAt a i).toNat : Int) == ((byteAt b k).toNat : Int)) = false := by rw [byte_beq, decide_eq_false q]
        have q3 : (((byteAt a i).toNat : Int) != ((byteAt b k).toNat : Int)) = true := by rw [byte_bne, decide_eq_true q]
        have t3 := tight_of (j := 3) (v := v11 + 1) (show okAl a b i k 3 = true by simp [okAl, hn, hm, hi2, hk2, q]) (by rw [← hv11]; simp [sdi, sdk, ser]) hc0
        have T2 := hd_ (tight_no (j := 2) (show okAl a b i k 2 = false by simp [okAl, q]))
        by_cases q4 : v11 + 1 = c0
        ·have q4' : (v11 + 1 == c0) = true := by rw [beq_iff_eq]; exact q4
         have TJ := hd_ (show tight a b i k 3 = true by rw [t3, decide_eq_true q4])
         clear t3 q q4 hc0 hv11
         have hps : Hid (alnA a b i k = stB 3 :: alnA a b (i + 1) (k + 1)) := hd_ (alnA_step (by rw [hn, hm]; exact hend) (fstS_at (by omega) (ng3 (P := fun x => tight a b i k x = false) T0.out T1.out T2.out) TJ.out))
         have hL : L.length ≤ 120 := by
          have h1 := HK.out.1
          rw [hps.out, List.length_cons] at h1
          omega
         clear hT
         go_wp2_with (first | (at_builtin; go_must (refine wpl_appU rfl _ _ 22 rfl w' w'.heap.size 5 _ 1 1 el_byte (.slice A1 L.length c1) L.length (Lib.byteCells L) rfl (ob_ HO.out bw_) _ 1 1 [.int .u8 120] rfl (rds_new _ #[.int .u8 120] _ 1 1 rfl) (fun u hu => by simp at hu; subst hu; rfl) (by unfold maxLen; omega) (by omega) (show Below w'.heap.size w' _ from bw_).size bw_ (Nat.le_refl _) ?_; intro A2 c2 g2 o2)) | ((with_reducible refine wru ?_); refine wrz fun _ => ?_))
         refine ⟨⟨i + 1, k + 1, L ++ [stB 3], A2, c2, by omega, by omega, by go_num, by go_num, congrArg (fun n => Value.slice A2 n c2) (by simp), hd_ (al_next hps.out HK.out), hd_ (al_own o2 rfl), ex_up bw_⟩, by simp [intOf]; omega⟩
        ·have q4' : (v11 + 1 == c0) = false := by rw [beq_eq_false_iff_ne]; exact q4
         have T3 := hd_ (show tight a b i k 3 = false by rw [t3, decide_eq_false q4])
         cases h4 : tight a b i k 4 with
         | false =>
           have T4 := hd_ h4
           exfalso
           obtain ⟨x9, hx9, ht9⟩ := tight_ex (a := a) (b := b) (i := i) (k := k) (by rw [hn, hm]; exact hend)
           have h5 : x9 = 0 ∨ x9 = 1 ∨ x9 = 2 ∨ x9 = 3 ∨ x9 = 4 := by omega
           rcases h5 with rfl | rfl | rfl | rfl | rfl
           ·rw [T0.out] at ht9; cases ht9
           ·rw [T1.out] at ht9; cases ht9
           ·rw [T2.out] at ht9; cases ht9
           ·rw [T3.out] at ht9; cases ht9
           ·rw [T4.out] at ht9; cases ht9
         | true =>
           have TJ := hd_ h4
           rw [tight, Bool.and_eq_true] at h4
           have h5 := (okAl_go h4.1 (by omega)).2
           have hi6 : i + 2 ≤ n := by have := h5.1 (by omega); rw [hn] at this; exact this
           have hk6 : k + 2 ≤ m := by have := h5.2 (by omega); rw [hm] at this; exact this
           clear t3 q q4 hc0 hv11 h4 h5
           have hps : Hid (alnA a b i k = stB 4 :: alnA a b (i + 2) (k + 2)) := hd_ (alnA_step (by rw [hn, hm]; exact hend) (fstS_at (by omega) (ng4 (P := fun x => tight a b i k x = false) T0.out T1.out T2.out T3.out) TJ.out))
           have hL : L.length ≤ 120 := by
            have h1 := HK.out.1
            rw [hps.out, List.length_cons] at h1
            omega
           clear hT
           go_wp2_with (first | (at_builtin; go_must (refine wpl_appU rfl _ _ 22 rfl w' w'.heap.size 5 _ 1 1 el_byte (.slice A1 L.length c1) L.length (Lib.byteCells L) rfl (ob_ HO.out bw_) _ 1 1 [.int .u8 126] rfl (rds_new _ #[.int .u8 126] _ 1 1 rfl) (fun u hu => by simp at hu; subst hu; rfl) (by unfold maxLen; omega) (by omega) (show Below w'.heap.size w' _ from bw_).size bw_ (Nat.le_refl _) ?_; intro A2 c2 g2 o2)) | ((with_reducible refine wru ?_); refine wrz fun _ => ?_))
           refine ⟨⟨i + 2, k + 2, L ++ [stB 4], A2, c2, by omega, by omega, by go_num, by go_num, congrArg (fun n => Value.slice A2 n c2) (by simp), hd_ (al_next hps.out HK.out), hd_ (al_own o2 rfl), ex_up bw_⟩, by simp [intOf]; omega⟩
    ·have hk3 : ¬ (k : Int) < (m : Int) := by omega
     have T0 := hd_ (tight_no (j := 0) (show okAl a b i k 0 = false by simp [okAl, hm]; omega))
     by_cases q1 : v10 + 1 = c0
     ·have q1' : (v10 + 1 == c0) = true := by rw [beq_iff_eq]; exact q1
      have TJ := hd_ (show tight a b i k 1 = true by rw [t1, decide_eq_true q1])
      clear t1 o1 q1 hc0 hv10
      have hps : Hid (alnA a b i k = stB 1 :: alnA a b (i + 1) (k)) := hd_ (alnA_step (by rw [hn, hm]; exact hend) (fstS_at (by omega) (ng1 (P := fun x => tight a b i k x = false) T0.out) TJ.out))
      have hL : L.length ≤ 120 := by
       have h1 := HK.out.1
       rw [hps.out, List.length_cons] at h1
       omega
      clear hT
      go_wp2_with (first | (at_builtin; go_must (refine wpl_appU rfl _ _ 22 rfl w' w'.heap.size 5 _ 1 1 el_byte (.slice A1 L.length c1) L.length (Lib.byteCells L) rfl (ob_ HO.out bw_) _ 1 1 [.int .u8 45] rfl (rds_new _ #[.int .u8 45] _ 1 1 rfl) (fun u hu => by simp at hu; subst hu; rfl) (by unfold maxLen; omega) (by omega) (show Below w'.heap.size w' _ from bw_).size bw_ (Nat.le_refl _) ?_; intro A2 c2 g2 o2)) | ((with_reducible refine wru ?_); refine wrz fun _ => ?_))
      refine ⟨⟨i + 1, k, L ++ [stB 1], A2, c2, by omega, by omega, by go_num, by go_num, congrArg (fun n => Value.slice A2 n c2) (by simp), hd_ (al_next hps.out HK.out), hd_ (al_own o2 rfl), ex_up bw_⟩, by simp [intOf]; omega⟩
     ·have T1 := hd_ (show tight a b i k 1 = false by rw [t1, decide_eq_false q1])
      have T2 := hd_ (tight_no (j := 2) (show okAl a b i k 2 = false by simp [okAl, hm]; omega))
      have T3 := hd_ (tight_no (j := 3) (show okAl a b i k 3 = false by simp [okAl, hm]; omega))
      have T4 := hd_ (tight_no (j := 4) (show okAl a b i k 4 = false by simp [okAl, hm]; omega))
      exfalso
      obtain ⟨x9, hx9, ht9⟩ := tight_ex (a := a) (b := b) (i := i) (k := k) (by rw [hn, hm]; exact hend)
      have h5 : x9 = 0 ∨ x9 = 1 ∨ x9 = 2 ∨ x9 = 3 ∨ x9 = 4 := by omega
      rcases h5 with rfl | rfl | rfl | rfl | rfl
      ·rw [T0.out] at ht9; cases ht9
      ·rw [T1.out] at ht9; cases ht9
      ·rw [T2.out] at ht9; cases ht9
      ·rw [T3.out] at ht9; cases ht9
      ·rw [T4.out] at ht9; cases ht9
   ·have hi3 : ¬ (i : Int) < (n : Int) := by omega
    have hk2 : k < m := by omega
    have hk3 : (k : Int) < (m : Int) := by omega
    obtain ⟨v01, hv01⟩ := nm_ (cst a b (i) (k + 1))
    have v010 : 0 ≤ v01 := by rw [← hv01]; exact cst_nn _ _ _ _
    have v011 : v01 ≤ 120 := by
     have := cst_bd a b _ (i) (k + 1) rfl
     rw [hv01, hn, hm] at this
     omega
    have rv01 : ∀ g : Up w', (up w' g).cell? ⟨B, i, none⟩ = some (.slice (some ⟨Q (i), 0, none⟩) (m + 1) (m + 1)) := fun g => (HT.out.below g.below).row (by omega) (by omega)
    have xv01 : ∀ g : Up w', (up w' g).cell? ⟨Q (i), k + 1, none⟩ = some (i64 v01) := fun g => by
     have := (HT.out.below g.below).cell (i := i) (j := k + 1) (by omega) (by omega) (by omega)
     rw [hv01] at this
     exact this
    have o0 : okAl a b i k 0 = true := by simp [okAl, hm, hk2]
    have t0 := tight_of (j := 0) (v := v01 + 1) o0 (by rw [← hv01]; rfl) hc0
    by_cases q0 : v01 + 1 = c0
    ·have q0' : (v01 + 1 == c0) = true := by rw [beq_iff_eq]; exact q0
     have TJ := hd_ (show tight a b i k 0 = true by rw [t0, decide_eq_true q0])
     clear t0 o0 q0 hc0 hv01
     have hps : Hid (alnA a b i k = stB 0 :: alnA a b (i) (k + 1)) := hd_ (alnA_step (by rw [hn, hm]; exact hend) (fstS_at (by omega) (fun x hx => by omega) TJ.out))
     have hL : L.length ≤ 120 := by
      have h1 := HK.out.1
      rw [hps.out, List.length_cons] at h1
      omega
     clear hT
     go_wp2_with (first | (at_builtin; go_must (refine wpl_appU rfl _ _ 22 rfl w' w'.heap.size 5 _ 1 1 el_byte (.slice A1 L.length c1) L.length (Lib.byteCells L) rfl (ob_ HO.out bw_) _ 1 1 [.int .u8 43] rfl (rds_new _ #[.int .u8 43] _ 1 1 rfl) (fun u hu => by simp at hu; subst hu; rfl) (by unfold maxLen; omega) (by omega) (show Below w'.heap.size w' _ from bw_).size bw_ (Nat.le_refl _) ?_; intro A2 c2 g2 o2)) | ((with_reducible refine wru ?_); refine wrz fun _ => ?_))
     refine ⟨⟨i, k + 1, L ++ [stB 0], A2, c2, by omega, by omega, by go_num, by go_num, congrArg (fun n => Value.slice A2 n c2) (by simp), hd_ (al_next hps.out HK.out), hd_ (al_own o2 rfl), ex_up bw_⟩, by simp [intOf]; omega⟩
    ·have T0 := hd_ (show tight a b i k 0 = false by rw [t0, decide_eq_false q0])
     have T1 := hd_ (tight_no (j := 1) (show okAl a b i k 1 = false by simp [okAl, hn]; omega))
     have T2 := hd_ (tight_no (j := 2) (show okAl a b i k 2 = false by simp [okAl, hn]; omega))
     have T3 := hd_ (tight_no (j := 3) (show okAl a b i k 3 = false by simp [okAl, hn]; omega))
     have T4 := hd_ (tight_no (j := 4) (show okAl a b i k 4 = false by simp [okAl, hn]; omega))
     exfalso
     obtain ⟨x9, hx9, ht9⟩ := tight_ex (a := a) (b := b) (i := i) (k := k) (by rw [hn, hm]; exact hend)
     have h5 : x9 = 0 ∨ x9 = 1 ∨ x9 = 2 ∨ x9 = 3 ∨ x9 = 4 := by omega
     rcases h5 with rfl | rfl | rfl | rfl | rfl
     ·rw [T0.out] at ht9; cases ht9
     ·rw [T1.out] at ht9; cases ht9
     ·rw [T2.out] at ht9; cases ht9
     ·rw [T3.out] at ht9; cases ht9
     ·rw [T4.out] at ht9; cases ht9
  ·have hin3 : ¬ (i : Int) < (n : Int) := by omega
   have hkm3 : ¬ (k : Int) < (m : Int) := by omega
   have hcv := conv_own HO.out rfl (Below.refl _ _)
   have hfin := hd_ (show alnA a b 0 0 = L from by
    rw [HK.out.2, alnA_end (by rw [HN.out, HM.out]; exact hend), List.append_nil])
   clear hend
   go_wp2_with ((with_reducible refine wru ?_); refine wrz fun _ => ?_)
   go_ret
   rw [hfin.out]
   exact ⟨rfl, HU.out.tr bw_⟩
end Go.Proofs.YtbianlkenallaaaGreatDoor
