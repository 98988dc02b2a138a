/-
  The least alignment of two texts, and its mark: the program's. The bounds stand at each.
-/
import Derived.Test.YtbianlkenallaaaGreatDoorAlign2
import Derived.Test.YtbianlkenallaaaGreatDoorMgA
set_option linter.all false
set_option maxHeartbeats 4000000
set_option maxRecDepth 10000
namespace Go.Proofs.YtbianlkenallaaaGreatDoor
open Go.RowKit
theorem stB_bytes (j : Nat) : [Value.int .u8 ((stB j).toNat : Int)] = Lib.byteCells [stB j] := rfl
theorem fst_at {a b : ByteArray} {i k j : Nat} (hj : j < 5) (hn : ∀ x, x < j → tight a b i k x = false) (h : tight a b i k j = true) (hm : i < a.size ∨ k < b.size) : alnA a b i k = stB j :: alnA a b (i + sdi j) (k + sdk j) :=
 alnA_step hm (fstS_at hj hn h)
theorem alignment_any (a b : ByteArray) (w : World) (ha : a.size ≤ 60) (hb : b.size ≤ 60) :
 Calls Tryz.prog 82 #[.string a, .string b] w fun e w' => e = .returned (.string (bs (alnA a b 0 0))) ∧ UpOf w w' := by
 have HLF : Hid (∀ V, Calls Tryz.prog 83 #[.string a, .string b] V fun e w' => ∃ B Q, e = .returned (.slice (some ⟨B, 0, none⟩) (a.size + 1) (a.size + 1)) ∧ Tb V w' B Q a b) := hd_ fun V => leastFrom_any a b V ha hb
 obtain ⟨n, hn⟩ := nm_ (a.size)
 obtain ⟨m, hm⟩ := nm_ (b.size)
 have HN := hd_ hn
 have HM := hd_ hm
 rw [hn] at ha
 rw [hm] at hb
 go_enter Tryz.func82, Tryz.ntmps82
 go_wp2_with fail
 refine (HLF.out _).mono ?_
 rintro e w' ⟨B, Q, rfl, HT⟩
 have HU := hd_ HT.u
 have HT := hd_ (show Mx w w' B n m (n + 1) Q (cst a b) from by unfold Tb at HT; rw [HN.out, HM.out] at HT; exact HT)
 clear HLF
 have HOW : Hid ((w'.alloc (.cells #[] 5)).ownsRow w'.heap.size 5 1 (.slice (some ⟨w'.heap.size, 0, none⟩) 0 0) 0 (Lib.byteCells [])) := hd_
  (World.ownsRow_lit (base := w'.heap.size) (e := 5) (size := 1) w' #[] 0 (Nat.le_refl _) (by unfold maxLen; omega) rfl)
 go_wp2_with fail
 go_loopw [6, 7, 8] (fun t6 t7 t8 wr => ∃ (i k : Nat) (L : List UInt8) (A1 : Option Addr) (c1 : Nat), i ≤ n ∧ k ≤ m ∧ t7 = i64 i ∧ t8 = i64 k ∧ t6 = .slice A1 L.length c1 ∧ Hid (L.length + (alnA a b i k).length ≤ 120 ∧ alnA a b 0 0 = L ++ alnA a b i k) ∧ Hid (wr.ownsRow w'.heap.size 5 1 (.slice A1 L.length c1) L.length (Lib.byteCells L)) ∧ ∃ g : Up w', wr = up w' g) (fun _ t7 t8 _ => (n - (intOf t7).toNat) + (m - (intOf t8).toNat))
 case atStart => exact ⟨0, 0, [], _, _, by omega, by omega, rfl, rfl, rfl, hd_ ⟨by have := alnA_len a b 0 0; rw [HN.out, HM.out] at this; simp; omega, rfl⟩, HOW, ex_up bw_⟩
 case round =>
  obtain ⟨i, k, L, A1, c1, hi, hk, rfl, rfl, rfl, HK, HO, g1, rfl⟩ := hrel
  clear HOW
  by_cases hend : i < n ∨ k < m
  ·go_upto_region 4 with (fail)
   go_cut [28] (fun x V => x = .bool true ∧ V = up w' g1)
   case first =>
    by_cases hin2 : i < n
    ·have hin3 : (i : Int) < (n : Int) := by omega
     go_wp2_with fail
     go_meet
     exact ⟨rfl, rfl⟩
    ·have hin3 : ¬ (i : Int) < (n : Int) := by omega
     have hkm3 : (k : Int) < (m : Int) := by omega
     go_wp2_with fail
     go_meet
     exact ⟨rfl, rfl⟩
   case rest =>
    obtain ⟨rfl, rfl⟩ := hcut
    obtain ⟨q, hq⟩ := nm_ ((up w' g1).heap.size)
    have hcv : (convert 22 22 (.slice (some ⟨q, 0, none⟩) 5 5)).run Tryz.prog (up w' (g1.al (.cells #[.int .u8 43, .int .u8 45, .int .u8 61, .int .u8 120, .int .u8 126] 5))) = .ok (.slice (some ⟨q, 0, none⟩) 5 5) (up w' (g1.al (.cells #[.int .u8 43, .int .u8 45, .int .u8 61, .int .u8 120, .int .u8 126] 5 (5, 6)))) := by
     subst hq
     exact Lib.run_convert_bytes_const (up w' g1) 22 5 #[.int .u8 43, .int .u8 45, .int .u8 61, .int .u8 120, .int .u8 126] 5 5 Tryz.underlying22 Tryz.underlying5
    have hl5 : Hid (Lit5 (up w' (g1.al (.cells #[.int .u8 43, .int .u8 45, .int .u8 61, .int .u8 120, .int .u8 126] 5 (5, 6)))) q) := by
     subst hq
     exact hd_ (by show ((up w' g1).heap.push _)[(up w' g1).heap.size]? = _; simp)
    go_wp2_with ((with_reducible refine wru ?_); refine wrz fun _ => ?_)
    go_loopw [6, 7, 8, 32] (fun t6 t7 t8 t32 wr => ∃ j : Nat, j ≤ 5 ∧ t6 = .slice A1 L.length c1 ∧ t7 = i64 i ∧ t8 = i64 k ∧ t32 = i64 j ∧ Hid (∀ x, x < j → tight a b i k x = false) ∧ Hid (Lit5 wr q) ∧ Hid (wr.ownsRow w'.heap.size 5 1 (.slice A1 L.length c1) L.length (Lib.byteCells L)) ∧ ∃ g : Up w', wr = up w' g) (fun _ _ _ t32 _ => 5 - (intOf t32).toNat)
    case atStart => exact ⟨0, by omega, rfl, rfl, rfl, rfl, hd_ (fun x hx => by omega), hl5, hd_ (ob_ HO.out bw_), _, rfl⟩
    case round =>
     obtain ⟨j, hj, rfl, rfl, rfl, rfl, HG, HL, HQ, g2, rfl⟩ := hrel
     clear HO hl5 hcv
     by_cases hj5 : j < 5
     ·have hj' : (j : Int) < 5 := by omega
      have f1 := HL.out.cell hj5
      have f0 := HL.out.lt
      obtain ⟨di, hdi⟩ := nm_ (sdi j)
      obtain ⟨dk, hdk⟩ := nm_ (sdk j)
      obtain ⟨er, her⟩ := nm_ (ser j)
      have hst : ∀ V : World, Calls Tryz.prog 135 #[.string (a.extract i n), .string (b.extract k m), .int .u8 ((stB j).toNat : Int)] V fun e w' => e = .returned (.tuple #[i64 di, i64 dk, i64 er, .bool (okAl a b i k j)]) ∧ UpOf V w' := fun V => by
       have := stepAt_any (rst a i) (rst b k) j V hj5 (by rw [rst_size]; omega) (by rw [rst_size]; omega)
       rw [okAl_rst, hdi, hdk, her, rst, rst, HN.out, HM.out] at this
       exact this
      have hdi2 : di ≤ 2 := by rw [← hdi]; unfold sdi; (repeat' split) <;> omega
      have hdk2 : dk ≤ 2 := by rw [← hdk]; unfold sdk; (repeat' split) <;> omega
      cases hok : okAl a b i k j with
      | false =>
        have HC : Hid (∀ V : World, Calls Tryz.prog 135 #[.string (a.extract i n), .string (b.extract k m), .int .u8 ((stB j).toNat : Int)] V fun e w' => e = .returned (.tuple #[i64 di, i64 dk, i64 er, .bool false]) ∧ UpOf V w') := hd_ (by rw [hok] at hst; exact hst)
        have HG2 := hd_ (lt_ext (P := fun x => tight a b i k x = false) HG.out (by show tight a b i k j = false; rw [tight, hok, Bool.false_and]))
        clear hst hok hdi hdk her HG
        go_wp2_with (first | ((with_reducible refine wru ?_); (repeat (go_big_quiet_step (first | (go_at_call 135; exact uq_ (HC.out _))))); refine wqn fun nq => ?_))
        go_roundw
        case rel => exact ⟨j + 1, by omega, rfl, rfl, rfl, by go_num, HG2, hd_ (HL.out.below bw_), hd_ (ob_ HQ.out bw_), ex_up bw_⟩
        case measure => simp [intOf]; try omega
      | true =>
        have HC : Hid (∀ V : World, Calls Tryz.prog 135 #[.string (a.extract i n), .string (b.extract k m), .int .u8 ((stB j).toNat : Int)] V fun e w' => e = .returned (.tuple #[i64 di, i64 dk, i64 er, .bool true]) ∧ UpOf V w') := hd_ (by rw [hok] at hst; exact hst)
        have hgo := okAl_go hok hj5
        rw [hdi, hdk, HN.out, HM.out] at hgo
        have hdn : i + di ≤ n := hgo.2.1 hi
        have hkn : k + dk ≤ m := hgo.2.2 hk
        have hin : (i : Int) + (di : Int) < (n : Int) + 1 := by omega
        have hkm : (k : Int) + (dk : Int) < (m : Int) + 1 := by omega
        have hin0 : (i : Int) < (n : Int) + 1 := by omega
        have hkm0 : (k : Int) < (m : Int) + 1 := by omega
        have ht1 : ((i : Int) + (di : Int)).toNat = i + di := by omega
        have ht2 : ((k : Int) + (dk : Int)).toNat = k + dk := by omega
        obtain ⟨cv, hcv⟩ := nm_ (cst a b (i + di) (k + dk))
        obtain ⟨c0, hc0⟩ := nm_ (cst a b i k)
        have hc1 : 0 ≤ cv := by rw [← hcv]; exact cst_nn _ _ _ _
        have hc2 : cv ≤ 120 := by
         have := cst_bd a b _ (i + di) (k + dk) rfl
         rw [hcv, HN.out, HM.out] at this
         omega
        have her0 : 0 ≤ er := by rw [← her]; exact ser_nn j
        have her1 : er ≤ 1 := by rw [← her]; unfold ser; split <;> omega
        have htj : tight a b i k j = decide (cv + er = c0) := by rw [tight, hok, Bool.true_and, hdi, hdk, her, hcv, hc0]
        have hr : ∀ g : Up w', (up w' g).cell? ⟨B, i + di, none⟩ = some (.slice (some ⟨Q (i + di), 0, none⟩) (m + 1) (m + 1)) := fun g => (HT.out.below g.below).row (by omega) (by omega)
        have hr0 : ∀ g : Up w', (up w' g).cell? ⟨B, i, none⟩ = some (.slice (some ⟨Q i, 0, none⟩) (m + 1) (m + 1)) := fun g => (HT.out.below g.below).row (by omega) (by omega)
        have hx : ∀ g : Up w', (up w' g).cell? ⟨Q (i + di), k + dk, none⟩ = some (i64 cv) := fun g => by
         have := (HT.out.below g.below).cell (i := i + di) (j := k + dk) (by omega) (by omega)
         rw [hcv] at this
         exact this
        have hx0 : ∀ g : Up w', (up w' g).cell? ⟨Q i, k, none⟩ = some (i64 c0) := fun g => by
         have := (HT.out.below g.below).cell (i := i) (j := k) (by omega) (by omega)
         rw [hc0] at this
         exact this
        have hlt := hd_ hgo.1
        by_cases he : cv + er = c0
        ·have he1 : (cv + er == c0) = true := by rw [beq_iff_eq]; exact he
         have hps : Hid (alnA a b i k = stB j :: alnA a b (i + di) (k + dk)) := hd_ (by
          have := fst_at (a := a) (b := b) hj5 HG.out (by rw [htj, decide_eq_true he]) (by rw [HN.out, HM.out]; exact hend)
          rw [hdi, hdk] at this
          exact this)
         have hL : L.length ≤ 120 := by have := HK.out.1; omega
         clear hst hok hdi hdk her hcv hc0 htj he HG hgo
         go_wp2_with (first | (at_builtin; go_must (refine wpl_appU rfl _ _ 22 rfl w' w'.heap.size 5 _ 1 1 el_byte (.slice A1 L.length c1) L.length (Lib.byteCells L) rfl (ob_ HQ.out bw_) _ 1 1 [.int .u8 ((stB j).toNat : Int)] rfl (rds_new _ _ _ 1 1 rfl) (fun u hu => by simp at hu; subst hu; rfl) (by unfold maxLen; omega) (by omega) (show Below w'.heap.size w' _ from bw_).size bw_ (Nat.le_refl _) ?_; intro A2 c2 g2 o2)) | ((with_reducible refine wru ?_); (repeat (go_big_quiet_step (first | (go_at_call 135; exact uq_ (HC.out _))))); refine wqn fun nq => ?_))
         refine ⟨⟨i + di, k + dk, L ++ [stB j], A2, c2, hdn, hkn, by go_num, by go_num, congrArg (fun n => Value.slice A2 n c2) (by simp), hd_ ?_, hd_ ?_, ex_up bw_⟩, ?_⟩
         ·have h1 := HK.out.1
          have h2 := HK.out.2
          rw [hps.out] at h1 h2
          rw [List.length_cons] at h1
          exact ⟨by rw [List.length_append]; simp; omega, by rw [h2, List.append_assoc]; rfl⟩
         ·rw [stB_bytes, byteCells_snoc, show L.length + 1 = (L ++ [stB j]).length by simp] at o2
          exact o2
         ·have := hlt.out
          simp [intOf]; omega
        ·have he1 : (cv + er == c0) = false := by rw [beq_eq_false_iff_ne]; exact he
         have HG2 := hd_ (lt_ext (P := fun x => tight a b i k x = false) HG.out (by show tight a b i k j = false; rw [htj, decide_eq_false he]))
         clear hst hok hdi hdk her hcv hc0 htj he HG hgo
         go_wp2_with (first | ((with_reducible refine wru ?_); (repeat (go_big_quiet_step (first | (go_at_call 135; exact uq_ (HC.out _))))); refine wqn fun nq => ?_))
         go_roundw
         case rel => exact ⟨j + 1, by omega, rfl, rfl, rfl, by go_num, HG2, hd_ (HL.out.below bw_), hd_ (ob_ HQ.out bw_), ex_up bw_⟩
         case measure => simp [intOf]; try omega
     ·obtain rfl : j = 5 := by omega
      exfalso
      obtain ⟨x, hx, ht⟩ := tight_ex (a := a) (b := b) (i := i) (k := k) (by rw [HN.out, HM.out]; exact hend)
      rw [HG.out x hx] at ht
      cases ht
  ·have hin3 : ¬ (i : Int) < (n : Int) := by omega
   have hkm3 : ¬ (k : Int) < (m : Int) := by omega
   have hcv := conv_own HO.out rfl (Below.refl _ _)
   have hfin := hd_ (show alnA a b 0 0 = L from by
    rw [HK.out.2, alnA_end (by rw [HN.out, HM.out]; exact hend), List.append_nil])
   clear hend
   go_wp2_with ((with_reducible refine wru ?_); refine wrz fun _ => ?_)
   go_ret
   rw [hfin.out]
   exact ⟨rfl, HU.out.tr bw_⟩
theorem isTyped_any (s : ByteArray) (w : World) (hs : s.size ≤ 9223372036854775807) :
 Calls Tryz.prog 81 #[.string s] w fun e w' => e = .returned (.bool (typed s)) ∧ w = w' := by
 go_enter Tryz.func81, Tryz.ntmps81
 go_wp2_with (first | (go_at_call 134; refine cs_ (isText_any s 32 60 _ (by omega) (by omega) hs) ?_))
 go_ret
 exact ⟨rfl, rfl⟩
end Go.Proofs.YtbianlkenallaaaGreatDoor
