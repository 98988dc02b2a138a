/-
  The plan of a row: the reference's. The bounds stand at each.
-/
import Derived.Test.YtbianlkenallaaaGreatDoorMgD
import Derived.Test.YtbianlkenallaaaGreatDoorMove5
import Derived.Test.YtbianlkenallaaaGreatDoorMove6
import Derived.Test.YtbianlkenallaaaGreatDoorFar2
import Derived.Test.YtbianlkenallaaaGreatDoorMgA
import Derived.Test.YtbianlkenallaaaGreatDoorMgB
set_option linter.all false
set_option maxHeartbeats 4000000
set_option maxRecDepth 10000
namespace Go.Proofs.YtbianlkenallaaaGreatDoor
open Go.RowKit
theorem l11Plan_any (s : ByteArray) (A : Option Addr) (cap : Nat) (l : List Int) (w : World) (hs : s.size ≤ 30) (hv : vStops l = true) (h : Rds w 1 A l.length (ics l)) (hn : l.length ≤ 100000000) :
  Calls Tryz.prog 199 #[.slice A l.length cap, .string s] w fun e w' => e = .returned (.tuple #[.string (bs (rowA l 0 0 s.data.toList)), i64 (rowM l 0 0 s.data.toList)]) ∧ UpOf w w' := by
 obtain ⟨L, hL⟩ : ∃ L, s.data.toList = L := ⟨_, rfl⟩
 have HL := hd_ hL
 have hLn := hd_ (show L.length = s.size by rw [← hL]; rfl)
 have HR := hd_ h
 have HV := hd_ hv
 have HOw := hd_ (World.ownsRow_lit (base := w.heap.size) (e := 5) (size := 1) w #[] 0 (Nat.le_refl _) (by unfold maxLen; omega) rfl)
 rw [hL]
 clear h hv hL
 go_enter Tryz.func199, Tryz.ntmps199
 go_wp2_with fail
 go_loopw [6, 7, 8, 9] (fun out at' cnt i wr => ∃ (k a m : Nat) (T : List UInt8) (A1 : Option Addr) (c1 : Nat), k ≤ s.size ∧ i = i64 k ∧ at' = i64 a ∧ cnt = i64 m ∧ out = .slice A1 T.length c1 ∧ a ≤ 30 ∧ Hid (T.length ≤ 32 * k ∧ m ≤ 30 * k ∧ rowA l 0 0 L = T ++ rowA l a k (L.drop k) ∧ rowM l 0 0 L = m + rowM l a k (L.drop k)) ∧ Hid (wr.ownsRow w.heap.size 5 1 (.slice A1 T.length c1) T.length (Lib.byteCells T)) ∧ ∃ g : Up w, wr = up w g) (fun _ _ _ i _ => s.size - (intOf i).toNat)
 case atStart => exact ⟨0, 0, 0, [], _, _, by omega, rfl, rfl, rfl, rfl, by omega, hd_ ⟨by simp, by omega, by simp, by simp⟩, hd_ HOw.out, ex_up bw_⟩
 case round =>
  clear HOw
  obtain ⟨k, a, m, T, A1, c1, hk, rfl, rfl, rfl, rfl, ha, HK, HO, g, rfl⟩ := hrel
  by_cases hlt : k < s.size
  ·have hkl : k < L.length := by rw [hLn.out]; exact hlt
   have h1 : (k : Int) + 1 ≤ (s.size : Int) := by omega
   have hlt' : (k : Int) < (s.size : Int) := by omega
   have hdr := hd_ (drop_at hkl)
   have e := byteAt_eq hlt
   have hbk : byteAt s k = L.getD k 0 := by unfold byteAt; rw [HL.out]
   by_cases q : L.getD k 0 = 32
   ·have hq : (((byteAt s k).toNat : Int) == 32) = true := by rw [hbk, q]; rfl
    have hrel2 := hd_ (show T.length ≤ 32 * (k + 1) ∧ m ≤ 30 * (k + 1) ∧ rowA l 0 0 L = T ++ rowA l a (k + 1) (L.drop (k + 1)) ∧ rowM l 0 0 L = m + rowM l a (k + 1) (L.drop (k + 1)) from by
     obtain ⟨q1, q2, q3, q4⟩ := HK.out
     rw [q3, q4, hdr.out, rowA, rowM, if_pos q, if_pos q]
     exact ⟨by omega, by omega, rfl, rfl⟩)
    clear q hkl HK hbk
    go_wp2_with fail
    go_roundw
    case rel => exact ⟨k + 1, a, m, T, A1, c1, by omega, by go_num, rfl, rfl, rfl, ha, hrel2, HO, ex_up bw_⟩
    case measure => simp [intOf]; try omega
   ·have hq : (((byteAt s k).toNat : Int) == 32) = false := by
     rw [beq_eq_false_iff_ne, hbk]
     intro h
     exact q (UInt8.toNat_inj.1 (by show (L.getD k 0).toNat = 32; omega))
    obtain ⟨P, hP⟩ : ∃ P, planL l k a = P := ⟨_, rfl⟩
    have hPl : P.length ≤ 30 := by rw [← hP]; exact planL_len l (by omega) ha
    have HM : Hid (∀ V q, Below w.heap.size w V → Rds V 1 (some ⟨q, 0, none⟩) 31 (ics (dsl l k)) → Calls Tryz.prog 223 #[.slice A l.length cap, .slice (some ⟨q, 0, none⟩) 31 31, i64 a] V fun e w' => e = .returned (.string (bs P)) ∧ UpOf V w') := hd_ fun V q hV hq => by
     rw [← hP]
     exact l11Moves_any a k A cap l _ 31 V ha (by omega) HV.out (HR.out.below hV) hn hq
    have hPz : (bs P).size = P.length := by rw [← bsz, bs_list]
    have hTz : T.length ≤ 960 := by have := HK.out.1; omega
    have hrel2 := hd_ (show (T ++ (P ++ 39 :: [L.getD k 0])).length ≤ 32 * (k + 1) ∧ m + P.length ≤ 30 * (k + 1) ∧ rowA l 0 0 L = (T ++ (P ++ 39 :: [L.getD k 0])) ++ rowA l (k + 1) (k + 1) (L.drop (k + 1)) ∧ rowM l 0 0 L = (m + P.length) + rowM l (k + 1) (k + 1) (L.drop (k + 1)) from by
     obtain ⟨q1, q2, q3, q4⟩ := HK.out
     rw [q3, q4, hdr.out, rowA, rowM, if_neg q, if_neg q, hP]
     refine ⟨by simp; omega, by omega, by simp, by omega⟩)
    have hmb : (m : Int) ≤ 1000 := by have := HK.out.2.1; omega
    obtain ⟨ch, hch⟩ : ∃ ch, L.getD k 0 = ch := ⟨_, rfl⟩
    rw [hch] at hbk hrel2
    rw [hbk] at e hq
    clear q hkl HK hch hP hbk
    go_wp2_with fail
    refine (l11Far_any k A cap l _ (by omega) HV.out (HR.out.below bw_) hn).mono ?_
    rintro e w' ⟨⟨q, rfl, hq9⟩, g2, rfl⟩
    go_wp2_with fail
    refine (HM.out _ q bw_ hq9).mono ?_
    rintro e w' ⟨rfl, g3, rfl⟩
    clear hq9
    go_upto_region 10 with (at_builtin; go_must (refine wpl_appS rfl _ _ 22 9 rfl w w.heap.size 5 el_byte Tryz.underlying9 A1 c1 T rfl (own_below HO.out bw_) (bs P) rfl (by omega) (show Below w.heap.size w _ from bw_).size bw_ (Nat.le_refl _) ?_; intro A2 c2 g4 o4))
    rw [bs_list] at o4
    obtain ⟨T2, hT2⟩ : ∃ T2, T ++ P = T2 := ⟨_, rfl⟩
    have HT2 := hd_ (show T ++ (P ++ 39 :: [ch]) = T2 ++ [39, ch] by rw [← hT2]; simp)
    have hT2l : T2.length ≤ 1000 := by rw [← hT2, List.length_append]; omega
    rw [HT2.out] at hrel2
    have hT2n : T.length + P.length = T2.length := by rw [← hT2, List.length_append]
    rw [hT2] at o4
    rw [hT2n]
    have O4 := hd_ o4
    clear o4 HO hT2 HT2 hT2n
    go_wp2_with (at_builtin; go_must (refine wpl_appU rfl _ _ 22 rfl w w.heap.size 5 _ 1 1 el_byte (.slice A2 T2.length c2) T2.length (Lib.byteCells T2) rfl (own_below O4.out bw_) _ 2 2 [.int .u8 39, .int .u8 (ch.toNat : Int)] rfl (rds_new _ #[.int .u8 39, .int .u8 (ch.toNat : Int)] _ 1 2 rfl) (fun u hu => by simp at hu; obtain rfl | rfl := hu <;> rfl) (by unfold maxLen; omega) (by omega) (show Below w.heap.size w _ from bw_).size bw_ (Nat.le_refl _) ?_; intro A3 c3 g5 o5))
    go_roundw
    case rel => exact ⟨k + 1, k + 1, m + P.length, T2 ++ [39, ch], A3, c3, by omega, by go_num, by go_num, by go_num, congrArg (fun n => Value.slice A3 n c3) (by simp), by omega, hrel2, hd_ (by rw [List.length_append]; simpa [Lib.byteCells] using o5), ex_up bw_⟩
    case measure => simp [intOf]; try omega
  ·obtain rfl : k = s.size := by omega
   have hfin := hd_ (show rowA l 0 0 L = T ∧ rowM l 0 0 L = m from by
    obtain ⟨q1, q2, q3, q4⟩ := HK.out
    rw [q3, q4, List.drop_of_length_le (by rw [hLn.out]; exact Nat.le_refl _), rowA, rowM]
    simp)
   have hcv := conv_own (w := up w g) (w1 := up w g) HO.out rfl (Below.refl _ _)
   go_wp2_with fail
   go_ret2
   rw [hfin.out.1, hfin.out.2]
   exact ⟨rfl, uw_⟩
theorem rowPlanS_any (s : ByteArray) (A : Option Addr) (cap : Nat) (l : List Int) (w : World) (hs : s.size ≤ 9223372036854775807) (h : Rds w 1 A l.length (ics l)) (hn : l.length ≤ 100000000) :
  Calls Tryz.prog 163 #[.slice A l.length cap, .string s] w fun e w' => e = .returned (.tuple #[.string (rowR l s).1, i64 (rowR l s).2]) ∧ UpOf w w' := by
 have HR := hd_ h
 clear h
 cases hv : vStops l with
 | false =>
  have hr := hd_ (show rowR l s = (⟨#[]⟩, 1) by unfold rowR; rw [hv]; rfl)
  go_enter Tryz.func163, Tryz.ntmps163
  go_wp2_with (first | (go_at_call 93; refine (ret_as (l11Ok_any A cap l _ (HR.out.below bw_) hn) hv).mono ?_; rintro e w' ⟨rfl, g, rfl⟩))
  go_ret2
  rw [hr.out]
  exact ⟨rfl, uw_⟩
 | true =>
  cases hi : isRowB s with
  | false =>
   have hr := hd_ (show rowR l s = (⟨#[]⟩, 2) by unfold rowR; rw [hv, hi]; rfl)
   go_enter Tryz.func163, Tryz.ntmps163
   go_wp2_with (first | (go_at_call 93; refine (ret_as (l11Ok_any A cap l _ (HR.out.below bw_) hn) hv).mono ?_; rintro e w' ⟨rfl, g, rfl⟩) | (go_at_call 198; refine (ret_as (rowS_any s _ hs) hi).mono ?_; rintro e w' ⟨rfl, rfl⟩))
   go_ret2
   rw [hr.out]
   exact ⟨rfl, uw_⟩
  | true =>
   have hr := hd_ (show rowR l s = (bs (rowA l 0 0 s.data.toList), 0) by unfold rowR; rw [hv, hi]; rfl)
   go_enter Tryz.func163, Tryz.ntmps163
   go_wp2_with (first | (go_at_call 93; refine (ret_as (l11Ok_any A cap l _ (HR.out.below bw_) hn) hv).mono ?_; rintro e w' ⟨rfl, g, rfl⟩) | (go_at_call 198; refine (ret_as (rowS_any s _ hs) hi).mono ?_; rintro e w' ⟨rfl, rfl⟩) | (go_at_call 199; refine (l11Plan_any s A cap l _ (isRow_len hi) hv (HR.out.below bw_) hn).mono ?_; rintro e w' ⟨rfl, g, rfl⟩))
   go_ret2
   rw [hr.out]
   exact ⟨rfl, uw_⟩
end Go.Proofs.YtbianlkenallaaaGreatDoor
