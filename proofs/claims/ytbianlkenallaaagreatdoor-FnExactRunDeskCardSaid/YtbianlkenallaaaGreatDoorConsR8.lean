/-
  The reference's console: its lines as one text, and a list's own copy. The bounds stand at each.
-/
import Derived.Test.YtbianlkenallaaaGreatDoorMgF
import Derived.Test.YtbianlkenallaaaGreatDoorCodeT4
import Derived.Test.YtbianlkenallaaaGreatDoorMgA
set_option linter.all false
set_option maxHeartbeats 2000000
set_option maxRecDepth 10000
namespace Go.Proofs.YtbianlkenallaaaGreatDoor
open Go.RowKit
theorem outB_take (l : List ByteArray) {k : Nat} (h : k < l.length) : outB (l.take (k + 1)) = outB (l.take k) ++ ((wd l k).data.toList ++ [10]) := by
 rw [List.take_add_one, List.getElem?_eq_getElem h, Option.toList_some, wd_eq h, outB, outB, List.flatMap_append]
 simp
theorem outB_part (l : List ByteArray) (k : Nat) : (outB (l.take k)).length ≤ (outB l).length := by
 conv => rhs; rw [← List.take_append_drop k l]
 rw [outB, outB, List.flatMap_append, List.length_append]
 omega
theorem l28Lines_any (A : Option Addr) (c : Nat) (l : List ByteArray) (w : World) (h : Rds w 1 A l.length (strs l)) (hn : l.length ≤ 10000000) (hz : (outB l).length ≤ 50000000) :
  Calls Tryz.prog 48 #[.slice A l.length c] w fun e w' => e = .returned (.string (bs (outB l))) ∧ UpOf w w' := by
 have HR := hd_ h
 have HZ := hd_ hz
 have HOw := hd_ (World.ownsRow_lit (base := w.heap.size) (e := 5) (size := 1) w #[] 0 (Nat.le_refl _) (by unfold maxLen; omega) rfl)
 clear h hz
 go_enter Tryz.func48, Tryz.ntmps48
 go_wp2_with fail
 go_loopw [3, 4] (fun out i wr => ∃ (k : Nat) (T : List UInt8) (A1 : Option Addr) (c1 : Nat), k ≤ l.length ∧ i = i64 k ∧ out = .slice A1 T.length c1 ∧ Hid (T = outB (l.take k)) ∧ Hid (wr.ownsRow w.heap.size 5 1 (.slice A1 T.length c1) T.length (Lib.byteCells T)) ∧ ∃ g : Up w, wr = up w g) (fun _ i _ => l.length - (intOf i).toNat)
 case atStart => exact ⟨0, [], _, _, by omega, rfl, rfl, hd_ rfl, hd_ HOw.out, ex_up bw_⟩
 case round =>
  clear HOw
  obtain ⟨k, T, A1, c1, hk, rfl, rfl, HE, HO, g, rfl⟩ := hrel
  by_cases hlt : k < l.length
  ·have hlt' : (k : Int) < (l.length : Int) := by omega
   obtain ⟨b, off, rfl, hb, -⟩ := wd_at HR.out hlt
   obtain ⟨-, c0⟩ := ws_at HR.out hlt
   have HS1 := hd_ (show T ++ ((wd l k).data.toList ++ [10]) = outB (l.take (k + 1)) by rw [outB_take l hlt, HE.out])
   have hle := outB_part l (k + 1)
   rw [← HS1.out, List.length_append, List.length_append, bsz] at hle
   have hz9 := HZ.out
   have hT1 : T.length + (wd l k).size ≤ 50000000 := by omega
   clear hle hz9
   obtain ⟨KW, hKW⟩ : ∃ q, wd l k = q := ⟨_, rfl⟩
   rw [hKW] at c0 HS1 hT1
   clear hKW
   go_upto_region 6 with (at_builtin; go_must (refine wpl_appS rfl _ _ 22 9 rfl w w.heap.size 5 el_byte Tryz.underlying9 A1 c1 T rfl (own_below HO.out bw_) KW rfl (by omega) (show Below w.heap.size w _ from bw_).size bw_ (Nat.le_refl _) ?_; intro A2 c2 g4 o4))
   obtain ⟨T2, hT2⟩ : ∃ T2, T ++ KW.data.toList = T2 := ⟨_, rfl⟩
   have HS2 := hd_ (show T2 ++ [10] = outB (l.take (k + 1)) by rw [← HS1.out, ← hT2]; simp)
   have hT2n : T.length + KW.size = T2.length := by rw [← hT2, List.length_append, bsz]
   rw [hT2] at o4
   rw [hT2n] at hT1
   rw [hT2n]
   have O4 := hd_ o4
   clear o4 HO hT2 HS1 hT2n HE
   go_wp2_with (at_builtin; go_must (refine wpl_appU rfl _ _ 22 rfl w w.heap.size 5 _ 1 1 el_byte (.slice A2 T2.length c2) T2.length (Lib.byteCells T2) rfl (own_below O4.out bw_) _ 1 1 [.int .u8 10] rfl (rds_new _ #[.int .u8 10] _ 1 1 rfl) (fun u hu => by simp at hu; subst hu; rfl) (by unfold maxLen; omega) (by omega) (show Below w.heap.size w _ from bw_).size bw_ (Nat.le_refl _) ?_; intro A3 c3 g5 o5))
   go_roundw
   case rel => exact ⟨k + 1, T2 ++ [10], A3, c3, by omega, by go_num, congrArg (fun n => Value.slice A3 n c3) (by simp), HS2, hd_ (by rw [List.length_append]; simpa [Lib.byteCells] using o5), ex_up bw_⟩
   case measure => simp [intOf]; try omega
  ·obtain rfl : k = l.length := by omega
   have hfin := hd_ (show outB l = T by rw [HE.out, List.take_length])
   have hcv := conv_own (w := up w g) (w1 := up w g) HO.out rfl (Below.refl _ _)
   clear HE
   go_wp2_with fail
   go_ret
   rw [hfin.out]
   exact ⟨rfl, uw_⟩
end Go.Proofs.YtbianlkenallaaaGreatDoor
