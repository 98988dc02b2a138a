/-
  A row, and the plan of a row: the reference's. The bounds stand at each.
-/
import Derived.Test.YtbianlkenallaaaGreatDoorMgD
set_option linter.all false
set_option maxHeartbeats 2000000
set_option maxRecDepth 10000
namespace Go.Proofs.YtbianlkenallaaaGreatDoor
open Go.RowKit
theorem l00Text_any (s : ByteArray) (most : Nat) (w : World) (hm : most ≤ 1000000) (hs : s.size ≤ 9223372036854775807) :
  Calls Tryz.prog 222 #[.string s, i64 most] w fun e w' => e = .returned (.bool (txtB 32 most s)) ∧ w = w' := by
 go_enter Tryz.func222, Tryz.ntmps222
 go_wp2_with fail
 go_loop [5] (fun i => ∃ k : Nat, k ≤ s.size ∧ i = i64 k ∧ Hid (∀ j, j < k → txtC 32 (byteAt s j) = true)) (fun i => s.size - (intOf i).toNat)
 case atStart => exact ⟨0, by omega, rfl, fun i hi => by omega⟩
 case round =>
  obtain ⟨k, hk, rfl, hok⟩ := hrel
  by_cases hlt : k < s.size
  ·have e := byteAt_eq hlt
   by_cases p1 : (byteAt s k).toNat < 32
   ·have hf := hd_ (txtB_at (lo := 32) (most := most) hlt (decide_eq_false (by omega)))
    have p1' : ((byteAt s k).toNat : Int) < 32 := by omega
    rw [← e] at p1'
    go_wp2_with fail
    go_ret
    exact ⟨ret_bool hf.out.symm, rfl⟩
   by_cases p2 : 126 < (byteAt s k).toNat
   ·have hf := hd_ (txtB_at (lo := 32) (most := most) hlt (decide_eq_false (by omega)))
    have p1' : 32 ≤ ((byteAt s k).toNat : Int) := by omega
    have p2' : 126 < ((byteAt s k).toNat : Int) := by omega
    rw [← e] at p1' p2'
    go_wp2_with fail
    go_ret
    exact ⟨ret_bool hf.out.symm, rfl⟩
   have hq := hd_ (show txtC 32 (byteAt s k) = true from decide_eq_true (by omega))
   have p1' : 32 ≤ ((byteAt s k).toNat : Int) := by omega
   have p2' : ((byteAt s k).toNat : Int) ≤ 126 := by omega
   rw [← e] at p1' p2'
   go_wp2_with fail
   go_round
   case rel => have hx := lt_ext (P := fun j => txtC 32 (byteAt s j) = true) hok.out hq.out; exact ⟨k + 1, by omega, by go_num, hx⟩
   case measure => (simp [intOf]; try omega)
  ·have hall : ∀ i, i < s.size → txtC 32 (byteAt s i) = true := fun i hi => hok.out i (by omega)
   have hf : Hid (txtB 32 most s = decide (s.size ≤ most)) := by
    show _ = _
    by_cases h : s.size ≤ most
    ·rw [txtB_true h hall, decide_eq_true h]
    ·rw [txtB_len h, decide_eq_false h]
   clear hall
   go_wp2_with fail
   go_ret
   exact ⟨ret_bool (by rw [hf.out, decide_eq_decide] <;> omega), rfl⟩
theorem rowS_any (s : ByteArray) (w : World) (hs : s.size ≤ 9223372036854775807) :
  Calls Tryz.prog 198 #[.string s] w fun e w' => e = .returned (.bool (isRowB s)) ∧ w = w' := by
 have HT : Hid (∀ V, Calls Tryz.prog 222 #[.string s, i64 30] V fun e w' => e = .returned (.bool (txtB 32 30 s)) ∧ V = w') := hd_ fun V => l00Text_any s 30 V (by omega) hs
 have hr : Hid (isRowB s = (txtB 32 30 s && (decide (s.size = 0) || decide (byteAt s (s.size - 1) ≠ 32)))) := hd_ rfl
 cases hv : txtB 32 30 s with
 | false =>
  have HT2 : Hid (∀ V, Calls Tryz.prog 222 #[.string s, i64 30] V fun e w' => e = .returned (.bool false) ∧ V = w') := hd_ fun V => by rw [← hv]; exact HT.out V
  have hr2 : Hid (isRowB s = false) := hd_ (by rw [hr.out, hv]; rfl)
  clear HT hr hv
  go_enter Tryz.func198, Tryz.ntmps198
  go_wp2_with (first | (go_at_call 222; refine (HT2.out _).mono ?_; rintro e w' ⟨rfl, rfl⟩))
  go_ret
  rw [hr2.out]
  exact ⟨rfl, rfl⟩
 | true =>
  have HT2 : Hid (∀ V, Calls Tryz.prog 222 #[.string s, i64 30] V fun e w' => e = .returned (.bool true) ∧ V = w') := hd_ fun V => by rw [← hv]; exact HT.out V
  clear HT
  by_cases h0 : s.size = 0
  ·have hz := isEmpty_yes h0
   have hr2 : Hid (isRowB s = true) := hd_ (by rw [hr.out, hv, decide_eq_true h0]; rfl)
   clear hr hv
   go_enter Tryz.func198, Tryz.ntmps198
   go_wp2_with (first | (go_at_call 222; refine (HT2.out _).mono ?_; rintro e w' ⟨rfl, rfl⟩))
   go_ret
   rw [hr2.out]
   exact ⟨rfl, rfl⟩
  ·have hz := isEmpty_no (s := s) (by omega)
   have hlt : s.size - 1 < s.size := by omega
   have e := byteAt_eq hlt
   have hi1 : ((s.size : Int) - 1).toNat = s.size - 1 := by omega
   have hb : (((byteAt s (s.size - 1)).toNat : Int) != 32) = decide (byteAt s (s.size - 1) ≠ 32) := by
    rw [Bool.eq_iff_iff, bne_iff_ne, decide_eq_true_eq]
    constructor
    ·intro h e; rw [e] at h; exact h rfl
    ·intro h e; exact h (UInt8.toNat_inj.1 (by show (byteAt s (s.size - 1)).toNat = 32; omega))
   by_cases e2 : byteAt s (s.size - 1) = 32
   ·have hb2 : (((byteAt s (s.size - 1)).toNat : Int) != 32) = false := by rw [hb, decide_eq_false (fun h => h e2)]
    have hr2 : Hid (isRowB s = false) := hd_ (by rw [hr.out, hv, decide_eq_false h0, decide_eq_false (fun h => h e2)]; rfl)
    clear hr hv hb e2
    go_enter Tryz.func198, Tryz.ntmps198
    go_wp2_with (first | (go_at_call 222; refine (HT2.out _).mono ?_; rintro e w' ⟨rfl, rfl⟩))
    go_ret
    rw [hr2.out]
    exact ⟨rfl, rfl⟩
   ·have hb2 : (((byteAt s (s.size - 1)).toNat : Int) != 32) = true := by rw [hb, decide_eq_true e2]
    have hr2 : Hid (isRowB s = true) := hd_ (by rw [hr.out, hv, decide_eq_false h0, decide_eq_true e2]; rfl)
    clear hr hv hb e2
    go_enter Tryz.func198, Tryz.ntmps198
    go_wp2_with (first | (go_at_call 222; refine (HT2.out _).mono ?_; rintro e w' ⟨rfl, rfl⟩))
    go_ret
    rw [hr2.out]
    exact ⟨rfl, rfl⟩
end Go.Proofs.YtbianlkenallaaaGreatDoor
