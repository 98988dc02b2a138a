/-
  Two texts of the reference, and whether their next bytes are exchanged. The bounds stand at each.
-/
import Derived.Test.YtbianlkenallaaaGreatDoorMgE
import Derived.Test.YtbianlkenallaaaGreatDoorMove5
set_option linter.all false
set_option maxHeartbeats 1000000
set_option maxRecDepth 10000
namespace Go.Proofs.YtbianlkenallaaaGreatDoor
open Go.RowKit
theorem l19Text_any (s : ByteArray) (w : World) (hs : s.size ≤ 9223372036854775807) :
  Calls Tryz.prog 215 #[.string s] w fun e w' => e = .returned (.bool (typed s)) ∧ w = w' := by
 go_enter Tryz.func215, Tryz.ntmps215
 go_wp2_with fail
 refine (l00Text_any s 60 w (by omega) hs).mono ?_
 rintro e w' ⟨rfl, rfl⟩
 go_wp2_with fail
 go_ret
 exact ⟨rfl, rfl⟩
theorem l19Two_any (a b : ByteArray) (w : World) (ha : a.size ≤ 9223372036854775807) (hb : b.size ≤ 9223372036854775807) :
  Calls Tryz.prog 184 #[.string a, .string b] w fun e w' => e = .returned (i64 (if typed a && typed b then 0 else 2)) ∧ w = w' := by
 cases h1 : typed a with
 | false =>
  go_enter Tryz.func184, Tryz.ntmps184
  go_wp2_with fail
  refine (ret_as (l19Text_any a w ha) h1).mono ?_
  rintro e w' ⟨rfl, rfl⟩
  go_wp2_with fail
  go_ret
  exact ⟨rfl, rfl⟩
 | true =>
  cases h2 : typed b with
  | false =>
   go_enter Tryz.func184, Tryz.ntmps184
   go_wp2_with fail
   refine (ret_as (l19Text_any a w ha) h1).mono ?_
   rintro e w' ⟨rfl, rfl⟩
   go_wp2_with fail
   refine (ret_as (l19Text_any b w hb) h2).mono ?_
   rintro e w' ⟨rfl, rfl⟩
   go_wp2_with fail
   go_ret
   exact ⟨rfl, rfl⟩
  | true =>
   go_enter Tryz.func184, Tryz.ntmps184
   go_wp2_with fail
   refine (ret_as (l19Text_any a w ha) h1).mono ?_
   rintro e w' ⟨rfl, rfl⟩
   go_wp2_with fail
   refine (ret_as (l19Text_any b w hb) h2).mono ?_
   rintro e w' ⟨rfl, rfl⟩
   go_wp2_with fail
   go_ret
   exact ⟨rfl, rfl⟩
theorem l19Swap_any (x y : ByteArray) (w : World) (hx : x.size ≤ 1000000) (hy : y.size ≤ 1000000) :
  Calls Tryz.prog 221 #[.string x, .string y] w fun e w' => e = .returned (.bool (okAl x y 0 0 4)) ∧ UpOf w w' := by
 by_cases h1 : 1 < x.size
 ·have h1' : (2 : Int) ≤ x.size := by omega
  have h1'' : (1 : Int) < x.size := by omega
  have h0x : (0 : Int) < x.size := by omega
  have a0 := byteAt_eq (s := x) (i := 0) (by omega)
  have a1 := byteAt_eq h1
  by_cases h2 : 1 < y.size
  ·have h2' : (2 : Int) ≤ y.size := by omega
   have h2'' : (1 : Int) < y.size := by omega
   have h0y : (0 : Int) < y.size := by omega
   have b0 := byteAt_eq (s := y) (i := 0) (by omega)
   have b1 := byteAt_eq h2
   by_cases q1 : byteAt x 0 = byteAt x 1
   ·have q1' : (((byteAt x 0).toNat : Int) != ((byteAt x 1).toNat : Int)) = false := by rw [byte_bne, decide_eq_false (fun h => h q1)]
    have Q1 := hd_ q1
    clear q1
    have hf : Hid (okAl x y 0 0 4 = false) := hd_ (by exact decide_eq_false (fun h => h.2.2.1 Q1.out))
    go_enter Tryz.func221, Tryz.ntmps221
    go_wp2_with (first | ((with_reducible refine wru ?_); (repeat (go_big_quiet_step (fail))); refine wqn fun nq => ?_))
    go_ret
    rw [hf.out]
    exact ⟨rfl, uw_⟩
   ·have q1' : (((byteAt x 0).toNat : Int) != ((byteAt x 1).toNat : Int)) = true := by rw [byte_bne, decide_eq_true q1]
    have Q1 := hd_ q1
    clear q1
    by_cases q2 : byteAt x 0 = byteAt y 1
    ·have q2' : (((byteAt x 0).toNat : Int) == ((byteAt y 1).toNat : Int)) = true := by rw [byte_beq, decide_eq_true q2]
     have Q2 := hd_ q2
     clear q2
     by_cases q3 : byteAt x 1 = byteAt y 0
     ·have q3' : (((byteAt x 1).toNat : Int) == ((byteAt y 0).toNat : Int)) = true := by rw [byte_beq, decide_eq_true q3]
      have Q3 := hd_ q3
      clear q3
      have hf : Hid (okAl x y 0 0 4 = true) := hd_ (by exact decide_eq_true ⟨by omega, by omega, Q1.out, Q2.out, Q3.out⟩)
      go_enter Tryz.func221, Tryz.ntmps221
      go_wp2_with (first | ((with_reducible refine wru ?_); (repeat (go_big_quiet_step (fail))); refine wqn fun nq => ?_))
      go_ret
      rw [hf.out]
      exact ⟨rfl, uw_⟩
     ·have q3' : (((byteAt x 1).toNat : Int) == ((byteAt y 0).toNat : Int)) = false := by rw [byte_beq, decide_eq_false q3]
      have Q3 := hd_ q3
      clear q3
      have hf : Hid (okAl x y 0 0 4 = false) := hd_ (by exact decide_eq_false (fun h => Q3.out h.2.2.2.2))
      go_enter Tryz.func221, Tryz.ntmps221
      go_wp2_with (first | ((with_reducible refine wru ?_); (repeat (go_big_quiet_step (fail))); refine wqn fun nq => ?_))
      go_ret
      rw [hf.out]
      exact ⟨rfl, uw_⟩
    ·have q2' : (((byteAt x 0).toNat : Int) == ((byteAt y 1).toNat : Int)) = false := by rw [byte_beq, decide_eq_false q2]
     have Q2 := hd_ q2
     clear q2
     have hf : Hid (okAl x y 0 0 4 = false) := hd_ (by exact decide_eq_false (fun h => Q2.out h.2.2.2.1))
     go_enter Tryz.func221, Tryz.ntmps221
     go_wp2_with (first | ((with_reducible refine wru ?_); (repeat (go_big_quiet_step (fail))); refine wqn fun nq => ?_))
     go_ret
     rw [hf.out]
     exact ⟨rfl, uw_⟩
  ·have h2' : ¬ (2 : Int) ≤ y.size := by omega
   have hf : Hid (okAl x y 0 0 4 = false) := hd_ (by exact decide_eq_false (fun h => h2 (by omega)))
   go_enter Tryz.func221, Tryz.ntmps221
   go_wp2_with (first | ((with_reducible refine wru ?_); (repeat (go_big_quiet_step (fail))); refine wqn fun nq => ?_))
   go_ret
   rw [hf.out]
   exact ⟨rfl, uw_⟩
 ·have h1' : ¬ (2 : Int) ≤ x.size := by omega
  have hf : Hid (okAl x y 0 0 4 = false) := hd_ (by exact decide_eq_false (fun h => h1 (by omega)))
  go_enter Tryz.func221, Tryz.ntmps221
  go_wp2_with (first | ((with_reducible refine wru ?_); (repeat (go_big_quiet_step (fail))); refine wqn fun nq => ?_))
  go_ret
  rw [hf.out]
  exact ⟨rfl, uw_⟩
end Go.Proofs.YtbianlkenallaaaGreatDoor
