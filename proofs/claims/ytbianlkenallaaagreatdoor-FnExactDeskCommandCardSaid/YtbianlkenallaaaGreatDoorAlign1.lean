/-
  One step of an alignment, the program's. The bounds stand at it.
-/
import Derived.Test.YtbianlkenallaaaGreatDoorMgB
import Derived.Test.YtbianlkenallaaaGreatDoorMgC
set_option linter.all false
set_option maxHeartbeats 2000000
set_option maxRecDepth 10000
namespace Go.Proofs.YtbianlkenallaaaGreatDoor
open Go.RowKit
theorem results_tmp4 {fn : Func} {t u v x : Tmp} (h : fn.results = #[.tmp t, .tmp u, .tmp v, .tmp x]) (tmps : Array Value) (P : Program) (w : World) :
 (results fn tmps).run P w = .ok (.tuple #[tmps.getD t undef, tmps.getD u undef, tmps.getD v undef, tmps.getD x undef]) w := by
 simp [results, h]
theorem byte_beq (a b : UInt8) : ((a.toNat : Int) == (b.toNat : Int)) = decide (a = b) := by
 rw [Bool.eq_iff_iff, beq_iff_eq, decide_eq_true_eq]
 constructor
 ·intro h; exact UInt8.toNat_inj.1 (by omega)
 ·rintro rfl; rfl
theorem byte_bne (a b : UInt8) : ((a.toNat : Int) != (b.toNat : Int)) = decide (a ≠ b) := by
 rw [bne, byte_beq]; by_cases h : a = b <;> simp [h]
theorem stepAt_any (x y : ByteArray) (j : Nat) (w : World) (hj : j < 5) (hx : x.size ≤ 1000) (hy : y.size ≤ 1000) :
 Calls Tryz.prog 135 #[.string x, .string y, .int .u8 ((stB j).toNat : Int)] w fun e w' => e = .returned (.tuple #[i64 (sdi j), i64 (sdk j), i64 (ser j), .bool (okAl x y 0 0 j)]) ∧ UpOf w w' := by
 obtain ⟨b, hb⟩ := nm_ (okAl x y 0 0 j)
 have HF := hd_ hb
 rw [hb]
 have h5 : j = 0 ∨ j = 1 ∨ j = 2 ∨ j = 3 ∨ j = 4 := by omega
 by_cases hx0 : x.size = 0
 ·have e1 := isEmpty_yes hx0
  by_cases hy0 : y.size = 0
  ·have e2 := isEmpty_yes hy0
   rcases h5 with rfl | rfl | rfl | rfl | rfl
   all_goals
    have hbf : b = false := by rw [← hb]; simp [okAl, hx0, hy0]
    subst hbf
    clear hb HF
    go_enter Tryz.func135, Tryz.ntmps135
    go_wp2_with ((with_reducible refine wru ?_); refine wrz fun _ => ?_)
    ((try simp only [Exit.inBlock, Exit.then]); refine bodyPost_ret (results_tmp4 rfl _ _ _) rfl ?_)
    exact ⟨rfl, uw_⟩
  ·have e2 := isEmpty_no (s := y) (by omega)
   rcases h5 with rfl | rfl | rfl | rfl | rfl
   ·have hbf : b = true := by rw [← hb]; (simp [okAl]; omega)
    subst hbf
    clear hb HF
    go_enter Tryz.func135, Tryz.ntmps135
    go_wp2_with ((with_reducible refine wru ?_); refine wrz fun _ => ?_)
    ((try simp only [Exit.inBlock, Exit.then]); refine bodyPost_ret (results_tmp4 rfl _ _ _) rfl ?_)
    exact ⟨rfl, uw_⟩
   all_goals
    have hbf : b = false := by rw [← hb]; simp [okAl, hx0]
    subst hbf
    clear hb HF
    go_enter Tryz.func135, Tryz.ntmps135
    go_wp2_with ((with_reducible refine wru ?_); refine wrz fun _ => ?_)
    ((try simp only [Exit.inBlock, Exit.then]); refine bodyPost_ret (results_tmp4 rfl _ _ _) rfl ?_)
    exact ⟨rfl, uw_⟩
 ·have e1 := isEmpty_no (s := x) (by omega)
  have px : 0 < x.size := by omega
  have b0 := byteAt_eq px
  by_cases hy0 : y.size = 0
  ·have e2 := isEmpty_yes hy0
   rcases h5 with rfl | rfl | rfl | rfl | rfl
   ·have hbf : b = false := by rw [← hb]; simp [okAl, hy0]
    subst hbf
    clear hb HF
    go_enter Tryz.func135, Tryz.ntmps135
    go_wp2_with ((with_reducible refine wru ?_); refine wrz fun _ => ?_)
    ((try simp only [Exit.inBlock, Exit.then]); refine bodyPost_ret (results_tmp4 rfl _ _ _) rfl ?_)
    exact ⟨rfl, uw_⟩
   ·have hbf : b = true := by rw [← hb]; (simp [okAl]; omega)
    subst hbf
    clear hb HF
    go_enter Tryz.func135, Tryz.ntmps135
    go_wp2_with ((with_reducible refine wru ?_); refine wrz fun _ => ?_)
    ((try simp only [Exit.inBlock, Exit.then]); refine bodyPost_ret (results_tmp4 rfl _ _ _) rfl ?_)
    exact ⟨rfl, uw_⟩
   ·have hbf : b = false := by rw [← hb]; simp [okAl, hy0]
    subst hbf
    clear hb HF
    go_enter Tryz.func135, Tryz.ntmps135
    go_wp2_with ((with_reducible refine wru ?_); refine wrz fun _ => ?_)
    ((try simp only [Exit.inBlock, Exit.then]); refine bodyPost_ret (results_tmp4 rfl _ _ _) rfl ?_)
    exact ⟨rfl, uw_⟩
   ·have hbf : b = false := by rw [← hb]; simp [okAl, hy0]
    subst hbf
    clear hb HF
    go_enter Tryz.func135, Tryz.ntmps135
    go_wp2_with ((with_reducible refine wru ?_); refine wrz fun _ => ?_)
    ((try simp only [Exit.inBlock, Exit.then]); refine bodyPost_ret (results_tmp4 rfl _ _ _) rfl ?_)
    exact ⟨rfl, uw_⟩
   ·by_cases h1 : 1 < x.size
    ·have h1' : (1 : Int) < x.size := by omega
     have hbf : b = false := by rw [← hb]; simp [okAl, hy0]
     subst hbf
     clear hb HF
     go_enter Tryz.func135, Tryz.ntmps135
     go_wp2_with ((with_reducible refine wru ?_); refine wrz fun _ => ?_)
     ((try simp only [Exit.inBlock, Exit.then]); refine bodyPost_ret (results_tmp4 rfl _ _ _) rfl ?_)
     exact ⟨rfl, uw_⟩
    ·have h1' : ¬ (1 : Int) < x.size := by omega
     have hbf : b = false := by rw [← hb]; simp [okAl, hy0]
     subst hbf
     clear hb HF
     go_enter Tryz.func135, Tryz.ntmps135
     go_wp2_with ((with_reducible refine wru ?_); refine wrz fun _ => ?_)
     ((try simp only [Exit.inBlock, Exit.then]); refine bodyPost_ret (results_tmp4 rfl _ _ _) rfl ?_)
     exact ⟨rfl, uw_⟩
  ·have e2 := isEmpty_no (s := y) (by omega)
   have py : 0 < y.size := by omega
   have d0 := byteAt_eq py
   rcases h5 with rfl | rfl | rfl | rfl | rfl
   ·have hbf : b = true := by rw [← hb]; (simp [okAl]; omega)
    subst hbf
    clear hb HF
    go_enter Tryz.func135, Tryz.ntmps135
    go_wp2_with ((with_reducible refine wru ?_); refine wrz fun _ => ?_)
    ((try simp only [Exit.inBlock, Exit.then]); refine bodyPost_ret (results_tmp4 rfl _ _ _) rfl ?_)
    exact ⟨rfl, uw_⟩
   ·have hbf : b = true := by rw [← hb]; (simp [okAl]; omega)
    subst hbf
    clear hb HF
    go_enter Tryz.func135, Tryz.ntmps135
    go_wp2_with ((with_reducible refine wru ?_); refine wrz fun _ => ?_)
    ((try simp only [Exit.inBlock, Exit.then]); refine bodyPost_ret (results_tmp4 rfl _ _ _) rfl ?_)
    exact ⟨rfl, uw_⟩
   ·by_cases q : byteAt x 0 = byteAt y 0
    ·have q' : (((byteAt x 0).toNat : Int) == ((byteAt y 0).toNat : Int)) = true := by rw [byte_beq, decide_eq_true q]
     have hbf : b = true := by rw [← hb]; (simp [okAl, q]; omega)
     subst hbf
     clear hb HF
     go_enter Tryz.func135, Tryz.ntmps135
     go_wp2_with ((with_reducible refine wru ?_); refine wrz fun _ => ?_)
     ((try simp only [Exit.inBlock, Exit.then]); refine bodyPost_ret (results_tmp4 rfl _ _ _) rfl ?_)
     exact ⟨rfl, uw_⟩
    ·have q' : (((byteAt x 0).toNat : Int) == ((byteAt y 0).toNat : Int)) = false := by rw [byte_beq, decide_eq_false q]
     have hbf : b = false := by rw [← hb]; simp [okAl, q]
     subst hbf
     clear hb HF
     go_enter Tryz.func135, Tryz.ntmps135
     go_wp2_with ((with_reducible refine wru ?_); refine wrz fun _ => ?_)
     ((try simp only [Exit.inBlock, Exit.then]); refine bodyPost_ret (results_tmp4 rfl _ _ _) rfl ?_)
     exact ⟨rfl, uw_⟩
   ·by_cases q : byteAt x 0 = byteAt y 0
    ·have q' : (((byteAt x 0).toNat : Int) != ((byteAt y 0).toNat : Int)) = false := by rw [byte_bne, decide_eq_false (fun h => h q)]
     have hbf : b = false := by rw [← hb]; simp [okAl, q]
     subst hbf
     clear hb HF
     go_enter Tryz.func135, Tryz.ntmps135
     go_wp2_with ((with_reducible refine wru ?_); refine wrz fun _ => ?_)
     ((try simp only [Exit.inBlock, Exit.then]); refine bodyPost_ret (results_tmp4 rfl _ _ _) rfl ?_)
     exact ⟨rfl, uw_⟩
    ·have q' : (((byteAt x 0).toNat : Int) != ((byteAt y 0).toNat : Int)) = true := by rw [byte_bne, decide_eq_true q]
     have hbf : b = true := by rw [← hb]; (simp [okAl, q]; omega)
     subst hbf
     clear hb HF
     go_enter Tryz.func135, Tryz.ntmps135
     go_wp2_with ((with_reducible refine wru ?_); refine wrz fun _ => ?_)
     ((try simp only [Exit.inBlock, Exit.then]); refine bodyPost_ret (results_tmp4 rfl _ _ _) rfl ?_)
     exact ⟨rfl, uw_⟩
   ·by_cases h1 : 1 < x.size
    ·have h1' : (1 : Int) < x.size := by omega
     by_cases h2 : 1 < y.size
     ·have h2' : (1 : Int) < y.size := by omega
      have b1 := byteAt_eq h1
      have d1 := byteAt_eq h2
      by_cases q1 : byteAt x 0 = byteAt x 1
      ·have q1' : (((byteAt x 0).toNat : Int) != ((byteAt x 1).toNat : Int)) = false := by rw [byte_bne, decide_eq_false (fun h => h q1)]
       have hbf : b = false := by rw [← hb]; simp [okAl, q1]
       subst hbf
       clear hb HF
       go_enter Tryz.func135, Tryz.ntmps135
       go_wp2_with ((with_reducible refine wru ?_); refine wrz fun _ => ?_)
       ((try simp only [Exit.inBlock, Exit.then]); refine bodyPost_ret (results_tmp4 rfl _ _ _) rfl ?_)
       exact ⟨rfl, uw_⟩
      ·have q1' : (((byteAt x 0).toNat : Int) != ((byteAt x 1).toNat : Int)) = true := by rw [byte_bne, decide_eq_true q1]
       by_cases q2 : byteAt x 0 = byteAt y 1
       ·have q2' : (((byteAt x 0).toNat : Int) == ((byteAt y 1).toNat : Int)) = true := by rw [byte_beq, decide_eq_true q2]
        have Q2 := hd_ q2
        clear q2
        by_cases q3 : byteAt x 1 = byteAt y 0
        ·have q3' : (((byteAt x 1).toNat : Int) == ((byteAt y 0).toNat : Int)) = true := by rw [byte_beq, decide_eq_true q3]
         have Q3 := hd_ q3
         clear q3
         have hbf : b = true := by rw [← hb]; exact decide_eq_true ⟨by omega, by omega, q1, Q2.out, Q3.out⟩
         subst hbf
         clear hb HF
         go_enter Tryz.func135, Tryz.ntmps135
         go_wp2_with ((with_reducible refine wru ?_); refine wrz fun _ => ?_)
         ((try simp only [Exit.inBlock, Exit.then]); refine bodyPost_ret (results_tmp4 rfl _ _ _) rfl ?_)
         exact ⟨rfl, uw_⟩
        ·have q3' : (((byteAt x 1).toNat : Int) == ((byteAt y 0).toNat : Int)) = false := by rw [byte_beq, decide_eq_false q3]
         have hbf : b = false := by rw [← hb]; exact decide_eq_false (fun h => q3 h.2.2.2.2)
         subst hbf
         clear hb HF
         go_enter Tryz.func135, Tryz.ntmps135
         go_wp2_with ((with_reducible refine wru ?_); refine wrz fun _ => ?_)
         ((try simp only [Exit.inBlock, Exit.then]); refine bodyPost_ret (results_tmp4 rfl _ _ _) rfl ?_)
         exact ⟨rfl, uw_⟩
       ·have q2' : (((byteAt x 0).toNat : Int) == ((byteAt y 1).toNat : Int)) = false := by rw [byte_beq, decide_eq_false q2]
        have hbf : b = false := by rw [← hb]; exact decide_eq_false (fun h => q2 h.2.2.2.1)
        subst hbf
        clear hb HF
        go_enter Tryz.func135, Tryz.ntmps135
        go_wp2_with ((with_reducible refine wru ?_); refine wrz fun _ => ?_)
        ((try simp only [Exit.inBlock, Exit.then]); refine bodyPost_ret (results_tmp4 rfl _ _ _) rfl ?_)
        exact ⟨rfl, uw_⟩
     ·have h2' : ¬ (1 : Int) < y.size := by omega
      have hbf : b = false := by rw [← hb]; exact decide_eq_false (fun h => h2 (by omega))
      subst hbf
      clear hb HF
      go_enter Tryz.func135, Tryz.ntmps135
      go_wp2_with ((with_reducible refine wru ?_); refine wrz fun _ => ?_)
      ((try simp only [Exit.inBlock, Exit.then]); refine bodyPost_ret (results_tmp4 rfl _ _ _) rfl ?_)
      exact ⟨rfl, uw_⟩
    ·have h1' : ¬ (1 : Int) < x.size := by omega
     have hbf : b = false := by rw [← hb]; exact decide_eq_false (fun h => h1 (by omega))
     subst hbf
     clear hb HF
     go_enter Tryz.func135, Tryz.ntmps135
     go_wp2_with ((with_reducible refine wru ?_); refine wrz fun _ => ?_)
     ((try simp only [Exit.inBlock, Exit.then]); refine bodyPost_ret (results_tmp4 rfl _ _ _) rfl ?_)
     exact ⟨rfl, uw_⟩
end Go.Proofs.YtbianlkenallaaaGreatDoor
