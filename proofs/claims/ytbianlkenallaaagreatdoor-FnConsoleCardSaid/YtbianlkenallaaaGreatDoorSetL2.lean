/-
  Whether words can be set in lines: the program's. The bounds stand at it.
-/
import Derived.Test.YtbianlkenallaaaGreatDoorMgC
set_option linter.all false
namespace Go.Proofs.YtbianlkenallaaaGreatDoor
open Go.RowKit
theorem wordB_txt (n : Int) (s : ByteArray) (h : 0 ≤ n) : wordB n s = (decide (1 ≤ s.size) && txtB 33 n.toNat s) := by
  rw [wordB, txtB, Bool.and_assoc]
  congr 2
  rw [decide_eq_decide]; omega
theorem vText_1 {ws : List ByteArray} {n : Int} (h : btw n 1 80 = false) : vText ws n = false := by rw [vText, h]; rfl
theorem vText_2 {ws : List ByteArray} {n : Int} (h : ¬ ws.length ≤ 40) : vText ws n = false := by rw [vText, decide_eq_false h, Bool.and_false, Bool.false_and]
theorem vText_3 {ws : List ByteArray} {n : Int} {i : Nat} (hi : i < ws.length) (h : wordB n (wd ws i) = false) : vText ws n = false := by rw [vText, rall_at hi h, Bool.and_false]
theorem vText_0 {ws : List ByteArray} {n : Int} (h1 : btw n 1 80 = true) (h2 : ws.length ≤ 40) (h : ∀ i, i < ws.length → wordB n (wd ws i) = true) : vText ws n = true := by
  rw [vText, h1, decide_eq_true h2, rall_true h]; rfl
theorem vText_inv {ws : List ByteArray} {n : Int} (h : vText ws n = true) : (1 ≤ n ∧ n ≤ 80) ∧ ws.length ≤ 40 ∧ ∀ i, i < ws.length → 0 < (wd ws i).size ∧ ((wd ws i).size : Int) ≤ n := by
  simp only [vText, Bool.and_eq_true, decide_eq_true_eq, List.all_eq_true, List.mem_range, wordB] at h
  exact ⟨btw_true h.1.1, h.1.2, fun i hi => ⟨(h.2 i hi).1.1, (h.2 i hi).1.2⟩⟩
set_option maxRecDepth 10000 in
set_option maxHeartbeats 2000000 in
theorem validText_any (n : Int) (A : Option Addr) (c : Nat) (ws : List ByteArray) (w : World) (h : Rds w 1 A ws.length (strs ws)) (hn : ws.length ≤ 100000000) (hf : WBd ws) :
    Calls Tryz.prog 131 #[.slice A ws.length c, i64 n] w fun e w' => e = .returned (.bool (vText ws n)) ∧ UpOf w w' := by
  have HF := Lib.hid hf
  have HR := Lib.hid h
  clear hf h
  cases b1 : btw n 1 80 with
  | false =>
    have hr := Lib.hid (vText_1 (ws := ws) b1)
    go_enter Tryz.func131, Tryz.ntmps131
    go_wp2_with (first | (go_at_call 118; refine (ret_as (between_any n 1 80 _) b1).mono ?_; rintro e w' ⟨rfl, rfl⟩) | ((with_reducible refine wp_region_up (by kernel_rfl) (by kernel_rfl) ?_); (repeat (go_big_quiet_step (first | (go_at_call 118; first | exact upq_tr_same (ret_as (between_any n 1 80 _) b1) | exact upq_same (ret_as (between_any n 1 80 _) b1))))); refine wpQuiet_nil ?_; intro _ hw'; obtain ⟨nq, hw''⟩ := hw'; subst hw''))
    go_ret
    exact ⟨ret_bool hr.out.symm, UpOf.of (BL.o (by repeat constructor))⟩
  | true =>
    have hb := btw_true b1
    by_cases h40 : ws.length ≤ 40
    · have h40' : ¬ (40 : Int) < ws.length := by omega
      go_enter Tryz.func131, Tryz.ntmps131
      go_wp2_with (first | (go_at_call 118; refine (ret_as (between_any n 1 80 _) b1).mono ?_; rintro e w' ⟨rfl, rfl⟩) | ((with_reducible refine wp_region_up (by kernel_rfl) (by kernel_rfl) ?_); (repeat (go_big_quiet_step (first | (go_at_call 118; first | exact upq_tr_same (ret_as (between_any n 1 80 _) b1) | exact upq_same (ret_as (between_any n 1 80 _) b1))))); refine wpQuiet_nil ?_; intro _ hw'; obtain ⟨nq, hw''⟩ := hw'; subst hw''))
      go_loopw [17] (fun t17 wr => ∃ k : Nat, k ≤ ws.length ∧ t17 = i64 k ∧ Hid (∀ j, j < k → wordB n (wd ws j) = true) ∧ ∃ g : Up w, wr = up w g) (fun t17 _ => ws.length - (intOf t17).toNat)
      case atStart => exact ⟨0, by omega, rfl, Lib.hid (fun j hj => by omega), ex_up (BL.o (by repeat constructor))⟩
      case round =>
        obtain ⟨k, hk, rfl, HK, g, rfl⟩ := hrel
        by_cases hlt : k < ws.length
        · obtain ⟨b, off, rfl, hb', c0⟩ := wd_at HR.out hlt
          have c0 := c0 k hlt
          have f1 := HF.out k hlt
          by_cases z : (wd ws k).size = 0
          · have z' : ((wd ws k).size : Int) = 0 := by omega
            have hf := Lib.hid (vText_3 (n := n) hlt (by rw [wordB, decide_eq_false (by omega)]; rfl))
            go_wp2_with (first | ((with_reducible refine wp_region_up (by kernel_rfl) (by kernel_rfl) ?_); (repeat (go_big_quiet_step (fail))); refine wpQuiet_nil ?_; intro _ hw'; obtain ⟨nq, hw''⟩ := hw'; subst hw''))
            go_ret
            exact ⟨ret_bool hf.out.symm, UpOf.of (BL.o (by repeat constructor))⟩
          · have z' : ¬ ((wd ws k).size : Int) = 0 := by omega
            have z2 : (((wd ws k).size : Int) == 0) = false := beq_eq_false_iff_ne.2 z'
            have hit : ∀ V, Calls Tryz.prog 134 #[.string (wd ws k), .int .u8 33, i64 n] V fun e w' => e = .returned (.bool (wordB n (wd ws k))) ∧ V = w' := fun V => by
              have := isText_any (wd ws k) 33 n.toNat V (by omega) (by omega) (by omega)
              rw [show ((n.toNat : Nat) : Int) = n by omega] at this
              rw [wordB_txt n _ (by omega), decide_eq_true (by omega), Bool.true_and]
              exact this
            cases b2 : wordB n (wd ws k) with
            | false =>
              rw [b2] at hit
              have HI := Lib.hid hit
              have hf := Lib.hid (vText_3 (n := n) hlt b2)
              clear hit b2 z
              go_wp2_with (first | (go_at_call 134; refine (HI.out _).mono ?_; rintro e w' ⟨rfl, rfl⟩) | ((with_reducible refine wp_region_up (by kernel_rfl) (by kernel_rfl) ?_); (repeat (go_big_quiet_step (first | (go_at_call 134; first | exact upq_tr_same (HI.out _) | exact upq_same (HI.out _))))); refine wpQuiet_nil ?_; intro _ hw'; obtain ⟨nq, hw''⟩ := hw'; subst hw''))
              go_ret
              exact ⟨ret_bool hf.out.symm, UpOf.of (BL.o (by repeat constructor))⟩
            | true =>
              rw [b2] at hit
              have HI := Lib.hid hit
              have HK2 := Lib.hid (lt_ext (P := fun j => wordB n (wd ws j) = true) HK.out b2)
              clear hit b2 z
              go_wp2_with (first | (go_at_call 134; refine (HI.out _).mono ?_; rintro e w' ⟨rfl, rfl⟩) | ((with_reducible refine wp_region_up (by kernel_rfl) (by kernel_rfl) ?_); (repeat (go_big_quiet_step (first | (go_at_call 134; first | exact upq_tr_same (HI.out _) | exact upq_same (HI.out _))))); refine wpQuiet_nil ?_; intro _ hw'; obtain ⟨nq, hw''⟩ := hw'; subst hw''))
              go_roundw
              case rel => exact ⟨k + 1, by omega, by go_num, HK2, ex_up (BL.o (by repeat constructor))⟩
              case measure => simp [intOf]; try omega
        · obtain rfl : k = ws.length := by omega
          have hf := Lib.hid (vText_0 b1 h40 HK.out)
          go_wp2_with (first | ((with_reducible refine wp_region_up (by kernel_rfl) (by kernel_rfl) ?_); (repeat (go_big_quiet_step (fail))); refine wpQuiet_nil ?_; intro _ hw'; obtain ⟨nq, hw''⟩ := hw'; subst hw''))
          go_ret
          exact ⟨ret_bool hf.out.symm, UpOf.of (BL.o (by repeat constructor))⟩
    · have h40' : (40 : Int) < ws.length := by omega
      have hr := Lib.hid (vText_2 (n := n) h40)
      go_enter Tryz.func131, Tryz.ntmps131
      go_wp2_with (first | (go_at_call 118; refine (ret_as (between_any n 1 80 _) b1).mono ?_; rintro e w' ⟨rfl, rfl⟩) | ((with_reducible refine wp_region_up (by kernel_rfl) (by kernel_rfl) ?_); (repeat (go_big_quiet_step (first | (go_at_call 118; first | exact upq_tr_same (ret_as (between_any n 1 80 _) b1) | exact upq_same (ret_as (between_any n 1 80 _) b1))))); refine wpQuiet_nil ?_; intro _ hw'; obtain ⟨nq, hw''⟩ := hw'; subst hw''))
      go_ret
      exact ⟨ret_bool hr.out.symm, UpOf.of (BL.o (by repeat constructor))⟩
end Go.Proofs.YtbianlkenallaaaGreatDoor
