/-
  Valid stops and baskets: of the program and of the reference. The bounds stand at each.
-/
import Derived.Test.YtbianlkenallaaaGreatDoorMgA
set_option linter.all false
set_option maxHeartbeats 1000000
set_option maxRecDepth 10000
namespace Go.Proofs.YtbianlkenallaaaGreatDoor
open Go.RowKit
section
variable (A : Option Addr) (c : Nat) (l : List Int) (w : World)
theorem validStops_any (h : Rds w 1 A l.length (ics l)) (hn : l.length ≤ 100000000) :
 Calls Tryz.prog 66 #[.slice A l.length c] w fun e w' => e = .returned (.bool (vStops l)) ∧ UpOf w w' := by
 by_cases h6 : l.length ≤ 6
 ·have HL := hd_ h6
  clear h6
  have h6' : (l.length : Int) ≤ 6 := by have := HL.out; omega
  go_enter Tryz.func66, Tryz.ntmps66
  go_wp2_with fail
  go_loopw [10] (fun i wr => ∃ k : Nat, k ≤ l.length ∧ i = i64 k ∧ Hid (∀ j, j < k → stopAt l j = true) ∧ ∃ g : Up w, wr = up w g) (fun i _ => l.length - (intOf i).toNat)
  case atStart => exact ⟨0, by omega, rfl, fun i hi => by omega, ex_up bw_⟩
  case round =>
   obtain ⟨k, hk, rfl, hok, g, rfl⟩ := hrel
   by_cases hlt : k < l.length
   ·obtain ⟨b, off, rfl, hb, c0⟩ := num_at h hlt
    cases p1 : btw (num l k) 1 30
    ·have hf := hd_ (vStops_at hlt (stopAt_1 p1))
     go_wp2_with (first | (go_at_call 118; refine cs_ (between_any _ _ _ _) ?_) | (go_at_call 141; refine cs_ (in_any _ _ _ _) ?_))
     go_ret
     exact ⟨rb_ hf.out.symm, uw_⟩
    by_cases k0 : k = 0
    ·have hq := hd_ (stopAt_3 k0 p1)
     have hk0 : decide (0 < k) = false := by simp; omega
     clear k0
     go_wp2_with (first | (go_at_call 118; refine cs_ (between_any _ _ _ _) ?_) | (go_at_call 141; refine cs_ (in_any _ _ _ _) ?_))
     go_roundw
     case rel => have hx := lt_ext (P := fun j => stopAt l j = true) hok.out hq.out; exact ⟨k + 1, by omega, by go_num, hx, ex_up bw_⟩
     case measure => (simp [intOf]; try omega)
    ·obtain ⟨b', off', e', hb', d0⟩ := num_at h (k := k - 1) (by omega)
     injection e' with e'
     injection e' with e1 e2 _
     subst e1 e2
     have hk0 : decide (0 < k) = true := by simp; omega
     have hk1 : (1 : Int) ≤ (k : Int) := by omega
     by_cases p2 : num l (k - 1) < num l k
     ·have hq := hd_ (stopAt_4 p1 p2)
      have p3 : decide (num l k ≤ num l (k - 1)) = false := decide_eq_false (by omega)
      go_wp2_with (first | (go_at_call 118; refine cs_ (between_any _ _ _ _) ?_) | (go_at_call 141; refine cs_ (in_any _ _ _ _) ?_))
      go_roundw
      case rel => have hx := lt_ext (P := fun j => stopAt l j = true) hok.out hq.out; exact ⟨k + 1, by omega, by go_num, hx, ex_up bw_⟩
      case measure => (simp [intOf]; try omega)
     ·have hf := hd_ (vStops_at hlt (stopAt_2 (by omega) p2))
      have p3 : num l k ≤ num l (k - 1) := by omega
      go_wp2_with (first | (go_at_call 118; refine cs_ (between_any _ _ _ _) ?_) | (go_at_call 141; refine cs_ (in_any _ _ _ _) ?_))
      go_ret
      exact ⟨rb_ hf.out.symm, uw_⟩
   ·have hf := hd_ (vStops_true HL.out (fun i hi => hok.out i (by omega)))
    go_wp2_with fail
    go_ret
    exact ⟨rb_ hf.out.symm, uw_⟩
 ·have hf := hd_ (vStops_len h6)
  have h6' : (6 : Int) < (l.length : Int) := by omega
  go_enter Tryz.func66, Tryz.ntmps66
  go_wp2_with fail
  go_ret
  exact ⟨rb_ hf.out.symm, uw_⟩
theorem l00Rises_any (h : Rds w 1 A l.length (ics l)) (hn : l.length ≤ 100000000) :
 Calls Tryz.prog 142 #[.slice A l.length c, i64 1, i64 30] w fun e w' => e = .returned (.bool (risesAll l)) ∧ UpOf w w' := by
 go_enter Tryz.func142, Tryz.ntmps142
 go_wp2_with ((with_reducible refine wru ?_); refine wrz fun _ => ?_)
 go_loopw [7] (fun i wr => ∃ k : Nat, k ≤ l.length ∧ i = i64 k ∧ Hid (∀ j, j < k → stopAt l j = true) ∧ ∃ g : Up w, wr = up w g) (fun i _ => l.length - (intOf i).toNat)
 case atStart => exact ⟨0, by omega, rfl, fun i hi => by omega, ex_up bw_⟩
 case round =>
  obtain ⟨k, hk, rfl, hok, g, rfl⟩ := hrel
  by_cases hlt : k < l.length
  ·obtain ⟨b, off, rfl, hb, c0⟩ := num_at h hlt
   cases p1 : btw (num l k) 1 30
   ·have hf := hd_ (rises_at hlt (stopAt_1 p1))
    go_wp2_with (first | (go_at_call 118; refine cs_ (between_any _ _ _ _) ?_) | ((with_reducible refine wru ?_); (repeat (go_big_quiet_step (first | (go_at_call 141; exact uqs_ (in_any _ _ _ _))))); refine wqn fun nq => ?_))
    go_ret
    exact ⟨rb_ hf.out.symm, uw_⟩
   by_cases k0 : k = 0
   ·have hq := hd_ (stopAt_3 k0 p1)
    have hk0 : decide (0 < k) = false := by simp; omega
    clear k0
    go_wp2_with (first | (go_at_call 118; refine cs_ (between_any _ _ _ _) ?_) | ((with_reducible refine wru ?_); (repeat (go_big_quiet_step (first | (go_at_call 141; exact uqs_ (in_any _ _ _ _))))); refine wqn fun nq => ?_))
    go_roundw
    case rel => have hx := lt_ext (P := fun j => stopAt l j = true) hok.out hq.out; exact ⟨k + 1, by omega, by go_num, hx, ex_up bw_⟩
    case measure => (simp [intOf]; try omega)
   ·obtain ⟨b', off', e', hb', d0⟩ := num_at h (k := k - 1) (by omega)
    injection e' with e'
    injection e' with e1 e2 _
    subst e1 e2
    have hk0 : decide (0 < k) = true := by simp; omega
    have hk1 : (1 : Int) ≤ (k : Int) := by omega
    by_cases p2 : num l (k - 1) < num l k
    ·have hq := hd_ (stopAt_4 p1 p2)
     have p3 : decide (num l k ≤ num l (k - 1)) = false := decide_eq_false (by omega)
     go_wp2_with (first | (go_at_call 118; refine cs_ (between_any _ _ _ _) ?_) | ((with_reducible refine wru ?_); (repeat (go_big_quiet_step (first | (go_at_call 141; exact uqs_ (in_any _ _ _ _))))); refine wqn fun nq => ?_))
     go_roundw
     case rel => have hx := lt_ext (P := fun j => stopAt l j = true) hok.out hq.out; exact ⟨k + 1, by omega, by go_num, hx, ex_up bw_⟩
     case measure => (simp [intOf]; try omega)
    ·have hf := hd_ (rises_at hlt (stopAt_2 (by omega) p2))
     have p3 : num l k ≤ num l (k - 1) := by omega
     go_wp2_with (first | (go_at_call 118; refine cs_ (between_any _ _ _ _) ?_) | ((with_reducible refine wru ?_); (repeat (go_big_quiet_step (first | (go_at_call 141; exact uqs_ (in_any _ _ _ _))))); refine wqn fun nq => ?_))
     go_ret
     exact ⟨rb_ hf.out.symm, uw_⟩
  ·have hf := hd_ (rises_true (l := l) (fun i hi => hok.out i (by omega)))
   go_wp2_with ((with_reducible refine wru ?_); refine wrz fun _ => ?_)
   go_ret
   exact ⟨rb_ hf.out.symm, uw_⟩
theorem l11Ok_any (h : Rds w 1 A l.length (ics l)) (hn : l.length ≤ 100000000) :
 Calls Tryz.prog 93 #[.slice A l.length c] w fun e w' => e = .returned (.bool (vStops l)) ∧ UpOf w w' := by
 by_cases h6 : l.length ≤ 6
 ·have hf := hd_ (vStops_rises h6)
  have h6' : (l.length : Int) ≤ 6 := by omega
  go_enter Tryz.func93, Tryz.ntmps93
  go_wp2_with (first | (go_at_call 142; refine cu_ (l00Rises_any _ _ _ _ (h.below bw_) hn) fun g => ?_))
  go_ret
  exact ⟨rb_ hf.out.symm, uw_⟩
 ·have hf := hd_ (vStops_len h6)
  have h6' : decide ((l.length : Int) ≤ 6) = false := decide_eq_false (by omega)
  go_enter Tryz.func93, Tryz.ntmps93
  go_wp2_with fail
  go_ret
  exact ⟨rb_ hf.out.symm, uw_⟩
end
theorem validBasket_any (b : Bsk) (w : World) : Calls Tryz.prog 65 #[bsv b] w fun e w' => e = .returned (.bool (vBsk b)) ∧ UpOf w w' := by
 have hd : vBsk b = (btw b.bars 2 60 && btw b.rise 1 100 && btw b.fall 1 100 && btw b.clr 1 100 && btw b.near 0 100) := rfl
 cases q1 : btw b.bars 2 60
 ·have hf := hd_ (show vBsk b = false by rw [hd, q1]; rfl)
  clear hd
  go_enter Tryz.func65, Tryz.ntmps65
  go_wp2_with (first | (go_at_call 118; refine cs_ (between_any _ _ _ _) ?_))
  go_ret
  exact ⟨rb_ hf.out.symm, uw_⟩
 cases q2 : btw b.rise 1 100
 ·have hf := hd_ (show vBsk b = false by rw [hd, q2, Bool.and_false]; rfl)
  clear hd
  go_enter Tryz.func65, Tryz.ntmps65
  go_wp2_with (first | (go_at_call 118; refine cs_ (between_any _ _ _ _) ?_))
  go_ret
  exact ⟨rb_ hf.out.symm, uw_⟩
 cases q3 : btw b.fall 1 100
 ·have hf := hd_ (show vBsk b = false by rw [hd, q3, Bool.and_false]; rfl)
  clear hd
  go_enter Tryz.func65, Tryz.ntmps65
  go_wp2_with (first | (go_at_call 118; refine cs_ (between_any _ _ _ _) ?_))
  go_ret
  exact ⟨rb_ hf.out.symm, uw_⟩
 cases q4 : btw b.clr 1 100
 ·have hf := hd_ (show vBsk b = false by rw [hd, q4, Bool.and_false]; rfl)
  clear hd
  go_enter Tryz.func65, Tryz.ntmps65
  go_wp2_with (first | (go_at_call 118; refine cs_ (between_any _ _ _ _) ?_))
  go_ret
  exact ⟨rb_ hf.out.symm, uw_⟩
 have hf := hd_ (show vBsk b = btw b.near 0 100 by rw [hd, q1, q2, q3, q4]; rfl)
 clear hd
 go_enter Tryz.func65, Tryz.ntmps65
 go_wp2_with (first | (go_at_call 118; refine cs_ (between_any _ _ _ _) ?_))
 go_ret
 exact ⟨rb_ hf.out.symm, uw_⟩
theorem l03Ok_any (b : Bsk) (w : World) : Calls Tryz.prog 92 #[bsv b] w fun e w' => e = .returned (.bool (vBsk b)) ∧ UpOf w w' := by
 have hd : vBsk b = (btw b.bars 2 60 && btw b.rise 1 100 && btw b.fall 1 100 && btw b.clr 1 100 && btw b.near 0 100) := rfl
 cases q1 : btw b.bars 2 60
 ·have hf := hd_ (show vBsk b = false by rw [hd, q1]; rfl)
  clear hd
  go_enter Tryz.func92, Tryz.ntmps92
  go_wp2_with (first | (go_at_call 141; refine cs_ (in_any _ _ _ _) ?_))
  go_ret
  exact ⟨rb_ hf.out.symm, uw_⟩
 cases q2 : btw b.rise 1 100
 ·have hf := hd_ (show vBsk b = false by rw [hd, q2, Bool.and_false]; rfl)
  clear hd
  go_enter Tryz.func92, Tryz.ntmps92
  go_wp2_with (first | (go_at_call 141; refine cs_ (in_any _ _ _ _) ?_))
  go_ret
  exact ⟨rb_ hf.out.symm, uw_⟩
 cases q3 : btw b.fall 1 100
 ·have hf := hd_ (show vBsk b = false by rw [hd, q3, Bool.and_false]; rfl)
  clear hd
  go_enter Tryz.func92, Tryz.ntmps92
  go_wp2_with (first | (go_at_call 141; refine cs_ (in_any _ _ _ _) ?_))
  go_ret
  exact ⟨rb_ hf.out.symm, uw_⟩
 cases q4 : btw b.clr 1 100
 ·have hf := hd_ (show vBsk b = false by rw [hd, q4, Bool.and_false]; rfl)
  clear hd
  go_enter Tryz.func92, Tryz.ntmps92
  go_wp2_with (first | (go_at_call 141; refine cs_ (in_any _ _ _ _) ?_))
  go_ret
  exact ⟨rb_ hf.out.symm, uw_⟩
 have hf := hd_ (show vBsk b = btw b.near 0 100 by rw [hd, q1, q2, q3, q4]; rfl)
 clear hd
 go_enter Tryz.func92, Tryz.ntmps92
 go_wp2_with (first | (go_at_call 141; refine cs_ (in_any _ _ _ _) ?_))
 go_ret
 exact ⟨rb_ hf.out.symm, uw_⟩
end Go.Proofs.YtbianlkenallaaaGreatDoor
