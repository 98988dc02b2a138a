/-
  The law on NextFree: its walk.
-/
import Derived.Test.YtiagckbdofeecaaNextFree2
namespace Go.Proofs.Ytiagckbdofeecaa
open Go.RowKit
set_option maxRecDepth 10000 in
theorem law_nextFree (A : Option Addr) (c : Nat) (l : List Hire) (n d days : Int) (w : World) (h : Rds w 3 A l.length (hcs l)) (hn : l.length ≤ 9223372036854775807) :
    Calls Try.prog 8 #[.slice A l.length c, i64 n, i64 d, i64 days] w fun e w' => e = .returned (.bool true) ∧ UpOf w w' := by
  by_cases hl : (1048576 : Int) < l.length
  · have hs : (if (1048576 : Int) < l.length then -1 else 1048576 - (l.length : Int)) = -1 := if_pos hl
    go_enter Try.func8, Try.ntmps8
    go_wp2_with (first | (go_at_call 13; refine (szHireS_any _ _ _ _ _ (by omega) (by omega) hn).mono ?_; rintro e w' ⟨rfl, g, rfl⟩) | ((with_reducible refine wp_region_up (by kernel_rfl) (by kernel_rfl) ?_); (repeat (go_big_quiet_step (first | (go_at_call 13; first | exact upq_tr (szHireS_any _ _ _ _ _ (by omega) (by omega) hn) | exact upq (szHireS_any _ _ _ _ _ (by omega) (by omega) hn))))); refine wpQuiet_nil ?_; intro _ hw'; obtain ⟨nq, hw''⟩ := hw'; subst hw''))
    go_ret
    exact ⟨rfl, UpOf.of (by repeat (first | exact Below.refl _ _ | refine bl_tr ?_ _ | refine bl_al ?_ _ | refine bl_dr ?_ | refine bl_up ?_ _ | refine Below.drew ?_ | refine bl_alloc ?_ _ | refine Below.setCell ?_ (by simp) _))⟩
  · have hs : (if (1048576 : Int) < l.length then -1 else 1048576 - (l.length : Int)) = 1048576 - (l.length : Int) := if_neg hl
    have hl' : l.length ≤ 1048576 := by omega
    go_enter Try.func8, Try.ntmps8
    go_wp2_with (first | (go_at_call 13; refine (szHireS_any _ _ _ _ _ (by omega) (by omega) hn).mono ?_; rintro e w' ⟨rfl, g, rfl⟩) | ((with_reducible refine wp_region_up (by kernel_rfl) (by kernel_rfl) ?_); (repeat (go_big_quiet_step (first | (go_at_call 13; first | exact upq_tr (szHireS_any _ _ _ _ _ (by omega) (by omega) hn) | exact upq (szHireS_any _ _ _ _ _ (by omega) (by omega) hn))))); refine wpQuiet_nil ?_; intro _ hw'; obtain ⟨nq, hw''⟩ := hw'; subst hw''))
    refine (toHireS_any _ _ l _ (h.below (by repeat (first | exact Below.refl _ _ | refine bl_tr ?_ _ | refine bl_al ?_ _ | refine bl_dr ?_ | refine bl_up ?_ _ | refine Below.drew ?_ | refine bl_alloc ?_ _ | refine Below.setCell ?_ (by simp) _))) (by omega)).mono ?_
    rintro e w' ⟨A1, rfl, o1, g1, rfl⟩
    go_wp2_with fail
    refine (nextFreeS_any _ _ l n d days _ (Rds.of_own o1) (by omega)).mono ?_
    rintro e w' ⟨r, rfl, hr, g2, rfl⟩
    go_wp2_with fail
    refine (toHireS_any _ _ l _ (h.below (by repeat (first | exact Below.refl _ _ | refine bl_tr ?_ _ | refine bl_al ?_ _ | refine bl_dr ?_ | refine bl_up ?_ _ | refine Below.drew ?_ | refine bl_alloc ?_ _ | refine Below.setCell ?_ (by simp) _))) (by omega)).mono ?_
    rintro e w' ⟨A2, rfl, o2, g3, rfl⟩
    go_wp2_with fail
    refine (nextFreeI_any _ _ l n d days _ (Rds.of_own o2) (by omega) (by omega)).mono ?_
    rintro e w' ⟨r', rfl, hr', g4, rfl⟩
    obtain rfl := nfr_one hr hr'
    clear hr hr'
    go_wp2_with fail
    refine (toHireS_any _ _ l _ (h.below (by repeat (first | exact Below.refl _ _ | refine bl_tr ?_ _ | refine bl_al ?_ _ | refine bl_dr ?_ | refine bl_up ?_ _ | refine Below.drew ?_ | refine bl_alloc ?_ _ | refine Below.setCell ?_ (by simp) _))) (by omega)).mono ?_
    rintro e w' ⟨A3, rfl, o3, g5, rfl⟩
    go_wp2_with fail
    refine (eqHireS_any _ _ _ _ l _ ((Rds.of_own o2).below (by repeat (first | exact Below.refl _ _ | refine bl_tr ?_ _ | refine bl_al ?_ _ | refine bl_dr ?_ | refine bl_up ?_ _ | refine Below.drew ?_ | refine bl_alloc ?_ _ | refine Below.setCell ?_ (by simp) _))) (Rds.of_own o3) (by omega)).mono ?_
    rintro e w' ⟨rfl, g6, rfl⟩
    go_wp2_with fail
    go_ret
    exact ⟨rfl, UpOf.of (by repeat (first | exact Below.refl _ _ | refine bl_tr ?_ _ | refine bl_al ?_ _ | refine bl_dr ?_ | refine bl_up ?_ _ | refine Below.drew ?_ | refine bl_alloc ?_ _ | refine Below.setCell ?_ (by simp) _))⟩
end Go.Proofs.Ytiagckbdofeecaa
