/-
  The laws' small helpers: whether the code is long, and lists of numbers that are the same. The bounds stand at each.
-/
import Derived.Test.YtiagckbdofeecaaDoorInts
namespace Go.Proofs.YtiagckbdofeecaaDoor
open Go.RowKit
set_option maxRecDepth 10000 in
theorem f6big_any (A : Option Addr) (n c : Nat) (w : World) (hn : n ≤ 9223372036854775807) :
    Calls Tryd.prog 12 #[.slice A n c] w fun e w' => e = .returned (.bool (decide ((4096 : Int) < n))) ∧ UpOf w w' := by
  by_cases h1 : (4096 : Int) < n
  · have hd := Lib.hid (show decide ((4096 : Int) < n) = true from decide_eq_true h1)
    go_enter Tryd.func12, Tryd.ntmps12
    go_wp2_with (first | ((with_reducible refine wp_region_up (by kernel_rfl) (by kernel_rfl) ?_); (repeat (go_big_quiet_step (fail))); refine wpQuiet_nil ?_; intro _ hw'; obtain ⟨nq, hw''⟩ := hw'; subst hw''))
    go_ret
    exact ⟨ret_bool hd.out.symm, UpOf.of (by repeat (first | exact Below.refl _ _ | refine bl_tr ?_ _ | refine bl_al ?_ _ | refine bl_dr ?_ | refine bl_up ?_ _ | refine Below.drew ?_ | refine bl_alloc ?_ _ | refine Below.setCell ?_ (by first | (simp; done) | (simp; omega)) _))⟩
  · have hd := Lib.hid (show decide ((4096 : Int) < n) = false from decide_eq_false h1)
    go_enter Tryd.func12, Tryd.ntmps12
    go_wp2_with (first | ((with_reducible refine wp_region_up (by kernel_rfl) (by kernel_rfl) ?_); (repeat (go_big_quiet_step (fail))); refine wpQuiet_nil ?_; intro _ hw'; obtain ⟨nq, hw''⟩ := hw'; subst hw''))
    go_ret
    exact ⟨ret_bool hd.out.symm, UpOf.of (by repeat (first | exact Below.refl _ _ | refine bl_tr ?_ _ | refine bl_al ?_ _ | refine bl_dr ?_ | refine bl_up ?_ _ | refine Below.drew ?_ | refine bl_alloc ?_ _ | refine Below.setCell ?_ (by first | (simp; done) | (simp; omega)) _))⟩
set_option maxRecDepth 10000 in
theorem f6ints_same (A B : Option Addr) (c d : Nat) (l : List Int) (w : World) (h : Rds w 1 A l.length (ics l)) (h2 : Rds w 1 B l.length (ics l)) (hn : l.length ≤ 100000000) :
    Calls Tryd.prog 28 #[.slice A l.length c, .slice B l.length d] w fun e w' => e = .returned (.bool true) ∧ UpOf w w' := by
  have HR := Lib.hid h
  have HR2 := Lib.hid h2
  clear h h2
  have hs : ((l.length : Int) != (l.length : Int)) = false := by simp
  go_enter Tryd.func28, Tryd.ntmps28
  go_wp2_with (first | ((with_reducible refine wp_region_up (by kernel_rfl) (by kernel_rfl) ?_); (repeat (go_big_quiet_step (fail))); refine wpQuiet_nil ?_; intro _ hw'; obtain ⟨nq, hw''⟩ := hw'; subst hw''))
  go_loopw [5] (fun i wr => ∃ (k : Nat), k ≤ l.length ∧ i = i64 k ∧ ∃ g : Up w, wr = up w g) (fun i _ => l.length - (intOf i).toNat)
  case atStart => exact ⟨0, by omega, rfl, ex_up (by repeat (first | exact Below.refl _ _ | refine bl_tr ?_ _ | refine bl_al ?_ _ | refine bl_dr ?_ | refine bl_up ?_ _ | refine Below.drew ?_ | refine bl_alloc ?_ _ | refine Below.setCell ?_ (by first | (simp; done) | (simp; omega)) _))⟩
  case round =>
    obtain ⟨k, hk, rfl, g, rfl⟩ := hrel
    by_cases hlt : k < l.length
    · obtain ⟨b, off, rfl, hbb, hcc⟩ := HR.out.at (by omega)
      obtain ⟨b2, off2, rfl, hbb2, hcc2⟩ := HR2.out.at (by omega)
      have c0 := hcc k _ (ics_get hlt)
      have c1 := hcc2 k _ (ics_get hlt)
      have he : (l[k] != l[k]) = false := by simp
      clear hcc hcc2
      go_wp2_with (first | ((with_reducible refine wp_region_up (by kernel_rfl) (by kernel_rfl) ?_); (repeat (go_big_quiet_step (fail))); refine wpQuiet_nil ?_; intro _ hw'; obtain ⟨nq, hw''⟩ := hw'; subst hw''))
      go_roundw
      case rel => exact ⟨k + 1, by omega, by go_num, ex_up (by repeat (first | exact Below.refl _ _ | refine bl_tr ?_ _ | refine bl_al ?_ _ | refine bl_dr ?_ | refine bl_up ?_ _ | refine Below.drew ?_ | refine bl_alloc ?_ _ | refine Below.setCell ?_ (by first | (simp; done) | (simp; omega)) _))⟩
      case measure => (simp [intOf]; try omega)
    · obtain rfl : k = l.length := by omega
      go_wp2_with (first | ((with_reducible refine wp_region_up (by kernel_rfl) (by kernel_rfl) ?_); (repeat (go_big_quiet_step (fail))); refine wpQuiet_nil ?_; intro _ hw'; obtain ⟨nq, hw''⟩ := hw'; subst hw''))
      go_ret
      exact ⟨rfl, UpOf.of (by repeat (first | exact Below.refl _ _ | refine bl_tr ?_ _ | refine bl_al ?_ _ | refine bl_dr ?_ | refine bl_up ?_ _ | refine Below.drew ?_ | refine bl_alloc ?_ _ | refine Below.setCell ?_ (by first | (simp; done) | (simp; omega)) _))⟩
end Go.Proofs.YtiagckbdofeecaaDoor
