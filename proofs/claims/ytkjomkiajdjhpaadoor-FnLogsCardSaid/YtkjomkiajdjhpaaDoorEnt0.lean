/-
  One entry: contracts of the laws' own functions on it (measured, copied). The bounds stand at each.
-/
import Derived.Test.YtkjomkiajdjhpaaDoorRows
import Derived.Test.YtkjomkiajdjhpaaDoorFlat
namespace Go.Proofs.YtkjomkiajdjhpaaDoor
open Go.RowKit
structure Entry where
  day : Int
  what : ByteArray
  value : Int
def Entry.cells (h : Entry) : List Value := [i64 h.day, .string h.what, i64 h.value]
abbrev env (h : Entry) : Value := .agg #[i64 h.day, .string h.what, i64 h.value]
def enTot1 (h : Entry) : Nat := h.what.size
theorem szEntry_any (h : Entry) (k : Int) (w : World) (hk : 0 ≤ k) (hk1 : k ≤ 1048576) (hwhat : h.what.size ≤ 9223372036854775807) :
    Calls Tryd.prog 14 #[env h, i64 k] w fun e w' => e = .returned (i64 (szR k (enTot1 h))) ∧ UpOf w w' := by
  have hs : (enTot1 h : Int) = h.what.size := rfl
  by_cases q : k < h.what.size
  all_goals
    go_enter Tryd.func14, Tryd.ntmps14
    go_wp2_with (first | ((with_reducible refine wp_region_up (by kernel_rfl) (by kernel_rfl) ?_); (repeat (go_big_quiet_step (fail))); refine wpQuiet_nil ?_; intro _ hw'; obtain ⟨nq, hw''⟩ := hw'; subst hw''))
    go_ret
    refine ⟨ret_int ?_, UpOf.of (by repeat (first | exact Below.refl _ _ | refine bl_tr ?_ _ | refine bl_al ?_ _ | refine bl_dr ?_ | refine bl_up ?_ _ | refine Below.drew ?_ | refine bl_alloc ?_ _ | refine Below.setCell ?_ (by first | (simp; done) | (simp; omega)) _))⟩
    unfold szR
    rw [hs]
    first | rw [if_pos (by omega)] | rw [if_neg (by omega)]
theorem toEntry_any (h : Entry) (w : World) :
    Calls Tryd.prog 16 #[env h] w fun e w' => e = .returned (env h) ∧ UpOf w w' := by
  go_enter Tryd.func16, Tryd.ntmps16
  go_wp2_with (first | ((with_reducible refine wp_region_up (by kernel_rfl) (by kernel_rfl) ?_); (repeat (go_big_quiet_step (fail))); refine wpQuiet_nil ?_; intro _ hw'; obtain ⟨nq, hw''⟩ := hw'; subst hw''))
  exact bodyPost_ret (v := env h) (by simp [results, Tryd.results16, go_sem]) rfl ⟨rfl, UpOf.of (by repeat (first | exact Below.refl _ _ | refine bl_tr ?_ _ | refine bl_al ?_ _ | refine bl_dr ?_ | refine bl_up ?_ _ | refine Below.drew ?_ | refine bl_alloc ?_ _ | refine Below.setCell ?_ (by first | (simp; done) | (simp; omega)) _))⟩
end Go.Proofs.YtkjomkiajdjhpaaDoor
