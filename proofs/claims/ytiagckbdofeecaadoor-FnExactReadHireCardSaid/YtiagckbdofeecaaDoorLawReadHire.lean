/-
  The law on ReadHire: its walk. Premise on the world: the laid table.
-/
import Derived.Test.YtiagckbdofeecaaDoorReadHireS
namespace Go.Proofs.YtiagckbdofeecaaDoor
open Go.RowKit
set_option maxRecDepth 10000 in
set_option maxHeartbeats 1000000 in
theorem law_readHire (s : ByteArray) (w : World) (hs : s.size ≤ 9223372036854775807) (ht : Tab w) :
    Calls Tryd.prog 4 #[.string s] w fun e w' => e = .returned (.bool true) ∧ UpOf w w' := by
  have HT := Lib.hid ht
  clear ht
  by_cases q : (1048576 : Int) < (s.size : Int)
  · go_enter Tryd.func4, Tryd.ntmps4
    go_wp2_with (first | ((with_reducible refine wp_region_up (by kernel_rfl) (by kernel_rfl) ?_); (repeat (go_big_quiet_step (fail))); refine wpQuiet_nil ?_; intro _ hw'; obtain ⟨nq, hw''⟩ := hw'; subst hw''))
    go_ret
    exact ⟨rfl, UpOf.of (by repeat (first | exact Below.refl _ _ | refine bl_tr ?_ _ | refine bl_al ?_ _ | refine bl_dr ?_ | refine bl_up ?_ _ | refine Below.drew ?_ | refine bl_alloc ?_ _ | refine Below.setCell ?_ (by first | (simp; done) | (simp; omega)) _))⟩
  · have hl : s.size ≤ 1048576 := by omega
    obtain ⟨r, hr⟩ : ∃ r, rhR s = r := ⟨_, rfl⟩
    obtain ⟨x, b⟩ := r
    have cs : ∀ V, Calls Tryd.prog 9 #[.string s] V fun e w' => e = .returned (.tuple #[hv x, .bool b]) ∧ UpOf V w' := fun V => by
      have := readHireS_any s V hl
      rw [hr] at this
      exact this
    have ci : ∀ V, Tab V → Calls Tryd.prog 10 #[.string s] V fun e w' => e = .returned (.tuple #[hv x, .bool b]) ∧ UpOf V w' := fun V hV => by
      have := readHireI_any s V hl hV
      rw [hr] at this
      exact this
    have CS := Lib.hid cs
    have CI := Lib.hid ci
    clear cs ci hr
    go_enter Tryd.func4, Tryd.ntmps4
    go_wp2_with (first | (go_at_call 9; refine (CS.out _).mono ?_; rintro e w' ⟨rfl, g, rfl⟩) | (go_at_call 10; refine (CI.out _ (HT.out.below (by repeat (first | exact Below.refl _ _ | refine bl_tr ?_ _ | refine bl_al ?_ _ | refine bl_dr ?_ | refine bl_up ?_ _ | refine Below.drew ?_ | refine bl_alloc ?_ _ | refine Below.setCell ?_ (by first | (simp; done) | (simp; omega)) _)))).mono ?_; rintro e w' ⟨rfl, g, rfl⟩) | (go_at_call 11; refine (eqHire_any x _).mono ?_; rintro e w' ⟨rfl, g, rfl⟩) | ((with_reducible refine wp_region_up (by kernel_rfl) (by kernel_rfl) ?_); (repeat (go_big_quiet_step (first | (go_at_call 9; first | exact upq_tr (CS.out _) | exact upq (CS.out _)) | (go_at_call 10; first | exact upq_tr (CI.out _ (HT.out.below (by repeat (first | exact Below.refl _ _ | refine bl_tr ?_ _ | refine bl_al ?_ _ | refine bl_dr ?_ | refine bl_up ?_ _ | refine Below.drew ?_ | refine bl_alloc ?_ _ | refine Below.setCell ?_ (by first | (simp; done) | (simp; omega)) _)))) | exact upq (CI.out _ (HT.out.below (by repeat (first | exact Below.refl _ _ | refine bl_tr ?_ _ | refine bl_al ?_ _ | refine bl_dr ?_ | refine bl_up ?_ _ | refine Below.drew ?_ | refine bl_alloc ?_ _ | refine Below.setCell ?_ (by first | (simp; done) | (simp; omega)) _))))) | (go_at_call 11; first | exact upq_tr (eqHire_any x _) | exact upq (eqHire_any x _))))); refine wpQuiet_nil ?_; intro _ hw'; obtain ⟨nq, hw''⟩ := hw'; subst hw''))
    go_ret
    exact ⟨rfl, UpOf.of (by repeat (first | exact Below.refl _ _ | refine bl_tr ?_ _ | refine bl_al ?_ _ | refine bl_dr ?_ | refine bl_up ?_ _ | refine Below.drew ?_ | refine bl_alloc ?_ _ | refine Below.setCell ?_ (by first | (simp; done) | (simp; omega)) _))⟩
end Go.Proofs.YtiagckbdofeecaaDoor
