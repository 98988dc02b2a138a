/-
  The words of the console: the program's and the reference's, and the law on them. No condition.
-/
import Derived.Test.YtdackofjmdmoiaaStrs
namespace Go.Proofs.Ytdackofjmdmoiaa
open Go.RowKit
def deskWords : List ByteArray := [⟨#[97, 108, 105, 103, 110]⟩, ⟨#[98, 97, 115, 107, 101, 116]⟩, ⟨#[99, 111, 100, 101]⟩, ⟨#[100, 114, 105, 108, 108]⟩, ⟨#[100, 114, 105, 108, 108, 115]⟩, ⟨#[101, 110, 116, 101, 114]⟩, ⟨#[102, 97, 115, 116]⟩, ⟨#[108, 105, 110, 101]⟩, ⟨#[108, 111, 103]⟩, ⟨#[109, 97, 114, 107]⟩, ⟨#[114, 111, 119]⟩, ⟨#[115, 101, 116]⟩, ⟨#[115, 116, 111, 112, 115]⟩, ⟨#[119, 97, 105, 116]⟩]
theorem specList (w : World) :
    Calls Try.prog 25 #[] w fun e w' => ∃ A c, e = .returned (.slice A 14 c) ∧ w'.ownsRow w.heap.size 9 1 (.slice A 14 c) 14 (strs deskWords) ∧ UpOf w w' := by
  go_enter Try.func25, Try.ntmps25
  go_wp2_with (first | (go_at_call 25; refine (specList _).mono ?_; rintro e w' ⟨A, c, rfl, hown, g, rfl⟩) | fail)
  go_ret
  exact ⟨_, _, rfl, World.ownsRow_lit w _ 14 (Nat.le_refl _) (by simp [maxLen]) rfl, UpOf.of (by repeat (first | exact Below.refl _ _ | refine bl_up ?_ _ | refine Below.drew ?_ | refine bl_alloc ?_ _ | refine Below.setCell ?_ (by simp) _))⟩
theorem implList (w : World) :
    Calls Try.prog 9 #[] w fun e w' => ∃ A c, e = .returned (.slice A 14 c) ∧ w'.ownsRow w.heap.size 9 1 (.slice A 14 c) 14 (strs deskWords) ∧ UpOf w w' := by
  go_enter Try.func9, Try.ntmps9
  go_wp2_with (first | (go_at_call 25; refine (specList _).mono ?_; rintro e w' ⟨A, c, rfl, hown, g, rfl⟩) | fail)
  go_ret
  exact ⟨_, _, rfl, World.ownsRow_lit w _ 14 (Nat.le_refl _) (by simp [maxLen]) rfl, UpOf.of (by repeat (first | exact Below.refl _ _ | refine bl_up ?_ _ | refine Below.drew ?_ | refine bl_alloc ?_ _ | refine Below.setCell ?_ (by simp) _))⟩
theorem specWords (w : World) :
    Calls Try.prog 8 #[] w fun e w' => ∃ A c, e = .returned (.slice A 14 c) ∧ w'.ownsRow w.heap.size 9 1 (.slice A 14 c) 14 (strs deskWords) ∧ UpOf w w' := by
  go_enter Try.func8, Try.ntmps8
  go_wp2_with (first | (go_at_call 25; refine (specList _).mono ?_; rintro e w' ⟨A, c, rfl, hown, g, rfl⟩) | fail)
  go_ret
  exact ⟨_, _, rfl, hown, UpOf.of (by repeat (first | exact Below.refl _ _ | refine bl_up ?_ _ | refine Below.drew ?_ | refine bl_alloc ?_ _ | refine Below.setCell ?_ (by simp) _))⟩

set_option maxRecDepth 10000 in
theorem law_deskWords (w : World) :
    Calls Try.prog 3 #[] w fun e w' => e = .returned (.bool true) ∧ UpOf w w' := by
  go_enter Try.func3, Try.ntmps3
  go_wp2_with fail
  refine (specWords _).mono ?_
  rintro e w' ⟨A0, c0, rfl, o0, g0, rfl⟩
  go_wp2_with fail
  refine (implList _).mono ?_
  rintro e w' ⟨A1, c1, rfl, o1, g1, rfl⟩
  go_wp2_with fail
  refine (eqStringS_any _ _ _ _ _ deskWords _ (Rds.of_own o1) ((Rds.of_own o0).up _) (by omega)).mono ?_
  rintro e w' ⟨rfl, g2, rfl⟩
  go_wp2_with fail
  refine (markStringS_any _ _ _ _ 1 _ _ (own_up o1 g2) (by omega) (by omega)).mono ?_
  rintro e w' ⟨rfl, m1, hg3⟩
  have r0 := (((Rds.of_own o0).up g1).up g2).grown hg3 (own_apart o0 m1 (Nat.le_refl _))
  obtain ⟨g3, rfl⟩ := up_of_mark (W := w) (up_below w (g0.tr (g1.tr g2))) (own_up o1 g2) (le_up _ (Nat.le_refl _)) hg3
  clear hg3
  go_wp2_with fail
  refine (heldStringS_any _ _ _ 1 _ (Rds.of_own m1) (by omega) (by omega)).mono ?_
  rintro e w' ⟨rfl, g4, rfl⟩
  go_wp2_with fail
  refine (implList _).mono ?_
  rintro e w' ⟨A2, c2, rfl, o2, g5, rfl⟩
  go_wp2_with fail
  refine (eqStringS_any _ _ _ _ _ deskWords _ (Rds.of_own o2) ((r0.up g4).up g5) (by omega)).mono ?_
  rintro e w' ⟨rfl, g6, rfl⟩
  go_wp2_with fail
  refine (heldStringS_any _ _ _ 1 _ ((((Rds.of_own m1).up g4).up g5).up g6) (by omega) (by omega)).mono ?_
  rintro e w' ⟨rfl, g7, rfl⟩
  go_wp2_with fail
  go_ret
  exact ⟨rfl, UpOf.of (by repeat (first | exact Below.refl _ _ | refine bl_up ?_ _ | refine Below.drew ?_ | refine bl_alloc ?_ _ | refine Below.setCell ?_ (by simp) _))⟩
end Go.Proofs.Ytdackofjmdmoiaa
