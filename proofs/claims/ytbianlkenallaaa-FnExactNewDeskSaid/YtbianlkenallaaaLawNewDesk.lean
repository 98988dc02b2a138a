/-
  The law on NewDesk: its walk.
-/
import Derived.Test.YtbianlkenallaaaDesk0
namespace Go.Proofs.Ytbianlkenallaaa
open Go.RowKit
abbrev dk0v : Value := .agg #[i64 44, i64 3, i64 2, i64 2, i64 3, .slice none 0 0, .slice none 0 0, .string ⟨#[]⟩]
theorem mark0 (w : World) : Calls Try.prog 8 #[dk0v, i64 1] w fun e w' => e = .returned (i64 1) ∧ UpOf w w' := by
  go_enter Try.func8, Try.ntmps8
  go_wp2_with fail
  refine (markInt64S_any 0 none 0 0 1 [] _ (World.ownsRow_nil _ _ _ _) (by omega) (by omega)).mono ?_
  rintro e w' ⟨rfl, _, hg⟩
  obtain ⟨g1, rfl⟩ := up_of_grown (Below.refl _ _) hg (fun k hk => by cases hk)
  go_wp2_with fail
  refine (markDrillS_any 0 none 0 0 1 [] _ (World.ownsRow_nil _ _ _ _) (by omega) (by omega)).mono ?_
  rintro e w' ⟨rfl, _, hg2⟩
  obtain ⟨g2, rfl⟩ := up_of_grown (Below.refl _ _) hg2 (fun k hk => by cases hk)
  go_wp2_with fail
  go_ret
  exact ⟨rfl, UpOf.of (by repeat (first | exact Below.refl _ _ | refine bl_tr ?_ _ | refine bl_al ?_ _ | refine bl_dr ?_ | refine bl_up ?_ _ | refine Below.drew ?_ | refine bl_alloc ?_ _ | refine Below.setCell ?_ (by first | (simp; done) | (simp; omega)) _))⟩
theorem held0 (w : World) : Calls Try.prog 9 #[dk0v, i64 1] w fun e w' => e = .returned (i64 1) ∧ UpOf w w' := by
  go_enter Try.func9, Try.ntmps9
  go_wp2_with fail
  refine (heldInt64S_any none 0 0 1 _ (Rds.empty _ _ _) (by omega) (by omega)).mono ?_
  rintro e w' ⟨rfl, g1, rfl⟩
  go_wp2_with fail
  refine (heldDrillS_any none 0 0 1 _ (Rds.empty _ _ _) (by omega) (by omega)).mono ?_
  rintro e w' ⟨rfl, g2, rfl⟩
  go_wp2_with fail
  go_ret
  exact ⟨rfl, UpOf.of (by repeat (first | exact Below.refl _ _ | refine bl_tr ?_ _ | refine bl_al ?_ _ | refine bl_dr ?_ | refine bl_up ?_ _ | refine Below.drew ?_ | refine bl_alloc ?_ _ | refine Below.setCell ?_ (by first | (simp; done) | (simp; omega)) _))⟩
theorem new0I (w : World) : Calls Try.prog 6 #[] w fun e w' => e = .returned dk0v ∧ UpOf w w' := newDeskI_any w
theorem new0S (w : World) : Calls Try.prog 5 #[] w fun e w' => e = .returned dk0v ∧ UpOf w w' := newDeskS_any w
theorem eq0 (w : World) : Calls Try.prog 7 #[dk0v, dk0v] w fun e w' => e = .returned (.bool true) ∧ UpOf w w' :=
  eqDesk_any dk0 none none none none 0 0 0 0 w (dsee0 w) (dsee0 w) (by simp [dk0]) (by simp [dk0])
set_option maxRecDepth 10000 in
set_option maxHeartbeats 2000000 in
theorem law_newDesk (w : World) : Calls Try.prog 3 #[] w fun e w' => e = .returned (.bool true) ∧ UpOf w w' := by
  go_enter Try.func3, Try.ntmps3
  go_wp2_with fail
  refine (new0S _).mono ?_
  rintro e w' ⟨rfl, g1, rfl⟩
  go_wp2_with fail
  refine (new0I _).mono ?_
  rintro e w' ⟨rfl, g2, rfl⟩
  have X1 := Box.new (up w g1) #[i64 44, i64 3, i64 2, i64 2, i64 3, .slice none 0 0, .slice none 0 0, .string ⟨#[]⟩] 27
  have X2 := Box.new (up w ((g1.al (.cells #[i64 44, i64 3, i64 2, i64 2, i64 3, .slice none 0 0, .slice none 0 0, .string ⟨#[]⟩] 27)).tr g2)) #[i64 44, i64 3, i64 2, i64 2, i64 3, .slice none 0 0, .slice none 0 0, .string ⟨#[]⟩] 27
  replace X1 : Box (up w (((g1.al (.cells #[i64 44, i64 3, i64 2, i64 2, i64 3, .slice none 0 0, .slice none 0 0, .string ⟨#[]⟩] 27)).tr g2).al (.cells #[i64 44, i64 3, i64 2, i64 2, i64 3, .slice none 0 0, .slice none 0 0, .string ⟨#[]⟩] 27))) (up w g1).heap.size #[i64 44, i64 3, i64 2, i64 2, i64 3, .slice none 0 0, .slice none 0 0, .string ⟨#[]⟩] := X1.below (by repeat (first | exact Below.refl _ _ | refine bl_tr ?_ _ | refine bl_al ?_ _ | refine bl_dr ?_ | refine bl_up ?_ _ | refine Below.drew ?_ | refine bl_alloc ?_ _ | refine Below.setCell ?_ (by first | (simp; done) | (simp; omega)) _))
  replace X2 : Box (up w (((g1.al (.cells #[i64 44, i64 3, i64 2, i64 2, i64 3, .slice none 0 0, .slice none 0 0, .string ⟨#[]⟩] 27)).tr g2).al (.cells #[i64 44, i64 3, i64 2, i64 2, i64 3, .slice none 0 0, .slice none 0 0, .string ⟨#[]⟩] 27))) (up w ((g1.al (.cells #[i64 44, i64 3, i64 2, i64 2, i64 3, .slice none 0 0, .slice none 0 0, .string ⟨#[]⟩] 27)).tr g2)).heap.size #[i64 44, i64 3, i64 2, i64 2, i64 3, .slice none 0 0, .slice none 0 0, .string ⟨#[]⟩] := X2
  have HB := Lib.hid (up_below w (((g1.al (.cells #[i64 44, i64 3, i64 2, i64 2, i64 3, .slice none 0 0, .slice none 0 0, .string ⟨#[]⟩] 27)).tr g2).al (.cells #[i64 44, i64 3, i64 2, i64 2, i64 3, .slice none 0 0, .slice none 0 0, .string ⟨#[]⟩] 27)))
  go_wp2_with fail
  revert X1 X2 HB
  generalize (up w ((g1.al (.cells #[i64 44, i64 3, i64 2, i64 2, i64 3, .slice none 0 0, .slice none 0 0, .string ⟨#[]⟩] 27)).tr g2)).heap.size = p2
  generalize up w (((g1.al (.cells #[i64 44, i64 3, i64 2, i64 2, i64 3, .slice none 0 0, .slice none 0 0, .string ⟨#[]⟩] 27)).tr g2).al (.cells #[i64 44, i64 3, i64 2, i64 2, i64 3, .slice none 0 0, .slice none 0 0, .string ⟨#[]⟩] 27)) = W
  generalize (up w g1).heap.size = p1
  intro X1 X2 HB
  obtain ⟨l1, x0, x1, x2, x3, x4, x5, x6, x7⟩ := X1.eight
  obtain ⟨l2, y0, y1, y2, y3, y4, y5, y6, y7⟩ := X2.eight
  clear X1 X2
  go_wp2_with (first | (go_at_call 6; refine (new0I _).mono ?_; rintro e w' ⟨rfl, g, rfl⟩) | (go_at_call 5; refine (new0S _).mono ?_; rintro e w' ⟨rfl, g, rfl⟩) | (go_at_call 7; refine (eq0 _).mono ?_; rintro e w' ⟨rfl, g, rfl⟩) | (go_at_call 8; refine (mark0 _).mono ?_; rintro e w' ⟨rfl, g, rfl⟩) | (go_at_call 9; refine (held0 _).mono ?_; rintro e w' ⟨rfl, g, rfl⟩) | ((with_reducible refine wp_region_up (by kernel_rfl) (by kernel_rfl) ?_); (repeat (go_big_quiet_step (first | (go_at_call 6; first | exact upq_tr (new0I _) | exact upq (new0I _)) | (go_at_call 5; first | exact upq_tr (new0S _) | exact upq (new0S _)) | (go_at_call 7; first | exact upq_tr (eq0 _) | exact upq (eq0 _)) | (go_at_call 8; first | exact upq_tr (mark0 _) | exact upq (mark0 _)) | (go_at_call 9; first | exact upq_tr (held0 _) | exact upq (held0 _))))); refine wpQuiet_nil ?_; intro _ hw'; obtain ⟨nq, hw''⟩ := hw'; subst hw''))
  go_ret
  exact ⟨rfl, UpOf.of (HB.out.trans (Below.mono (by repeat (first | exact Below.refl _ _ | refine bl_tr ?_ _ | refine bl_al ?_ _ | refine bl_dr ?_ | refine bl_up ?_ _ | refine Below.drew ?_ | refine bl_alloc ?_ _ | refine Below.setCell ?_ (by first | (simp; done) | (simp; omega)) _)) HB.out.size))⟩
end Go.Proofs.Ytbianlkenallaaa
