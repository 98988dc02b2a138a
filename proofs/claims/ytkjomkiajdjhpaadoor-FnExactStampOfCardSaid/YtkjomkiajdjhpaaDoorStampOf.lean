/-
  StampOf, of the program and of the reference. The bounds stand at each; the program's leans on the laid table.
-/
import Derived.Test.YtkjomkiajdjhpaaDoorStamp
namespace Go.Proofs.YtkjomkiajdjhpaaDoor
open Go.RowKit
def stampR (n : Int) (x : Entry) : Int × Int := if vEntry x = true then if btw n 0 65518 = true then (stampP n x, 0) else (0, 2) else (0, 1)
theorem stampR_1 {n : Int} {x : Entry} (h : vEntry x = false) : stampR n x = (0, 1) := by rw [stampR, if_neg (by rw [h]; simp)]
theorem stampR_2 {n : Int} {x : Entry} (h : vEntry x = true) (h2 : btw n 0 65518 = false) : stampR n x = (0, 2) := by rw [stampR, if_pos h, if_neg (by rw [h2]; simp)]
theorem stampR_0 {n : Int} {x : Entry} (h : vEntry x = true) (h2 : btw n 0 65518 = true) : stampR n x = (stampP n x, 0) := by rw [stampR, if_pos h, if_pos h2]
set_option maxRecDepth 10000 in
theorem stampOfI_any (n : Int) (x : Entry) (w : World) (hs : x.what.size ≤ 9223372036854775807) (ht : Tab w) :
    Calls Tryd.prog 17 #[i64 n, env x] w fun e w' => e = .returned (.tuple #[i64 (stampR n x).1, i64 (stampR n x).2]) ∧ UpOf w w' := by
  have HT := Lib.hid ht
  clear ht
  cases h1 : vEntry x
  · have hf := Lib.hid (stampR_1 (n := n) h1)
    go_enter Tryd.func17, Tryd.ntmps17
    go_wp2_with (first | (go_at_call 53; refine (ret_as (validEntryI_any x _ hs) h1).mono ?_; rintro e w' ⟨rfl, g, rfl⟩) | ((with_reducible refine wp_region_up (by kernel_rfl) (by kernel_rfl) ?_); (repeat (go_big_quiet_step (first | (go_at_call 53; first | exact upq_tr (ret_as (validEntryI_any x _ hs) h1) | exact upq (ret_as (validEntryI_any x _ hs) h1))))); refine wpQuiet_nil ?_; intro _ hw'; obtain ⟨nq, hw''⟩ := hw'; subst hw''))
    go_ret2
    exact ⟨by rw [hf.out] <;> rfl, UpOf.of (by repeat (first | exact Below.refl _ _ | refine bl_tr ?_ _ | refine bl_al ?_ _ | refine bl_dr ?_ | refine bl_up ?_ _ | refine Below.drew ?_ | refine bl_alloc ?_ _ | refine Below.setCell ?_ (by first | (simp; done) | (simp; omega)) _))⟩
  have HV := Lib.hid h1
  cases h2 : btw n 0 65518
  · have hf := Lib.hid (stampR_2 h1 h2)
    go_enter Tryd.func17, Tryd.ntmps17
    go_wp2_with (first | (go_at_call 53; refine (ret_as (validEntryI_any x _ hs) h1).mono ?_; rintro e w' ⟨rfl, g, rfl⟩) | (go_at_call 54; refine (ret_as (between_any _ _ _ _) h2).mono ?_; rintro e w' ⟨rfl, rfl⟩) | ((with_reducible refine wp_region_up (by kernel_rfl) (by kernel_rfl) ?_); (repeat (go_big_quiet_step (first | (go_at_call 53; first | exact upq_tr (ret_as (validEntryI_any x _ hs) h1) | exact upq (ret_as (validEntryI_any x _ hs) h1)) | (go_at_call 54; first | exact upq_tr_same (ret_as (between_any _ _ _ _) h2) | exact upq_same (ret_as (between_any _ _ _ _) h2))))); refine wpQuiet_nil ?_; intro _ hw'; obtain ⟨nq, hw''⟩ := hw'; subst hw''))
    go_ret2
    exact ⟨by rw [hf.out] <;> rfl, UpOf.of (by repeat (first | exact Below.refl _ _ | refine bl_tr ?_ _ | refine bl_al ?_ _ | refine bl_dr ?_ | refine bl_up ?_ _ | refine Below.drew ?_ | refine bl_alloc ?_ _ | refine Below.setCell ?_ (by first | (simp; done) | (simp; omega)) _))⟩
  · have hf := Lib.hid (stampR_0 h1 h2)
    obtain ⟨b0, b1⟩ := btw_true h2
    go_enter Tryd.func17, Tryd.ntmps17
    go_wp2_with (first | (go_at_call 53; refine (ret_as (validEntryI_any x _ hs) h1).mono ?_; rintro e w' ⟨rfl, g, rfl⟩) | (go_at_call 54; refine (ret_as (between_any _ _ _ _) h2).mono ?_; rintro e w' ⟨rfl, rfl⟩) | (go_at_call 55; refine (stamp_any x HV.out _ (by omega) (by omega) _ (HT.out.below (by repeat (first | exact Below.refl _ _ | refine bl_tr ?_ _ | refine bl_al ?_ _ | refine bl_dr ?_ | refine bl_up ?_ _ | refine Below.drew ?_ | refine bl_alloc ?_ _ | refine Below.setCell ?_ (by first | (simp; done) | (simp; omega)) _)))).mono ?_; rintro e w' ⟨rfl, g, rfl⟩) | ((with_reducible refine wp_region_up (by kernel_rfl) (by kernel_rfl) ?_); (repeat (go_big_quiet_step (first | (go_at_call 53; first | exact upq_tr (ret_as (validEntryI_any x _ hs) h1) | exact upq (ret_as (validEntryI_any x _ hs) h1)) | (go_at_call 54; first | exact upq_tr_same (ret_as (between_any _ _ _ _) h2) | exact upq_same (ret_as (between_any _ _ _ _) h2)) | (go_at_call 55; first | exact upq_tr (stamp_any x HV.out _ (by omega) (by omega) _ (HT.out.below (by repeat (first | exact Below.refl _ _ | refine bl_tr ?_ _ | refine bl_al ?_ _ | refine bl_dr ?_ | refine bl_up ?_ _ | refine Below.drew ?_ | refine bl_alloc ?_ _ | refine Below.setCell ?_ (by first | (simp; done) | (simp; omega)) _)))) | exact upq (stamp_any x HV.out _ (by omega) (by omega) _ (HT.out.below (by repeat (first | exact Below.refl _ _ | refine bl_tr ?_ _ | refine bl_al ?_ _ | refine bl_dr ?_ | refine bl_up ?_ _ | refine Below.drew ?_ | refine bl_alloc ?_ _ | refine Below.setCell ?_ (by first | (simp; done) | (simp; omega)) _)))))))); refine wpQuiet_nil ?_; intro _ hw'; obtain ⟨nq, hw''⟩ := hw'; subst hw''))
    go_ret2
    exact ⟨by rw [hf.out] <;> rfl, UpOf.of (by repeat (first | exact Below.refl _ _ | refine bl_tr ?_ _ | refine bl_al ?_ _ | refine bl_dr ?_ | refine bl_up ?_ _ | refine Below.drew ?_ | refine bl_alloc ?_ _ | refine Below.setCell ?_ (by first | (simp; done) | (simp; omega)) _))⟩
set_option maxRecDepth 10000 in
theorem stampOfS_any (n : Int) (x : Entry) (w : World) (hs : x.what.size ≤ 9223372036854775807) :
    Calls Tryd.prog 15 #[i64 n, env x] w fun e w' => e = .returned (.tuple #[i64 (stampR n x).1, i64 (stampR n x).2]) ∧ UpOf w w' := by
  cases h1 : vEntry x
  · have hf := Lib.hid (stampR_1 (n := n) h1)
    go_enter Tryd.func15, Tryd.ntmps15
    go_wp2_with (first | (go_at_call 49; refine (ret_as (l27Ok_any x _ _ _ EAt.new hs) h1).mono ?_; rintro e w' ⟨rfl, g, rfl⟩) | ((with_reducible refine wp_region_up (by kernel_rfl) (by kernel_rfl) ?_); (repeat (go_big_quiet_step (first | (go_at_call 49; first | exact upq_tr (ret_as (l27Ok_any x _ _ _ EAt.new hs) h1) | exact upq (ret_as (l27Ok_any x _ _ _ EAt.new hs) h1))))); refine wpQuiet_nil ?_; intro _ hw'; obtain ⟨nq, hw''⟩ := hw'; subst hw''))
    go_ret2
    exact ⟨by rw [hf.out] <;> rfl, UpOf.of (by repeat (first | exact Below.refl _ _ | refine bl_tr ?_ _ | refine bl_al ?_ _ | refine bl_dr ?_ | refine bl_up ?_ _ | refine Below.drew ?_ | refine bl_alloc ?_ _ | refine Below.setCell ?_ (by first | (simp; done) | (simp; omega)) _))⟩
  have HV := Lib.hid h1
  cases h2 : btw n 0 65518
  · have hf := Lib.hid (stampR_2 h1 h2)
    go_enter Tryd.func15, Tryd.ntmps15
    go_wp2_with (first | (go_at_call 49; refine (ret_as (l27Ok_any x _ _ _ EAt.new hs) h1).mono ?_; rintro e w' ⟨rfl, g, rfl⟩) | (go_at_call 50; refine (ret_as (in_any _ _ _ _) h2).mono ?_; rintro e w' ⟨rfl, rfl⟩) | ((with_reducible refine wp_region_up (by kernel_rfl) (by kernel_rfl) ?_); (repeat (go_big_quiet_step (first | (go_at_call 49; first | exact upq_tr (ret_as (l27Ok_any x _ _ _ EAt.new hs) h1) | exact upq (ret_as (l27Ok_any x _ _ _ EAt.new hs) h1)) | (go_at_call 50; first | exact upq_tr_same (ret_as (in_any _ _ _ _) h2) | exact upq_same (ret_as (in_any _ _ _ _) h2))))); refine wpQuiet_nil ?_; intro _ hw'; obtain ⟨nq, hw''⟩ := hw'; subst hw''))
    go_ret2
    exact ⟨by rw [hf.out] <;> rfl, UpOf.of (by repeat (first | exact Below.refl _ _ | refine bl_tr ?_ _ | refine bl_al ?_ _ | refine bl_dr ?_ | refine bl_up ?_ _ | refine Below.drew ?_ | refine bl_alloc ?_ _ | refine Below.setCell ?_ (by first | (simp; done) | (simp; omega)) _))⟩
  · have hf := Lib.hid (stampR_0 h1 h2)
    obtain ⟨b0, b1⟩ := btw_true h2
    go_enter Tryd.func15, Tryd.ntmps15
    go_wp2_with (first | (go_at_call 49; refine (ret_as (l27Ok_any x _ _ _ EAt.new hs) h1).mono ?_; rintro e w' ⟨rfl, g, rfl⟩) | (go_at_call 50; refine (ret_as (in_any _ _ _ _) h2).mono ?_; rintro e w' ⟨rfl, rfl⟩) | (go_at_call 52; refine (l27Words_any x HV.out _ _ _ (EAt.new.below (by repeat (first | exact Below.refl _ _ | refine bl_tr ?_ _ | refine bl_al ?_ _ | refine bl_dr ?_ | refine bl_up ?_ _ | refine Below.drew ?_ | refine bl_alloc ?_ _ | refine Below.setCell ?_ (by first | (simp; done) | (simp; omega)) _)))).mono ?_; rintro e w' ⟨rfl, g, rfl⟩) | (go_at_call 51; refine (l27Stamp_any _ (ewords_len HV.out) x rfl _ (by omega) (by omega) _).mono ?_; rintro e w' ⟨rfl, g, rfl⟩) | ((with_reducible refine wp_region_up (by kernel_rfl) (by kernel_rfl) ?_); (repeat (go_big_quiet_step (first | (go_at_call 49; first | exact upq_tr (ret_as (l27Ok_any x _ _ _ EAt.new hs) h1) | exact upq (ret_as (l27Ok_any x _ _ _ EAt.new hs) h1)) | (go_at_call 50; first | exact upq_tr_same (ret_as (in_any _ _ _ _) h2) | exact upq_same (ret_as (in_any _ _ _ _) h2)) | (go_at_call 52; first | exact upq_tr (l27Words_any x HV.out _ _ _ (EAt.new.below (by repeat (first | exact Below.refl _ _ | refine bl_tr ?_ _ | refine bl_al ?_ _ | refine bl_dr ?_ | refine bl_up ?_ _ | refine Below.drew ?_ | refine bl_alloc ?_ _ | refine Below.setCell ?_ (by first | (simp; done) | (simp; omega)) _)))) | exact upq (l27Words_any x HV.out _ _ _ (EAt.new.below (by repeat (first | exact Below.refl _ _ | refine bl_tr ?_ _ | refine bl_al ?_ _ | refine bl_dr ?_ | refine bl_up ?_ _ | refine Below.drew ?_ | refine bl_alloc ?_ _ | refine Below.setCell ?_ (by first | (simp; done) | (simp; omega)) _))))) | (go_at_call 51; first | exact upq_tr (l27Stamp_any _ (ewords_len HV.out) x rfl _ (by omega) (by omega) _) | exact upq (l27Stamp_any _ (ewords_len HV.out) x rfl _ (by omega) (by omega) _))))); refine wpQuiet_nil ?_; intro _ hw'; obtain ⟨nq, hw''⟩ := hw'; subst hw''))
    go_ret2
    exact ⟨by rw [hf.out] <;> rfl, UpOf.of (by repeat (first | exact Below.refl _ _ | refine bl_tr ?_ _ | refine bl_al ?_ _ | refine bl_dr ?_ | refine bl_up ?_ _ | refine Below.drew ?_ | refine bl_alloc ?_ _ | refine Below.setCell ?_ (by first | (simp; done) | (simp; omega)) _))⟩
end Go.Proofs.YtkjomkiajdjhpaaDoor
