/-
  Valid entries: the program's and the reference's look at one. The bounds stand at each.
-/
import Derived.Test.YtbianlkenallaaaDoorEnt0
import Derived.Test.YtbianlkenallaaaDoorName
namespace Go.Proofs.YtbianlkenallaaaDoor
open Go.RowKit
def btw (n lo hi : Int) : Bool := decide (lo ≤ n ∧ n ≤ hi)
theorem btw_true {n lo hi : Int} (h : btw n lo hi = true) : lo ≤ n ∧ n ≤ hi := by simpa [btw] using h
theorem between_any (n lo hi : Int) (w : World) :
    Calls Tryd.prog 33 #[i64 n, i64 lo, i64 hi] w fun e w' => e = .returned (.bool (btw n lo hi)) ∧ w = w' := by
  go_enter Tryd.func33, Tryd.ntmps33
  go_wp2
  all_goals go_ret
  all_goals exact ⟨ret_bool (by simp [btw]; omega), rfl⟩
theorem in_any (n lo hi : Int) (w : World) :
    Calls Tryd.prog 40 #[i64 n, i64 lo, i64 hi] w fun e w' => e = .returned (.bool (btw n lo hi)) ∧ w = w' := by
  go_enter Tryd.func40, Tryd.ntmps40
  go_wp2
  all_goals go_ret
  all_goals exact ⟨ret_bool (by simp [btw]; omega), rfl⟩
def vEntry (x : Entry) : Bool := btw x.day 0 100000 && nameB x.what && btw x.value (-1000000) 1000000
theorem vEntry_1 {x : Entry} (h : btw x.day 0 100000 = false) : vEntry x = false := by simp [vEntry, h]
theorem vEntry_2 {x : Entry} (h : nameB x.what = false) : vEntry x = false := by simp [vEntry, h]
theorem vEntry_3 {x : Entry} (h : btw x.value (-1000000) 1000000 = false) : vEntry x = false := by simp [vEntry, h]
theorem vEntry_0 {x : Entry} (h1 : btw x.day 0 100000 = true) (h2 : nameB x.what = true) (h3 : btw x.value (-1000000) 1000000 = true) : vEntry x = true := by simp [vEntry, h1, h2, h3]
theorem vEntry_inv {x : Entry} (h : vEntry x = true) : 0 ≤ x.day ∧ x.day ≤ 100000 ∧ nameB x.what = true ∧ -1000000 ≤ x.value ∧ x.value ≤ 1000000 := by
  simp only [vEntry, Bool.and_eq_true] at h
  have h1 := btw_true h.1.1
  have h2 := btw_true h.2
  exact ⟨h1.1, h1.2, h.1.2, h2.1, h2.2⟩
set_option maxRecDepth 10000 in
theorem validEntryI_any (x : Entry) (w : World) (hs : x.what.size ≤ 9223372036854775807) :
    Calls Tryd.prog 70 #[env x] w fun e w' => e = .returned (.bool (vEntry x)) ∧ UpOf w w' := by
  cases h1 : btw x.day 0 100000
  · have hf := Lib.hid (vEntry_1 h1)
    go_enter Tryd.func70, Tryd.ntmps70
    go_wp2_with (first | (go_at_call 33; refine (ret_as (between_any _ _ _ _) h1).mono ?_; rintro e w' ⟨rfl, rfl⟩) | (go_at_call 44; refine (isNameI_any _ _ hs).mono ?_; rintro e w' ⟨rfl, rfl⟩) | ((with_reducible refine wp_region_up (by kernel_rfl) (by kernel_rfl) ?_); (repeat (go_big_quiet_step (first | (go_at_call 33; first | exact upq_tr_same (ret_as (between_any _ _ _ _) h1) | exact upq_same (ret_as (between_any _ _ _ _) h1)) | (go_at_call 44; first | exact upq_tr_same (isNameI_any _ _ hs) | exact upq_same (isNameI_any _ _ hs))))); refine wpQuiet_nil ?_; intro _ hw'; obtain ⟨nq, hw''⟩ := hw'; subst hw''))
    go_ret
    exact ⟨ret_bool hf.out.symm, UpOf.of (by repeat (first | exact Below.refl _ _ | refine bl_tr ?_ _ | refine bl_al ?_ _ | refine bl_dr ?_ | refine bl_up ?_ _ | refine Below.drew ?_ | refine bl_alloc ?_ _ | refine Below.setCell ?_ (by first | (simp; done) | (simp; omega)) _))⟩
  cases h2 : nameB x.what
  · have hf := Lib.hid (vEntry_2 h2)
    go_enter Tryd.func70, Tryd.ntmps70
    go_wp2_with (first | (go_at_call 33; refine (between_any _ _ _ _).mono ?_; rintro e w' ⟨rfl, rfl⟩) | (go_at_call 44; refine (ret_as (isNameI_any _ _ hs) h2).mono ?_; rintro e w' ⟨rfl, rfl⟩) | ((with_reducible refine wp_region_up (by kernel_rfl) (by kernel_rfl) ?_); (repeat (go_big_quiet_step (first | (go_at_call 33; first | exact upq_tr_same (between_any _ _ _ _) | exact upq_same (between_any _ _ _ _)) | (go_at_call 44; first | exact upq_tr_same (ret_as (isNameI_any _ _ hs) h2) | exact upq_same (ret_as (isNameI_any _ _ hs) h2))))); refine wpQuiet_nil ?_; intro _ hw'; obtain ⟨nq, hw''⟩ := hw'; subst hw''))
    go_ret
    exact ⟨ret_bool hf.out.symm, UpOf.of (by repeat (first | exact Below.refl _ _ | refine bl_tr ?_ _ | refine bl_al ?_ _ | refine bl_dr ?_ | refine bl_up ?_ _ | refine Below.drew ?_ | refine bl_alloc ?_ _ | refine Below.setCell ?_ (by first | (simp; done) | (simp; omega)) _))⟩
  cases h3 : btw x.value (-1000000) 1000000
  · have hf := Lib.hid (vEntry_3 h3)
    go_enter Tryd.func70, Tryd.ntmps70
    go_wp2_with (first | (go_at_call 33; refine (between_any _ _ _ _).mono ?_; rintro e w' ⟨rfl, rfl⟩) | (go_at_call 44; refine (ret_as (isNameI_any _ _ hs) h2).mono ?_; rintro e w' ⟨rfl, rfl⟩) | ((with_reducible refine wp_region_up (by kernel_rfl) (by kernel_rfl) ?_); (repeat (go_big_quiet_step (first | (go_at_call 33; first | exact upq_tr_same (between_any _ _ _ _) | exact upq_same (between_any _ _ _ _)) | (go_at_call 44; first | exact upq_tr_same (ret_as (isNameI_any _ _ hs) h2) | exact upq_same (ret_as (isNameI_any _ _ hs) h2))))); refine wpQuiet_nil ?_; intro _ hw'; obtain ⟨nq, hw''⟩ := hw'; subst hw''))
    go_ret
    exact ⟨ret_bool hf.out.symm, UpOf.of (by repeat (first | exact Below.refl _ _ | refine bl_tr ?_ _ | refine bl_al ?_ _ | refine bl_dr ?_ | refine bl_up ?_ _ | refine Below.drew ?_ | refine bl_alloc ?_ _ | refine Below.setCell ?_ (by first | (simp; done) | (simp; omega)) _))⟩
  · have hf := Lib.hid (vEntry_0 h1 h2 h3)
    go_enter Tryd.func70, Tryd.ntmps70
    go_wp2_with (first | (go_at_call 33; refine (between_any _ _ _ _).mono ?_; rintro e w' ⟨rfl, rfl⟩) | (go_at_call 44; refine (ret_as (isNameI_any _ _ hs) h2).mono ?_; rintro e w' ⟨rfl, rfl⟩) | ((with_reducible refine wp_region_up (by kernel_rfl) (by kernel_rfl) ?_); (repeat (go_big_quiet_step (first | (go_at_call 33; first | exact upq_tr_same (between_any _ _ _ _) | exact upq_same (between_any _ _ _ _)) | (go_at_call 44; first | exact upq_tr_same (ret_as (isNameI_any _ _ hs) h2) | exact upq_same (ret_as (isNameI_any _ _ hs) h2))))); refine wpQuiet_nil ?_; intro _ hw'; obtain ⟨nq, hw''⟩ := hw'; subst hw''))
    go_ret
    exact ⟨ret_bool hf.out.symm, UpOf.of (by repeat (first | exact Below.refl _ _ | refine bl_tr ?_ _ | refine bl_al ?_ _ | refine bl_dr ?_ | refine bl_up ?_ _ | refine Below.drew ?_ | refine bl_alloc ?_ _ | refine Below.setCell ?_ (by first | (simp; done) | (simp; omega)) _))⟩
/-- an entry lies at an address -/
def EAt (w : World) (b o : Nat) (x : Entry) : Prop := b < w.heap.size ∧ w.cell? ⟨b, o, none⟩ = some (i64 x.day) ∧ w.cell? ⟨b, o + 1, none⟩ = some (.string x.what) ∧ w.cell? ⟨b, o + 2, none⟩ = some (i64 x.value)
theorem EAt.below {w w' : World} {b o : Nat} {x : Entry} (a : EAt w b o x) (hb : Below w.heap.size w w') : EAt w' b o x :=
  ⟨Nat.lt_of_lt_of_le a.1 hb.size, (hb.cell (p := ⟨b, o, none⟩) a.1).trans a.2.1, (hb.cell (p := ⟨b, o + 1, none⟩) a.1).trans a.2.2.1, (hb.cell (p := ⟨b, o + 2, none⟩) a.1).trans a.2.2.2⟩
theorem EAt.new {w : World} {x : Entry} {T : TypeId} : EAt (w.alloc (.cells #[i64 x.day, .string x.what, i64 x.value] T)) w.heap.size 0 x :=
  ⟨by simp, World.cell?_alloc_new _ _ _ _, World.cell?_alloc_new _ _ _ _, World.cell?_alloc_new _ _ _ _⟩
theorem l27Day_any (n : Int) (w : World) :
    Calls Tryd.prog 79 #[i64 n] w fun e w' => e = .returned (.bool (btw n 0 100000)) ∧ w = w' := by
  go_enter Tryd.func79, Tryd.ntmps79
  go_wp2_with (first | (go_at_call 40; refine (in_any _ _ _ _).mono ?_; rintro e w' ⟨rfl, rfl⟩) | ((with_reducible refine wp_region_up (by kernel_rfl) (by kernel_rfl) ?_); (repeat (go_big_quiet_step (first | (go_at_call 40; first | exact upq_tr_same (in_any _ _ _ _) | exact upq_same (in_any _ _ _ _))))); refine wpQuiet_nil ?_; intro _ hw'; obtain ⟨nq, hw''⟩ := hw'; subst hw''))
  go_ret
  exact ⟨rfl, rfl⟩
set_option maxRecDepth 10000 in
theorem l27Ok_any (x : Entry) (b o : Nat) (w : World) (h : EAt w b o x) (hs : x.what.size ≤ 9223372036854775807) :
    Calls Tryd.prog 61 #[.pointer (some ⟨b, o, none⟩)] w fun e w' => e = .returned (.bool (vEntry x)) ∧ UpOf w w' := by
  obtain ⟨hb, c0, c1, c2⟩ := h
  cases h1 : btw x.day 0 100000
  · have hf := Lib.hid (vEntry_1 h1)
    go_enter Tryd.func61, Tryd.ntmps61
    go_wp2_with (first | (go_at_call 79; refine (ret_as (l27Day_any _ _) h1).mono ?_; rintro e w' ⟨rfl, rfl⟩) | (go_at_call 40; refine (in_any _ _ _ _).mono ?_; rintro e w' ⟨rfl, rfl⟩) | (go_at_call 50; refine (isNameS_any _ _ hs).mono ?_; rintro e w' ⟨rfl, rfl⟩) | ((with_reducible refine wp_region_up (by kernel_rfl) (by kernel_rfl) ?_); (repeat (go_big_quiet_step (first | (go_at_call 79; first | exact upq_tr_same (ret_as (l27Day_any _ _) h1) | exact upq_same (ret_as (l27Day_any _ _) h1)) | (go_at_call 40; first | exact upq_tr_same (in_any _ _ _ _) | exact upq_same (in_any _ _ _ _)) | (go_at_call 50; first | exact upq_tr_same (isNameS_any _ _ hs) | exact upq_same (isNameS_any _ _ hs))))); refine wpQuiet_nil ?_; intro _ hw'; obtain ⟨nq, hw''⟩ := hw'; subst hw''))
    go_ret
    exact ⟨ret_bool hf.out.symm, UpOf.of (by repeat (first | exact Below.refl _ _ | refine bl_tr ?_ _ | refine bl_al ?_ _ | refine bl_dr ?_ | refine bl_up ?_ _ | refine Below.drew ?_ | refine bl_alloc ?_ _ | refine Below.setCell ?_ (by first | (simp; done) | (simp; omega)) _))⟩
  cases h2 : nameB x.what
  · have hf := Lib.hid (vEntry_2 h2)
    go_enter Tryd.func61, Tryd.ntmps61
    go_wp2_with (first | (go_at_call 79; refine (ret_as (l27Day_any _ _) h1).mono ?_; rintro e w' ⟨rfl, rfl⟩) | (go_at_call 40; refine (in_any _ _ _ _).mono ?_; rintro e w' ⟨rfl, rfl⟩) | (go_at_call 50; refine (ret_as (isNameS_any _ _ hs) h2).mono ?_; rintro e w' ⟨rfl, rfl⟩) | ((with_reducible refine wp_region_up (by kernel_rfl) (by kernel_rfl) ?_); (repeat (go_big_quiet_step (first | (go_at_call 79; first | exact upq_tr_same (ret_as (l27Day_any _ _) h1) | exact upq_same (ret_as (l27Day_any _ _) h1)) | (go_at_call 40; first | exact upq_tr_same (in_any _ _ _ _) | exact upq_same (in_any _ _ _ _)) | (go_at_call 50; first | exact upq_tr_same (ret_as (isNameS_any _ _ hs) h2) | exact upq_same (ret_as (isNameS_any _ _ hs) h2))))); refine wpQuiet_nil ?_; intro _ hw'; obtain ⟨nq, hw''⟩ := hw'; subst hw''))
    go_ret
    exact ⟨ret_bool hf.out.symm, UpOf.of (by repeat (first | exact Below.refl _ _ | refine bl_tr ?_ _ | refine bl_al ?_ _ | refine bl_dr ?_ | refine bl_up ?_ _ | refine Below.drew ?_ | refine bl_alloc ?_ _ | refine Below.setCell ?_ (by first | (simp; done) | (simp; omega)) _))⟩
  cases h3 : btw x.value (-1000000) 1000000
  · have hf := Lib.hid (vEntry_3 h3)
    go_enter Tryd.func61, Tryd.ntmps61
    go_wp2_with (first | (go_at_call 79; refine (ret_as (l27Day_any _ _) h1).mono ?_; rintro e w' ⟨rfl, rfl⟩) | (go_at_call 40; refine (ret_as (in_any _ _ _ _) h3).mono ?_; rintro e w' ⟨rfl, rfl⟩) | (go_at_call 50; refine (ret_as (isNameS_any _ _ hs) h2).mono ?_; rintro e w' ⟨rfl, rfl⟩) | ((with_reducible refine wp_region_up (by kernel_rfl) (by kernel_rfl) ?_); (repeat (go_big_quiet_step (first | (go_at_call 79; first | exact upq_tr_same (ret_as (l27Day_any _ _) h1) | exact upq_same (ret_as (l27Day_any _ _) h1)) | (go_at_call 40; first | exact upq_tr_same (ret_as (in_any _ _ _ _) h3) | exact upq_same (ret_as (in_any _ _ _ _) h3)) | (go_at_call 50; first | exact upq_tr_same (ret_as (isNameS_any _ _ hs) h2) | exact upq_same (ret_as (isNameS_any _ _ hs) h2))))); refine wpQuiet_nil ?_; intro _ hw'; obtain ⟨nq, hw''⟩ := hw'; subst hw''))
    go_ret
    exact ⟨ret_bool hf.out.symm, UpOf.of (by repeat (first | exact Below.refl _ _ | refine bl_tr ?_ _ | refine bl_al ?_ _ | refine bl_dr ?_ | refine bl_up ?_ _ | refine Below.drew ?_ | refine bl_alloc ?_ _ | refine Below.setCell ?_ (by first | (simp; done) | (simp; omega)) _))⟩
  · have hf := Lib.hid (vEntry_0 h1 h2 h3)
    go_enter Tryd.func61, Tryd.ntmps61
    go_wp2_with (first | (go_at_call 79; refine (ret_as (l27Day_any _ _) h1).mono ?_; rintro e w' ⟨rfl, rfl⟩) | (go_at_call 40; refine (ret_as (in_any _ _ _ _) h3).mono ?_; rintro e w' ⟨rfl, rfl⟩) | (go_at_call 50; refine (ret_as (isNameS_any _ _ hs) h2).mono ?_; rintro e w' ⟨rfl, rfl⟩) | ((with_reducible refine wp_region_up (by kernel_rfl) (by kernel_rfl) ?_); (repeat (go_big_quiet_step (first | (go_at_call 79; first | exact upq_tr_same (ret_as (l27Day_any _ _) h1) | exact upq_same (ret_as (l27Day_any _ _) h1)) | (go_at_call 40; first | exact upq_tr_same (ret_as (in_any _ _ _ _) h3) | exact upq_same (ret_as (in_any _ _ _ _) h3)) | (go_at_call 50; first | exact upq_tr_same (ret_as (isNameS_any _ _ hs) h2) | exact upq_same (ret_as (isNameS_any _ _ hs) h2))))); refine wpQuiet_nil ?_; intro _ hw'; obtain ⟨nq, hw''⟩ := hw'; subst hw''))
    go_ret
    exact ⟨ret_bool hf.out.symm, UpOf.of (by repeat (first | exact Below.refl _ _ | refine bl_tr ?_ _ | refine bl_al ?_ _ | refine bl_dr ?_ | refine bl_up ?_ _ | refine Below.drew ?_ | refine bl_alloc ?_ _ | refine Below.setCell ?_ (by first | (simp; done) | (simp; omega)) _))⟩
end Go.Proofs.YtbianlkenallaaaDoor
