/-
  OutOn and FewestMachines, of the program and of the reference.
-/
import Derived.Test.YtiagckbdofeecaaHire3
namespace Go.Proofs.Ytiagckbdofeecaa
open Go.RowKit
def outR (l : List Hire) (n d : Int) : Int × Int := if vHires l n = true then if btw d 0 3650 = true then (outN l d, 0) else (0, 2) else (0, 1)
def fewR (l : List Hire) (n : Int) : Int × Int := if vHires l n = true then (mostOut l l.length, 0) else (0, 1)
theorem vHires_len60 {l : List Hire} {n : Int} (h : vHires l n = true) : l.length ≤ 60 := by
  simp only [vHires, Bool.and_eq_true, decide_eq_true_eq] at h
  omega
theorem vHires_one {l : List Hire} {n : Int} (h : vHires l n = true) {i : Nat} (hi : i < l.length) : vHire (hat l i) = true ∧ (hat l i).m < n := by
  simp only [vHires, Bool.and_eq_true, decide_eq_true_eq, List.all_eq_true, List.mem_range] at h
  have := h.2 i hi
  simp only [okAt, okHead, Bool.and_eq_true, decide_eq_true_eq] at this
  exact ⟨this.1.1.1, this.1.1.2⟩
theorem vHire_bd {h : Hire} (g : vHire h = true) : 0 ≤ h.m ∧ h.m ≤ 19 ∧ 0 ≤ h.f ∧ h.f < h.t ∧ h.t ≤ 3650 := by
  simp [vHire, btw, days] at g
  omega
theorem ret_v {a b : Int} (h : a = b) : i64 a = i64 b := by rw [h]
theorem btw_false {d lo hi : Int} (h : ¬ btw d lo hi = true) : btw d lo hi = false := by simpa using h
set_option maxRecDepth 10000 in
theorem outOnI_any (A : Option Addr) (c : Nat) (l : List Hire) (n d : Int) (w : World) (h : Rds w 3 A l.length (hcs l)) (hn : l.length ≤ 100000000) (hcap : l.length ≤ c) :
    Calls Try.prog 19 #[.slice A l.length c, i64 n, i64 d] w fun e w' => e = .returned (.tuple #[i64 (outR l n d).1, i64 (outR l n d).2]) ∧ UpOf w w' := by
  by_cases h1 : vHires l n = true
  · by_cases h2 : btw d 0 3650 = true
    · obtain ⟨d1, d2⟩ := btw_true h2
      have hR := Lib.hid (show outR l n d = ((outN l d : Int), 0) by rw [outR, if_pos h1, if_pos h2])
      go_enter Try.func19, Try.ntmps19
      go_wp2_with (first | (go_at_call 16; refine (ret_as (validHires_any _ _ _ _ _ h hn hcap) h1).mono ?_; rintro e w' ⟨rfl, g, rfl⟩) | (go_at_call 50; refine (ret_as (between_any _ _ _ _) h2).mono ?_; rintro e w' ⟨rfl, rfl⟩) | (go_at_call 57; refine (outOn_any _ _ _ _ _ (h.below (by repeat (first | exact Below.refl _ _ | refine bl_tr ?_ _ | refine bl_al ?_ _ | refine bl_dr ?_ | refine bl_up ?_ _ | refine Below.drew ?_ | refine bl_alloc ?_ _ | refine Below.setCell ?_ (by first | (simp; done) | (simp; omega)) _))) hn (by omega) (by omega)).mono ?_; rintro e w' ⟨rfl, g, rfl⟩) | ((with_reducible refine wp_region_up (by kernel_rfl) (by kernel_rfl) ?_); (repeat (go_big_quiet_step (first | (go_at_call 16; first | exact upq_tr (ret_as (validHires_any _ _ _ _ _ h hn hcap) h1) | exact upq (ret_as (validHires_any _ _ _ _ _ h hn hcap) h1)) | (go_at_call 50; first | exact upq_tr_same (ret_as (between_any _ _ _ _) h2) | exact upq_same (ret_as (between_any _ _ _ _) h2)) | (go_at_call 57; first | exact upq_tr (outOn_any _ _ _ _ _ (h.below (by repeat (first | exact Below.refl _ _ | refine bl_tr ?_ _ | refine bl_al ?_ _ | refine bl_dr ?_ | refine bl_up ?_ _ | refine Below.drew ?_ | refine bl_alloc ?_ _ | refine Below.setCell ?_ (by first | (simp; done) | (simp; omega)) _))) hn (by omega) (by omega)) | exact upq (outOn_any _ _ _ _ _ (h.below (by repeat (first | exact Below.refl _ _ | refine bl_tr ?_ _ | refine bl_al ?_ _ | refine bl_dr ?_ | refine bl_up ?_ _ | refine Below.drew ?_ | refine bl_alloc ?_ _ | refine Below.setCell ?_ (by first | (simp; done) | (simp; omega)) _))) hn (by omega) (by omega)))))); refine wpQuiet_nil ?_; intro _ hw'; obtain ⟨nq, hw''⟩ := hw'; subst hw''))
      go_ret2
      exact ⟨by rw [hR.out]; rfl, UpOf.of (by repeat (first | exact Below.refl _ _ | refine bl_tr ?_ _ | refine bl_al ?_ _ | refine bl_dr ?_ | refine bl_up ?_ _ | refine Below.drew ?_ | refine bl_alloc ?_ _ | refine Below.setCell ?_ (by first | (simp; done) | (simp; omega)) _))⟩
    · have h2' := btw_false h2
      have hR := Lib.hid (show outR l n d = (0, 2) by rw [outR, if_pos h1, if_neg h2])
      clear h2
      go_enter Try.func19, Try.ntmps19
      go_wp2_with (first | (go_at_call 16; refine (ret_as (validHires_any _ _ _ _ _ h hn hcap) h1).mono ?_; rintro e w' ⟨rfl, g, rfl⟩) | (go_at_call 50; refine (ret_as (between_any _ _ _ _) h2').mono ?_; rintro e w' ⟨rfl, rfl⟩) | ((with_reducible refine wp_region_up (by kernel_rfl) (by kernel_rfl) ?_); (repeat (go_big_quiet_step (first | (go_at_call 16; first | exact upq_tr (ret_as (validHires_any _ _ _ _ _ h hn hcap) h1) | exact upq (ret_as (validHires_any _ _ _ _ _ h hn hcap) h1)) | (go_at_call 50; first | exact upq_tr_same (ret_as (between_any _ _ _ _) h2') | exact upq_same (ret_as (between_any _ _ _ _) h2'))))); refine wpQuiet_nil ?_; intro _ hw'; obtain ⟨nq, hw''⟩ := hw'; subst hw''))
      go_ret2
      exact ⟨by rw [hR.out]; rfl, UpOf.of (by repeat (first | exact Below.refl _ _ | refine bl_tr ?_ _ | refine bl_al ?_ _ | refine bl_dr ?_ | refine bl_up ?_ _ | refine Below.drew ?_ | refine bl_alloc ?_ _ | refine Below.setCell ?_ (by first | (simp; done) | (simp; omega)) _))⟩
  · have h1' : vHires l n = false := by simpa using h1
    have hR := Lib.hid (show outR l n d = (0, 1) by rw [outR, if_neg h1])
    clear h1
    go_enter Try.func19, Try.ntmps19
    go_wp2_with (first | (go_at_call 16; refine (ret_as (validHires_any _ _ _ _ _ h hn hcap) h1').mono ?_; rintro e w' ⟨rfl, g, rfl⟩) | ((with_reducible refine wp_region_up (by kernel_rfl) (by kernel_rfl) ?_); (repeat (go_big_quiet_step (first | (go_at_call 16; first | exact upq_tr (ret_as (validHires_any _ _ _ _ _ h hn hcap) h1') | exact upq (ret_as (validHires_any _ _ _ _ _ h hn hcap) h1'))))); refine wpQuiet_nil ?_; intro _ hw'; obtain ⟨nq, hw''⟩ := hw'; subst hw''))
    go_ret2
    exact ⟨by rw [hR.out]; rfl, UpOf.of (by repeat (first | exact Below.refl _ _ | refine bl_tr ?_ _ | refine bl_al ?_ _ | refine bl_dr ?_ | refine bl_up ?_ _ | refine Below.drew ?_ | refine bl_alloc ?_ _ | refine Below.setCell ?_ (by first | (simp; done) | (simp; omega)) _))⟩
set_option maxRecDepth 10000 in
theorem outOnS_any (A : Option Addr) (c : Nat) (l : List Hire) (n d : Int) (w : World) (h : Rds w 3 A l.length (hcs l)) (hn : l.length ≤ 100000000) :
    Calls Try.prog 18 #[.slice A l.length c, i64 n, i64 d] w fun e w' => e = .returned (.tuple #[i64 (outR l n d).1, i64 (outR l n d).2]) ∧ UpOf w w' := by
  by_cases h1 : vHires l n = true
  · by_cases h2 : btw d 0 3650 = true
    · have hR := Lib.hid (show outR l n d = ((outN l d : Int), 0) by rw [outR, if_pos h1, if_pos h2])
      go_enter Try.func18, Try.ntmps18
      go_wp2_with (first | (go_at_call 49; refine (ret_as (l25Ok_any _ _ _ _ _ h hn) h1).mono ?_; rintro e w' ⟨rfl, g, rfl⟩) | (go_at_call 55; refine (ret_as (in_any _ _ _ _) h2).mono ?_; rintro e w' ⟨rfl, rfl⟩) | (go_at_call 56; refine (l25Out_any _ _ _ _ _ (h.below (by repeat (first | exact Below.refl _ _ | refine bl_tr ?_ _ | refine bl_al ?_ _ | refine bl_dr ?_ | refine bl_up ?_ _ | refine Below.drew ?_ | refine bl_alloc ?_ _ | refine Below.setCell ?_ (by first | (simp; done) | (simp; omega)) _))) hn).mono ?_; rintro e w' ⟨rfl, g, rfl⟩) | ((with_reducible refine wp_region_up (by kernel_rfl) (by kernel_rfl) ?_); (repeat (go_big_quiet_step (first | (go_at_call 49; first | exact upq_tr (ret_as (l25Ok_any _ _ _ _ _ h hn) h1) | exact upq (ret_as (l25Ok_any _ _ _ _ _ h hn) h1)) | (go_at_call 55; first | exact upq_tr_same (ret_as (in_any _ _ _ _) h2) | exact upq_same (ret_as (in_any _ _ _ _) h2)) | (go_at_call 56; first | exact upq_tr (l25Out_any _ _ _ _ _ (h.below (by repeat (first | exact Below.refl _ _ | refine bl_tr ?_ _ | refine bl_al ?_ _ | refine bl_dr ?_ | refine bl_up ?_ _ | refine Below.drew ?_ | refine bl_alloc ?_ _ | refine Below.setCell ?_ (by first | (simp; done) | (simp; omega)) _))) hn) | exact upq (l25Out_any _ _ _ _ _ (h.below (by repeat (first | exact Below.refl _ _ | refine bl_tr ?_ _ | refine bl_al ?_ _ | refine bl_dr ?_ | refine bl_up ?_ _ | refine Below.drew ?_ | refine bl_alloc ?_ _ | refine Below.setCell ?_ (by first | (simp; done) | (simp; omega)) _))) hn))))); refine wpQuiet_nil ?_; intro _ hw'; obtain ⟨nq, hw''⟩ := hw'; subst hw''))
      go_ret2
      exact ⟨by rw [hR.out]; rfl, UpOf.of (by repeat (first | exact Below.refl _ _ | refine bl_tr ?_ _ | refine bl_al ?_ _ | refine bl_dr ?_ | refine bl_up ?_ _ | refine Below.drew ?_ | refine bl_alloc ?_ _ | refine Below.setCell ?_ (by first | (simp; done) | (simp; omega)) _))⟩
    · have h2' := btw_false h2
      have hR := Lib.hid (show outR l n d = (0, 2) by rw [outR, if_pos h1, if_neg h2])
      clear h2
      go_enter Try.func18, Try.ntmps18
      go_wp2_with (first | (go_at_call 49; refine (ret_as (l25Ok_any _ _ _ _ _ h hn) h1).mono ?_; rintro e w' ⟨rfl, g, rfl⟩) | (go_at_call 55; refine (ret_as (in_any _ _ _ _) h2').mono ?_; rintro e w' ⟨rfl, rfl⟩) | ((with_reducible refine wp_region_up (by kernel_rfl) (by kernel_rfl) ?_); (repeat (go_big_quiet_step (first | (go_at_call 49; first | exact upq_tr (ret_as (l25Ok_any _ _ _ _ _ h hn) h1) | exact upq (ret_as (l25Ok_any _ _ _ _ _ h hn) h1)) | (go_at_call 55; first | exact upq_tr_same (ret_as (in_any _ _ _ _) h2') | exact upq_same (ret_as (in_any _ _ _ _) h2'))))); refine wpQuiet_nil ?_; intro _ hw'; obtain ⟨nq, hw''⟩ := hw'; subst hw''))
      go_ret2
      exact ⟨by rw [hR.out]; rfl, UpOf.of (by repeat (first | exact Below.refl _ _ | refine bl_tr ?_ _ | refine bl_al ?_ _ | refine bl_dr ?_ | refine bl_up ?_ _ | refine Below.drew ?_ | refine bl_alloc ?_ _ | refine Below.setCell ?_ (by first | (simp; done) | (simp; omega)) _))⟩
  · have h1' : vHires l n = false := by simpa using h1
    have hR := Lib.hid (show outR l n d = (0, 1) by rw [outR, if_neg h1])
    clear h1
    go_enter Try.func18, Try.ntmps18
    go_wp2_with (first | (go_at_call 49; refine (ret_as (l25Ok_any _ _ _ _ _ h hn) h1').mono ?_; rintro e w' ⟨rfl, g, rfl⟩) | ((with_reducible refine wp_region_up (by kernel_rfl) (by kernel_rfl) ?_); (repeat (go_big_quiet_step (first | (go_at_call 49; first | exact upq_tr (ret_as (l25Ok_any _ _ _ _ _ h hn) h1') | exact upq (ret_as (l25Ok_any _ _ _ _ _ h hn) h1'))))); refine wpQuiet_nil ?_; intro _ hw'; obtain ⟨nq, hw''⟩ := hw'; subst hw''))
    go_ret2
    exact ⟨by rw [hR.out]; rfl, UpOf.of (by repeat (first | exact Below.refl _ _ | refine bl_tr ?_ _ | refine bl_al ?_ _ | refine bl_dr ?_ | refine bl_up ?_ _ | refine Below.drew ?_ | refine bl_alloc ?_ _ | refine Below.setCell ?_ (by first | (simp; done) | (simp; omega)) _))⟩
set_option maxRecDepth 10000 in
theorem fewI_any (A : Option Addr) (c : Nat) (l : List Hire) (n : Int) (w : World) (h : Rds w 3 A l.length (hcs l)) (hn : l.length ≤ 100000000) (hcap : l.length ≤ c) :
    Calls Try.prog 21 #[.slice A l.length c, i64 n] w fun e w' => e = .returned (.tuple #[i64 (fewR l n).1, i64 (fewR l n).2]) ∧ UpOf w w' := by
  by_cases h1 : vHires l n = true
  · have hR := Lib.hid (show fewR l n = (mostOut l l.length, 0) by rw [fewR, if_pos h1])
    have hone := Lib.hid (fun i (hi : i < l.length) => vHire_bd (vHires_one h1 hi).1)
    go_enter Try.func21, Try.ntmps21
    go_wp2_with (first | (go_at_call 16; refine (ret_as (validHires_any _ _ _ _ _ h hn hcap) h1).mono ?_; rintro e w' ⟨rfl, g, rfl⟩) | ((with_reducible refine wp_region_up (by kernel_rfl) (by kernel_rfl) ?_); (repeat (go_big_quiet_step (first | (go_at_call 16; first | exact upq_tr (ret_as (validHires_any _ _ _ _ _ h hn hcap) h1) | exact upq (ret_as (validHires_any _ _ _ _ _ h hn hcap) h1))))); refine wpQuiet_nil ?_; intro _ hw'; obtain ⟨nq, hw''⟩ := hw'; subst hw''))
    go_loopw [6, 15] (fun s i wr => ∃ k : Nat, k ≤ l.length ∧ i = i64 k ∧ s = i64 (mostOut l k) ∧ ∃ g : Up w, wr = up w g) (fun _ i _ => l.length - (intOf i).toNat)
    case atStart => exact ⟨0, by omega, rfl, rfl, ex_up (by repeat (first | exact Below.refl _ _ | refine bl_tr ?_ _ | refine bl_al ?_ _ | refine bl_dr ?_ | refine bl_up ?_ _ | refine Below.drew ?_ | refine bl_alloc ?_ _ | refine Below.setCell ?_ (by first | (simp; done) | (simp; omega)) _))⟩
    case round =>
      obtain ⟨k, hk, rfl, rfl, g, rfl⟩ := hrel
      have hc := mostOut_bd l k
      have hc2 := mostOut_bd l (k + 1)
      by_cases hlt : k < l.length
      · obtain ⟨b, off, rfl, hb, ha⟩ := hire_at' h hlt
        obtain ⟨_, c0, c1, c2⟩ := ha k hlt
        have hb2 := hone.out k hlt
        go_wp2_with (first | (go_at_call 57; refine (outOn_any _ _ _ _ _ (h.below (by repeat (first | exact Below.refl _ _ | refine bl_tr ?_ _ | refine bl_al ?_ _ | refine bl_dr ?_ | refine bl_up ?_ _ | refine Below.drew ?_ | refine bl_alloc ?_ _ | refine Below.setCell ?_ (by first | (simp; done) | (simp; omega)) _))) hn (by omega) (by omega)).mono ?_; rintro e w' ⟨rfl, g, rfl⟩) | ((with_reducible refine wp_region_up (by kernel_rfl) (by kernel_rfl) ?_); (repeat (go_big_quiet_step (first | (go_at_call 57; first | exact upq_tr (outOn_any _ _ _ _ _ (h.below (by repeat (first | exact Below.refl _ _ | refine bl_tr ?_ _ | refine bl_al ?_ _ | refine bl_dr ?_ | refine bl_up ?_ _ | refine Below.drew ?_ | refine bl_alloc ?_ _ | refine Below.setCell ?_ (by first | (simp; done) | (simp; omega)) _))) hn (by omega) (by omega)) | exact upq (outOn_any _ _ _ _ _ (h.below (by repeat (first | exact Below.refl _ _ | refine bl_tr ?_ _ | refine bl_al ?_ _ | refine bl_dr ?_ | refine bl_up ?_ _ | refine Below.drew ?_ | refine bl_alloc ?_ _ | refine Below.setCell ?_ (by first | (simp; done) | (simp; omega)) _))) hn (by omega) (by omega)))))); refine wpQuiet_nil ?_; intro _ hw'; obtain ⟨nq, hw''⟩ := hw'; subst hw''))
        all_goals go_roundw
        all_goals first
          | (case measure => (simp [intOf]; try omega))
          | (go_light; refine ⟨k + 1, by omega, by go_num, ret_v (by rw [mostOut]; omega), ex_up (by repeat (first | exact Below.refl _ _ | refine bl_tr ?_ _ | refine bl_al ?_ _ | refine bl_dr ?_ | refine bl_up ?_ _ | refine Below.drew ?_ | refine bl_alloc ?_ _ | refine Below.setCell ?_ (by first | (simp; done) | (simp; omega)) _))⟩)
      · obtain rfl : k = l.length := by omega
        go_wp2_with (first | ((with_reducible refine wp_region_up (by kernel_rfl) (by kernel_rfl) ?_); (repeat (go_big_quiet_step (fail))); refine wpQuiet_nil ?_; intro _ hw'; obtain ⟨nq, hw''⟩ := hw'; subst hw''))
        go_ret2
        exact ⟨by rw [hR.out]; rfl, UpOf.of (by repeat (first | exact Below.refl _ _ | refine bl_tr ?_ _ | refine bl_al ?_ _ | refine bl_dr ?_ | refine bl_up ?_ _ | refine Below.drew ?_ | refine bl_alloc ?_ _ | refine Below.setCell ?_ (by first | (simp; done) | (simp; omega)) _))⟩
  · have h1' : vHires l n = false := by simpa using h1
    have hR := Lib.hid (show fewR l n = (0, 1) by rw [fewR, if_neg h1])
    clear h1
    go_enter Try.func21, Try.ntmps21
    go_wp2_with (first | (go_at_call 16; refine (ret_as (validHires_any _ _ _ _ _ h hn hcap) h1').mono ?_; rintro e w' ⟨rfl, g, rfl⟩) | ((with_reducible refine wp_region_up (by kernel_rfl) (by kernel_rfl) ?_); (repeat (go_big_quiet_step (first | (go_at_call 16; first | exact upq_tr (ret_as (validHires_any _ _ _ _ _ h hn hcap) h1') | exact upq (ret_as (validHires_any _ _ _ _ _ h hn hcap) h1'))))); refine wpQuiet_nil ?_; intro _ hw'; obtain ⟨nq, hw''⟩ := hw'; subst hw''))
    go_ret2
    exact ⟨by rw [hR.out]; rfl, UpOf.of (by repeat (first | exact Below.refl _ _ | refine bl_tr ?_ _ | refine bl_al ?_ _ | refine bl_dr ?_ | refine bl_up ?_ _ | refine Below.drew ?_ | refine bl_alloc ?_ _ | refine Below.setCell ?_ (by first | (simp; done) | (simp; omega)) _))⟩
set_option maxRecDepth 10000 in
theorem fewS_any (A : Option Addr) (c : Nat) (l : List Hire) (n : Int) (w : World) (h : Rds w 3 A l.length (hcs l)) (hn : l.length ≤ 100000000) :
    Calls Try.prog 20 #[.slice A l.length c, i64 n] w fun e w' => e = .returned (.tuple #[i64 (fewR l n).1, i64 (fewR l n).2]) ∧ UpOf w w' := by
  by_cases h1 : vHires l n = true
  · have hR := Lib.hid (show fewR l n = (mostOut l l.length, 0) by rw [fewR, if_pos h1])
    go_enter Try.func20, Try.ntmps20
    go_wp2_with (first | (go_at_call 49; refine (ret_as (l25Ok_any _ _ _ _ _ h hn) h1).mono ?_; rintro e w' ⟨rfl, g, rfl⟩) | ((with_reducible refine wp_region_up (by kernel_rfl) (by kernel_rfl) ?_); (repeat (go_big_quiet_step (first | (go_at_call 49; first | exact upq_tr (ret_as (l25Ok_any _ _ _ _ _ h hn) h1) | exact upq (ret_as (l25Ok_any _ _ _ _ _ h hn) h1))))); refine wpQuiet_nil ?_; intro _ hw'; obtain ⟨nq, hw''⟩ := hw'; subst hw''))
    go_loopw [6, 7] (fun s i wr => ∃ k : Nat, k ≤ l.length ∧ i = i64 k ∧ s = i64 (mostOut l k) ∧ ∃ g : Up w, wr = up w g) (fun _ i _ => l.length - (intOf i).toNat)
    case atStart => exact ⟨0, by omega, rfl, rfl, ex_up (by repeat (first | exact Below.refl _ _ | refine bl_tr ?_ _ | refine bl_al ?_ _ | refine bl_dr ?_ | refine bl_up ?_ _ | refine Below.drew ?_ | refine bl_alloc ?_ _ | refine Below.setCell ?_ (by first | (simp; done) | (simp; omega)) _))⟩
    case round =>
      obtain ⟨k, hk, rfl, rfl, g, rfl⟩ := hrel
      have hc := mostOut_bd l k
      have hc2 := mostOut_bd l (k + 1)
      by_cases hlt : k < l.length
      · obtain ⟨b, off, rfl, hb, ha⟩ := hire_at' h hlt
        obtain ⟨_, c0, c1, c2⟩ := ha k hlt
        go_wp2_with (first | (go_at_call 56; refine (l25Out_any _ _ _ _ _ (h.below (by repeat (first | exact Below.refl _ _ | refine bl_tr ?_ _ | refine bl_al ?_ _ | refine bl_dr ?_ | refine bl_up ?_ _ | refine Below.drew ?_ | refine bl_alloc ?_ _ | refine Below.setCell ?_ (by first | (simp; done) | (simp; omega)) _))) hn).mono ?_; rintro e w' ⟨rfl, g, rfl⟩) | (go_at_call 58; refine (max_any _ _ _).mono ?_; rintro e w' ⟨rfl, rfl⟩) | ((with_reducible refine wp_region_up (by kernel_rfl) (by kernel_rfl) ?_); (repeat (go_big_quiet_step (first | (go_at_call 56; first | exact upq_tr (l25Out_any _ _ _ _ _ (h.below (by repeat (first | exact Below.refl _ _ | refine bl_tr ?_ _ | refine bl_al ?_ _ | refine bl_dr ?_ | refine bl_up ?_ _ | refine Below.drew ?_ | refine bl_alloc ?_ _ | refine Below.setCell ?_ (by first | (simp; done) | (simp; omega)) _))) hn) | exact upq (l25Out_any _ _ _ _ _ (h.below (by repeat (first | exact Below.refl _ _ | refine bl_tr ?_ _ | refine bl_al ?_ _ | refine bl_dr ?_ | refine bl_up ?_ _ | refine Below.drew ?_ | refine bl_alloc ?_ _ | refine Below.setCell ?_ (by first | (simp; done) | (simp; omega)) _))) hn)) | (go_at_call 58; first | exact upq_tr_same (max_any _ _ _) | exact upq_same (max_any _ _ _))))); refine wpQuiet_nil ?_; intro _ hw'; obtain ⟨nq, hw''⟩ := hw'; subst hw''))
        all_goals go_roundw
        all_goals first
          | (case measure => (simp [intOf]; try omega))
          | (go_light; refine ⟨k + 1, by omega, by go_num, rfl, ex_up (by repeat (first | exact Below.refl _ _ | refine bl_tr ?_ _ | refine bl_al ?_ _ | refine bl_dr ?_ | refine bl_up ?_ _ | refine Below.drew ?_ | refine bl_alloc ?_ _ | refine Below.setCell ?_ (by first | (simp; done) | (simp; omega)) _))⟩)
      · obtain rfl : k = l.length := by omega
        go_wp2_with (first | ((with_reducible refine wp_region_up (by kernel_rfl) (by kernel_rfl) ?_); (repeat (go_big_quiet_step (fail))); refine wpQuiet_nil ?_; intro _ hw'; obtain ⟨nq, hw''⟩ := hw'; subst hw''))
        go_ret2
        exact ⟨by rw [hR.out]; rfl, UpOf.of (by repeat (first | exact Below.refl _ _ | refine bl_tr ?_ _ | refine bl_al ?_ _ | refine bl_dr ?_ | refine bl_up ?_ _ | refine Below.drew ?_ | refine bl_alloc ?_ _ | refine Below.setCell ?_ (by first | (simp; done) | (simp; omega)) _))⟩
  · have h1' : vHires l n = false := by simpa using h1
    have hR := Lib.hid (show fewR l n = (0, 1) by rw [fewR, if_neg h1])
    clear h1
    go_enter Try.func20, Try.ntmps20
    go_wp2_with (first | (go_at_call 49; refine (ret_as (l25Ok_any _ _ _ _ _ h hn) h1').mono ?_; rintro e w' ⟨rfl, g, rfl⟩) | ((with_reducible refine wp_region_up (by kernel_rfl) (by kernel_rfl) ?_); (repeat (go_big_quiet_step (first | (go_at_call 49; first | exact upq_tr (ret_as (l25Ok_any _ _ _ _ _ h hn) h1') | exact upq (ret_as (l25Ok_any _ _ _ _ _ h hn) h1'))))); refine wpQuiet_nil ?_; intro _ hw'; obtain ⟨nq, hw''⟩ := hw'; subst hw''))
    go_ret2
    exact ⟨by rw [hR.out]; rfl, UpOf.of (by repeat (first | exact Below.refl _ _ | refine bl_tr ?_ _ | refine bl_al ?_ _ | refine bl_dr ?_ | refine bl_up ?_ _ | refine Below.drew ?_ | refine bl_alloc ?_ _ | refine Below.setCell ?_ (by first | (simp; done) | (simp; omega)) _))⟩
end Go.Proofs.Ytiagckbdofeecaa
