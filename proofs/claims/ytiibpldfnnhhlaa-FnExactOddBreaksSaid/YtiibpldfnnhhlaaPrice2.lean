/-
  PriceOfMany and CheapestMany, of the program and of the reference. The bounds stand at each.
-/
import Derived.Test.YtiibpldfnnhhlaaPrice
namespace Go.Proofs.Ytiibpldfnnhhlaa
open Go.RowKit
def priceR (l : List Ware) (k m : Int) : Int × Int := askR l k m 1000 (fun c => (0, c)) (prc (wat l k.toNat) m, 0)
def cheapR (l : List Ware) (k m : Int) : Int × Int × Int := askR l k m 1000 (fun c => (0, 0, c)) ((chp (wat l k.toNat) m (wat l k.toNat).brs.length).1, (chp (wat l k.toNat) m (wat l k.toNat).brs.length).2, 0)
set_option maxRecDepth 10000 in
theorem priceI_any (A : Option Addr) (c : Nat) (l : List Ware) (k m : Int) (w : World) (h : WSee w A l) (hn : l.length ≤ 100000000) (hf : WBd l) :
    Calls Try.prog 23 #[.slice A l.length c, i64 k, i64 m] w fun e w' => e = .returned (.tuple #[i64 (priceR l k m).1, i64 (priceR l k m).2]) ∧ UpOf w w' := by
  cases h1 : vWares l
  · have hR := Lib.hid (show priceR l k m = _ from askR_1 h1)
    have hC := Lib.hid (codeW_1 (k := k) h1)
    go_enter Try.func23, Try.ntmps23
    go_wp2_with (first | (go_at_call 62; refine (ret_num (wareCode_any _ _ _ _ _ h hn hf) hC.out).mono ?_; rintro e w' ⟨rfl, g, rfl⟩) | (go_at_call 63; refine (between_any _ _ _ _).mono ?_; rintro e w' ⟨rfl, rfl⟩) | ((with_reducible refine wp_region_up (by kernel_rfl) (by kernel_rfl) ?_); (repeat (go_big_quiet_step (first | (go_at_call 62; first | exact upq_tr (ret_num (wareCode_any _ _ _ _ _ h hn hf) hC.out) | exact upq (ret_num (wareCode_any _ _ _ _ _ h hn hf) hC.out)) | (go_at_call 63; first | exact upq_tr_same (between_any _ _ _ _) | exact upq_same (between_any _ _ _ _))))); refine wpQuiet_nil ?_; intro _ hw'; obtain ⟨nq, hw''⟩ := hw'; subst hw''))
    go_ret2
    exact ⟨by rw [hR.out]; rfl, UpOf.of (by repeat (first | exact Below.refl _ _ | refine bl_tr ?_ _ | refine bl_al ?_ _ | refine bl_dr ?_ | refine bl_up ?_ _ | refine Below.drew ?_ | refine bl_alloc ?_ _ | refine Below.setCell ?_ (by first | (simp; done) | (simp; omega)) _))⟩
  cases h2 : btw k 0 ((l.length : Int) - 1)
  · have hR := Lib.hid (show priceR l k m = _ from askR_2 h1 h2)
    have hC := Lib.hid (codeW_2 h1 h2)
    go_enter Try.func23, Try.ntmps23
    go_wp2_with (first | (go_at_call 62; refine (ret_num (wareCode_any _ _ _ _ _ h hn hf) hC.out).mono ?_; rintro e w' ⟨rfl, g, rfl⟩) | (go_at_call 63; refine (between_any _ _ _ _).mono ?_; rintro e w' ⟨rfl, rfl⟩) | ((with_reducible refine wp_region_up (by kernel_rfl) (by kernel_rfl) ?_); (repeat (go_big_quiet_step (first | (go_at_call 62; first | exact upq_tr (ret_num (wareCode_any _ _ _ _ _ h hn hf) hC.out) | exact upq (ret_num (wareCode_any _ _ _ _ _ h hn hf) hC.out)) | (go_at_call 63; first | exact upq_tr_same (between_any _ _ _ _) | exact upq_same (between_any _ _ _ _))))); refine wpQuiet_nil ?_; intro _ hw'; obtain ⟨nq, hw''⟩ := hw'; subst hw''))
    go_ret2
    exact ⟨by rw [hR.out]; rfl, UpOf.of (by repeat (first | exact Below.refl _ _ | refine bl_tr ?_ _ | refine bl_al ?_ _ | refine bl_dr ?_ | refine bl_up ?_ _ | refine Below.drew ?_ | refine bl_alloc ?_ _ | refine Below.setCell ?_ (by first | (simp; done) | (simp; omega)) _))⟩
  cases h3 : btw m 0 1000
  · have hR := Lib.hid (show priceR l k m = _ from askR_3 h1 h2 h3)
    have hC := Lib.hid (codeW_0 h1 h2)
    go_enter Try.func23, Try.ntmps23
    go_wp2_with (first | (go_at_call 62; refine (ret_num (wareCode_any _ _ _ _ _ h hn hf) hC.out).mono ?_; rintro e w' ⟨rfl, g, rfl⟩) | (go_at_call 63; refine (between_any _ _ _ _).mono ?_; rintro e w' ⟨rfl, rfl⟩) | ((with_reducible refine wp_region_up (by kernel_rfl) (by kernel_rfl) ?_); (repeat (go_big_quiet_step (first | (go_at_call 62; first | exact upq_tr (ret_num (wareCode_any _ _ _ _ _ h hn hf) hC.out) | exact upq (ret_num (wareCode_any _ _ _ _ _ h hn hf) hC.out)) | (go_at_call 63; first | exact upq_tr_same (between_any _ _ _ _) | exact upq_same (between_any _ _ _ _))))); refine wpQuiet_nil ?_; intro _ hw'; obtain ⟨nq, hw''⟩ := hw'; subst hw''))
    go_ret2
    exact ⟨by rw [hR.out]; rfl, UpOf.of (by repeat (first | exact Below.refl _ _ | refine bl_tr ?_ _ | refine bl_al ?_ _ | refine bl_dr ?_ | refine bl_up ?_ _ | refine Below.drew ?_ | refine bl_alloc ?_ _ | refine Below.setCell ?_ (by first | (simp; done) | (simp; omega)) _))⟩
  have hR := Lib.hid (show priceR l k m = _ from askR_0 h1 h2 h3)
  have hC := Lib.hid (codeW_0 h1 h2)
  obtain ⟨k1, k2⟩ := btw_true h2
  obtain ⟨m1, m2⟩ := btw_true h3
  obtain ⟨hl30, hvs⟩ := vWares_inv h1
  have HVS := Lib.hid hvs
  obtain ⟨K, rfl⟩ : ∃ K : Nat, k = K := ⟨k.toNat, by omega⟩
  have hK : K < l.length := by omega
  have hv := hvs K hK
  clear h1 h2 hvs
  have HH := Lib.hid h
  obtain ⟨b, off, Ai, ci, rfl, hb, c0, c1, r⟩ := ware_at h hK
  go_enter Try.func23, Try.ntmps23
  go_wp2_with (first | (go_at_call 62; refine (ret_num (wareCode_any _ _ _ _ _ HH.out hn hf) hC.out).mono ?_; rintro e w' ⟨rfl, g, rfl⟩) | (go_at_call 63; refine (ret_as (between_any _ _ _ _) h3).mono ?_; rintro e w' ⟨rfl, rfl⟩) | (go_at_call 64; refine (price_any _ _ _ _ _ (r.below (by repeat (first | exact Below.refl _ _ | refine bl_tr ?_ _ | refine bl_al ?_ _ | refine bl_dr ?_ | refine bl_up ?_ _ | refine Below.drew ?_ | refine bl_alloc ?_ _ | refine Below.setCell ?_ (by first | (simp; done) | (simp; omega)) _))) hv m1 m2).mono ?_; rintro e w' ⟨rfl, g, rfl⟩) | ((with_reducible refine wp_region_up (by kernel_rfl) (by kernel_rfl) ?_); (repeat (go_big_quiet_step (first | (go_at_call 62; first | exact upq_tr (ret_num (wareCode_any _ _ _ _ _ HH.out hn hf) hC.out) | exact upq (ret_num (wareCode_any _ _ _ _ _ HH.out hn hf) hC.out)) | (go_at_call 63; first | exact upq_tr_same (ret_as (between_any _ _ _ _) h3) | exact upq_same (ret_as (between_any _ _ _ _) h3)) | (go_at_call 64; first | exact upq_tr (price_any _ _ _ _ _ (r.below (by repeat (first | exact Below.refl _ _ | refine bl_tr ?_ _ | refine bl_al ?_ _ | refine bl_dr ?_ | refine bl_up ?_ _ | refine Below.drew ?_ | refine bl_alloc ?_ _ | refine Below.setCell ?_ (by first | (simp; done) | (simp; omega)) _))) hv m1 m2) | exact upq (price_any _ _ _ _ _ (r.below (by repeat (first | exact Below.refl _ _ | refine bl_tr ?_ _ | refine bl_al ?_ _ | refine bl_dr ?_ | refine bl_up ?_ _ | refine Below.drew ?_ | refine bl_alloc ?_ _ | refine Below.setCell ?_ (by first | (simp; done) | (simp; omega)) _))) hv m1 m2))))); refine wpQuiet_nil ?_; intro _ hw'; obtain ⟨nq, hw''⟩ := hw'; subst hw''))
  go_ret2
  exact ⟨by rw [hR.out]; rfl, UpOf.of (by repeat (first | exact Below.refl _ _ | refine bl_tr ?_ _ | refine bl_al ?_ _ | refine bl_dr ?_ | refine bl_up ?_ _ | refine Below.drew ?_ | refine bl_alloc ?_ _ | refine Below.setCell ?_ (by first | (simp; done) | (simp; omega)) _))⟩
set_option maxRecDepth 10000 in
theorem priceS_any (A : Option Addr) (c : Nat) (l : List Ware) (k m : Int) (w : World) (h : WSee w A l) (hn : l.length ≤ 100000000) (hf : WBd l) :
    Calls Try.prog 22 #[.slice A l.length c, i64 k, i64 m] w fun e w' => e = .returned (.tuple #[i64 (priceR l k m).1, i64 (priceR l k m).2]) ∧ UpOf w w' := by
  cases h1 : vWares l
  · have hR := Lib.hid (show priceR l k m = _ from askR_1 h1)
    have hC := Lib.hid (codeW_1 (k := k) h1)
    go_enter Try.func22, Try.ntmps22
    go_wp2_with (first | (go_at_call 59; refine (ret_num (l26Code_any _ _ _ _ _ h hn hf) hC.out).mono ?_; rintro e w' ⟨rfl, g, rfl⟩) | (go_at_call 60; refine (l26Many_any _ _).mono ?_; rintro e w' ⟨rfl, rfl⟩) | ((with_reducible refine wp_region_up (by kernel_rfl) (by kernel_rfl) ?_); (repeat (go_big_quiet_step (first | (go_at_call 59; first | exact upq_tr (ret_num (l26Code_any _ _ _ _ _ h hn hf) hC.out) | exact upq (ret_num (l26Code_any _ _ _ _ _ h hn hf) hC.out)) | (go_at_call 60; first | exact upq_tr_same (l26Many_any _ _) | exact upq_same (l26Many_any _ _))))); refine wpQuiet_nil ?_; intro _ hw'; obtain ⟨nq, hw''⟩ := hw'; subst hw''))
    go_ret2
    exact ⟨by rw [hR.out]; rfl, UpOf.of (by repeat (first | exact Below.refl _ _ | refine bl_tr ?_ _ | refine bl_al ?_ _ | refine bl_dr ?_ | refine bl_up ?_ _ | refine Below.drew ?_ | refine bl_alloc ?_ _ | refine Below.setCell ?_ (by first | (simp; done) | (simp; omega)) _))⟩
  cases h2 : btw k 0 ((l.length : Int) - 1)
  · have hR := Lib.hid (show priceR l k m = _ from askR_2 h1 h2)
    have hC := Lib.hid (codeW_2 h1 h2)
    go_enter Try.func22, Try.ntmps22
    go_wp2_with (first | (go_at_call 59; refine (ret_num (l26Code_any _ _ _ _ _ h hn hf) hC.out).mono ?_; rintro e w' ⟨rfl, g, rfl⟩) | (go_at_call 60; refine (l26Many_any _ _).mono ?_; rintro e w' ⟨rfl, rfl⟩) | ((with_reducible refine wp_region_up (by kernel_rfl) (by kernel_rfl) ?_); (repeat (go_big_quiet_step (first | (go_at_call 59; first | exact upq_tr (ret_num (l26Code_any _ _ _ _ _ h hn hf) hC.out) | exact upq (ret_num (l26Code_any _ _ _ _ _ h hn hf) hC.out)) | (go_at_call 60; first | exact upq_tr_same (l26Many_any _ _) | exact upq_same (l26Many_any _ _))))); refine wpQuiet_nil ?_; intro _ hw'; obtain ⟨nq, hw''⟩ := hw'; subst hw''))
    go_ret2
    exact ⟨by rw [hR.out]; rfl, UpOf.of (by repeat (first | exact Below.refl _ _ | refine bl_tr ?_ _ | refine bl_al ?_ _ | refine bl_dr ?_ | refine bl_up ?_ _ | refine Below.drew ?_ | refine bl_alloc ?_ _ | refine Below.setCell ?_ (by first | (simp; done) | (simp; omega)) _))⟩
  cases h3 : btw m 0 1000
  · have hR := Lib.hid (show priceR l k m = _ from askR_3 h1 h2 h3)
    have hC := Lib.hid (codeW_0 h1 h2)
    go_enter Try.func22, Try.ntmps22
    go_wp2_with (first | (go_at_call 59; refine (ret_num (l26Code_any _ _ _ _ _ h hn hf) hC.out).mono ?_; rintro e w' ⟨rfl, g, rfl⟩) | (go_at_call 60; refine (l26Many_any _ _).mono ?_; rintro e w' ⟨rfl, rfl⟩) | ((with_reducible refine wp_region_up (by kernel_rfl) (by kernel_rfl) ?_); (repeat (go_big_quiet_step (first | (go_at_call 59; first | exact upq_tr (ret_num (l26Code_any _ _ _ _ _ h hn hf) hC.out) | exact upq (ret_num (l26Code_any _ _ _ _ _ h hn hf) hC.out)) | (go_at_call 60; first | exact upq_tr_same (l26Many_any _ _) | exact upq_same (l26Many_any _ _))))); refine wpQuiet_nil ?_; intro _ hw'; obtain ⟨nq, hw''⟩ := hw'; subst hw''))
    go_ret2
    exact ⟨by rw [hR.out]; rfl, UpOf.of (by repeat (first | exact Below.refl _ _ | refine bl_tr ?_ _ | refine bl_al ?_ _ | refine bl_dr ?_ | refine bl_up ?_ _ | refine Below.drew ?_ | refine bl_alloc ?_ _ | refine Below.setCell ?_ (by first | (simp; done) | (simp; omega)) _))⟩
  have hR := Lib.hid (show priceR l k m = _ from askR_0 h1 h2 h3)
  have hC := Lib.hid (codeW_0 h1 h2)
  obtain ⟨k1, k2⟩ := btw_true h2
  obtain ⟨m1, m2⟩ := btw_true h3
  obtain ⟨hl30, hvs⟩ := vWares_inv h1
  have HVS := Lib.hid hvs
  obtain ⟨K, rfl⟩ : ∃ K : Nat, k = K := ⟨k.toNat, by omega⟩
  have hK : K < l.length := by omega
  have hv := hvs K hK
  clear h1 h2 hvs
  have HH := Lib.hid h
  obtain ⟨b, off, Ai, ci, rfl, hb, c0, c1, r⟩ := ware_at h hK
  have hat : Hid (WAt w b (off + K * 2) (wat l K) Ai ci) := ⟨hb, c0, c1, r⟩
  go_enter Try.func22, Try.ntmps22
  go_wp2_with (first | (go_at_call 59; refine (ret_num (l26Code_any _ _ _ _ _ HH.out hn hf) hC.out).mono ?_; rintro e w' ⟨rfl, g, rfl⟩) | (go_at_call 60; refine (ret_as (l26Many_any _ _) h3).mono ?_; rintro e w' ⟨rfl, rfl⟩) | (go_at_call 61; refine (l26Price_any _ _ _ _ _ _ _ (hat.out.below (by repeat (first | exact Below.refl _ _ | refine bl_tr ?_ _ | refine bl_al ?_ _ | refine bl_dr ?_ | refine bl_up ?_ _ | refine Below.drew ?_ | refine bl_alloc ?_ _ | refine Below.setCell ?_ (by first | (simp; done) | (simp; omega)) _))) hv m1 m2).mono ?_; rintro e w' ⟨rfl, g, rfl⟩) | ((with_reducible refine wp_region_up (by kernel_rfl) (by kernel_rfl) ?_); (repeat (go_big_quiet_step (first | (go_at_call 59; first | exact upq_tr (ret_num (l26Code_any _ _ _ _ _ HH.out hn hf) hC.out) | exact upq (ret_num (l26Code_any _ _ _ _ _ HH.out hn hf) hC.out)) | (go_at_call 60; first | exact upq_tr_same (ret_as (l26Many_any _ _) h3) | exact upq_same (ret_as (l26Many_any _ _) h3)) | (go_at_call 61; first | exact upq_tr (l26Price_any _ _ _ _ _ _ _ (hat.out.below (by repeat (first | exact Below.refl _ _ | refine bl_tr ?_ _ | refine bl_al ?_ _ | refine bl_dr ?_ | refine bl_up ?_ _ | refine Below.drew ?_ | refine bl_alloc ?_ _ | refine Below.setCell ?_ (by first | (simp; done) | (simp; omega)) _))) hv m1 m2) | exact upq (l26Price_any _ _ _ _ _ _ _ (hat.out.below (by repeat (first | exact Below.refl _ _ | refine bl_tr ?_ _ | refine bl_al ?_ _ | refine bl_dr ?_ | refine bl_up ?_ _ | refine Below.drew ?_ | refine bl_alloc ?_ _ | refine Below.setCell ?_ (by first | (simp; done) | (simp; omega)) _))) hv m1 m2))))); refine wpQuiet_nil ?_; intro _ hw'; obtain ⟨nq, hw''⟩ := hw'; subst hw''))
  go_ret2
  exact ⟨by rw [hR.out]; rfl, UpOf.of (by repeat (first | exact Below.refl _ _ | refine bl_tr ?_ _ | refine bl_al ?_ _ | refine bl_dr ?_ | refine bl_up ?_ _ | refine Below.drew ?_ | refine bl_alloc ?_ _ | refine Below.setCell ?_ (by first | (simp; done) | (simp; omega)) _))⟩
theorem chp_bd {x : Ware} (h : vWare x = true) {m : Int} (h0 : 0 ≤ m) (h1 : m ≤ 1000) (k : Nat) (hk : k ≤ x.brs.length) : 0 ≤ (chp x m k).1 ∧ (chp x m k).1 ≤ 1000 ∧ 0 ≤ (chp x m k).2 ∧ (chp x m k).2 ≤ 1000000000 := by
  obtain ⟨_, _, _, hb⟩ := vWare_inv h
  induction k with
  | zero => have := prc_bd h h0 h1; exact ⟨h0, h1, this.1, this.2⟩
  | succ k ih =>
    have h2 := brkAt_bd (hb k (by omega))
    have h3 := prc_bd h (m := (brk x k).fr) (by omega) (by omega)
    rw [chp]
    split
    · exact ⟨by show 0 ≤ (brk x k).fr; omega, by show (brk x k).fr ≤ 1000; omega, h3.1, h3.2⟩
    · exact ih (by omega)
set_option maxRecDepth 10000 in
set_option maxHeartbeats 2000000 in
theorem cheapI_any (A : Option Addr) (c : Nat) (l : List Ware) (k m : Int) (w : World) (h : WSee w A l) (hn : l.length ≤ 100000000) (hf : WBd l) :
    Calls Try.prog 27 #[.slice A l.length c, i64 k, i64 m] w fun e w' => e = .returned (.tuple #[i64 (cheapR l k m).1, i64 (cheapR l k m).2.1, i64 (cheapR l k m).2.2]) ∧ UpOf w w' := by
  cases h1 : vWares l
  · have hR := Lib.hid (show cheapR l k m = _ from askR_1 h1)
    have hC := Lib.hid (codeW_1 (k := k) h1)
    go_enter Try.func27, Try.ntmps27
    go_wp2_with (first | (go_at_call 62; refine (ret_num (wareCode_any _ _ _ _ _ h hn hf) hC.out).mono ?_; rintro e w' ⟨rfl, g, rfl⟩) | (go_at_call 63; refine (between_any _ _ _ _).mono ?_; rintro e w' ⟨rfl, rfl⟩) | ((with_reducible refine wp_region_up (by kernel_rfl) (by kernel_rfl) ?_); (repeat (go_big_quiet_step (first | (go_at_call 62; first | exact upq_tr (ret_num (wareCode_any _ _ _ _ _ h hn hf) hC.out) | exact upq (ret_num (wareCode_any _ _ _ _ _ h hn hf) hC.out)) | (go_at_call 63; first | exact upq_tr_same (between_any _ _ _ _) | exact upq_same (between_any _ _ _ _))))); refine wpQuiet_nil ?_; intro _ hw'; obtain ⟨nq, hw''⟩ := hw'; subst hw''))
    go_ret3
    exact ⟨by rw [hR.out]; rfl, UpOf.of (by repeat (first | exact Below.refl _ _ | refine bl_tr ?_ _ | refine bl_al ?_ _ | refine bl_dr ?_ | refine bl_up ?_ _ | refine Below.drew ?_ | refine bl_alloc ?_ _ | refine Below.setCell ?_ (by first | (simp; done) | (simp; omega)) _))⟩
  cases h2 : btw k 0 ((l.length : Int) - 1)
  · have hR := Lib.hid (show cheapR l k m = _ from askR_2 h1 h2)
    have hC := Lib.hid (codeW_2 h1 h2)
    go_enter Try.func27, Try.ntmps27
    go_wp2_with (first | (go_at_call 62; refine (ret_num (wareCode_any _ _ _ _ _ h hn hf) hC.out).mono ?_; rintro e w' ⟨rfl, g, rfl⟩) | (go_at_call 63; refine (between_any _ _ _ _).mono ?_; rintro e w' ⟨rfl, rfl⟩) | ((with_reducible refine wp_region_up (by kernel_rfl) (by kernel_rfl) ?_); (repeat (go_big_quiet_step (first | (go_at_call 62; first | exact upq_tr (ret_num (wareCode_any _ _ _ _ _ h hn hf) hC.out) | exact upq (ret_num (wareCode_any _ _ _ _ _ h hn hf) hC.out)) | (go_at_call 63; first | exact upq_tr_same (between_any _ _ _ _) | exact upq_same (between_any _ _ _ _))))); refine wpQuiet_nil ?_; intro _ hw'; obtain ⟨nq, hw''⟩ := hw'; subst hw''))
    go_ret3
    exact ⟨by rw [hR.out]; rfl, UpOf.of (by repeat (first | exact Below.refl _ _ | refine bl_tr ?_ _ | refine bl_al ?_ _ | refine bl_dr ?_ | refine bl_up ?_ _ | refine Below.drew ?_ | refine bl_alloc ?_ _ | refine Below.setCell ?_ (by first | (simp; done) | (simp; omega)) _))⟩
  cases h3 : btw m 0 1000
  · have hR := Lib.hid (show cheapR l k m = _ from askR_3 h1 h2 h3)
    have hC := Lib.hid (codeW_0 h1 h2)
    go_enter Try.func27, Try.ntmps27
    go_wp2_with (first | (go_at_call 62; refine (ret_num (wareCode_any _ _ _ _ _ h hn hf) hC.out).mono ?_; rintro e w' ⟨rfl, g, rfl⟩) | (go_at_call 63; refine (between_any _ _ _ _).mono ?_; rintro e w' ⟨rfl, rfl⟩) | ((with_reducible refine wp_region_up (by kernel_rfl) (by kernel_rfl) ?_); (repeat (go_big_quiet_step (first | (go_at_call 62; first | exact upq_tr (ret_num (wareCode_any _ _ _ _ _ h hn hf) hC.out) | exact upq (ret_num (wareCode_any _ _ _ _ _ h hn hf) hC.out)) | (go_at_call 63; first | exact upq_tr_same (between_any _ _ _ _) | exact upq_same (between_any _ _ _ _))))); refine wpQuiet_nil ?_; intro _ hw'; obtain ⟨nq, hw''⟩ := hw'; subst hw''))
    go_ret3
    exact ⟨by rw [hR.out]; rfl, UpOf.of (by repeat (first | exact Below.refl _ _ | refine bl_tr ?_ _ | refine bl_al ?_ _ | refine bl_dr ?_ | refine bl_up ?_ _ | refine Below.drew ?_ | refine bl_alloc ?_ _ | refine Below.setCell ?_ (by first | (simp; done) | (simp; omega)) _))⟩
  have hR := Lib.hid (show cheapR l k m = _ from askR_0 h1 h2 h3)
  have hC := Lib.hid (codeW_0 h1 h2)
  obtain ⟨k1, k2⟩ := btw_true h2
  obtain ⟨m1, m2⟩ := btw_true h3
  obtain ⟨hl30, hvs⟩ := vWares_inv h1
  have HVS := Lib.hid hvs
  obtain ⟨K, rfl⟩ : ∃ K : Nat, k = K := ⟨k.toNat, by omega⟩
  have hK : K < l.length := by omega
  have hv := hvs K hK
  clear h1 h2 hvs
  have HH := Lib.hid h
  obtain ⟨b, off, Ai, ci, rfl, hb, c0, c1, r⟩ := ware_at h hK
  have HR := Lib.hid r
  have hvv := Lib.hid hv
  go_enter Try.func27, Try.ntmps27
  go_wp2_with (first | (go_at_call 62; refine (ret_num (wareCode_any _ _ _ _ _ HH.out hn hf) hC.out).mono ?_; rintro e w' ⟨rfl, g, rfl⟩) | (go_at_call 63; refine (ret_as (between_any _ _ _ _) h3).mono ?_; rintro e w' ⟨rfl, rfl⟩) | ((with_reducible refine wp_region_up (by kernel_rfl) (by kernel_rfl) ?_); (repeat (go_big_quiet_step (first | (go_at_call 62; first | exact upq_tr (ret_num (wareCode_any _ _ _ _ _ HH.out hn hf) hC.out) | exact upq (ret_num (wareCode_any _ _ _ _ _ HH.out hn hf) hC.out)) | (go_at_call 63; first | exact upq_tr_same (ret_as (between_any _ _ _ _) h3) | exact upq_same (ret_as (between_any _ _ _ _) h3))))); refine wpQuiet_nil ?_; intro _ hw'; obtain ⟨nq, hw''⟩ := hw'; subst hw''))
  refine (price_any _ _ _ _ _ (r.below (by repeat (first | exact Below.refl _ _ | refine bl_tr ?_ _ | refine bl_al ?_ _ | refine bl_dr ?_ | refine bl_up ?_ _ | refine Below.drew ?_ | refine bl_alloc ?_ _ | refine Below.setCell ?_ (by first | (simp; done) | (simp; omega)) _))) hv m1 m2).mono ?_
  rintro e w' ⟨rfl, g1, rfl⟩
  revert g
  intro g0 g1
  go_wp2_with fail
  have P0 : (up w ((g0.al (.cells #[.string (wat l K).name, .slice Ai (wat l K).brs.length ci] 74)).tr g1)).cell? ⟨(up w g0).heap.size, 0, none⟩ = some (.string (wat l K).name) := by simp
  have P1 : (up w ((g0.al (.cells #[.string (wat l K).name, .slice Ai (wat l K).brs.length ci] 74)).tr g1)).cell? ⟨(up w g0).heap.size, 1, none⟩ = some (.slice Ai (wat l K).brs.length ci) := by simp
  have P2 : (up w g0).heap.size < (up w ((g0.al (.cells #[.string (wat l K).name, .slice Ai (wat l K).brs.length ci] 74)).tr g1)).heap.size := by simp
  have hB : Below w.heap.size w (up w ((g0.al (.cells #[.string (wat l K).name, .slice Ai (wat l K).brs.length ci] 74)).tr g1)) := up_below _ _
  have hr := HR.out.below hB
  clear h r c0 c1 HR HH
  revert P0 P1 P2 hB hr
  generalize up w ((g0.al (.cells #[.string (wat l K).name, .slice Ai (wat l K).brs.length ci] 74)).tr g1) = W
  generalize (up w g0).heap.size = p
  intro P0 P1 P2 hB hr
  have HB := Lib.hid hB
  have HR := Lib.hid hr
  clear hB hr hv h3
  obtain ⟨_, _, hl6, hbk⟩ := vWare_inv hvv.out
  have HBK := Lib.hid (fun i hi => brkAt_bd (hbk i hi))
  clear hbk
  go_loopw [11, 12, 35] (fun b s i wr => ∃ j : Nat, j ≤ (wat l K).brs.length ∧ i = i64 j ∧ b = i64 (chp (wat l K) m j).1 ∧ s = i64 (chp (wat l K) m j).2 ∧ ∃ g : Up W, wr = up W g) (fun _ _ i _ => (wat l K).brs.length - (intOf i).toNat)
  case atStart => exact ⟨0, by omega, rfl, rfl, rfl, ex_up (by repeat (first | exact Below.refl _ _ | refine bl_tr ?_ _ | refine bl_al ?_ _ | refine bl_dr ?_ | refine bl_up ?_ _ | refine Below.drew ?_ | refine bl_alloc ?_ _ | refine Below.setCell ?_ (by first | (simp; done) | (simp; omega)) _))⟩
  case round =>
    obtain ⟨j, hj, rfl, rfl, rfl, g, rfl⟩ := hrel
    by_cases hlt : j < (wat l K).brs.length
    · obtain ⟨b1, off1, rfl, hb1, ha⟩ := brk_all HR.out (by omega)
      obtain ⟨e0, e1⟩ := ha j hlt
      obtain ⟨f1, f2, f3, f4⟩ := HBK.out j hlt
      clear ha
      by_cases q : m < (brk (wat l K) j).fr
      · have f0 : (0 : Int) ≤ (brk (wat l K) j).fr := by omega
        by_cases q2 : prc (wat l K) (brk (wat l K) j).fr < (chp (wat l K) m j).2
        · have hN := Lib.hid (chp_yes q q2)
          go_wp2_with (first | (go_at_call 64; refine (price_any _ _ _ _ _ (HR.out.below (by repeat (first | exact Below.refl _ _ | refine bl_tr ?_ _ | refine bl_al ?_ _ | refine bl_dr ?_ | refine bl_up ?_ _ | refine Below.drew ?_ | refine bl_alloc ?_ _ | refine Below.setCell ?_ (by first | (simp; done) | (simp; omega)) _))) hvv.out f0 f2).mono ?_; rintro e w' ⟨rfl, g, rfl⟩) | ((with_reducible refine wp_region_up (by kernel_rfl) (by kernel_rfl) ?_); (repeat (go_big_quiet_step (first | (go_at_call 64; first | exact upq_tr (price_any _ _ _ _ _ (HR.out.below (by repeat (first | exact Below.refl _ _ | refine bl_tr ?_ _ | refine bl_al ?_ _ | refine bl_dr ?_ | refine bl_up ?_ _ | refine Below.drew ?_ | refine bl_alloc ?_ _ | refine Below.setCell ?_ (by first | (simp; done) | (simp; omega)) _))) hvv.out f0 f2) | exact upq (price_any _ _ _ _ _ (HR.out.below (by repeat (first | exact Below.refl _ _ | refine bl_tr ?_ _ | refine bl_al ?_ _ | refine bl_dr ?_ | refine bl_up ?_ _ | refine Below.drew ?_ | refine bl_alloc ?_ _ | refine Below.setCell ?_ (by first | (simp; done) | (simp; omega)) _))) hvv.out f0 f2))))); refine wpQuiet_nil ?_; intro _ hw'; obtain ⟨nq, hw''⟩ := hw'; subst hw''))
          go_roundw
          case rel => exact ⟨j + 1, by omega, by go_num, by rw [hN.out], by rw [hN.out], ex_up (by repeat (first | exact Below.refl _ _ | refine bl_tr ?_ _ | refine bl_al ?_ _ | refine bl_dr ?_ | refine bl_up ?_ _ | refine Below.drew ?_ | refine bl_alloc ?_ _ | refine Below.setCell ?_ (by first | (simp; done) | (simp; omega)) _))⟩
          case measure => (simp [intOf]; try omega)
        · have hN := Lib.hid (chp_no2 q2)
          go_wp2_with (first | (go_at_call 64; refine (price_any _ _ _ _ _ (HR.out.below (by repeat (first | exact Below.refl _ _ | refine bl_tr ?_ _ | refine bl_al ?_ _ | refine bl_dr ?_ | refine bl_up ?_ _ | refine Below.drew ?_ | refine bl_alloc ?_ _ | refine Below.setCell ?_ (by first | (simp; done) | (simp; omega)) _))) hvv.out f0 f2).mono ?_; rintro e w' ⟨rfl, g, rfl⟩) | ((with_reducible refine wp_region_up (by kernel_rfl) (by kernel_rfl) ?_); (repeat (go_big_quiet_step (first | (go_at_call 64; first | exact upq_tr (price_any _ _ _ _ _ (HR.out.below (by repeat (first | exact Below.refl _ _ | refine bl_tr ?_ _ | refine bl_al ?_ _ | refine bl_dr ?_ | refine bl_up ?_ _ | refine Below.drew ?_ | refine bl_alloc ?_ _ | refine Below.setCell ?_ (by first | (simp; done) | (simp; omega)) _))) hvv.out f0 f2) | exact upq (price_any _ _ _ _ _ (HR.out.below (by repeat (first | exact Below.refl _ _ | refine bl_tr ?_ _ | refine bl_al ?_ _ | refine bl_dr ?_ | refine bl_up ?_ _ | refine Below.drew ?_ | refine bl_alloc ?_ _ | refine Below.setCell ?_ (by first | (simp; done) | (simp; omega)) _))) hvv.out f0 f2))))); refine wpQuiet_nil ?_; intro _ hw'; obtain ⟨nq, hw''⟩ := hw'; subst hw''))
          go_roundw
          case rel => exact ⟨j + 1, by omega, by go_num, by rw [hN.out], by rw [hN.out], ex_up (by repeat (first | exact Below.refl _ _ | refine bl_tr ?_ _ | refine bl_al ?_ _ | refine bl_dr ?_ | refine bl_up ?_ _ | refine Below.drew ?_ | refine bl_alloc ?_ _ | refine Below.setCell ?_ (by first | (simp; done) | (simp; omega)) _))⟩
          case measure => (simp [intOf]; try omega)
      · have hN := Lib.hid (chp_no1 q)
        go_wp2_with (first | ((with_reducible refine wp_region_up (by kernel_rfl) (by kernel_rfl) ?_); (repeat (go_big_quiet_step (fail))); refine wpQuiet_nil ?_; intro _ hw'; obtain ⟨nq, hw''⟩ := hw'; subst hw''))
        go_roundw
        case rel => exact ⟨j + 1, by omega, by go_num, by rw [hN.out], by rw [hN.out], ex_up (by repeat (first | exact Below.refl _ _ | refine bl_tr ?_ _ | refine bl_al ?_ _ | refine bl_dr ?_ | refine bl_up ?_ _ | refine Below.drew ?_ | refine bl_alloc ?_ _ | refine Below.setCell ?_ (by first | (simp; done) | (simp; omega)) _))⟩
        case measure => (simp [intOf]; try omega)
    · obtain rfl : j = (wat l K).brs.length := by omega
      go_wp2_with (first | ((with_reducible refine wp_region_up (by kernel_rfl) (by kernel_rfl) ?_); (repeat (go_big_quiet_step (fail))); refine wpQuiet_nil ?_; intro _ hw'; obtain ⟨nq, hw''⟩ := hw'; subst hw''))
      go_ret3
      exact ⟨by rw [hR.out]; rfl, UpOf.of (HB.out.trans (Below.mono (by repeat (first | exact Below.refl _ _ | refine bl_tr ?_ _ | refine bl_al ?_ _ | refine bl_dr ?_ | refine bl_up ?_ _ | refine Below.drew ?_ | refine bl_alloc ?_ _ | refine Below.setCell ?_ (by first | (simp; done) | (simp; omega)) _)) HB.out.size))⟩
end Go.Proofs.Ytiibpldfnnhhlaa
