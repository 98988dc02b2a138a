/-
  OfferSaving, of the program and of the reference. The bounds stand at each.
-/
import Derived.Test.YtiibpldfnnhhlaaOffer1
namespace Go.Proofs.Ytiibpldfnnhhlaa
open Go.RowKit
def savR (l : List Ware) (os : List Offer) (k : Int) : Int × Int :=
  if vOffers l os = true then if btw k 0 ((os.length : Int) - 1) = true then (bsk l (oat os k.toNat).many l.length - (oat os k.toNat).price, 0) else (0, 2) else (0, 1)
set_option maxRecDepth 10000 in
set_option maxHeartbeats 1000000 in
theorem savI_any (A O : Option Addr) (c d : Nat) (l : List Ware) (os : List Offer) (k : Int) (w : World) (hw : WSee w A l) (h : OSee w O os) (hl : l.length ≤ 100000000) (hn : os.length ≤ 100000000) (hf : WBd l) (ho : OBd os) :
    Calls Try.prog 46 #[.slice A l.length c, .slice O os.length d, i64 k] w fun e w' => e = .returned (.tuple #[i64 (savR l os k).1, i64 (savR l os k).2]) ∧ UpOf w w' := by
  cases h1 : vOffers l os
  · have hR := Lib.hid (show savR l os k = (0, 1) by rw [savR, if_neg (by simp [h1])])
    go_enter Try.func46, Try.ntmps46
    go_wp2_with (first | (go_at_call 43; refine (ret_as (validOffers_any _ _ _ _ _ _ _ hw h hl hn hf ho) h1).mono ?_; rintro e w' ⟨rfl, g, rfl⟩) | ((with_reducible refine wp_region_up (by kernel_rfl) (by kernel_rfl) ?_); (repeat (go_big_quiet_step (first | (go_at_call 43; first | exact upq_tr (ret_as (validOffers_any _ _ _ _ _ _ _ hw h hl hn hf ho) h1) | exact upq (ret_as (validOffers_any _ _ _ _ _ _ _ hw h hl hn hf ho) h1))))); refine wpQuiet_nil ?_; intro _ hw'; obtain ⟨nq, hw''⟩ := hw'; subst hw''))
    go_ret2
    exact ⟨by rw [hR.out]; rfl, UpOf.of (by repeat (first | exact Below.refl _ _ | refine bl_tr ?_ _ | refine bl_al ?_ _ | refine bl_dr ?_ | refine bl_up ?_ _ | refine Below.drew ?_ | refine bl_alloc ?_ _ | refine Below.setCell ?_ (by first | (simp; done) | (simp; omega)) _))⟩
  cases h2 : btw k 0 ((os.length : Int) - 1)
  · have hR := Lib.hid (show savR l os k = (0, 2) by rw [savR, if_pos h1, if_neg (by simp [h2])])
    go_enter Try.func46, Try.ntmps46
    go_wp2_with (first | (go_at_call 43; refine (ret_as (validOffers_any _ _ _ _ _ _ _ hw h hl hn hf ho) h1).mono ?_; rintro e w' ⟨rfl, g, rfl⟩) | (go_at_call 63; refine (ret_as (between_any _ _ _ _) h2).mono ?_; rintro e w' ⟨rfl, rfl⟩) | ((with_reducible refine wp_region_up (by kernel_rfl) (by kernel_rfl) ?_); (repeat (go_big_quiet_step (first | (go_at_call 43; first | exact upq_tr (ret_as (validOffers_any _ _ _ _ _ _ _ hw h hl hn hf ho) h1) | exact upq (ret_as (validOffers_any _ _ _ _ _ _ _ hw h hl hn hf ho) h1)) | (go_at_call 63; first | exact upq_tr_same (ret_as (between_any _ _ _ _) h2) | exact upq_same (ret_as (between_any _ _ _ _) h2))))); refine wpQuiet_nil ?_; intro _ hw'; obtain ⟨nq, hw''⟩ := hw'; subst hw''))
    go_ret2
    exact ⟨by rw [hR.out]; rfl, UpOf.of (by repeat (first | exact Below.refl _ _ | refine bl_tr ?_ _ | refine bl_al ?_ _ | refine bl_dr ?_ | refine bl_up ?_ _ | refine Below.drew ?_ | refine bl_alloc ?_ _ | refine Below.setCell ?_ (by first | (simp; done) | (simp; omega)) _))⟩
  · obtain ⟨k1, k2⟩ := btw_true h2
    obtain ⟨K, rfl⟩ : ∃ K : Nat, k = K := ⟨k.toNat, by omega⟩
    have hK : K < os.length := by omega
    have hR := Lib.hid (show savR l os K = (bsk l (oat os K).many l.length - (oat os K).price, 0) by rw [savR, if_pos h1, if_pos h2]; rfl)
    obtain ⟨v1, v2, v3⟩ := vOffers_inv h1
    obtain ⟨hl30, hv⟩ := vWares_inv v1
    obtain ⟨o1, _, o3, o4⟩ := offerOk_inv (v3 K hK)
    obtain ⟨he, hm⟩ := isMany_inv o1
    have HE := Lib.hid he
    have HM := Lib.hid (fun i (hi : i < l.length) => show 0 ≤ iat (oat os K).many i ∧ iat (oat os K).many i ≤ 1000 by have := hm i (by omega); omega)
    have HV := Lib.hid hv
    obtain ⟨b1, b2⟩ := bsk_bd HV.out HM.out l.length (Nat.le_refl _)
    have HH := Lib.hid h
    have HK := Lib.hid h1
    obtain ⟨b, off, Ai, ci, rfl, hb, c0, c1, r⟩ := offer_at h hK
    clear v1 v3 hv o1 he hm h1
    go_enter Try.func46, Try.ntmps46
    go_wp2_with (first | (go_at_call 43; refine (ret_as (validOffers_any _ _ _ _ _ _ _ hw HH.out hl hn hf ho) HK.out).mono ?_; rintro e w' ⟨rfl, g, rfl⟩) | (go_at_call 63; refine (ret_as (between_any _ _ _ _) h2).mono ?_; rintro e w' ⟨rfl, rfl⟩) | (go_at_call 70; refine (basketPrice_any _ _ _ _ _ _ _ (hw.below (by repeat (first | exact Below.refl _ _ | refine bl_tr ?_ _ | refine bl_al ?_ _ | refine bl_dr ?_ | refine bl_up ?_ _ | refine Below.drew ?_ | refine bl_alloc ?_ _ | refine Below.setCell ?_ (by first | (simp; done) | (simp; omega)) _))) (r.below (by repeat (first | exact Below.refl _ _ | refine bl_tr ?_ _ | refine bl_al ?_ _ | refine bl_dr ?_ | refine bl_up ?_ _ | refine Below.drew ?_ | refine bl_alloc ?_ _ | refine Below.setCell ?_ (by first | (simp; done) | (simp; omega)) _))) hl30 HE.out HV.out HM.out).mono ?_; rintro e w' ⟨rfl, g, rfl⟩) | ((with_reducible refine wp_region_up (by kernel_rfl) (by kernel_rfl) ?_); (repeat (go_big_quiet_step (first | (go_at_call 43; first | exact upq_tr (ret_as (validOffers_any _ _ _ _ _ _ _ hw HH.out hl hn hf ho) HK.out) | exact upq (ret_as (validOffers_any _ _ _ _ _ _ _ hw HH.out hl hn hf ho) HK.out)) | (go_at_call 63; first | exact upq_tr_same (ret_as (between_any _ _ _ _) h2) | exact upq_same (ret_as (between_any _ _ _ _) h2)) | (go_at_call 70; first | exact upq_tr (basketPrice_any _ _ _ _ _ _ _ (hw.below (by repeat (first | exact Below.refl _ _ | refine bl_tr ?_ _ | refine bl_al ?_ _ | refine bl_dr ?_ | refine bl_up ?_ _ | refine Below.drew ?_ | refine bl_alloc ?_ _ | refine Below.setCell ?_ (by first | (simp; done) | (simp; omega)) _))) (r.below (by repeat (first | exact Below.refl _ _ | refine bl_tr ?_ _ | refine bl_al ?_ _ | refine bl_dr ?_ | refine bl_up ?_ _ | refine Below.drew ?_ | refine bl_alloc ?_ _ | refine Below.setCell ?_ (by first | (simp; done) | (simp; omega)) _))) hl30 HE.out HV.out HM.out) | exact upq (basketPrice_any _ _ _ _ _ _ _ (hw.below (by repeat (first | exact Below.refl _ _ | refine bl_tr ?_ _ | refine bl_al ?_ _ | refine bl_dr ?_ | refine bl_up ?_ _ | refine Below.drew ?_ | refine bl_alloc ?_ _ | refine Below.setCell ?_ (by first | (simp; done) | (simp; omega)) _))) (r.below (by repeat (first | exact Below.refl _ _ | refine bl_tr ?_ _ | refine bl_al ?_ _ | refine bl_dr ?_ | refine bl_up ?_ _ | refine Below.drew ?_ | refine bl_alloc ?_ _ | refine Below.setCell ?_ (by first | (simp; done) | (simp; omega)) _))) hl30 HE.out HV.out HM.out))))); refine wpQuiet_nil ?_; intro _ hw'; obtain ⟨nq, hw''⟩ := hw'; subst hw''))
    go_ret2
    exact ⟨by rw [hR.out]; rfl, UpOf.of (by repeat (first | exact Below.refl _ _ | refine bl_tr ?_ _ | refine bl_al ?_ _ | refine bl_dr ?_ | refine bl_up ?_ _ | refine Below.drew ?_ | refine bl_alloc ?_ _ | refine Below.setCell ?_ (by first | (simp; done) | (simp; omega)) _))⟩
set_option maxRecDepth 10000 in
set_option maxHeartbeats 1000000 in
theorem savS_any (A O : Option Addr) (c d : Nat) (l : List Ware) (os : List Offer) (k : Int) (w : World) (hw : WSee w A l) (h : OSee w O os) (hl : l.length ≤ 100000000) (hn : os.length ≤ 100000000) (hf : WBd l) (ho : OBd os) :
    Calls Try.prog 45 #[.slice A l.length c, .slice O os.length d, i64 k] w fun e w' => e = .returned (.tuple #[i64 (savR l os k).1, i64 (savR l os k).2]) ∧ UpOf w w' := by
  cases h1 : vOffers l os
  · have hR := Lib.hid (show savR l os k = (0, 1) by rw [savR, if_neg (by simp [h1])])
    go_enter Try.func45, Try.ntmps45
    go_wp2_with (first | (go_at_call 76; refine (ret_as (l26Offers_any _ _ _ _ _ _ _ hw h hl hn hf ho) h1).mono ?_; rintro e w' ⟨rfl, g, rfl⟩) | ((with_reducible refine wp_region_up (by kernel_rfl) (by kernel_rfl) ?_); (repeat (go_big_quiet_step (first | (go_at_call 76; first | exact upq_tr (ret_as (l26Offers_any _ _ _ _ _ _ _ hw h hl hn hf ho) h1) | exact upq (ret_as (l26Offers_any _ _ _ _ _ _ _ hw h hl hn hf ho) h1))))); refine wpQuiet_nil ?_; intro _ hw'; obtain ⟨nq, hw''⟩ := hw'; subst hw''))
    go_ret2
    exact ⟨by rw [hR.out]; rfl, UpOf.of (by repeat (first | exact Below.refl _ _ | refine bl_tr ?_ _ | refine bl_al ?_ _ | refine bl_dr ?_ | refine bl_up ?_ _ | refine Below.drew ?_ | refine bl_alloc ?_ _ | refine Below.setCell ?_ (by first | (simp; done) | (simp; omega)) _))⟩
  cases h2 : btw k 0 ((os.length : Int) - 1)
  · have hR := Lib.hid (show savR l os k = (0, 2) by rw [savR, if_pos h1, if_neg (by simp [h2])])
    go_enter Try.func45, Try.ntmps45
    go_wp2_with (first | (go_at_call 76; refine (ret_as (l26Offers_any _ _ _ _ _ _ _ hw h hl hn hf ho) h1).mono ?_; rintro e w' ⟨rfl, g, rfl⟩) | (go_at_call 65; refine (ret_as (in_any _ _ _ _) h2).mono ?_; rintro e w' ⟨rfl, rfl⟩) | ((with_reducible refine wp_region_up (by kernel_rfl) (by kernel_rfl) ?_); (repeat (go_big_quiet_step (first | (go_at_call 76; first | exact upq_tr (ret_as (l26Offers_any _ _ _ _ _ _ _ hw h hl hn hf ho) h1) | exact upq (ret_as (l26Offers_any _ _ _ _ _ _ _ hw h hl hn hf ho) h1)) | (go_at_call 65; first | exact upq_tr_same (ret_as (in_any _ _ _ _) h2) | exact upq_same (ret_as (in_any _ _ _ _) h2))))); refine wpQuiet_nil ?_; intro _ hw'; obtain ⟨nq, hw''⟩ := hw'; subst hw''))
    go_ret2
    exact ⟨by rw [hR.out]; rfl, UpOf.of (by repeat (first | exact Below.refl _ _ | refine bl_tr ?_ _ | refine bl_al ?_ _ | refine bl_dr ?_ | refine bl_up ?_ _ | refine Below.drew ?_ | refine bl_alloc ?_ _ | refine Below.setCell ?_ (by first | (simp; done) | (simp; omega)) _))⟩
  · obtain ⟨k1, k2⟩ := btw_true h2
    obtain ⟨K, rfl⟩ : ∃ K : Nat, k = K := ⟨k.toNat, by omega⟩
    have hK : K < os.length := by omega
    have hR := Lib.hid (show savR l os K = (bsk l (oat os K).many l.length - (oat os K).price, 0) by rw [savR, if_pos h1, if_pos h2]; rfl)
    obtain ⟨v1, v2, v3⟩ := vOffers_inv h1
    obtain ⟨hl30, hv⟩ := vWares_inv v1
    obtain ⟨o1, _, o3, o4⟩ := offerOk_inv (v3 K hK)
    obtain ⟨he, hm⟩ := isMany_inv o1
    have HE := Lib.hid he
    have HM := Lib.hid (fun i (hi : i < l.length) => show 0 ≤ iat (oat os K).many i ∧ iat (oat os K).many i ≤ 1000 by have := hm i (by omega); omega)
    have HV := Lib.hid hv
    obtain ⟨b1, b2⟩ := bsk_bd HV.out HM.out l.length (Nat.le_refl _)
    have HH := Lib.hid h
    have HK := Lib.hid h1
    obtain ⟨b, off, Ai, ci, rfl, hb, c0, c1, r⟩ := offer_at h hK
    clear v1 v3 hv o1 he hm h1
    go_enter Try.func45, Try.ntmps45
    go_wp2_with (first | (go_at_call 76; refine (ret_as (l26Offers_any _ _ _ _ _ _ _ hw HH.out hl hn hf ho) HK.out).mono ?_; rintro e w' ⟨rfl, g, rfl⟩) | (go_at_call 65; refine (ret_as (in_any _ _ _ _) h2).mono ?_; rintro e w' ⟨rfl, rfl⟩) | (go_at_call 68; refine (l26Basket_any _ _ _ _ _ _ _ (hw.below (by repeat (first | exact Below.refl _ _ | refine bl_tr ?_ _ | refine bl_al ?_ _ | refine bl_dr ?_ | refine bl_up ?_ _ | refine Below.drew ?_ | refine bl_alloc ?_ _ | refine Below.setCell ?_ (by first | (simp; done) | (simp; omega)) _))) (r.below (by repeat (first | exact Below.refl _ _ | refine bl_tr ?_ _ | refine bl_al ?_ _ | refine bl_dr ?_ | refine bl_up ?_ _ | refine Below.drew ?_ | refine bl_alloc ?_ _ | refine Below.setCell ?_ (by first | (simp; done) | (simp; omega)) _))) hl30 HE.out HV.out HM.out).mono ?_; rintro e w' ⟨rfl, g, rfl⟩) | ((with_reducible refine wp_region_up (by kernel_rfl) (by kernel_rfl) ?_); (repeat (go_big_quiet_step (first | (go_at_call 76; first | exact upq_tr (ret_as (l26Offers_any _ _ _ _ _ _ _ hw HH.out hl hn hf ho) HK.out) | exact upq (ret_as (l26Offers_any _ _ _ _ _ _ _ hw HH.out hl hn hf ho) HK.out)) | (go_at_call 65; first | exact upq_tr_same (ret_as (in_any _ _ _ _) h2) | exact upq_same (ret_as (in_any _ _ _ _) h2)) | (go_at_call 68; first | exact upq_tr (l26Basket_any _ _ _ _ _ _ _ (hw.below (by repeat (first | exact Below.refl _ _ | refine bl_tr ?_ _ | refine bl_al ?_ _ | refine bl_dr ?_ | refine bl_up ?_ _ | refine Below.drew ?_ | refine bl_alloc ?_ _ | refine Below.setCell ?_ (by first | (simp; done) | (simp; omega)) _))) (r.below (by repeat (first | exact Below.refl _ _ | refine bl_tr ?_ _ | refine bl_al ?_ _ | refine bl_dr ?_ | refine bl_up ?_ _ | refine Below.drew ?_ | refine bl_alloc ?_ _ | refine Below.setCell ?_ (by first | (simp; done) | (simp; omega)) _))) hl30 HE.out HV.out HM.out) | exact upq (l26Basket_any _ _ _ _ _ _ _ (hw.below (by repeat (first | exact Below.refl _ _ | refine bl_tr ?_ _ | refine bl_al ?_ _ | refine bl_dr ?_ | refine bl_up ?_ _ | refine Below.drew ?_ | refine bl_alloc ?_ _ | refine Below.setCell ?_ (by first | (simp; done) | (simp; omega)) _))) (r.below (by repeat (first | exact Below.refl _ _ | refine bl_tr ?_ _ | refine bl_al ?_ _ | refine bl_dr ?_ | refine bl_up ?_ _ | refine Below.drew ?_ | refine bl_alloc ?_ _ | refine Below.setCell ?_ (by first | (simp; done) | (simp; omega)) _))) hl30 HE.out HV.out HM.out))))); refine wpQuiet_nil ?_; intro _ hw'; obtain ⟨nq, hw''⟩ := hw'; subst hw''))
    go_ret2
    exact ⟨by rw [hR.out]; rfl, UpOf.of (by repeat (first | exact Below.refl _ _ | refine bl_tr ?_ _ | refine bl_al ?_ _ | refine bl_dr ?_ | refine bl_up ?_ _ | refine Below.drew ?_ | refine bl_alloc ?_ _ | refine Below.setCell ?_ (by first | (simp; done) | (simp; omega)) _))⟩
theorem specValidOffers_any (A O : Option Addr) (c d : Nat) (l : List Ware) (os : List Offer) (w : World) (hw : WSee w A l) (h : OSee w O os) (hl : l.length ≤ 100000000) (hn : os.length ≤ 100000000) (hf : WBd l) (ho : OBd os) :
    Calls Try.prog 41 #[.slice A l.length c, .slice O os.length d] w fun e w' => e = .returned (.bool (vOffers l os)) ∧ UpOf w w' := by
  go_enter Try.func41, Try.ntmps41
  go_wp2_with (first | (go_at_call 76; refine (l26Offers_any _ _ _ _ _ _ _ hw h hl hn hf ho).mono ?_; rintro e w' ⟨rfl, g, rfl⟩) | ((with_reducible refine wp_region_up (by kernel_rfl) (by kernel_rfl) ?_); (repeat (go_big_quiet_step (first | (go_at_call 76; first | exact upq_tr (l26Offers_any _ _ _ _ _ _ _ hw h hl hn hf ho) | exact upq (l26Offers_any _ _ _ _ _ _ _ hw h hl hn hf ho))))); refine wpQuiet_nil ?_; intro _ hw'; obtain ⟨nq, hw''⟩ := hw'; subst hw''))
  go_ret
  exact ⟨rfl, UpOf.of (by repeat (first | exact Below.refl _ _ | refine bl_tr ?_ _ | refine bl_al ?_ _ | refine bl_dr ?_ | refine bl_up ?_ _ | refine Below.drew ?_ | refine bl_alloc ?_ _ | refine Below.setCell ?_ (by first | (simp; done) | (simp; omega)) _))⟩
end Go.Proofs.Ytiibpldfnnhhlaa
