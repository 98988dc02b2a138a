/-
  CheapestMany of the reference. The bounds stand at each.
-/
import Derived.Test.YtiibpldfnnhhlaaDoorMgA
namespace Go.Proofs.YtiibpldfnnhhlaaDoor
open Go.RowKit
set_option maxRecDepth 10000 in
set_option maxHeartbeats 2000000 in
theorem l26Cheapest_any (x : Ware) (b0 o0 : Nat) (A : Option Addr) (c : Nat) (m : Int) (w : World) (h : WAt w b0 o0 x A c) (hv : vWare x = true) (h0 : 0 ≤ m) (h1 : m ≤ 1000) :
    Calls Tryd.prog 59 #[.pointer (some ⟨b0, o0, none⟩), i64 m] w fun e w' => e = .returned (.tuple #[i64 (chp x m x.brs.length).1, i64 (chp x m x.brs.length).2]) ∧ UpOf w w' := by
  have hat := Lib.hid h
  obtain ⟨hb0, x0, x1, hr⟩ := h
  have HR := Lib.hid hr
  have hvv := Lib.hid hv
  obtain ⟨_, _, hl6, hbk⟩ := vWare_inv hv
  have HBK := Lib.hid (fun i hi => brkAt_bd (hbk i hi))
  clear hbk hr hv
  go_enter Tryd.func59, Tryd.ntmps59
  go_wp2_with (first | (go_at_call 65; refine (l26Price_any _ _ _ _ _ _ _ (hat.out.below (by repeat (first | exact Below.refl _ _ | refine bl_tr ?_ _ | refine bl_al ?_ _ | refine bl_dr ?_ | refine bl_up ?_ _ | refine Below.drew ?_ | refine bl_alloc ?_ _ | refine Below.setCell ?_ (by first | (simp; done) | (simp; omega)) _))) hvv.out h0 h1).mono ?_; rintro e w' ⟨rfl, g, rfl⟩) | ((with_reducible refine wp_region_up (by kernel_rfl) (by kernel_rfl) ?_); (repeat (go_big_quiet_step (first | (go_at_call 65; first | exact upq_tr (l26Price_any _ _ _ _ _ _ _ (hat.out.below (by repeat (first | exact Below.refl _ _ | refine bl_tr ?_ _ | refine bl_al ?_ _ | refine bl_dr ?_ | refine bl_up ?_ _ | refine Below.drew ?_ | refine bl_alloc ?_ _ | refine Below.setCell ?_ (by first | (simp; done) | (simp; omega)) _))) hvv.out h0 h1) | exact upq (l26Price_any _ _ _ _ _ _ _ (hat.out.below (by repeat (first | exact Below.refl _ _ | refine bl_tr ?_ _ | refine bl_al ?_ _ | refine bl_dr ?_ | refine bl_up ?_ _ | refine Below.drew ?_ | refine bl_alloc ?_ _ | refine Below.setCell ?_ (by first | (simp; done) | (simp; omega)) _))) hvv.out h0 h1))))); refine wpQuiet_nil ?_; intro _ hw'; obtain ⟨nq, hw''⟩ := hw'; subst hw''))
  go_loopw [6, 7, 8] (fun b s i wr => ∃ j : Nat, j ≤ x.brs.length ∧ i = i64 j ∧ b = i64 (chp x m j).1 ∧ s = i64 (chp x m j).2 ∧ ∃ g : Up w, wr = up w g) (fun _ _ i _ => x.brs.length - (intOf i).toNat)
  case atStart => exact ⟨0, by omega, rfl, rfl, rfl, ex_up (by repeat (first | exact Below.refl _ _ | refine bl_tr ?_ _ | refine bl_al ?_ _ | refine bl_dr ?_ | refine bl_up ?_ _ | refine Below.drew ?_ | refine bl_alloc ?_ _ | refine Below.setCell ?_ (by first | (simp; done) | (simp; omega)) _))⟩
  case round =>
    obtain ⟨j, hj, rfl, rfl, rfl, g, rfl⟩ := hrel
    by_cases hlt : j < x.brs.length
    · obtain ⟨b1, off1, rfl, hb1, ha⟩ := brk_all HR.out (by omega)
      obtain ⟨e0, e1⟩ := ha j hlt
      obtain ⟨f1, f2, f3, f4⟩ := HBK.out j hlt
      clear ha
      by_cases q : m < (brk x j).fr
      · have f0 : (0 : Int) ≤ (brk x j).fr := by omega
        by_cases q2 : prc x (brk x j).fr < (chp x m j).2
        · have hN := Lib.hid (chp_yes q q2)
          go_wp2_with (first | (go_at_call 65; refine (l26Price_any _ _ _ _ _ _ _ (hat.out.below (by repeat (first | exact Below.refl _ _ | refine bl_tr ?_ _ | refine bl_al ?_ _ | refine bl_dr ?_ | refine bl_up ?_ _ | refine Below.drew ?_ | refine bl_alloc ?_ _ | refine Below.setCell ?_ (by first | (simp; done) | (simp; omega)) _))) hvv.out f0 f2).mono ?_; rintro e w' ⟨rfl, g, rfl⟩) | ((with_reducible refine wp_region_up (by kernel_rfl) (by kernel_rfl) ?_); (repeat (go_big_quiet_step (first | (go_at_call 65; first | exact upq_tr (l26Price_any _ _ _ _ _ _ _ (hat.out.below (by repeat (first | exact Below.refl _ _ | refine bl_tr ?_ _ | refine bl_al ?_ _ | refine bl_dr ?_ | refine bl_up ?_ _ | refine Below.drew ?_ | refine bl_alloc ?_ _ | refine Below.setCell ?_ (by first | (simp; done) | (simp; omega)) _))) hvv.out f0 f2) | exact upq (l26Price_any _ _ _ _ _ _ _ (hat.out.below (by repeat (first | exact Below.refl _ _ | refine bl_tr ?_ _ | refine bl_al ?_ _ | refine bl_dr ?_ | refine bl_up ?_ _ | refine Below.drew ?_ | refine bl_alloc ?_ _ | refine Below.setCell ?_ (by first | (simp; done) | (simp; omega)) _))) hvv.out f0 f2))))); refine wpQuiet_nil ?_; intro _ hw'; obtain ⟨nq, hw''⟩ := hw'; subst hw''))
          go_roundw
          case rel => exact ⟨j + 1, by omega, by go_num, by rw [hN.out], by rw [hN.out], ex_up (by repeat (first | exact Below.refl _ _ | refine bl_tr ?_ _ | refine bl_al ?_ _ | refine bl_dr ?_ | refine bl_up ?_ _ | refine Below.drew ?_ | refine bl_alloc ?_ _ | refine Below.setCell ?_ (by first | (simp; done) | (simp; omega)) _))⟩
          case measure => (simp [intOf]; try omega)
        · have hN := Lib.hid (chp_no2 q2)
          go_wp2_with (first | (go_at_call 65; refine (l26Price_any _ _ _ _ _ _ _ (hat.out.below (by repeat (first | exact Below.refl _ _ | refine bl_tr ?_ _ | refine bl_al ?_ _ | refine bl_dr ?_ | refine bl_up ?_ _ | refine Below.drew ?_ | refine bl_alloc ?_ _ | refine Below.setCell ?_ (by first | (simp; done) | (simp; omega)) _))) hvv.out f0 f2).mono ?_; rintro e w' ⟨rfl, g, rfl⟩) | ((with_reducible refine wp_region_up (by kernel_rfl) (by kernel_rfl) ?_); (repeat (go_big_quiet_step (first | (go_at_call 65; first | exact upq_tr (l26Price_any _ _ _ _ _ _ _ (hat.out.below (by repeat (first | exact Below.refl _ _ | refine bl_tr ?_ _ | refine bl_al ?_ _ | refine bl_dr ?_ | refine bl_up ?_ _ | refine Below.drew ?_ | refine bl_alloc ?_ _ | refine Below.setCell ?_ (by first | (simp; done) | (simp; omega)) _))) hvv.out f0 f2) | exact upq (l26Price_any _ _ _ _ _ _ _ (hat.out.below (by repeat (first | exact Below.refl _ _ | refine bl_tr ?_ _ | refine bl_al ?_ _ | refine bl_dr ?_ | refine bl_up ?_ _ | refine Below.drew ?_ | refine bl_alloc ?_ _ | refine Below.setCell ?_ (by first | (simp; done) | (simp; omega)) _))) hvv.out f0 f2))))); refine wpQuiet_nil ?_; intro _ hw'; obtain ⟨nq, hw''⟩ := hw'; subst hw''))
          go_roundw
          case rel => exact ⟨j + 1, by omega, by go_num, by rw [hN.out], by rw [hN.out], ex_up (by repeat (first | exact Below.refl _ _ | refine bl_tr ?_ _ | refine bl_al ?_ _ | refine bl_dr ?_ | refine bl_up ?_ _ | refine Below.drew ?_ | refine bl_alloc ?_ _ | refine Below.setCell ?_ (by first | (simp; done) | (simp; omega)) _))⟩
          case measure => (simp [intOf]; try omega)
      · have hN := Lib.hid (chp_no1 q)
        go_wp2_with (first | ((with_reducible refine wp_region_up (by kernel_rfl) (by kernel_rfl) ?_); (repeat (go_big_quiet_step (fail))); refine wpQuiet_nil ?_; intro _ hw'; obtain ⟨nq, hw''⟩ := hw'; subst hw''))
        go_roundw
        case rel => exact ⟨j + 1, by omega, by go_num, by rw [hN.out], by rw [hN.out], ex_up (by repeat (first | exact Below.refl _ _ | refine bl_tr ?_ _ | refine bl_al ?_ _ | refine bl_dr ?_ | refine bl_up ?_ _ | refine Below.drew ?_ | refine bl_alloc ?_ _ | refine Below.setCell ?_ (by first | (simp; done) | (simp; omega)) _))⟩
        case measure => (simp [intOf]; try omega)
    · obtain rfl : j = x.brs.length := by omega
      go_wp2_with (first | ((with_reducible refine wp_region_up (by kernel_rfl) (by kernel_rfl) ?_); (repeat (go_big_quiet_step (fail))); refine wpQuiet_nil ?_; intro _ hw'; obtain ⟨nq, hw''⟩ := hw'; subst hw''))
      go_ret2
      exact ⟨rfl, UpOf.of (by repeat (first | exact Below.refl _ _ | refine bl_tr ?_ _ | refine bl_al ?_ _ | refine bl_dr ?_ | refine bl_up ?_ _ | refine Below.drew ?_ | refine bl_alloc ?_ _ | refine Below.setCell ?_ (by first | (simp; done) | (simp; omega)) _))⟩
set_option maxRecDepth 10000 in
theorem cheapS_any (A : Option Addr) (c : Nat) (l : List Ware) (k m : Int) (w : World) (h : WSee w A l) (hn : l.length ≤ 100000000) (hf : WBd l) :
    Calls Tryd.prog 18 #[.slice A l.length c, i64 k, i64 m] w fun e w' => e = .returned (.tuple #[i64 (cheapR l k m).1, i64 (cheapR l k m).2.1, i64 (cheapR l k m).2.2]) ∧ UpOf w w' := by
  cases h1 : vWares l
  · have hR := Lib.hid (show cheapR l k m = _ from askR_1 h1)
    have hC := Lib.hid (codeW_1 (k := k) h1)
    go_enter Tryd.func18, Tryd.ntmps18
    go_wp2_with (first | (go_at_call 57; refine (ret_num (l26Code_any _ _ _ _ _ h hn hf) hC.out).mono ?_; rintro e w' ⟨rfl, g, rfl⟩) | (go_at_call 58; refine (l26Many_any _ _).mono ?_; rintro e w' ⟨rfl, rfl⟩) | ((with_reducible refine wp_region_up (by kernel_rfl) (by kernel_rfl) ?_); (repeat (go_big_quiet_step (first | (go_at_call 57; first | exact upq_tr (ret_num (l26Code_any _ _ _ _ _ h hn hf) hC.out) | exact upq (ret_num (l26Code_any _ _ _ _ _ h hn hf) hC.out)) | (go_at_call 58; first | exact upq_tr_same (l26Many_any _ _) | exact upq_same (l26Many_any _ _))))); refine wpQuiet_nil ?_; intro _ hw'; obtain ⟨nq, hw''⟩ := hw'; subst hw''))
    go_ret3
    exact ⟨by rw [hR.out]; rfl, UpOf.of (by repeat (first | exact Below.refl _ _ | refine bl_tr ?_ _ | refine bl_al ?_ _ | refine bl_dr ?_ | refine bl_up ?_ _ | refine Below.drew ?_ | refine bl_alloc ?_ _ | refine Below.setCell ?_ (by first | (simp; done) | (simp; omega)) _))⟩
  cases h2 : btw k 0 ((l.length : Int) - 1)
  · have hR := Lib.hid (show cheapR l k m = _ from askR_2 h1 h2)
    have hC := Lib.hid (codeW_2 h1 h2)
    go_enter Tryd.func18, Tryd.ntmps18
    go_wp2_with (first | (go_at_call 57; refine (ret_num (l26Code_any _ _ _ _ _ h hn hf) hC.out).mono ?_; rintro e w' ⟨rfl, g, rfl⟩) | (go_at_call 58; refine (l26Many_any _ _).mono ?_; rintro e w' ⟨rfl, rfl⟩) | ((with_reducible refine wp_region_up (by kernel_rfl) (by kernel_rfl) ?_); (repeat (go_big_quiet_step (first | (go_at_call 57; first | exact upq_tr (ret_num (l26Code_any _ _ _ _ _ h hn hf) hC.out) | exact upq (ret_num (l26Code_any _ _ _ _ _ h hn hf) hC.out)) | (go_at_call 58; first | exact upq_tr_same (l26Many_any _ _) | exact upq_same (l26Many_any _ _))))); refine wpQuiet_nil ?_; intro _ hw'; obtain ⟨nq, hw''⟩ := hw'; subst hw''))
    go_ret3
    exact ⟨by rw [hR.out]; rfl, UpOf.of (by repeat (first | exact Below.refl _ _ | refine bl_tr ?_ _ | refine bl_al ?_ _ | refine bl_dr ?_ | refine bl_up ?_ _ | refine Below.drew ?_ | refine bl_alloc ?_ _ | refine Below.setCell ?_ (by first | (simp; done) | (simp; omega)) _))⟩
  cases h3 : btw m 0 1000
  · have hR := Lib.hid (show cheapR l k m = _ from askR_3 h1 h2 h3)
    have hC := Lib.hid (codeW_0 h1 h2)
    go_enter Tryd.func18, Tryd.ntmps18
    go_wp2_with (first | (go_at_call 57; refine (ret_num (l26Code_any _ _ _ _ _ h hn hf) hC.out).mono ?_; rintro e w' ⟨rfl, g, rfl⟩) | (go_at_call 58; refine (l26Many_any _ _).mono ?_; rintro e w' ⟨rfl, rfl⟩) | ((with_reducible refine wp_region_up (by kernel_rfl) (by kernel_rfl) ?_); (repeat (go_big_quiet_step (first | (go_at_call 57; first | exact upq_tr (ret_num (l26Code_any _ _ _ _ _ h hn hf) hC.out) | exact upq (ret_num (l26Code_any _ _ _ _ _ h hn hf) hC.out)) | (go_at_call 58; first | exact upq_tr_same (l26Many_any _ _) | exact upq_same (l26Many_any _ _))))); refine wpQuiet_nil ?_; intro _ hw'; obtain ⟨nq, hw''⟩ := hw'; subst hw''))
    go_ret3
    exact ⟨by rw [hR.out]; rfl, UpOf.of (by repeat (first | exact Below.refl _ _ | refine bl_tr ?_ _ | refine bl_al ?_ _ | refine bl_dr ?_ | refine bl_up ?_ _ | refine Below.drew ?_ | refine bl_alloc ?_ _ | refine Below.setCell ?_ (by first | (simp; done) | (simp; omega)) _))⟩
  have hR := Lib.hid (show cheapR l k m = _ from askR_0 h1 h2 h3)
  have hC := Lib.hid (codeW_0 h1 h2)
  obtain ⟨k1, k2⟩ := btw_true h2
  obtain ⟨m1, m2⟩ := btw_true h3
  obtain ⟨hl30, hvs⟩ := vWares_inv h1
  obtain ⟨K, rfl⟩ : ∃ K : Nat, k = K := ⟨k.toNat, by omega⟩
  have hK : K < l.length := by omega
  have hv := hvs K hK
  clear h1 h2 hvs
  have HH := Lib.hid h
  obtain ⟨b, off, Ai, ci, rfl, hb, c0, c1, r⟩ := ware_at h hK
  have hat : Hid (WAt w b (off + K * 2) (wat l K) Ai ci) := ⟨hb, c0, c1, r⟩
  go_enter Tryd.func18, Tryd.ntmps18
  go_wp2_with (first | (go_at_call 57; refine (ret_num (l26Code_any _ _ _ _ _ HH.out hn hf) hC.out).mono ?_; rintro e w' ⟨rfl, g, rfl⟩) | (go_at_call 58; refine (ret_as (l26Many_any _ _) h3).mono ?_; rintro e w' ⟨rfl, rfl⟩) | (go_at_call 59; refine (l26Cheapest_any _ _ _ _ _ _ _ (hat.out.below (by repeat (first | exact Below.refl _ _ | refine bl_tr ?_ _ | refine bl_al ?_ _ | refine bl_dr ?_ | refine bl_up ?_ _ | refine Below.drew ?_ | refine bl_alloc ?_ _ | refine Below.setCell ?_ (by first | (simp; done) | (simp; omega)) _))) hv m1 m2).mono ?_; rintro e w' ⟨rfl, g, rfl⟩) | ((with_reducible refine wp_region_up (by kernel_rfl) (by kernel_rfl) ?_); (repeat (go_big_quiet_step (first | (go_at_call 57; first | exact upq_tr (ret_num (l26Code_any _ _ _ _ _ HH.out hn hf) hC.out) | exact upq (ret_num (l26Code_any _ _ _ _ _ HH.out hn hf) hC.out)) | (go_at_call 58; first | exact upq_tr_same (ret_as (l26Many_any _ _) h3) | exact upq_same (ret_as (l26Many_any _ _) h3)) | (go_at_call 59; first | exact upq_tr (l26Cheapest_any _ _ _ _ _ _ _ (hat.out.below (by repeat (first | exact Below.refl _ _ | refine bl_tr ?_ _ | refine bl_al ?_ _ | refine bl_dr ?_ | refine bl_up ?_ _ | refine Below.drew ?_ | refine bl_alloc ?_ _ | refine Below.setCell ?_ (by first | (simp; done) | (simp; omega)) _))) hv m1 m2) | exact upq (l26Cheapest_any _ _ _ _ _ _ _ (hat.out.below (by repeat (first | exact Below.refl _ _ | refine bl_tr ?_ _ | refine bl_al ?_ _ | refine bl_dr ?_ | refine bl_up ?_ _ | refine Below.drew ?_ | refine bl_alloc ?_ _ | refine Below.setCell ?_ (by first | (simp; done) | (simp; omega)) _))) hv m1 m2))))); refine wpQuiet_nil ?_; intro _ hw'; obtain ⟨nq, hw''⟩ := hw'; subst hw''))
  go_ret3
  exact ⟨by rw [hR.out]; rfl, UpOf.of (by repeat (first | exact Below.refl _ _ | refine bl_tr ?_ _ | refine bl_al ?_ _ | refine bl_dr ?_ | refine bl_up ?_ _ | refine Below.drew ?_ | refine bl_alloc ?_ _ | refine Below.setCell ?_ (by first | (simp; done) | (simp; omega)) _))⟩
end Go.Proofs.YtiibpldfnnhhlaaDoor
