/-
  MostFor, of the program and of the reference. The bounds stand at each.
-/
import Derived.Test.YtiibpldfnnhhlaaPrice2
namespace Go.Proofs.Ytiibpldfnnhhlaa
open Go.RowKit
def mostR (l : List Ware) (k c : Int) : Int × Int := askR l k c 1000000000 (fun cd => (0, cd)) (mst (wat l k.toNat) c 1000, 0)
set_option maxRecDepth 10000 in
set_option maxHeartbeats 2000000 in
theorem mostI_any (A : Option Addr) (c : Nat) (l : List Ware) (k m : Int) (w : World) (h : WSee w A l) (hn : l.length ≤ 100000000) (hf : WBd l) :
    Calls Try.prog 25 #[.slice A l.length c, i64 k, i64 m] w fun e w' => e = .returned (.tuple #[i64 (mostR l k m).1, i64 (mostR l k m).2]) ∧ UpOf w w' := by
  cases h1 : vWares l
  · have hR := Lib.hid (show mostR l k m = _ from askR_1 h1)
    have hC := Lib.hid (codeW_1 (k := k) h1)
    go_enter Try.func25, Try.ntmps25
    go_wp2_with (first | (go_at_call 62; refine (ret_num (wareCode_any _ _ _ _ _ h hn hf) hC.out).mono ?_; rintro e w' ⟨rfl, g, rfl⟩) | (go_at_call 63; refine (between_any _ _ _ _).mono ?_; rintro e w' ⟨rfl, rfl⟩) | ((with_reducible refine wp_region_up (by kernel_rfl) (by kernel_rfl) ?_); (repeat (go_big_quiet_step (first | (go_at_call 62; first | exact upq_tr (ret_num (wareCode_any _ _ _ _ _ h hn hf) hC.out) | exact upq (ret_num (wareCode_any _ _ _ _ _ h hn hf) hC.out)) | (go_at_call 63; first | exact upq_tr_same (between_any _ _ _ _) | exact upq_same (between_any _ _ _ _))))); refine wpQuiet_nil ?_; intro _ hw'; obtain ⟨nq, hw''⟩ := hw'; subst hw''))
    go_ret2
    exact ⟨by rw [hR.out]; rfl, UpOf.of (by repeat (first | exact Below.refl _ _ | refine bl_tr ?_ _ | refine bl_al ?_ _ | refine bl_dr ?_ | refine bl_up ?_ _ | refine Below.drew ?_ | refine bl_alloc ?_ _ | refine Below.setCell ?_ (by first | (simp; done) | (simp; omega)) _))⟩
  cases h2 : btw k 0 ((l.length : Int) - 1)
  · have hR := Lib.hid (show mostR l k m = _ from askR_2 h1 h2)
    have hC := Lib.hid (codeW_2 h1 h2)
    go_enter Try.func25, Try.ntmps25
    go_wp2_with (first | (go_at_call 62; refine (ret_num (wareCode_any _ _ _ _ _ h hn hf) hC.out).mono ?_; rintro e w' ⟨rfl, g, rfl⟩) | (go_at_call 63; refine (between_any _ _ _ _).mono ?_; rintro e w' ⟨rfl, rfl⟩) | ((with_reducible refine wp_region_up (by kernel_rfl) (by kernel_rfl) ?_); (repeat (go_big_quiet_step (first | (go_at_call 62; first | exact upq_tr (ret_num (wareCode_any _ _ _ _ _ h hn hf) hC.out) | exact upq (ret_num (wareCode_any _ _ _ _ _ h hn hf) hC.out)) | (go_at_call 63; first | exact upq_tr_same (between_any _ _ _ _) | exact upq_same (between_any _ _ _ _))))); refine wpQuiet_nil ?_; intro _ hw'; obtain ⟨nq, hw''⟩ := hw'; subst hw''))
    go_ret2
    exact ⟨by rw [hR.out]; rfl, UpOf.of (by repeat (first | exact Below.refl _ _ | refine bl_tr ?_ _ | refine bl_al ?_ _ | refine bl_dr ?_ | refine bl_up ?_ _ | refine Below.drew ?_ | refine bl_alloc ?_ _ | refine Below.setCell ?_ (by first | (simp; done) | (simp; omega)) _))⟩
  cases h3 : btw m 0 1000000000
  · have hR := Lib.hid (show mostR l k m = _ from askR_3 h1 h2 h3)
    have hC := Lib.hid (codeW_0 h1 h2)
    go_enter Try.func25, Try.ntmps25
    go_wp2_with (first | (go_at_call 62; refine (ret_num (wareCode_any _ _ _ _ _ h hn hf) hC.out).mono ?_; rintro e w' ⟨rfl, g, rfl⟩) | (go_at_call 63; refine (between_any _ _ _ _).mono ?_; rintro e w' ⟨rfl, rfl⟩) | ((with_reducible refine wp_region_up (by kernel_rfl) (by kernel_rfl) ?_); (repeat (go_big_quiet_step (first | (go_at_call 62; first | exact upq_tr (ret_num (wareCode_any _ _ _ _ _ h hn hf) hC.out) | exact upq (ret_num (wareCode_any _ _ _ _ _ h hn hf) hC.out)) | (go_at_call 63; first | exact upq_tr_same (between_any _ _ _ _) | exact upq_same (between_any _ _ _ _))))); refine wpQuiet_nil ?_; intro _ hw'; obtain ⟨nq, hw''⟩ := hw'; subst hw''))
    go_ret2
    exact ⟨by rw [hR.out]; rfl, UpOf.of (by repeat (first | exact Below.refl _ _ | refine bl_tr ?_ _ | refine bl_al ?_ _ | refine bl_dr ?_ | refine bl_up ?_ _ | refine Below.drew ?_ | refine bl_alloc ?_ _ | refine Below.setCell ?_ (by first | (simp; done) | (simp; omega)) _))⟩
  have hR := Lib.hid (show mostR l k m = _ from askR_0 h1 h2 h3)
  have hC := Lib.hid (codeW_0 h1 h2)
  obtain ⟨k1, k2⟩ := btw_true h2
  obtain ⟨m1, m2⟩ := btw_true h3
  obtain ⟨hl30, hvs⟩ := vWares_inv h1
  obtain ⟨K, rfl⟩ : ∃ K : Nat, k = K := ⟨k.toNat, by omega⟩
  have hK : K < l.length := by omega
  have hv := hvs K hK
  clear h1 h2 hvs
  have HH := Lib.hid h
  obtain ⟨b, off, Ai, ci, rfl, hb, c0, c1, r⟩ := ware_at h hK
  have HR := Lib.hid r
  have HV := Lib.hid hv
  go_enter Try.func25, Try.ntmps25
  go_wp2_with (first | (go_at_call 62; refine (ret_num (wareCode_any _ _ _ _ _ HH.out hn hf) hC.out).mono ?_; rintro e w' ⟨rfl, g, rfl⟩) | (go_at_call 63; refine (ret_as (between_any _ _ _ _) h3).mono ?_; rintro e w' ⟨rfl, rfl⟩) | ((with_reducible refine wp_region_up (by kernel_rfl) (by kernel_rfl) ?_); (repeat (go_big_quiet_step (first | (go_at_call 62; first | exact upq_tr (ret_num (wareCode_any _ _ _ _ _ HH.out hn hf) hC.out) | exact upq (ret_num (wareCode_any _ _ _ _ _ HH.out hn hf) hC.out)) | (go_at_call 63; first | exact upq_tr_same (ret_as (between_any _ _ _ _) h3) | exact upq_same (ret_as (between_any _ _ _ _) h3))))); refine wpQuiet_nil ?_; intro _ hw'; obtain ⟨nq, hw''⟩ := hw'; subst hw''))
  clear hv r h h3
  go_loopw [9] (fun i wr => ∃ j : Nat, j ≤ 1000 ∧ i = i64 j ∧ Hid (∀ i : Nat, j < i → i ≤ 1000 → m < prc (wat l K) i) ∧ ∃ g : Up w, wr = up w g) (fun i _ => (intOf i).toNat)
  case atStart => exact ⟨1000, by omega, rfl, fun i h1 h2 => by omega, ex_up (by repeat (first | exact Below.refl _ _ | refine bl_tr ?_ _ | refine bl_al ?_ _ | refine bl_dr ?_ | refine bl_up ?_ _ | refine Below.drew ?_ | refine bl_alloc ?_ _ | refine Below.setCell ?_ (by first | (simp; done) | (simp; omega)) _))⟩
  case round =>
    obtain ⟨j, hj, rfl, hab, g, rfl⟩ := hrel
    by_cases j0 : 0 < j
    · have hj0 : (0 : Int) ≤ (j : Int) := by omega
      have hj1 : (j : Int) ≤ 1000 := by omega
      have hj2 : (0 : Int) < (j : Int) := by omega
      have hj3 : (1 : Int) ≤ (j : Int) := by omega
      by_cases q : m < prc (wat l K) (j : Int)
      · have hq := Lib.hid q
        go_wp2_with (first | (go_at_call 64; refine (price_any _ _ _ _ _ (HR.out.below (by repeat (first | exact Below.refl _ _ | refine bl_tr ?_ _ | refine bl_al ?_ _ | refine bl_dr ?_ | refine bl_up ?_ _ | refine Below.drew ?_ | refine bl_alloc ?_ _ | refine Below.setCell ?_ (by first | (simp; done) | (simp; omega)) _))) HV.out hj0 hj1).mono ?_; rintro e w' ⟨rfl, g, rfl⟩) | ((with_reducible refine wp_region_up (by kernel_rfl) (by kernel_rfl) ?_); (repeat (go_big_quiet_step (first | (go_at_call 64; first | exact upq_tr (price_any _ _ _ _ _ (HR.out.below (by repeat (first | exact Below.refl _ _ | refine bl_tr ?_ _ | refine bl_al ?_ _ | refine bl_dr ?_ | refine bl_up ?_ _ | refine Below.drew ?_ | refine bl_alloc ?_ _ | refine Below.setCell ?_ (by first | (simp; done) | (simp; omega)) _))) HV.out hj0 hj1) | exact upq (price_any _ _ _ _ _ (HR.out.below (by repeat (first | exact Below.refl _ _ | refine bl_tr ?_ _ | refine bl_al ?_ _ | refine bl_dr ?_ | refine bl_up ?_ _ | refine Below.drew ?_ | refine bl_alloc ?_ _ | refine Below.setCell ?_ (by first | (simp; done) | (simp; omega)) _))) HV.out hj0 hj1))))); refine wpQuiet_nil ?_; intro _ hw'; obtain ⟨nq, hw''⟩ := hw'; subst hw''))
        go_roundw
        case rel => exact ⟨j - 1, by omega, by go_num, fun i h1 h2 => by
          rcases Nat.lt_or_ge j i with h | h
          · exact hab.out i h h2
          · obtain rfl : i = j := by omega
            exact hq.out, ex_up (by repeat (first | exact Below.refl _ _ | refine bl_tr ?_ _ | refine bl_al ?_ _ | refine bl_dr ?_ | refine bl_up ?_ _ | refine Below.drew ?_ | refine bl_alloc ?_ _ | refine Below.setCell ?_ (by first | (simp; done) | (simp; omega)) _))⟩
        case measure => (simp [intOf]; try omega)
      · have hM := Lib.hid (mst_top hj hab.out (fun _ => (by omega : prc (wat l K) (j : Int) ≤ m)))
        go_wp2_with (first | (go_at_call 64; refine (price_any _ _ _ _ _ (HR.out.below (by repeat (first | exact Below.refl _ _ | refine bl_tr ?_ _ | refine bl_al ?_ _ | refine bl_dr ?_ | refine bl_up ?_ _ | refine Below.drew ?_ | refine bl_alloc ?_ _ | refine Below.setCell ?_ (by first | (simp; done) | (simp; omega)) _))) HV.out hj0 hj1).mono ?_; rintro e w' ⟨rfl, g, rfl⟩) | ((with_reducible refine wp_region_up (by kernel_rfl) (by kernel_rfl) ?_); (repeat (go_big_quiet_step (first | (go_at_call 64; first | exact upq_tr (price_any _ _ _ _ _ (HR.out.below (by repeat (first | exact Below.refl _ _ | refine bl_tr ?_ _ | refine bl_al ?_ _ | refine bl_dr ?_ | refine bl_up ?_ _ | refine Below.drew ?_ | refine bl_alloc ?_ _ | refine Below.setCell ?_ (by first | (simp; done) | (simp; omega)) _))) HV.out hj0 hj1) | exact upq (price_any _ _ _ _ _ (HR.out.below (by repeat (first | exact Below.refl _ _ | refine bl_tr ?_ _ | refine bl_al ?_ _ | refine bl_dr ?_ | refine bl_up ?_ _ | refine Below.drew ?_ | refine bl_alloc ?_ _ | refine Below.setCell ?_ (by first | (simp; done) | (simp; omega)) _))) HV.out hj0 hj1))))); refine wpQuiet_nil ?_; intro _ hw'; obtain ⟨nq, hw''⟩ := hw'; subst hw''))
        go_ret2
        exact ⟨by rw [hR.out]; show _ = Ending.returned (.tuple #[i64 (mst (wat l K) m 1000), i64 0]); rw [hM.out]; rfl, UpOf.of (by repeat (first | exact Below.refl _ _ | refine bl_tr ?_ _ | refine bl_al ?_ _ | refine bl_dr ?_ | refine bl_up ?_ _ | refine Below.drew ?_ | refine bl_alloc ?_ _ | refine Below.setCell ?_ (by first | (simp; done) | (simp; omega)) _))⟩
    · obtain rfl : j = 0 := by omega
      have hM := Lib.hid (mst_top hj hab.out (fun h => by omega))
      go_wp2_with (first | ((with_reducible refine wp_region_up (by kernel_rfl) (by kernel_rfl) ?_); (repeat (go_big_quiet_step (fail))); refine wpQuiet_nil ?_; intro _ hw'; obtain ⟨nq, hw''⟩ := hw'; subst hw''))
      go_ret2
      exact ⟨by rw [hR.out]; show _ = Ending.returned (.tuple #[i64 (mst (wat l K) m 1000), i64 0]); rw [hM.out]; rfl, UpOf.of (by repeat (first | exact Below.refl _ _ | refine bl_tr ?_ _ | refine bl_al ?_ _ | refine bl_dr ?_ | refine bl_up ?_ _ | refine Below.drew ?_ | refine bl_alloc ?_ _ | refine Below.setCell ?_ (by first | (simp; done) | (simp; omega)) _))⟩
theorem mst_bd (x : Ware) (c : Int) (n : Nat) : 0 ≤ mst x c n ∧ mst x c n ≤ n := by
  induction n with
  | zero => simp [mst]
  | succ n ih => rw [mst]; split <;> omega
set_option maxRecDepth 10000 in
set_option maxHeartbeats 2000000 in
theorem mostS_any (A : Option Addr) (c : Nat) (l : List Ware) (k m : Int) (w : World) (h : WSee w A l) (hn : l.length ≤ 100000000) (hf : WBd l) :
    Calls Try.prog 24 #[.slice A l.length c, i64 k, i64 m] w fun e w' => e = .returned (.tuple #[i64 (mostR l k m).1, i64 (mostR l k m).2]) ∧ UpOf w w' := by
  cases h1 : vWares l
  · have hR := Lib.hid (show mostR l k m = _ from askR_1 h1)
    have hC := Lib.hid (codeW_1 (k := k) h1)
    go_enter Try.func24, Try.ntmps24
    go_wp2_with (first | (go_at_call 59; refine (ret_num (l26Code_any _ _ _ _ _ h hn hf) hC.out).mono ?_; rintro e w' ⟨rfl, g, rfl⟩) | (go_at_call 65; refine (in_any _ _ _ _).mono ?_; rintro e w' ⟨rfl, rfl⟩) | ((with_reducible refine wp_region_up (by kernel_rfl) (by kernel_rfl) ?_); (repeat (go_big_quiet_step (first | (go_at_call 59; first | exact upq_tr (ret_num (l26Code_any _ _ _ _ _ h hn hf) hC.out) | exact upq (ret_num (l26Code_any _ _ _ _ _ h hn hf) hC.out)) | (go_at_call 65; first | exact upq_tr_same (in_any _ _ _ _) | exact upq_same (in_any _ _ _ _))))); refine wpQuiet_nil ?_; intro _ hw'; obtain ⟨nq, hw''⟩ := hw'; subst hw''))
    go_ret2
    exact ⟨by rw [hR.out]; rfl, UpOf.of (by repeat (first | exact Below.refl _ _ | refine bl_tr ?_ _ | refine bl_al ?_ _ | refine bl_dr ?_ | refine bl_up ?_ _ | refine Below.drew ?_ | refine bl_alloc ?_ _ | refine Below.setCell ?_ (by first | (simp; done) | (simp; omega)) _))⟩
  cases h2 : btw k 0 ((l.length : Int) - 1)
  · have hR := Lib.hid (show mostR l k m = _ from askR_2 h1 h2)
    have hC := Lib.hid (codeW_2 h1 h2)
    go_enter Try.func24, Try.ntmps24
    go_wp2_with (first | (go_at_call 59; refine (ret_num (l26Code_any _ _ _ _ _ h hn hf) hC.out).mono ?_; rintro e w' ⟨rfl, g, rfl⟩) | (go_at_call 65; refine (in_any _ _ _ _).mono ?_; rintro e w' ⟨rfl, rfl⟩) | ((with_reducible refine wp_region_up (by kernel_rfl) (by kernel_rfl) ?_); (repeat (go_big_quiet_step (first | (go_at_call 59; first | exact upq_tr (ret_num (l26Code_any _ _ _ _ _ h hn hf) hC.out) | exact upq (ret_num (l26Code_any _ _ _ _ _ h hn hf) hC.out)) | (go_at_call 65; first | exact upq_tr_same (in_any _ _ _ _) | exact upq_same (in_any _ _ _ _))))); refine wpQuiet_nil ?_; intro _ hw'; obtain ⟨nq, hw''⟩ := hw'; subst hw''))
    go_ret2
    exact ⟨by rw [hR.out]; rfl, UpOf.of (by repeat (first | exact Below.refl _ _ | refine bl_tr ?_ _ | refine bl_al ?_ _ | refine bl_dr ?_ | refine bl_up ?_ _ | refine Below.drew ?_ | refine bl_alloc ?_ _ | refine Below.setCell ?_ (by first | (simp; done) | (simp; omega)) _))⟩
  cases h3 : btw m 0 1000000000
  · have hR := Lib.hid (show mostR l k m = _ from askR_3 h1 h2 h3)
    have hC := Lib.hid (codeW_0 h1 h2)
    go_enter Try.func24, Try.ntmps24
    go_wp2_with (first | (go_at_call 59; refine (ret_num (l26Code_any _ _ _ _ _ h hn hf) hC.out).mono ?_; rintro e w' ⟨rfl, g, rfl⟩) | (go_at_call 65; refine (in_any _ _ _ _).mono ?_; rintro e w' ⟨rfl, rfl⟩) | ((with_reducible refine wp_region_up (by kernel_rfl) (by kernel_rfl) ?_); (repeat (go_big_quiet_step (first | (go_at_call 59; first | exact upq_tr (ret_num (l26Code_any _ _ _ _ _ h hn hf) hC.out) | exact upq (ret_num (l26Code_any _ _ _ _ _ h hn hf) hC.out)) | (go_at_call 65; first | exact upq_tr_same (in_any _ _ _ _) | exact upq_same (in_any _ _ _ _))))); refine wpQuiet_nil ?_; intro _ hw'; obtain ⟨nq, hw''⟩ := hw'; subst hw''))
    go_ret2
    exact ⟨by rw [hR.out]; rfl, UpOf.of (by repeat (first | exact Below.refl _ _ | refine bl_tr ?_ _ | refine bl_al ?_ _ | refine bl_dr ?_ | refine bl_up ?_ _ | refine Below.drew ?_ | refine bl_alloc ?_ _ | refine Below.setCell ?_ (by first | (simp; done) | (simp; omega)) _))⟩
  have hR := Lib.hid (show mostR l k m = _ from askR_0 h1 h2 h3)
  have hC := Lib.hid (codeW_0 h1 h2)
  obtain ⟨k1, k2⟩ := btw_true h2
  obtain ⟨m1, m2⟩ := btw_true h3
  obtain ⟨hl30, hvs⟩ := vWares_inv h1
  obtain ⟨K, rfl⟩ : ∃ K : Nat, k = K := ⟨k.toNat, by omega⟩
  have hK : K < l.length := by omega
  have hv := hvs K hK
  clear h1 h2 hvs
  have HH := Lib.hid h
  obtain ⟨b, off, Ai, ci, rfl, hb, c0, c1, r⟩ := ware_at h hK
  have hat : Hid (WAt w b (off + K * 2) (wat l K) Ai ci) := ⟨hb, c0, c1, r⟩
  have HV := Lib.hid hv
  go_enter Try.func24, Try.ntmps24
  go_wp2_with (first | (go_at_call 59; refine (ret_num (l26Code_any _ _ _ _ _ HH.out hn hf) hC.out).mono ?_; rintro e w' ⟨rfl, g, rfl⟩) | (go_at_call 65; refine (ret_as (in_any _ _ _ _) h3).mono ?_; rintro e w' ⟨rfl, rfl⟩) | ((with_reducible refine wp_region_up (by kernel_rfl) (by kernel_rfl) ?_); (repeat (go_big_quiet_step (first | (go_at_call 59; first | exact upq_tr (ret_num (l26Code_any _ _ _ _ _ HH.out hn hf) hC.out) | exact upq (ret_num (l26Code_any _ _ _ _ _ HH.out hn hf) hC.out)) | (go_at_call 65; first | exact upq_tr_same (ret_as (in_any _ _ _ _) h3) | exact upq_same (ret_as (in_any _ _ _ _) h3))))); refine wpQuiet_nil ?_; intro _ hw'; obtain ⟨nq, hw''⟩ := hw'; subst hw''))
  clear hv r h h3 c0 c1
  go_loopw [9, 10] (fun s i wr => ∃ j : Nat, j ≤ 1000 ∧ i = i64 ((j : Int) + 1) ∧ s = i64 (mst (wat l K) m j) ∧ ∃ g : Up w, wr = up w g) (fun _ i _ => 1001 - (intOf i).toNat)
  case atStart => exact ⟨0, by omega, rfl, rfl, ex_up (by repeat (first | exact Below.refl _ _ | refine bl_tr ?_ _ | refine bl_al ?_ _ | refine bl_dr ?_ | refine bl_up ?_ _ | refine Below.drew ?_ | refine bl_alloc ?_ _ | refine Below.setCell ?_ (by first | (simp; done) | (simp; omega)) _))⟩
  case round =>
    obtain ⟨j, hj, rfl, rfl, g, rfl⟩ := hrel
    have hjb := mst_bd (wat l K) m j
    by_cases j0 : j < 1000
    · have hj0 : (0 : Int) ≤ (j : Int) + 1 := by omega
      have hj1 : (j : Int) + 1 ≤ 1000 := by omega
      by_cases q : prc (wat l K) ((j : Int) + 1) ≤ m
      · have hN := Lib.hid (mst_yes q)
        go_wp2_with (first | (go_at_call 61; refine (l26Price_any _ _ _ _ _ _ _ (hat.out.below (by repeat (first | exact Below.refl _ _ | refine bl_tr ?_ _ | refine bl_al ?_ _ | refine bl_dr ?_ | refine bl_up ?_ _ | refine Below.drew ?_ | refine bl_alloc ?_ _ | refine Below.setCell ?_ (by first | (simp; done) | (simp; omega)) _))) HV.out hj0 hj1).mono ?_; rintro e w' ⟨rfl, g, rfl⟩) | ((with_reducible refine wp_region_up (by kernel_rfl) (by kernel_rfl) ?_); (repeat (go_big_quiet_step (first | (go_at_call 61; first | exact upq_tr (l26Price_any _ _ _ _ _ _ _ (hat.out.below (by repeat (first | exact Below.refl _ _ | refine bl_tr ?_ _ | refine bl_al ?_ _ | refine bl_dr ?_ | refine bl_up ?_ _ | refine Below.drew ?_ | refine bl_alloc ?_ _ | refine Below.setCell ?_ (by first | (simp; done) | (simp; omega)) _))) HV.out hj0 hj1) | exact upq (l26Price_any _ _ _ _ _ _ _ (hat.out.below (by repeat (first | exact Below.refl _ _ | refine bl_tr ?_ _ | refine bl_al ?_ _ | refine bl_dr ?_ | refine bl_up ?_ _ | refine Below.drew ?_ | refine bl_alloc ?_ _ | refine Below.setCell ?_ (by first | (simp; done) | (simp; omega)) _))) HV.out hj0 hj1))))); refine wpQuiet_nil ?_; intro _ hw'; obtain ⟨nq, hw''⟩ := hw'; subst hw''))
        go_roundw
        case rel => exact ⟨j + 1, by omega, by go_num, by rw [hN.out], ex_up (by repeat (first | exact Below.refl _ _ | refine bl_tr ?_ _ | refine bl_al ?_ _ | refine bl_dr ?_ | refine bl_up ?_ _ | refine Below.drew ?_ | refine bl_alloc ?_ _ | refine Below.setCell ?_ (by first | (simp; done) | (simp; omega)) _))⟩
        case measure => (simp [intOf]; try omega)
      · have hN := Lib.hid (mst_no q)
        go_wp2_with (first | (go_at_call 61; refine (l26Price_any _ _ _ _ _ _ _ (hat.out.below (by repeat (first | exact Below.refl _ _ | refine bl_tr ?_ _ | refine bl_al ?_ _ | refine bl_dr ?_ | refine bl_up ?_ _ | refine Below.drew ?_ | refine bl_alloc ?_ _ | refine Below.setCell ?_ (by first | (simp; done) | (simp; omega)) _))) HV.out hj0 hj1).mono ?_; rintro e w' ⟨rfl, g, rfl⟩) | ((with_reducible refine wp_region_up (by kernel_rfl) (by kernel_rfl) ?_); (repeat (go_big_quiet_step (first | (go_at_call 61; first | exact upq_tr (l26Price_any _ _ _ _ _ _ _ (hat.out.below (by repeat (first | exact Below.refl _ _ | refine bl_tr ?_ _ | refine bl_al ?_ _ | refine bl_dr ?_ | refine bl_up ?_ _ | refine Below.drew ?_ | refine bl_alloc ?_ _ | refine Below.setCell ?_ (by first | (simp; done) | (simp; omega)) _))) HV.out hj0 hj1) | exact upq (l26Price_any _ _ _ _ _ _ _ (hat.out.below (by repeat (first | exact Below.refl _ _ | refine bl_tr ?_ _ | refine bl_al ?_ _ | refine bl_dr ?_ | refine bl_up ?_ _ | refine Below.drew ?_ | refine bl_alloc ?_ _ | refine Below.setCell ?_ (by first | (simp; done) | (simp; omega)) _))) HV.out hj0 hj1))))); refine wpQuiet_nil ?_; intro _ hw'; obtain ⟨nq, hw''⟩ := hw'; subst hw''))
        go_roundw
        case rel => exact ⟨j + 1, by omega, by go_num, by rw [hN.out], ex_up (by repeat (first | exact Below.refl _ _ | refine bl_tr ?_ _ | refine bl_al ?_ _ | refine bl_dr ?_ | refine bl_up ?_ _ | refine Below.drew ?_ | refine bl_alloc ?_ _ | refine Below.setCell ?_ (by first | (simp; done) | (simp; omega)) _))⟩
        case measure => (simp [intOf]; try omega)
    · obtain rfl : j = 1000 := by omega
      have hj1 : ¬ ((1000 : Nat) : Int) + 1 ≤ 1000 := by omega
      go_wp2_with (first | ((with_reducible refine wp_region_up (by kernel_rfl) (by kernel_rfl) ?_); (repeat (go_big_quiet_step (fail))); refine wpQuiet_nil ?_; intro _ hw'; obtain ⟨nq, hw''⟩ := hw'; subst hw''))
      go_ret2
      exact ⟨by rw [hR.out]; rfl, UpOf.of (by repeat (first | exact Below.refl _ _ | refine bl_tr ?_ _ | refine bl_al ?_ _ | refine bl_dr ?_ | refine bl_up ?_ _ | refine Below.drew ?_ | refine bl_alloc ?_ _ | refine Below.setCell ?_ (by first | (simp; done) | (simp; omega)) _))⟩
end Go.Proofs.Ytiibpldfnnhhlaa
