/-
  Common parts, put together: Price3, Ints, Basket, Same, DecP, DecI, StrApp, Dec.
-/
import Derived.Test.YtiibpldfnnhhlaaDoorMgA
import Derived.Test.YtiibpldfnnhhlaaDoorRows
import Derived.Lib.ItoaLen
import Derived.Lib.UnsafeStr
import Derived.Test.YtiibpldfnnhhlaaDoorShelf
import Derived.Lib.AppendStr
import Derived.Laws.IdiomStrings
import Derived.Deep.DeepMust
namespace Go.Proofs.YtiibpldfnnhhlaaDoor
open Go.RowKit
def mostR (l : List Ware) (k c : Int) : Int × Int := askR l k c 1000000000 (fun cd => (0, cd)) (mst (wat l k.toNat) c 1000, 0)
set_option maxRecDepth 10000 in
set_option maxHeartbeats 2000000 in
theorem mostI_any (A : Option Addr) (c : Nat) (l : List Ware) (k m : Int) (w : World) (h : WSee w A l) (hn : l.length ≤ 100000000) (hf : WBd l) :
    Calls Tryd.prog 20 #[.slice A l.length c, i64 k, i64 m] w fun e w' => e = .returned (.tuple #[i64 (mostR l k m).1, i64 (mostR l k m).2]) ∧ UpOf w w' := by
  cases h1 : vWares l
  · have hR := Lib.hid (show mostR l k m = _ from askR_1 h1)
    have hC := Lib.hid (codeW_1 (k := k) h1)
    go_enter Tryd.func20, Tryd.ntmps20
    go_wp2_with (first | (go_at_call 54; refine (ret_num (wareCode_any _ _ _ _ _ h hn hf) hC.out).mono ?_; rintro e w' ⟨rfl, g, rfl⟩) | (go_at_call 55; refine (between_any _ _ _ _).mono ?_; rintro e w' ⟨rfl, rfl⟩) | ((with_reducible refine wp_region_up (by kernel_rfl) (by kernel_rfl) ?_); (repeat (go_big_quiet_step (first | (go_at_call 54; first | exact upq_tr (ret_num (wareCode_any _ _ _ _ _ h hn hf) hC.out) | exact upq (ret_num (wareCode_any _ _ _ _ _ h hn hf) hC.out)) | (go_at_call 55; first | exact upq_tr_same (between_any _ _ _ _) | exact upq_same (between_any _ _ _ _))))); refine wpQuiet_nil ?_; intro _ hw'; obtain ⟨nq, hw''⟩ := hw'; subst hw''))
    go_ret2
    exact ⟨by rw [hR.out]; rfl, UpOf.of (by repeat (first | exact Below.refl _ _ | refine bl_tr ?_ _ | refine bl_al ?_ _ | refine bl_dr ?_ | refine bl_up ?_ _ | refine Below.drew ?_ | refine bl_alloc ?_ _ | refine Below.setCell ?_ (by first | (simp; done) | (simp; omega)) _))⟩
  cases h2 : btw k 0 ((l.length : Int) - 1)
  · have hR := Lib.hid (show mostR l k m = _ from askR_2 h1 h2)
    have hC := Lib.hid (codeW_2 h1 h2)
    go_enter Tryd.func20, Tryd.ntmps20
    go_wp2_with (first | (go_at_call 54; refine (ret_num (wareCode_any _ _ _ _ _ h hn hf) hC.out).mono ?_; rintro e w' ⟨rfl, g, rfl⟩) | (go_at_call 55; refine (between_any _ _ _ _).mono ?_; rintro e w' ⟨rfl, rfl⟩) | ((with_reducible refine wp_region_up (by kernel_rfl) (by kernel_rfl) ?_); (repeat (go_big_quiet_step (first | (go_at_call 54; first | exact upq_tr (ret_num (wareCode_any _ _ _ _ _ h hn hf) hC.out) | exact upq (ret_num (wareCode_any _ _ _ _ _ h hn hf) hC.out)) | (go_at_call 55; first | exact upq_tr_same (between_any _ _ _ _) | exact upq_same (between_any _ _ _ _))))); refine wpQuiet_nil ?_; intro _ hw'; obtain ⟨nq, hw''⟩ := hw'; subst hw''))
    go_ret2
    exact ⟨by rw [hR.out]; rfl, UpOf.of (by repeat (first | exact Below.refl _ _ | refine bl_tr ?_ _ | refine bl_al ?_ _ | refine bl_dr ?_ | refine bl_up ?_ _ | refine Below.drew ?_ | refine bl_alloc ?_ _ | refine Below.setCell ?_ (by first | (simp; done) | (simp; omega)) _))⟩
  cases h3 : btw m 0 1000000000
  · have hR := Lib.hid (show mostR l k m = _ from askR_3 h1 h2 h3)
    have hC := Lib.hid (codeW_0 h1 h2)
    go_enter Tryd.func20, Tryd.ntmps20
    go_wp2_with (first | (go_at_call 54; refine (ret_num (wareCode_any _ _ _ _ _ h hn hf) hC.out).mono ?_; rintro e w' ⟨rfl, g, rfl⟩) | (go_at_call 55; refine (between_any _ _ _ _).mono ?_; rintro e w' ⟨rfl, rfl⟩) | ((with_reducible refine wp_region_up (by kernel_rfl) (by kernel_rfl) ?_); (repeat (go_big_quiet_step (first | (go_at_call 54; first | exact upq_tr (ret_num (wareCode_any _ _ _ _ _ h hn hf) hC.out) | exact upq (ret_num (wareCode_any _ _ _ _ _ h hn hf) hC.out)) | (go_at_call 55; first | exact upq_tr_same (between_any _ _ _ _) | exact upq_same (between_any _ _ _ _))))); refine wpQuiet_nil ?_; intro _ hw'; obtain ⟨nq, hw''⟩ := hw'; subst hw''))
    go_ret2
    exact ⟨by rw [hR.out]; rfl, UpOf.of (by repeat (first | exact Below.refl _ _ | refine bl_tr ?_ _ | refine bl_al ?_ _ | refine bl_dr ?_ | refine bl_up ?_ _ | refine Below.drew ?_ | refine bl_alloc ?_ _ | refine Below.setCell ?_ (by first | (simp; done) | (simp; omega)) _))⟩
  have hR := Lib.hid (show mostR l k m = _ from askR_0 h1 h2 h3)
  have hC := Lib.hid (codeW_0 h1 h2)
  obtain ⟨k1, k2⟩ := btw_true h2
  obtain ⟨m1, m2⟩ := btw_true h3
  obtain ⟨hl30, hvs⟩ := vWares_inv h1
  obtain ⟨K, rfl⟩ : ∃ K : Nat, k = K := ⟨k.toNat, by omega⟩
  have hK : K < l.length := by omega
  have hv := hvs K hK
  clear h1 h2 hvs
  have HH := Lib.hid h
  obtain ⟨b, off, Ai, ci, rfl, hb, c0, c1, r⟩ := ware_at h hK
  have HR := Lib.hid r
  have HV := Lib.hid hv
  go_enter Tryd.func20, Tryd.ntmps20
  go_wp2_with (first | (go_at_call 54; refine (ret_num (wareCode_any _ _ _ _ _ HH.out hn hf) hC.out).mono ?_; rintro e w' ⟨rfl, g, rfl⟩) | (go_at_call 55; refine (ret_as (between_any _ _ _ _) h3).mono ?_; rintro e w' ⟨rfl, rfl⟩) | ((with_reducible refine wp_region_up (by kernel_rfl) (by kernel_rfl) ?_); (repeat (go_big_quiet_step (first | (go_at_call 54; first | exact upq_tr (ret_num (wareCode_any _ _ _ _ _ HH.out hn hf) hC.out) | exact upq (ret_num (wareCode_any _ _ _ _ _ HH.out hn hf) hC.out)) | (go_at_call 55; first | exact upq_tr_same (ret_as (between_any _ _ _ _) h3) | exact upq_same (ret_as (between_any _ _ _ _) h3))))); refine wpQuiet_nil ?_; intro _ hw'; obtain ⟨nq, hw''⟩ := hw'; subst hw''))
  clear hv r h h3
  go_loopw [9] (fun i wr => ∃ j : Nat, j ≤ 1000 ∧ i = i64 j ∧ Hid (∀ i : Nat, j < i → i ≤ 1000 → m < prc (wat l K) i) ∧ ∃ g : Up w, wr = up w g) (fun i _ => (intOf i).toNat)
  case atStart => exact ⟨1000, by omega, rfl, fun i h1 h2 => by omega, ex_up (by repeat (first | exact Below.refl _ _ | refine bl_tr ?_ _ | refine bl_al ?_ _ | refine bl_dr ?_ | refine bl_up ?_ _ | refine Below.drew ?_ | refine bl_alloc ?_ _ | refine Below.setCell ?_ (by first | (simp; done) | (simp; omega)) _))⟩
  case round =>
    obtain ⟨j, hj, rfl, hab, g, rfl⟩ := hrel
    by_cases j0 : 0 < j
    · have hj0 : (0 : Int) ≤ (j : Int) := by omega
      have hj1 : (j : Int) ≤ 1000 := by omega
      have hj2 : (0 : Int) < (j : Int) := by omega
      have hj3 : (1 : Int) ≤ (j : Int) := by omega
      by_cases q : m < prc (wat l K) (j : Int)
      · have hq := Lib.hid q
        go_wp2_with (first | (go_at_call 56; refine (price_any _ _ _ _ _ (HR.out.below (by repeat (first | exact Below.refl _ _ | refine bl_tr ?_ _ | refine bl_al ?_ _ | refine bl_dr ?_ | refine bl_up ?_ _ | refine Below.drew ?_ | refine bl_alloc ?_ _ | refine Below.setCell ?_ (by first | (simp; done) | (simp; omega)) _))) HV.out hj0 hj1).mono ?_; rintro e w' ⟨rfl, g, rfl⟩) | ((with_reducible refine wp_region_up (by kernel_rfl) (by kernel_rfl) ?_); (repeat (go_big_quiet_step (first | (go_at_call 56; first | exact upq_tr (price_any _ _ _ _ _ (HR.out.below (by repeat (first | exact Below.refl _ _ | refine bl_tr ?_ _ | refine bl_al ?_ _ | refine bl_dr ?_ | refine bl_up ?_ _ | refine Below.drew ?_ | refine bl_alloc ?_ _ | refine Below.setCell ?_ (by first | (simp; done) | (simp; omega)) _))) HV.out hj0 hj1) | exact upq (price_any _ _ _ _ _ (HR.out.below (by repeat (first | exact Below.refl _ _ | refine bl_tr ?_ _ | refine bl_al ?_ _ | refine bl_dr ?_ | refine bl_up ?_ _ | refine Below.drew ?_ | refine bl_alloc ?_ _ | refine Below.setCell ?_ (by first | (simp; done) | (simp; omega)) _))) HV.out hj0 hj1))))); refine wpQuiet_nil ?_; intro _ hw'; obtain ⟨nq, hw''⟩ := hw'; subst hw''))
        go_roundw
        case rel => exact ⟨j - 1, by omega, by go_num, fun i h1 h2 => by
          rcases Nat.lt_or_ge j i with h | h
          · exact hab.out i h h2
          · obtain rfl : i = j := by omega
            exact hq.out, ex_up (by repeat (first | exact Below.refl _ _ | refine bl_tr ?_ _ | refine bl_al ?_ _ | refine bl_dr ?_ | refine bl_up ?_ _ | refine Below.drew ?_ | refine bl_alloc ?_ _ | refine Below.setCell ?_ (by first | (simp; done) | (simp; omega)) _))⟩
        case measure => (simp [intOf]; try omega)
      · have hM := Lib.hid (mst_top hj hab.out (fun _ => (by omega : prc (wat l K) (j : Int) ≤ m)))
        go_wp2_with (first | (go_at_call 56; refine (price_any _ _ _ _ _ (HR.out.below (by repeat (first | exact Below.refl _ _ | refine bl_tr ?_ _ | refine bl_al ?_ _ | refine bl_dr ?_ | refine bl_up ?_ _ | refine Below.drew ?_ | refine bl_alloc ?_ _ | refine Below.setCell ?_ (by first | (simp; done) | (simp; omega)) _))) HV.out hj0 hj1).mono ?_; rintro e w' ⟨rfl, g, rfl⟩) | ((with_reducible refine wp_region_up (by kernel_rfl) (by kernel_rfl) ?_); (repeat (go_big_quiet_step (first | (go_at_call 56; first | exact upq_tr (price_any _ _ _ _ _ (HR.out.below (by repeat (first | exact Below.refl _ _ | refine bl_tr ?_ _ | refine bl_al ?_ _ | refine bl_dr ?_ | refine bl_up ?_ _ | refine Below.drew ?_ | refine bl_alloc ?_ _ | refine Below.setCell ?_ (by first | (simp; done) | (simp; omega)) _))) HV.out hj0 hj1) | exact upq (price_any _ _ _ _ _ (HR.out.below (by repeat (first | exact Below.refl _ _ | refine bl_tr ?_ _ | refine bl_al ?_ _ | refine bl_dr ?_ | refine bl_up ?_ _ | refine Below.drew ?_ | refine bl_alloc ?_ _ | refine Below.setCell ?_ (by first | (simp; done) | (simp; omega)) _))) HV.out hj0 hj1))))); refine wpQuiet_nil ?_; intro _ hw'; obtain ⟨nq, hw''⟩ := hw'; subst hw''))
        go_ret2
        exact ⟨by rw [hR.out]; show _ = Ending.returned (.tuple #[i64 (mst (wat l K) m 1000), i64 0]); rw [hM.out]; rfl, UpOf.of (by repeat (first | exact Below.refl _ _ | refine bl_tr ?_ _ | refine bl_al ?_ _ | refine bl_dr ?_ | refine bl_up ?_ _ | refine Below.drew ?_ | refine bl_alloc ?_ _ | refine Below.setCell ?_ (by first | (simp; done) | (simp; omega)) _))⟩
    · obtain rfl : j = 0 := by omega
      have hM := Lib.hid (mst_top hj hab.out (fun h => by omega))
      go_wp2_with (first | ((with_reducible refine wp_region_up (by kernel_rfl) (by kernel_rfl) ?_); (repeat (go_big_quiet_step (fail))); refine wpQuiet_nil ?_; intro _ hw'; obtain ⟨nq, hw''⟩ := hw'; subst hw''))
      go_ret2
      exact ⟨by rw [hR.out]; show _ = Ending.returned (.tuple #[i64 (mst (wat l K) m 1000), i64 0]); rw [hM.out]; rfl, UpOf.of (by repeat (first | exact Below.refl _ _ | refine bl_tr ?_ _ | refine bl_al ?_ _ | refine bl_dr ?_ | refine bl_up ?_ _ | refine Below.drew ?_ | refine bl_alloc ?_ _ | refine Below.setCell ?_ (by first | (simp; done) | (simp; omega)) _))⟩
theorem mst_bd (x : Ware) (c : Int) (n : Nat) : 0 ≤ mst x c n ∧ mst x c n ≤ n := by
  induction n with
  | zero => simp [mst]
  | succ n ih => rw [mst]; split <;> omega
set_option maxRecDepth 10000 in
set_option maxHeartbeats 2000000 in
theorem mostS_any (A : Option Addr) (c : Nat) (l : List Ware) (k m : Int) (w : World) (h : WSee w A l) (hn : l.length ≤ 100000000) (hf : WBd l) :
    Calls Tryd.prog 21 #[.slice A l.length c, i64 k, i64 m] w fun e w' => e = .returned (.tuple #[i64 (mostR l k m).1, i64 (mostR l k m).2]) ∧ UpOf w w' := by
  cases h1 : vWares l
  · have hR := Lib.hid (show mostR l k m = _ from askR_1 h1)
    have hC := Lib.hid (codeW_1 (k := k) h1)
    go_enter Tryd.func21, Tryd.ntmps21
    go_wp2_with (first | (go_at_call 57; refine (ret_num (l26Code_any _ _ _ _ _ h hn hf) hC.out).mono ?_; rintro e w' ⟨rfl, g, rfl⟩) | (go_at_call 64; refine (in_any _ _ _ _).mono ?_; rintro e w' ⟨rfl, rfl⟩) | ((with_reducible refine wp_region_up (by kernel_rfl) (by kernel_rfl) ?_); (repeat (go_big_quiet_step (first | (go_at_call 57; first | exact upq_tr (ret_num (l26Code_any _ _ _ _ _ h hn hf) hC.out) | exact upq (ret_num (l26Code_any _ _ _ _ _ h hn hf) hC.out)) | (go_at_call 64; first | exact upq_tr_same (in_any _ _ _ _) | exact upq_same (in_any _ _ _ _))))); refine wpQuiet_nil ?_; intro _ hw'; obtain ⟨nq, hw''⟩ := hw'; subst hw''))
    go_ret2
    exact ⟨by rw [hR.out]; rfl, UpOf.of (by repeat (first | exact Below.refl _ _ | refine bl_tr ?_ _ | refine bl_al ?_ _ | refine bl_dr ?_ | refine bl_up ?_ _ | refine Below.drew ?_ | refine bl_alloc ?_ _ | refine Below.setCell ?_ (by first | (simp; done) | (simp; omega)) _))⟩
  cases h2 : btw k 0 ((l.length : Int) - 1)
  · have hR := Lib.hid (show mostR l k m = _ from askR_2 h1 h2)
    have hC := Lib.hid (codeW_2 h1 h2)
    go_enter Tryd.func21, Tryd.ntmps21
    go_wp2_with (first | (go_at_call 57; refine (ret_num (l26Code_any _ _ _ _ _ h hn hf) hC.out).mono ?_; rintro e w' ⟨rfl, g, rfl⟩) | (go_at_call 64; refine (in_any _ _ _ _).mono ?_; rintro e w' ⟨rfl, rfl⟩) | ((with_reducible refine wp_region_up (by kernel_rfl) (by kernel_rfl) ?_); (repeat (go_big_quiet_step (first | (go_at_call 57; first | exact upq_tr (ret_num (l26Code_any _ _ _ _ _ h hn hf) hC.out) | exact upq (ret_num (l26Code_any _ _ _ _ _ h hn hf) hC.out)) | (go_at_call 64; first | exact upq_tr_same (in_any _ _ _ _) | exact upq_same (in_any _ _ _ _))))); refine wpQuiet_nil ?_; intro _ hw'; obtain ⟨nq, hw''⟩ := hw'; subst hw''))
    go_ret2
    exact ⟨by rw [hR.out]; rfl, UpOf.of (by repeat (first | exact Below.refl _ _ | refine bl_tr ?_ _ | refine bl_al ?_ _ | refine bl_dr ?_ | refine bl_up ?_ _ | refine Below.drew ?_ | refine bl_alloc ?_ _ | refine Below.setCell ?_ (by first | (simp; done) | (simp; omega)) _))⟩
  cases h3 : btw m 0 1000000000
  · have hR := Lib.hid (show mostR l k m = _ from askR_3 h1 h2 h3)
    have hC := Lib.hid (codeW_0 h1 h2)
    go_enter Tryd.func21, Tryd.ntmps21
    go_wp2_with (first | (go_at_call 57; refine (ret_num (l26Code_any _ _ _ _ _ h hn hf) hC.out).mono ?_; rintro e w' ⟨rfl, g, rfl⟩) | (go_at_call 64; refine (in_any _ _ _ _).mono ?_; rintro e w' ⟨rfl, rfl⟩) | ((with_reducible refine wp_region_up (by kernel_rfl) (by kernel_rfl) ?_); (repeat (go_big_quiet_step (first | (go_at_call 57; first | exact upq_tr (ret_num (l26Code_any _ _ _ _ _ h hn hf) hC.out) | exact upq (ret_num (l26Code_any _ _ _ _ _ h hn hf) hC.out)) | (go_at_call 64; first | exact upq_tr_same (in_any _ _ _ _) | exact upq_same (in_any _ _ _ _))))); refine wpQuiet_nil ?_; intro _ hw'; obtain ⟨nq, hw''⟩ := hw'; subst hw''))
    go_ret2
    exact ⟨by rw [hR.out]; rfl, UpOf.of (by repeat (first | exact Below.refl _ _ | refine bl_tr ?_ _ | refine bl_al ?_ _ | refine bl_dr ?_ | refine bl_up ?_ _ | refine Below.drew ?_ | refine bl_alloc ?_ _ | refine Below.setCell ?_ (by first | (simp; done) | (simp; omega)) _))⟩
  have hR := Lib.hid (show mostR l k m = _ from askR_0 h1 h2 h3)
  have hC := Lib.hid (codeW_0 h1 h2)
  obtain ⟨k1, k2⟩ := btw_true h2
  obtain ⟨m1, m2⟩ := btw_true h3
  obtain ⟨hl30, hvs⟩ := vWares_inv h1
  obtain ⟨K, rfl⟩ : ∃ K : Nat, k = K := ⟨k.toNat, by omega⟩
  have hK : K < l.length := by omega
  have hv := hvs K hK
  clear h1 h2 hvs
  have HH := Lib.hid h
  obtain ⟨b, off, Ai, ci, rfl, hb, c0, c1, r⟩ := ware_at h hK
  have hat : Hid (WAt w b (off + K * 2) (wat l K) Ai ci) := ⟨hb, c0, c1, r⟩
  have HV := Lib.hid hv
  go_enter Tryd.func21, Tryd.ntmps21
  go_wp2_with (first | (go_at_call 57; refine (ret_num (l26Code_any _ _ _ _ _ HH.out hn hf) hC.out).mono ?_; rintro e w' ⟨rfl, g, rfl⟩) | (go_at_call 64; refine (ret_as (in_any _ _ _ _) h3).mono ?_; rintro e w' ⟨rfl, rfl⟩) | ((with_reducible refine wp_region_up (by kernel_rfl) (by kernel_rfl) ?_); (repeat (go_big_quiet_step (first | (go_at_call 57; first | exact upq_tr (ret_num (l26Code_any _ _ _ _ _ HH.out hn hf) hC.out) | exact upq (ret_num (l26Code_any _ _ _ _ _ HH.out hn hf) hC.out)) | (go_at_call 64; first | exact upq_tr_same (ret_as (in_any _ _ _ _) h3) | exact upq_same (ret_as (in_any _ _ _ _) h3))))); refine wpQuiet_nil ?_; intro _ hw'; obtain ⟨nq, hw''⟩ := hw'; subst hw''))
  clear hv r h h3 c0 c1
  go_loopw [9, 10] (fun s i wr => ∃ j : Nat, j ≤ 1000 ∧ i = i64 ((j : Int) + 1) ∧ s = i64 (mst (wat l K) m j) ∧ ∃ g : Up w, wr = up w g) (fun _ i _ => 1001 - (intOf i).toNat)
  case atStart => exact ⟨0, by omega, rfl, rfl, ex_up (by repeat (first | exact Below.refl _ _ | refine bl_tr ?_ _ | refine bl_al ?_ _ | refine bl_dr ?_ | refine bl_up ?_ _ | refine Below.drew ?_ | refine bl_alloc ?_ _ | refine Below.setCell ?_ (by first | (simp; done) | (simp; omega)) _))⟩
  case round =>
    obtain ⟨j, hj, rfl, rfl, g, rfl⟩ := hrel
    have hjb := mst_bd (wat l K) m j
    by_cases j0 : j < 1000
    · have hj0 : (0 : Int) ≤ (j : Int) + 1 := by omega
      have hj1 : (j : Int) + 1 ≤ 1000 := by omega
      by_cases q : prc (wat l K) ((j : Int) + 1) ≤ m
      · have hN := Lib.hid (mst_yes q)
        go_wp2_with (first | (go_at_call 65; refine (l26Price_any _ _ _ _ _ _ _ (hat.out.below (by repeat (first | exact Below.refl _ _ | refine bl_tr ?_ _ | refine bl_al ?_ _ | refine bl_dr ?_ | refine bl_up ?_ _ | refine Below.drew ?_ | refine bl_alloc ?_ _ | refine Below.setCell ?_ (by first | (simp; done) | (simp; omega)) _))) HV.out hj0 hj1).mono ?_; rintro e w' ⟨rfl, g, rfl⟩) | ((with_reducible refine wp_region_up (by kernel_rfl) (by kernel_rfl) ?_); (repeat (go_big_quiet_step (first | (go_at_call 65; first | exact upq_tr (l26Price_any _ _ _ _ _ _ _ (hat.out.below (by repeat (first | exact Below.refl _ _ | refine bl_tr ?_ _ | refine bl_al ?_ _ | refine bl_dr ?_ | refine bl_up ?_ _ | refine Below.drew ?_ | refine bl_alloc ?_ _ | refine Below.setCell ?_ (by first | (simp; done) | (simp; omega)) _))) HV.out hj0 hj1) | exact upq (l26Price_any _ _ _ _ _ _ _ (hat.out.below (by repeat (first | exact Below.refl _ _ | refine bl_tr ?_ _ | refine bl_al ?_ _ | refine bl_dr ?_ | refine bl_up ?_ _ | refine Below.drew ?_ | refine bl_alloc ?_ _ | refine Below.setCell ?_ (by first | (simp; done) | (simp; omega)) _))) HV.out hj0 hj1))))); refine wpQuiet_nil ?_; intro _ hw'; obtain ⟨nq, hw''⟩ := hw'; subst hw''))
        go_roundw
        case rel => exact ⟨j + 1, by omega, by go_num, by rw [hN.out], ex_up (by repeat (first | exact Below.refl _ _ | refine bl_tr ?_ _ | refine bl_al ?_ _ | refine bl_dr ?_ | refine bl_up ?_ _ | refine Below.drew ?_ | refine bl_alloc ?_ _ | refine Below.setCell ?_ (by first | (simp; done) | (simp; omega)) _))⟩
        case measure => (simp [intOf]; try omega)
      · have hN := Lib.hid (mst_no q)
        go_wp2_with (first | (go_at_call 65; refine (l26Price_any _ _ _ _ _ _ _ (hat.out.below (by repeat (first | exact Below.refl _ _ | refine bl_tr ?_ _ | refine bl_al ?_ _ | refine bl_dr ?_ | refine bl_up ?_ _ | refine Below.drew ?_ | refine bl_alloc ?_ _ | refine Below.setCell ?_ (by first | (simp; done) | (simp; omega)) _))) HV.out hj0 hj1).mono ?_; rintro e w' ⟨rfl, g, rfl⟩) | ((with_reducible refine wp_region_up (by kernel_rfl) (by kernel_rfl) ?_); (repeat (go_big_quiet_step (first | (go_at_call 65; first | exact upq_tr (l26Price_any _ _ _ _ _ _ _ (hat.out.below (by repeat (first | exact Below.refl _ _ | refine bl_tr ?_ _ | refine bl_al ?_ _ | refine bl_dr ?_ | refine bl_up ?_ _ | refine Below.drew ?_ | refine bl_alloc ?_ _ | refine Below.setCell ?_ (by first | (simp; done) | (simp; omega)) _))) HV.out hj0 hj1) | exact upq (l26Price_any _ _ _ _ _ _ _ (hat.out.below (by repeat (first | exact Below.refl _ _ | refine bl_tr ?_ _ | refine bl_al ?_ _ | refine bl_dr ?_ | refine bl_up ?_ _ | refine Below.drew ?_ | refine bl_alloc ?_ _ | refine Below.setCell ?_ (by first | (simp; done) | (simp; omega)) _))) HV.out hj0 hj1))))); refine wpQuiet_nil ?_; intro _ hw'; obtain ⟨nq, hw''⟩ := hw'; subst hw''))
        go_roundw
        case rel => exact ⟨j + 1, by omega, by go_num, by rw [hN.out], ex_up (by repeat (first | exact Below.refl _ _ | refine bl_tr ?_ _ | refine bl_al ?_ _ | refine bl_dr ?_ | refine bl_up ?_ _ | refine Below.drew ?_ | refine bl_alloc ?_ _ | refine Below.setCell ?_ (by first | (simp; done) | (simp; omega)) _))⟩
        case measure => (simp [intOf]; try omega)
    · obtain rfl : j = 1000 := by omega
      have hj1 : ¬ ((1000 : Nat) : Int) + 1 ≤ 1000 := by omega
      go_wp2_with (first | ((with_reducible refine wp_region_up (by kernel_rfl) (by kernel_rfl) ?_); (repeat (go_big_quiet_step (fail))); refine wpQuiet_nil ?_; intro _ hw'; obtain ⟨nq, hw''⟩ := hw'; subst hw''))
      go_ret2
      exact ⟨by rw [hR.out]; rfl, UpOf.of (by repeat (first | exact Below.refl _ _ | refine bl_tr ?_ _ | refine bl_al ?_ _ | refine bl_dr ?_ | refine bl_up ?_ _ | refine Below.drew ?_ | refine bl_alloc ?_ _ | refine Below.setCell ?_ (by first | (simp; done) | (simp; omega)) _))⟩
end Go.Proofs.YtiibpldfnnhhlaaDoor
namespace Go.Proofs.YtiibpldfnnhhlaaDoor
open Go.RowKit
def ics (l : List Int) : List Value := l.map i64
theorem ics_len (l : List Int) : (ics l).length = l.length := by simp [ics]
theorem ics_get {l : List Int} {k : Nat} (h : k < l.length) : (ics l)[k]? = some (i64 l[k]) := by simp [ics, h]
theorem int_at {w : World} {A : Option Addr} {l : List Int} {n : Nat} (h : Rds w 1 A n (ics l)) (hn : n = l.length) {k : Nat} (hk : k < l.length) :
    ∃ b off, A = some ⟨b, off, none⟩ ∧ b < w.heap.size ∧ w.cell? ⟨b, off + k, none⟩ = some (i64 l[k]) := by
  obtain ⟨b, off, e, hb, hc⟩ := h.at (by omega)
  exact ⟨b, off, e, hb, hc k _ (ics_get hk)⟩
theorem ics_ext {ys : List Value} {l : List Int} (hl : ys.length = l.length) (h : ∀ i (hi : i < l.length), ys[i]? = some (i64 l[i])) : ys = ics l := by
  refine List.ext_getElem? fun i => ?_
  by_cases hi : i < l.length
  · rw [h i hi, ics_get hi]
  · rw [List.getElem?_eq_none (by omega), List.getElem?_eq_none (by rw [ics_len]; omega)]
/-- the numbers that mark n places, from number k on -/
def mi (k n : Nat) : List Int := (List.range n).map fun (i : Nat) => (k : Int) + i
theorem mi_len (k n : Nat) : (mi k n).length = n := by simp [mi]
theorem mi_get {k n i : Nat} (h : i < (mi k n).length) : (mi k n)[i] = (k : Int) + i := by simp [mi]
theorem set1_get {l : List Int} {ys : List Value} {k i n : Nat} (hys : ∀ i (hi : i < l.length), i < k → ys[i]? = some (i64 l[i])) (hlen : ys.length = n) (hi : i < l.length) (hik : i < k + 1) (hk : k < n) {x : Int}
    (he : ∀ (hk : k < l.length), l[k] = x) : (ys.set k (i64 x))[i]? = some (i64 l[i]) := by
  by_cases hik' : i = k
  · subst hik'
    rw [he hi, List.getElem?_set_self (by omega)]
  · rw [List.getElem?_set_ne (by omega)]
    exact hys i hi (by omega)
end Go.Proofs.YtiibpldfnnhhlaaDoor
namespace Go.Proofs.YtiibpldfnnhhlaaDoor
open Go.RowKit
def iat (l : List Int) (i : Nat) : Int := l.getD i 0
theorem iat_eq {l : List Int} {i : Nat} (h : i < l.length) : l[i] = iat l i := by simp [iat, h]
theorem ints_at {w : World} {A : Option Addr} {l : List Int} (h : Rds w 1 A l.length (ics l)) {k : Nat} (hk : k < l.length) :
    ∃ b off, A = some ⟨b, off, none⟩ ∧ b < w.heap.size ∧ w.cell? ⟨b, off + k, none⟩ = some (i64 (iat l k)) := by
  have := int_at h rfl hk
  rwa [iat_eq hk] at this
/-- is there a number up to a greatest one for each ware -/
def isMany (l : List Ware) (many : List Int) (most : Int) : Bool := (List.range many.length).all (fun i => btw (iat many i) 0 most) && decide (many.length = l.length)
theorem isMany_at {l : List Ware} {many : List Int} {most : Int} {i : Nat} (hi : i < many.length) (h : btw (iat many i) 0 most = false) : isMany l many most = false := by
  simp only [isMany, Bool.and_eq_false_iff]
  refine .inl ?_
  rw [← Bool.not_eq_true]
  intro hc
  rw [List.all_eq_true] at hc
  have := hc i (List.mem_range.2 hi)
  simp [h] at this
theorem isMany_of {l : List Ware} {many : List Int} {most : Int} (h : ∀ i, i < many.length → btw (iat many i) 0 most = true) : isMany l many most = decide (many.length = l.length) := by
  have : (List.range many.length).all (fun i => btw (iat many i) 0 most) = true := by
    simp only [List.all_eq_true, List.mem_range]
    exact h
  rw [isMany, this, Bool.true_and]
theorem isMany_inv {l : List Ware} {many : List Int} {most : Int} (h : isMany l many most = true) : many.length = l.length ∧ ∀ i, i < many.length → 0 ≤ iat many i ∧ iat many i ≤ most := by
  simp only [isMany, Bool.and_eq_true, decide_eq_true_eq, List.all_eq_true, List.mem_range] at h
  exact ⟨h.2, fun i hi => btw_true (h.1 i hi)⟩
def bsk (l : List Ware) (many : List Int) : Nat → Int
  | 0 => 0
  | k + 1 => bsk l many k + prc (wat l k) (iat many k)
theorem bsk_bd {l : List Ware} {many : List Int} (hv : ∀ i, i < l.length → vWare (wat l i) = true) (hm : ∀ i, i < l.length → 0 ≤ iat many i ∧ iat many i ≤ 1000) (k : Nat) (hk : k ≤ l.length) : 0 ≤ bsk l many k ∧ bsk l many k ≤ 1000000000 * k := by
  induction k with
  | zero => simp [bsk]
  | succ k ih =>
    have h1 := ih (by omega)
    have h2 := hm k (by omega)
    have h3 := prc_bd (hv k (by omega)) h2.1 h2.2
    rw [bsk]
    omega
set_option maxRecDepth 10000 in
theorem areMany_any (A B : Option Addr) (c d : Nat) (l : List Ware) (many : List Int) (most : Int) (w : World) (h : Rds w 1 B many.length (ics many)) (hn : many.length ≤ 100000000) (_hl : l.length ≤ 100000000) :
    Calls Tryd.prog 68 #[.slice A l.length c, .slice B many.length d, i64 most] w fun e w' => e = .returned (.bool (isMany l many most)) ∧ UpOf w w' := by
  go_enter Tryd.func68, Tryd.ntmps68
  go_wp2_with (first | ((with_reducible refine wp_region_up (by kernel_rfl) (by kernel_rfl) ?_); (repeat (go_big_quiet_step (fail))); refine wpQuiet_nil ?_; intro _ hw'; obtain ⟨nq, hw''⟩ := hw'; subst hw''))
  go_loopw [11] (fun i wr => ∃ k : Nat, k ≤ many.length ∧ i = i64 k ∧ Hid (∀ j, j < k → btw (iat many j) 0 most = true) ∧ ∃ g : Up w, wr = up w g) (fun i _ => many.length - (intOf i).toNat)
  case atStart => exact ⟨0, by omega, rfl, fun i hi => by omega, ex_up (by repeat (first | exact Below.refl _ _ | refine bl_tr ?_ _ | refine bl_al ?_ _ | refine bl_dr ?_ | refine bl_up ?_ _ | refine Below.drew ?_ | refine bl_alloc ?_ _ | refine Below.setCell ?_ (by first | (simp; done) | (simp; omega)) _))⟩
  case round =>
    obtain ⟨k, hk, rfl, hok, g, rfl⟩ := hrel
    by_cases hlt : k < many.length
    · obtain ⟨b, off, rfl, hb, c0⟩ := ints_at h hlt
      cases q : btw (iat many k) 0 most
      · have hf := Lib.hid (isMany_at (l := l) hlt q)
        go_wp2_with (first | (go_at_call 55; refine (ret_as (between_any _ _ _ _) q).mono ?_; rintro e w' ⟨rfl, rfl⟩) | ((with_reducible refine wp_region_up (by kernel_rfl) (by kernel_rfl) ?_); (repeat (go_big_quiet_step (first | (go_at_call 55; first | exact upq_tr_same (ret_as (between_any _ _ _ _) q) | exact upq_same (ret_as (between_any _ _ _ _) q))))); refine wpQuiet_nil ?_; intro _ hw'; obtain ⟨nq, hw''⟩ := hw'; subst hw''))
        go_ret
        exact ⟨ret_bool hf.out.symm, UpOf.of (by repeat (first | exact Below.refl _ _ | refine bl_tr ?_ _ | refine bl_al ?_ _ | refine bl_dr ?_ | refine bl_up ?_ _ | refine Below.drew ?_ | refine bl_alloc ?_ _ | refine Below.setCell ?_ (by first | (simp; done) | (simp; omega)) _))⟩
      · have hq := Lib.hid q
        go_wp2_with (first | (go_at_call 55; refine (ret_as (between_any _ _ _ _) q).mono ?_; rintro e w' ⟨rfl, rfl⟩) | ((with_reducible refine wp_region_up (by kernel_rfl) (by kernel_rfl) ?_); (repeat (go_big_quiet_step (first | (go_at_call 55; first | exact upq_tr_same (ret_as (between_any _ _ _ _) q) | exact upq_same (ret_as (between_any _ _ _ _) q))))); refine wpQuiet_nil ?_; intro _ hw'; obtain ⟨nq, hw''⟩ := hw'; subst hw''))
        go_roundw
        case rel => have hx := lt_ext (P := fun j => btw (iat many j) 0 most = true) hok.out hq.out; exact ⟨k + 1, by omega, by go_num, hx, ex_up (by repeat (first | exact Below.refl _ _ | refine bl_tr ?_ _ | refine bl_al ?_ _ | refine bl_dr ?_ | refine bl_up ?_ _ | refine Below.drew ?_ | refine bl_alloc ?_ _ | refine Below.setCell ?_ (by first | (simp; done) | (simp; omega)) _))⟩
        case measure => (simp [intOf]; try omega)
    · obtain rfl : k = many.length := by omega
      have hf := Lib.hid (isMany_of (l := l) hok.out)
      cases q : ((many.length : Int) == (l.length : Int))
      · have hd := Lib.hid (show decide (many.length = l.length) = false from decide_eq_false (by rw [beq_eq_false_iff_ne] at q; omega))
        go_wp2_with (first | ((with_reducible refine wp_region_up (by kernel_rfl) (by kernel_rfl) ?_); (repeat (go_big_quiet_step (fail))); refine wpQuiet_nil ?_; intro _ hw'; obtain ⟨nq, hw''⟩ := hw'; subst hw''))
        go_ret
        exact ⟨ret_bool (by rw [hf.out, hd.out]), UpOf.of (by repeat (first | exact Below.refl _ _ | refine bl_tr ?_ _ | refine bl_al ?_ _ | refine bl_dr ?_ | refine bl_up ?_ _ | refine Below.drew ?_ | refine bl_alloc ?_ _ | refine Below.setCell ?_ (by first | (simp; done) | (simp; omega)) _))⟩
      · have hd := Lib.hid (show decide (many.length = l.length) = true from decide_eq_true (by rw [beq_iff_eq] at q; omega))
        go_wp2_with (first | ((with_reducible refine wp_region_up (by kernel_rfl) (by kernel_rfl) ?_); (repeat (go_big_quiet_step (fail))); refine wpQuiet_nil ?_; intro _ hw'; obtain ⟨nq, hw''⟩ := hw'; subst hw''))
        go_ret
        exact ⟨ret_bool (by rw [hf.out, hd.out]), UpOf.of (by repeat (first | exact Below.refl _ _ | refine bl_tr ?_ _ | refine bl_al ?_ _ | refine bl_dr ?_ | refine bl_up ?_ _ | refine Below.drew ?_ | refine bl_alloc ?_ _ | refine Below.setCell ?_ (by first | (simp; done) | (simp; omega)) _))⟩
/-- the code of a price list and numbers -/
def wantsC (l : List Ware) (many : List Int) (most : Int) : Int := if vWares l = true then if isMany l many most = true then 0 else 2 else 1
set_option maxRecDepth 10000 in
theorem l26Wants_any (A B : Option Addr) (c d : Nat) (l : List Ware) (many : List Int) (most : Int) (w : World) (hw : WSee w A l) (h : Rds w 1 B many.length (ics many)) (hn : many.length ≤ 100000000) (hl : l.length ≤ 100000000) (hf : WBd l) :
    Calls Tryd.prog 70 #[.slice A l.length c, .slice B many.length d, i64 most] w fun e w' => e = .returned (i64 (wantsC l many most)) ∧ UpOf w w' := by
  cases h1 : vWares l
  · have hC := Lib.hid (show wantsC l many most = 1 by rw [wantsC, if_neg (by simp [h1])])
    go_enter Tryd.func70, Tryd.ntmps70
    go_wp2_with (first | (go_at_call 73; refine (ret_as (l26Ok_any _ _ _ _ hw hl hf) h1).mono ?_; rintro e w' ⟨rfl, g, rfl⟩) | ((with_reducible refine wp_region_up (by kernel_rfl) (by kernel_rfl) ?_); (repeat (go_big_quiet_step (first | (go_at_call 73; first | exact upq_tr (ret_as (l26Ok_any _ _ _ _ hw hl hf) h1) | exact upq (ret_as (l26Ok_any _ _ _ _ hw hl hf) h1))))); refine wpQuiet_nil ?_; intro _ hw'; obtain ⟨nq, hw''⟩ := hw'; subst hw''))
    go_ret
    exact ⟨ret_int hC.out.symm, UpOf.of (by repeat (first | exact Below.refl _ _ | refine bl_tr ?_ _ | refine bl_al ?_ _ | refine bl_dr ?_ | refine bl_up ?_ _ | refine Below.drew ?_ | refine bl_alloc ?_ _ | refine Below.setCell ?_ (by first | (simp; done) | (simp; omega)) _))⟩
  · have hC := Lib.hid (show ∀ b, isMany l many most = b → wantsC l many most = if b = true then 0 else 2 from fun b hb => by rw [wantsC, if_pos h1, hb])
    go_enter Tryd.func70, Tryd.ntmps70
    go_wp2_with (first | (go_at_call 73; refine (ret_as (l26Ok_any _ _ _ _ hw hl hf) h1).mono ?_; rintro e w' ⟨rfl, g, rfl⟩) | ((with_reducible refine wp_region_up (by kernel_rfl) (by kernel_rfl) ?_); (repeat (go_big_quiet_step (first | (go_at_call 73; first | exact upq_tr (ret_as (l26Ok_any _ _ _ _ hw hl hf) h1) | exact upq (ret_as (l26Ok_any _ _ _ _ hw hl hf) h1))))); refine wpQuiet_nil ?_; intro _ hw'; obtain ⟨nq, hw''⟩ := hw'; subst hw''))
    clear hw h1
    go_loopw [7] (fun i wr => ∃ k : Nat, k ≤ many.length ∧ i = i64 k ∧ Hid (∀ j, j < k → btw (iat many j) 0 most = true) ∧ ∃ g : Up w, wr = up w g) (fun i _ => many.length - (intOf i).toNat)
    case atStart => exact ⟨0, by omega, rfl, fun i hi => by omega, ex_up (by repeat (first | exact Below.refl _ _ | refine bl_tr ?_ _ | refine bl_al ?_ _ | refine bl_dr ?_ | refine bl_up ?_ _ | refine Below.drew ?_ | refine bl_alloc ?_ _ | refine Below.setCell ?_ (by first | (simp; done) | (simp; omega)) _))⟩
    case round =>
      obtain ⟨k, hk, rfl, hok, g, rfl⟩ := hrel
      by_cases hlt : k < many.length
      · obtain ⟨b, off, rfl, hb, c0⟩ := ints_at h hlt
        cases q : btw (iat many k) 0 most
        · have hf := Lib.hid (hC.out _ (isMany_at (l := l) hlt q))
          go_wp2_with (first | (go_at_call 64; refine (ret_as (in_any _ _ _ _) q).mono ?_; rintro e w' ⟨rfl, rfl⟩) | ((with_reducible refine wp_region_up (by kernel_rfl) (by kernel_rfl) ?_); (repeat (go_big_quiet_step (first | (go_at_call 64; first | exact upq_tr_same (ret_as (in_any _ _ _ _) q) | exact upq_same (ret_as (in_any _ _ _ _) q))))); refine wpQuiet_nil ?_; intro _ hw'; obtain ⟨nq, hw''⟩ := hw'; subst hw''))
          go_ret
          exact ⟨ret_int hf.out.symm, UpOf.of (by repeat (first | exact Below.refl _ _ | refine bl_tr ?_ _ | refine bl_al ?_ _ | refine bl_dr ?_ | refine bl_up ?_ _ | refine Below.drew ?_ | refine bl_alloc ?_ _ | refine Below.setCell ?_ (by first | (simp; done) | (simp; omega)) _))⟩
        · have hq := Lib.hid q
          go_wp2_with (first | (go_at_call 64; refine (ret_as (in_any _ _ _ _) q).mono ?_; rintro e w' ⟨rfl, rfl⟩) | ((with_reducible refine wp_region_up (by kernel_rfl) (by kernel_rfl) ?_); (repeat (go_big_quiet_step (first | (go_at_call 64; first | exact upq_tr_same (ret_as (in_any _ _ _ _) q) | exact upq_same (ret_as (in_any _ _ _ _) q))))); refine wpQuiet_nil ?_; intro _ hw'; obtain ⟨nq, hw''⟩ := hw'; subst hw''))
          go_roundw
          case rel => have hx := lt_ext (P := fun j => btw (iat many j) 0 most = true) hok.out hq.out; exact ⟨k + 1, by omega, by go_num, hx, ex_up (by repeat (first | exact Below.refl _ _ | refine bl_tr ?_ _ | refine bl_al ?_ _ | refine bl_dr ?_ | refine bl_up ?_ _ | refine Below.drew ?_ | refine bl_alloc ?_ _ | refine Below.setCell ?_ (by first | (simp; done) | (simp; omega)) _))⟩
          case measure => (simp [intOf]; try omega)
      · obtain rfl : k = many.length := by omega
        have hf := Lib.hid (isMany_of (l := l) hok.out)
        cases q : ((many.length : Int) != (l.length : Int))
        · have hd := Lib.hid (hC.out true (by rw [hf.out]; exact decide_eq_true (by have h : ((many.length : Int) = l.length) := (by simpa using q); omega)))
          go_wp2_with (first | ((with_reducible refine wp_region_up (by kernel_rfl) (by kernel_rfl) ?_); (repeat (go_big_quiet_step (fail))); refine wpQuiet_nil ?_; intro _ hw'; obtain ⟨nq, hw''⟩ := hw'; subst hw''))
          go_ret
          exact ⟨ret_int hd.out.symm, UpOf.of (by repeat (first | exact Below.refl _ _ | refine bl_tr ?_ _ | refine bl_al ?_ _ | refine bl_dr ?_ | refine bl_up ?_ _ | refine Below.drew ?_ | refine bl_alloc ?_ _ | refine Below.setCell ?_ (by first | (simp; done) | (simp; omega)) _))⟩
        · have hd := Lib.hid (hC.out false (by rw [hf.out]; exact decide_eq_false (by have h : ¬ ((many.length : Int) = l.length) := (by simpa using q); omega)))
          go_wp2_with (first | ((with_reducible refine wp_region_up (by kernel_rfl) (by kernel_rfl) ?_); (repeat (go_big_quiet_step (fail))); refine wpQuiet_nil ?_; intro _ hw'; obtain ⟨nq, hw''⟩ := hw'; subst hw''))
          go_ret
          exact ⟨ret_int hd.out.symm, UpOf.of (by repeat (first | exact Below.refl _ _ | refine bl_tr ?_ _ | refine bl_al ?_ _ | refine bl_dr ?_ | refine bl_up ?_ _ | refine Below.drew ?_ | refine bl_alloc ?_ _ | refine Below.setCell ?_ (by first | (simp; done) | (simp; omega)) _))⟩
set_option maxRecDepth 10000 in
set_option maxHeartbeats 1000000 in
theorem basketPrice_any (A B : Option Addr) (c d : Nat) (l : List Ware) (many : List Int) (w : World) (hw : WSee w A l) (h : Rds w 1 B many.length (ics many)) (hl : l.length ≤ 30) (he : many.length = l.length)
    (hv : ∀ i, i < l.length → vWare (wat l i) = true) (hm : ∀ i, i < l.length → 0 ≤ iat many i ∧ iat many i ≤ 1000) :
    Calls Tryd.prog 69 #[.slice A l.length c, .slice B many.length d] w fun e w' => e = .returned (i64 (bsk l many l.length)) ∧ UpOf w w' := by
  have HV := Lib.hid hv
  have HM := Lib.hid hm
  have HB := Lib.hid (bsk_bd hv hm)
  have HE := Lib.hid he
  clear hv hm he
  go_enter Tryd.func69, Tryd.ntmps69
  go_wp2_with (first | ((with_reducible refine wp_region_up (by kernel_rfl) (by kernel_rfl) ?_); (repeat (go_big_quiet_step (fail))); refine wpQuiet_nil ?_; intro _ hw'; obtain ⟨nq, hw''⟩ := hw'; subst hw''))
  go_loopw [5, 10] (fun s i wr => ∃ k : Nat, k ≤ l.length ∧ i = i64 k ∧ s = i64 (bsk l many k) ∧ ∃ g : Up w, wr = up w g) (fun _ i _ => l.length - (intOf i).toNat)
  case atStart => exact ⟨0, by omega, rfl, rfl, ex_up (by repeat (first | exact Below.refl _ _ | refine bl_tr ?_ _ | refine bl_al ?_ _ | refine bl_dr ?_ | refine bl_up ?_ _ | refine Below.drew ?_ | refine bl_alloc ?_ _ | refine Below.setCell ?_ (by first | (simp; done) | (simp; omega)) _))⟩
  case round =>
    obtain ⟨k, hk, rfl, rfl, g, rfl⟩ := hrel
    obtain ⟨s1, s2⟩ := HB.out k hk
    by_cases hlt : k < l.length
    · obtain ⟨b, off, Ai, ci, rfl, hb, c0, c1, r⟩ := ware_at hw hlt
      have hlt2 : k < many.length := by have := HE.out; omega
      obtain ⟨b', off', rfl, hb', d0⟩ := ints_at h hlt2
      obtain ⟨m1, m2⟩ := HM.out k hlt
      obtain ⟨p1, p2⟩ := prc_bd (HV.out k hlt) m1 m2
      have hN := Lib.hid (show bsk l many (k + 1) = bsk l many k + prc (wat l k) (iat many k) from rfl)
      go_wp2_with (first | (go_at_call 56; refine (price_any _ _ _ _ _ (r.below (by repeat (first | exact Below.refl _ _ | refine bl_tr ?_ _ | refine bl_al ?_ _ | refine bl_dr ?_ | refine bl_up ?_ _ | refine Below.drew ?_ | refine bl_alloc ?_ _ | refine Below.setCell ?_ (by first | (simp; done) | (simp; omega)) _))) (HV.out k hlt) m1 m2).mono ?_; rintro e w' ⟨rfl, g, rfl⟩) | ((with_reducible refine wp_region_up (by kernel_rfl) (by kernel_rfl) ?_); (repeat (go_big_quiet_step (first | (go_at_call 56; first | exact upq_tr (price_any _ _ _ _ _ (r.below (by repeat (first | exact Below.refl _ _ | refine bl_tr ?_ _ | refine bl_al ?_ _ | refine bl_dr ?_ | refine bl_up ?_ _ | refine Below.drew ?_ | refine bl_alloc ?_ _ | refine Below.setCell ?_ (by first | (simp; done) | (simp; omega)) _))) (HV.out k hlt) m1 m2) | exact upq (price_any _ _ _ _ _ (r.below (by repeat (first | exact Below.refl _ _ | refine bl_tr ?_ _ | refine bl_al ?_ _ | refine bl_dr ?_ | refine bl_up ?_ _ | refine Below.drew ?_ | refine bl_alloc ?_ _ | refine Below.setCell ?_ (by first | (simp; done) | (simp; omega)) _))) (HV.out k hlt) m1 m2))))); refine wpQuiet_nil ?_; intro _ hw'; obtain ⟨nq, hw''⟩ := hw'; subst hw''))
      go_roundw
      case rel => exact ⟨k + 1, by omega, by go_num, by rw [hN.out], ex_up (by repeat (first | exact Below.refl _ _ | refine bl_tr ?_ _ | refine bl_al ?_ _ | refine bl_dr ?_ | refine bl_up ?_ _ | refine Below.drew ?_ | refine bl_alloc ?_ _ | refine Below.setCell ?_ (by first | (simp; done) | (simp; omega)) _))⟩
      case measure => (simp [intOf]; try omega)
    · obtain rfl : k = l.length := by omega
      go_wp2_with (first | ((with_reducible refine wp_region_up (by kernel_rfl) (by kernel_rfl) ?_); (repeat (go_big_quiet_step (fail))); refine wpQuiet_nil ?_; intro _ hw'; obtain ⟨nq, hw''⟩ := hw'; subst hw''))
      go_ret
      exact ⟨rfl, UpOf.of (by repeat (first | exact Below.refl _ _ | refine bl_tr ?_ _ | refine bl_al ?_ _ | refine bl_dr ?_ | refine bl_up ?_ _ | refine Below.drew ?_ | refine bl_alloc ?_ _ | refine Below.setCell ?_ (by first | (simp; done) | (simp; omega)) _))⟩
set_option maxRecDepth 10000 in
set_option maxHeartbeats 1000000 in
theorem l26Basket_any (A B : Option Addr) (c d : Nat) (l : List Ware) (many : List Int) (w : World) (hw : WSee w A l) (h : Rds w 1 B many.length (ics many)) (hl : l.length ≤ 30) (he : many.length = l.length)
    (hv : ∀ i, i < l.length → vWare (wat l i) = true) (hm : ∀ i, i < l.length → 0 ≤ iat many i ∧ iat many i ≤ 1000) :
    Calls Tryd.prog 71 #[.slice A l.length c, .slice B many.length d] w fun e w' => e = .returned (i64 (bsk l many l.length)) ∧ UpOf w w' := by
  have HV := Lib.hid hv
  have HM := Lib.hid hm
  have HB := Lib.hid (bsk_bd hv hm)
  have HE := Lib.hid he
  clear hv hm he
  go_enter Tryd.func71, Tryd.ntmps71
  go_wp2_with (first | ((with_reducible refine wp_region_up (by kernel_rfl) (by kernel_rfl) ?_); (repeat (go_big_quiet_step (fail))); refine wpQuiet_nil ?_; intro _ hw'; obtain ⟨nq, hw''⟩ := hw'; subst hw''))
  go_loopw [5, 6] (fun s i wr => ∃ k : Nat, k ≤ l.length ∧ i = i64 k ∧ s = i64 (bsk l many k) ∧ ∃ g : Up w, wr = up w g) (fun _ i _ => l.length - (intOf i).toNat)
  case atStart => exact ⟨0, by omega, rfl, rfl, ex_up (by repeat (first | exact Below.refl _ _ | refine bl_tr ?_ _ | refine bl_al ?_ _ | refine bl_dr ?_ | refine bl_up ?_ _ | refine Below.drew ?_ | refine bl_alloc ?_ _ | refine Below.setCell ?_ (by first | (simp; done) | (simp; omega)) _))⟩
  case round =>
    obtain ⟨k, hk, rfl, rfl, g, rfl⟩ := hrel
    obtain ⟨s1, s2⟩ := HB.out k hk
    by_cases hlt : k < l.length
    · obtain ⟨b, off, Ai, ci, rfl, hb, c0, c1, r⟩ := ware_at hw hlt
      have hlt2 : k < many.length := by have := HE.out; omega
      obtain ⟨b', off', rfl, hb', d0⟩ := ints_at h hlt2
      obtain ⟨m1, m2⟩ := HM.out k hlt
      obtain ⟨p1, p2⟩ := prc_bd (HV.out k hlt) m1 m2
      have hat : Hid (WAt w b (off + k * 2) (wat l k) Ai ci) := ⟨hb, c0, c1, r⟩
      have hN := Lib.hid (show bsk l many (k + 1) = bsk l many k + prc (wat l k) (iat many k) from rfl)
      go_wp2_with (first | (go_at_call 65; refine (l26Price_any _ _ _ _ _ _ _ (hat.out.below (by repeat (first | exact Below.refl _ _ | refine bl_tr ?_ _ | refine bl_al ?_ _ | refine bl_dr ?_ | refine bl_up ?_ _ | refine Below.drew ?_ | refine bl_alloc ?_ _ | refine Below.setCell ?_ (by first | (simp; done) | (simp; omega)) _))) (HV.out k hlt) m1 m2).mono ?_; rintro e w' ⟨rfl, g, rfl⟩) | ((with_reducible refine wp_region_up (by kernel_rfl) (by kernel_rfl) ?_); (repeat (go_big_quiet_step (first | (go_at_call 65; first | exact upq_tr (l26Price_any _ _ _ _ _ _ _ (hat.out.below (by repeat (first | exact Below.refl _ _ | refine bl_tr ?_ _ | refine bl_al ?_ _ | refine bl_dr ?_ | refine bl_up ?_ _ | refine Below.drew ?_ | refine bl_alloc ?_ _ | refine Below.setCell ?_ (by first | (simp; done) | (simp; omega)) _))) (HV.out k hlt) m1 m2) | exact upq (l26Price_any _ _ _ _ _ _ _ (hat.out.below (by repeat (first | exact Below.refl _ _ | refine bl_tr ?_ _ | refine bl_al ?_ _ | refine bl_dr ?_ | refine bl_up ?_ _ | refine Below.drew ?_ | refine bl_alloc ?_ _ | refine Below.setCell ?_ (by first | (simp; done) | (simp; omega)) _))) (HV.out k hlt) m1 m2))))); refine wpQuiet_nil ?_; intro _ hw'; obtain ⟨nq, hw''⟩ := hw'; subst hw''))
      go_roundw
      case rel => exact ⟨k + 1, by omega, by go_num, by rw [hN.out], ex_up (by repeat (first | exact Below.refl _ _ | refine bl_tr ?_ _ | refine bl_al ?_ _ | refine bl_dr ?_ | refine bl_up ?_ _ | refine Below.drew ?_ | refine bl_alloc ?_ _ | refine Below.setCell ?_ (by first | (simp; done) | (simp; omega)) _))⟩
      case measure => (simp [intOf]; try omega)
    · obtain rfl : k = l.length := by omega
      go_wp2_with (first | ((with_reducible refine wp_region_up (by kernel_rfl) (by kernel_rfl) ?_); (repeat (go_big_quiet_step (fail))); refine wpQuiet_nil ?_; intro _ hw'; obtain ⟨nq, hw''⟩ := hw'; subst hw''))
      go_ret
      exact ⟨rfl, UpOf.of (by repeat (first | exact Below.refl _ _ | refine bl_tr ?_ _ | refine bl_al ?_ _ | refine bl_dr ?_ | refine bl_up ?_ _ | refine Below.drew ?_ | refine bl_alloc ?_ _ | refine Below.setCell ?_ (by first | (simp; done) | (simp; omega)) _))⟩
def bskR (l : List Ware) (many : List Int) : Int × Int := if vWares l = true then if isMany l many 1000 = true then (bsk l many l.length, 0) else (0, 2) else (0, 1)
set_option maxRecDepth 10000 in
theorem basketI_any (A B : Option Addr) (c d : Nat) (l : List Ware) (many : List Int) (w : World) (hw : WSee w A l) (h : Rds w 1 B many.length (ics many)) (hn : many.length ≤ 100000000) (hl : l.length ≤ 100000000) (hf : WBd l) :
    Calls Tryd.prog 23 #[.slice A l.length c, .slice B many.length d] w fun e w' => e = .returned (.tuple #[i64 (bskR l many).1, i64 (bskR l many).2]) ∧ UpOf w w' := by
  cases h1 : vWares l
  · have hR := Lib.hid (show bskR l many = (0, 1) by rw [bskR, if_neg (by simp [h1])])
    go_enter Tryd.func23, Tryd.ntmps23
    go_wp2_with (first | (go_at_call 36; refine (ret_as (validWares_any _ _ _ _ hw hl hf) h1).mono ?_; rintro e w' ⟨rfl, g, rfl⟩) | ((with_reducible refine wp_region_up (by kernel_rfl) (by kernel_rfl) ?_); (repeat (go_big_quiet_step (first | (go_at_call 36; first | exact upq_tr (ret_as (validWares_any _ _ _ _ hw hl hf) h1) | exact upq (ret_as (validWares_any _ _ _ _ hw hl hf) h1))))); refine wpQuiet_nil ?_; intro _ hw'; obtain ⟨nq, hw''⟩ := hw'; subst hw''))
    go_ret2
    exact ⟨by rw [hR.out]; rfl, UpOf.of (by repeat (first | exact Below.refl _ _ | refine bl_tr ?_ _ | refine bl_al ?_ _ | refine bl_dr ?_ | refine bl_up ?_ _ | refine Below.drew ?_ | refine bl_alloc ?_ _ | refine Below.setCell ?_ (by first | (simp; done) | (simp; omega)) _))⟩
  cases h2 : isMany l many 1000
  · have hR := Lib.hid (show bskR l many = (0, 2) by rw [bskR, if_pos h1, if_neg (by simp [h2])])
    go_enter Tryd.func23, Tryd.ntmps23
    go_wp2_with (first | (go_at_call 36; refine (ret_as (validWares_any _ _ _ _ hw hl hf) h1).mono ?_; rintro e w' ⟨rfl, g, rfl⟩) | (go_at_call 68; refine (ret_as (areMany_any _ _ _ _ _ _ _ _ (h.below (by repeat (first | exact Below.refl _ _ | refine bl_tr ?_ _ | refine bl_al ?_ _ | refine bl_dr ?_ | refine bl_up ?_ _ | refine Below.drew ?_ | refine bl_alloc ?_ _ | refine Below.setCell ?_ (by first | (simp; done) | (simp; omega)) _))) hn hl) h2).mono ?_; rintro e w' ⟨rfl, g, rfl⟩) | ((with_reducible refine wp_region_up (by kernel_rfl) (by kernel_rfl) ?_); (repeat (go_big_quiet_step (first | (go_at_call 36; first | exact upq_tr (ret_as (validWares_any _ _ _ _ hw hl hf) h1) | exact upq (ret_as (validWares_any _ _ _ _ hw hl hf) h1)) | (go_at_call 68; first | exact upq_tr (ret_as (areMany_any _ _ _ _ _ _ _ _ (h.below (by repeat (first | exact Below.refl _ _ | refine bl_tr ?_ _ | refine bl_al ?_ _ | refine bl_dr ?_ | refine bl_up ?_ _ | refine Below.drew ?_ | refine bl_alloc ?_ _ | refine Below.setCell ?_ (by first | (simp; done) | (simp; omega)) _))) hn hl) h2) | exact upq (ret_as (areMany_any _ _ _ _ _ _ _ _ (h.below (by repeat (first | exact Below.refl _ _ | refine bl_tr ?_ _ | refine bl_al ?_ _ | refine bl_dr ?_ | refine bl_up ?_ _ | refine Below.drew ?_ | refine bl_alloc ?_ _ | refine Below.setCell ?_ (by first | (simp; done) | (simp; omega)) _))) hn hl) h2))))); refine wpQuiet_nil ?_; intro _ hw'; obtain ⟨nq, hw''⟩ := hw'; subst hw''))
    go_ret2
    exact ⟨by rw [hR.out]; rfl, UpOf.of (by repeat (first | exact Below.refl _ _ | refine bl_tr ?_ _ | refine bl_al ?_ _ | refine bl_dr ?_ | refine bl_up ?_ _ | refine Below.drew ?_ | refine bl_alloc ?_ _ | refine Below.setCell ?_ (by first | (simp; done) | (simp; omega)) _))⟩
  · have hR := Lib.hid (show bskR l many = (bsk l many l.length, 0) by rw [bskR, if_pos h1, if_pos h2])
    obtain ⟨he, hm⟩ := isMany_inv h2
    obtain ⟨hl30, hv⟩ := vWares_inv h1
    have HE := Lib.hid he
    have HM := Lib.hid (fun i (hi : i < l.length) => hm i (by omega))
    have HV := Lib.hid hv
    clear he hm hv
    go_enter Tryd.func23, Tryd.ntmps23
    go_wp2_with (first | (go_at_call 36; refine (ret_as (validWares_any _ _ _ _ hw hl hf) h1).mono ?_; rintro e w' ⟨rfl, g, rfl⟩) | (go_at_call 68; refine (ret_as (areMany_any _ _ _ _ _ _ _ _ (h.below (by repeat (first | exact Below.refl _ _ | refine bl_tr ?_ _ | refine bl_al ?_ _ | refine bl_dr ?_ | refine bl_up ?_ _ | refine Below.drew ?_ | refine bl_alloc ?_ _ | refine Below.setCell ?_ (by first | (simp; done) | (simp; omega)) _))) hn hl) h2).mono ?_; rintro e w' ⟨rfl, g, rfl⟩) | (go_at_call 69; refine (basketPrice_any _ _ _ _ _ _ _ (hw.below (by repeat (first | exact Below.refl _ _ | refine bl_tr ?_ _ | refine bl_al ?_ _ | refine bl_dr ?_ | refine bl_up ?_ _ | refine Below.drew ?_ | refine bl_alloc ?_ _ | refine Below.setCell ?_ (by first | (simp; done) | (simp; omega)) _))) (h.below (by repeat (first | exact Below.refl _ _ | refine bl_tr ?_ _ | refine bl_al ?_ _ | refine bl_dr ?_ | refine bl_up ?_ _ | refine Below.drew ?_ | refine bl_alloc ?_ _ | refine Below.setCell ?_ (by first | (simp; done) | (simp; omega)) _))) hl30 HE.out HV.out HM.out).mono ?_; rintro e w' ⟨rfl, g, rfl⟩) | ((with_reducible refine wp_region_up (by kernel_rfl) (by kernel_rfl) ?_); (repeat (go_big_quiet_step (first | (go_at_call 36; first | exact upq_tr (ret_as (validWares_any _ _ _ _ hw hl hf) h1) | exact upq (ret_as (validWares_any _ _ _ _ hw hl hf) h1)) | (go_at_call 68; first | exact upq_tr (ret_as (areMany_any _ _ _ _ _ _ _ _ (h.below (by repeat (first | exact Below.refl _ _ | refine bl_tr ?_ _ | refine bl_al ?_ _ | refine bl_dr ?_ | refine bl_up ?_ _ | refine Below.drew ?_ | refine bl_alloc ?_ _ | refine Below.setCell ?_ (by first | (simp; done) | (simp; omega)) _))) hn hl) h2) | exact upq (ret_as (areMany_any _ _ _ _ _ _ _ _ (h.below (by repeat (first | exact Below.refl _ _ | refine bl_tr ?_ _ | refine bl_al ?_ _ | refine bl_dr ?_ | refine bl_up ?_ _ | refine Below.drew ?_ | refine bl_alloc ?_ _ | refine Below.setCell ?_ (by first | (simp; done) | (simp; omega)) _))) hn hl) h2)) | (go_at_call 69; first | exact upq_tr (basketPrice_any _ _ _ _ _ _ _ (hw.below (by repeat (first | exact Below.refl _ _ | refine bl_tr ?_ _ | refine bl_al ?_ _ | refine bl_dr ?_ | refine bl_up ?_ _ | refine Below.drew ?_ | refine bl_alloc ?_ _ | refine Below.setCell ?_ (by first | (simp; done) | (simp; omega)) _))) (h.below (by repeat (first | exact Below.refl _ _ | refine bl_tr ?_ _ | refine bl_al ?_ _ | refine bl_dr ?_ | refine bl_up ?_ _ | refine Below.drew ?_ | refine bl_alloc ?_ _ | refine Below.setCell ?_ (by first | (simp; done) | (simp; omega)) _))) hl30 HE.out HV.out HM.out) | exact upq (basketPrice_any _ _ _ _ _ _ _ (hw.below (by repeat (first | exact Below.refl _ _ | refine bl_tr ?_ _ | refine bl_al ?_ _ | refine bl_dr ?_ | refine bl_up ?_ _ | refine Below.drew ?_ | refine bl_alloc ?_ _ | refine Below.setCell ?_ (by first | (simp; done) | (simp; omega)) _))) (h.below (by repeat (first | exact Below.refl _ _ | refine bl_tr ?_ _ | refine bl_al ?_ _ | refine bl_dr ?_ | refine bl_up ?_ _ | refine Below.drew ?_ | refine bl_alloc ?_ _ | refine Below.setCell ?_ (by first | (simp; done) | (simp; omega)) _))) hl30 HE.out HV.out HM.out))))); refine wpQuiet_nil ?_; intro _ hw'; obtain ⟨nq, hw''⟩ := hw'; subst hw''))
    go_ret2
    exact ⟨by rw [hR.out]; rfl, UpOf.of (by repeat (first | exact Below.refl _ _ | refine bl_tr ?_ _ | refine bl_al ?_ _ | refine bl_dr ?_ | refine bl_up ?_ _ | refine Below.drew ?_ | refine bl_alloc ?_ _ | refine Below.setCell ?_ (by first | (simp; done) | (simp; omega)) _))⟩
set_option maxRecDepth 10000 in
theorem basketS_any (A B : Option Addr) (c d : Nat) (l : List Ware) (many : List Int) (w : World) (hw : WSee w A l) (h : Rds w 1 B many.length (ics many)) (hn : many.length ≤ 100000000) (hl : l.length ≤ 100000000) (hf : WBd l) :
    Calls Tryd.prog 24 #[.slice A l.length c, .slice B many.length d] w fun e w' => e = .returned (.tuple #[i64 (bskR l many).1, i64 (bskR l many).2]) ∧ UpOf w w' := by
  cases h1 : vWares l
  · have hR := Lib.hid (show bskR l many = (0, 1) by rw [bskR, if_neg (by simp [h1])])
    have hC := Lib.hid (show wantsC l many 1000 = 1 by rw [wantsC, if_neg (by simp [h1])])
    go_enter Tryd.func24, Tryd.ntmps24
    go_wp2_with (first | (go_at_call 70; refine (ret_num (l26Wants_any _ _ _ _ _ _ _ _ hw h hn hl hf) hC.out).mono ?_; rintro e w' ⟨rfl, g, rfl⟩) | ((with_reducible refine wp_region_up (by kernel_rfl) (by kernel_rfl) ?_); (repeat (go_big_quiet_step (first | (go_at_call 70; first | exact upq_tr (ret_num (l26Wants_any _ _ _ _ _ _ _ _ hw h hn hl hf) hC.out) | exact upq (ret_num (l26Wants_any _ _ _ _ _ _ _ _ hw h hn hl hf) hC.out))))); refine wpQuiet_nil ?_; intro _ hw'; obtain ⟨nq, hw''⟩ := hw'; subst hw''))
    go_ret2
    exact ⟨by rw [hR.out]; rfl, UpOf.of (by repeat (first | exact Below.refl _ _ | refine bl_tr ?_ _ | refine bl_al ?_ _ | refine bl_dr ?_ | refine bl_up ?_ _ | refine Below.drew ?_ | refine bl_alloc ?_ _ | refine Below.setCell ?_ (by first | (simp; done) | (simp; omega)) _))⟩
  cases h2 : isMany l many 1000
  · have hR := Lib.hid (show bskR l many = (0, 2) by rw [bskR, if_pos h1, if_neg (by simp [h2])])
    have hC := Lib.hid (show wantsC l many 1000 = 2 by rw [wantsC, if_pos h1, if_neg (by simp [h2])])
    go_enter Tryd.func24, Tryd.ntmps24
    go_wp2_with (first | (go_at_call 70; refine (ret_num (l26Wants_any _ _ _ _ _ _ _ _ hw h hn hl hf) hC.out).mono ?_; rintro e w' ⟨rfl, g, rfl⟩) | ((with_reducible refine wp_region_up (by kernel_rfl) (by kernel_rfl) ?_); (repeat (go_big_quiet_step (first | (go_at_call 70; first | exact upq_tr (ret_num (l26Wants_any _ _ _ _ _ _ _ _ hw h hn hl hf) hC.out) | exact upq (ret_num (l26Wants_any _ _ _ _ _ _ _ _ hw h hn hl hf) hC.out))))); refine wpQuiet_nil ?_; intro _ hw'; obtain ⟨nq, hw''⟩ := hw'; subst hw''))
    go_ret2
    exact ⟨by rw [hR.out]; rfl, UpOf.of (by repeat (first | exact Below.refl _ _ | refine bl_tr ?_ _ | refine bl_al ?_ _ | refine bl_dr ?_ | refine bl_up ?_ _ | refine Below.drew ?_ | refine bl_alloc ?_ _ | refine Below.setCell ?_ (by first | (simp; done) | (simp; omega)) _))⟩
  · have hR := Lib.hid (show bskR l many = (bsk l many l.length, 0) by rw [bskR, if_pos h1, if_pos h2])
    have hC := Lib.hid (show wantsC l many 1000 = 0 by rw [wantsC, if_pos h1, if_pos h2])
    obtain ⟨he, hm⟩ := isMany_inv h2
    obtain ⟨hl30, hv⟩ := vWares_inv h1
    have HE := Lib.hid he
    have HM := Lib.hid (fun i (hi : i < l.length) => hm i (by omega))
    have HV := Lib.hid hv
    clear he hm hv
    go_enter Tryd.func24, Tryd.ntmps24
    go_wp2_with (first | (go_at_call 70; refine (ret_num (l26Wants_any _ _ _ _ _ _ _ _ hw h hn hl hf) hC.out).mono ?_; rintro e w' ⟨rfl, g, rfl⟩) | (go_at_call 71; refine (l26Basket_any _ _ _ _ _ _ _ (hw.below (by repeat (first | exact Below.refl _ _ | refine bl_tr ?_ _ | refine bl_al ?_ _ | refine bl_dr ?_ | refine bl_up ?_ _ | refine Below.drew ?_ | refine bl_alloc ?_ _ | refine Below.setCell ?_ (by first | (simp; done) | (simp; omega)) _))) (h.below (by repeat (first | exact Below.refl _ _ | refine bl_tr ?_ _ | refine bl_al ?_ _ | refine bl_dr ?_ | refine bl_up ?_ _ | refine Below.drew ?_ | refine bl_alloc ?_ _ | refine Below.setCell ?_ (by first | (simp; done) | (simp; omega)) _))) hl30 HE.out HV.out HM.out).mono ?_; rintro e w' ⟨rfl, g, rfl⟩) | ((with_reducible refine wp_region_up (by kernel_rfl) (by kernel_rfl) ?_); (repeat (go_big_quiet_step (first | (go_at_call 70; first | exact upq_tr (ret_num (l26Wants_any _ _ _ _ _ _ _ _ hw h hn hl hf) hC.out) | exact upq (ret_num (l26Wants_any _ _ _ _ _ _ _ _ hw h hn hl hf) hC.out)) | (go_at_call 71; first | exact upq_tr (l26Basket_any _ _ _ _ _ _ _ (hw.below (by repeat (first | exact Below.refl _ _ | refine bl_tr ?_ _ | refine bl_al ?_ _ | refine bl_dr ?_ | refine bl_up ?_ _ | refine Below.drew ?_ | refine bl_alloc ?_ _ | refine Below.setCell ?_ (by first | (simp; done) | (simp; omega)) _))) (h.below (by repeat (first | exact Below.refl _ _ | refine bl_tr ?_ _ | refine bl_al ?_ _ | refine bl_dr ?_ | refine bl_up ?_ _ | refine Below.drew ?_ | refine bl_alloc ?_ _ | refine Below.setCell ?_ (by first | (simp; done) | (simp; omega)) _))) hl30 HE.out HV.out HM.out) | exact upq (l26Basket_any _ _ _ _ _ _ _ (hw.below (by repeat (first | exact Below.refl _ _ | refine bl_tr ?_ _ | refine bl_al ?_ _ | refine bl_dr ?_ | refine bl_up ?_ _ | refine Below.drew ?_ | refine bl_alloc ?_ _ | refine Below.setCell ?_ (by first | (simp; done) | (simp; omega)) _))) (h.below (by repeat (first | exact Below.refl _ _ | refine bl_tr ?_ _ | refine bl_al ?_ _ | refine bl_dr ?_ | refine bl_up ?_ _ | refine Below.drew ?_ | refine bl_alloc ?_ _ | refine Below.setCell ?_ (by first | (simp; done) | (simp; omega)) _))) hl30 HE.out HV.out HM.out))))); refine wpQuiet_nil ?_; intro _ hw'; obtain ⟨nq, hw''⟩ := hw'; subst hw''))
    go_ret2
    exact ⟨by rw [hR.out]; rfl, UpOf.of (by repeat (first | exact Below.refl _ _ | refine bl_tr ?_ _ | refine bl_al ?_ _ | refine bl_dr ?_ | refine bl_up ?_ _ | refine Below.drew ?_ | refine bl_alloc ?_ _ | refine Below.setCell ?_ (by first | (simp; done) | (simp; omega)) _))⟩
end Go.Proofs.YtiibpldfnnhhlaaDoor
namespace Go.Proofs.YtiibpldfnnhhlaaDoor
open Go.RowKit
def brkEq (x y : Ware) (k : Nat) : Bool := decide ((brk x k).fr = (brk y k).fr ∧ (brk x k).pr = (brk y k).pr)
def nmEq (s t : ByteArray) : Bool := decide (s.data.toList = t.data.toList)
theorem nmEq_no {s t : ByteArray} (h : s ≠ t) : nmEq s t = false := decide_eq_false fun e => h (ba_ext e)
theorem nmEq_yes {s t : ByteArray} (h : s = t) : nmEq s t = true := by subst h; exact decide_eq_true rfl
def sameAt (a b : List Ware) (i : Nat) : Bool := nmEq (wat a i).name (wat b i).name && decide ((wat a i).brs.length = (wat b i).brs.length) && (List.range (wat a i).brs.length).all (brkEq (wat a i) (wat b i))
def sameR (a b : List Ware) : Bool := decide (a.length = b.length) && (List.range a.length).all (sameAt a b)
theorem sameR_len {a b : List Ware} (h : ¬ a.length = b.length) : sameR a b = false := by rw [sameR, decide_eq_false h, Bool.false_and]
theorem sameR_at {a b : List Ware} {i : Nat} (hi : i < a.length) (h : sameAt a b i = false) : sameR a b = false := by
  simp only [sameR, Bool.and_eq_false_iff]
  refine .inr ?_
  rw [← Bool.not_eq_true]
  intro hc
  rw [List.all_eq_true] at hc
  have := hc i (List.mem_range.2 hi)
  simp [h] at this
theorem sameR_true {a b : List Ware} (h1 : a.length = b.length) (h : ∀ i, i < a.length → sameAt a b i = true) : sameR a b = true := by
  have : ((List.range a.length).all (sameAt a b)) = true := by
    simp only [List.all_eq_true, List.mem_range]
    exact h
  rw [sameR, decide_eq_true h1, this]; rfl
theorem sameAt_1 {a b : List Ware} {i : Nat} (h : (wat a i).name ≠ (wat b i).name) : sameAt a b i = false := by rw [sameAt, nmEq_no h]; rfl
theorem sameAt_2 {a b : List Ware} {i : Nat} (h : ¬ (wat a i).brs.length = (wat b i).brs.length) : sameAt a b i = false := by rw [sameAt, decide_eq_false h, Bool.and_false, Bool.false_and]
theorem sameAt_3 {a b : List Ware} {i k : Nat} (hk : k < (wat a i).brs.length) (h : brkEq (wat a i) (wat b i) k = false) : sameAt a b i = false := by
  simp only [sameAt, Bool.and_eq_false_iff]
  refine .inr ?_
  rw [← Bool.not_eq_true]
  intro hc
  rw [List.all_eq_true] at hc
  have := hc k (List.mem_range.2 hk)
  simp [h] at this
theorem sameAt_0 {a b : List Ware} {i : Nat} (h1 : (wat a i).name = (wat b i).name) (h2 : (wat a i).brs.length = (wat b i).brs.length) (h : ∀ k, k < (wat a i).brs.length → brkEq (wat a i) (wat b i) k = true) : sameAt a b i = true := by
  have : ((List.range (wat a i).brs.length).all (brkEq (wat a i) (wat b i))) = true := by
    simp only [List.all_eq_true, List.mem_range]
    exact h
  rw [sameAt, nmEq_yes h1, decide_eq_true h2, this]; rfl
set_option maxRecDepth 10000 in
set_option maxHeartbeats 2000000 in
theorem sameI_any (A B : Option Addr) (c d : Nat) (a b : List Ware) (w : World) (ha : WSee w A a) (hb : WSee w B b) (hn : a.length ≤ 100000000) (_hm : b.length ≤ 100000000) (hfa : WBd a) (hfb : WBd b) :
    Calls Tryd.prog 35 #[.slice A a.length c, .slice B b.length d] w fun e w' => e = .returned (.bool (sameR a b)) ∧ UpOf w w' := by
  have HFA := Lib.hid hfa
  have HFB := Lib.hid hfb
  clear hfa hfb
  cases h1 : ((a.length : Int) != (b.length : Int))
  · have hle := Lib.hid (show a.length = b.length by have h : (a.length : Int) = b.length := (by simpa using h1); omega)
    go_enter Tryd.func35, Tryd.ntmps35
    go_wp2_with (first | ((with_reducible refine wp_region_up (by kernel_rfl) (by kernel_rfl) ?_); (repeat (go_big_quiet_step (fail))); refine wpQuiet_nil ?_; intro _ hw'; obtain ⟨nq, hw''⟩ := hw'; subst hw''))
    clear h1
    go_loopw [15] (fun i wr => ∃ k : Nat, k ≤ a.length ∧ i = i64 k ∧ Hid (∀ j, j < k → sameAt a b j = true) ∧ ∃ g : Up w, wr = up w g) (fun i _ => a.length - (intOf i).toNat)
    case atStart => exact ⟨0, by omega, rfl, fun i hi => by omega, ex_up (by repeat (first | exact Below.refl _ _ | refine bl_tr ?_ _ | refine bl_al ?_ _ | refine bl_dr ?_ | refine bl_up ?_ _ | refine Below.drew ?_ | refine bl_alloc ?_ _ | refine Below.setCell ?_ (by first | (simp; done) | (simp; omega)) _))⟩
    case round =>
      obtain ⟨k, hk, rfl, hok, g, rfl⟩ := hrel
      by_cases hlt : k < a.length
      · have hlt2 : k < b.length := by have := hle.out; omega
        obtain ⟨b1, off1, A1, c1, rfl, hb1, x0, x1, r1⟩ := ware_at ha hlt
        obtain ⟨b2, off2, A2, c2, rfl, hb2, y0, y1, r2⟩ := ware_at hb hlt2
        have ha' := Lib.hid ha
        have hb' := Lib.hid hb
        have HFk := (HFA.out k hlt).2
        have HFk2 := (HFB.out k hlt2).2
        cases q1 : ((wat a k).name.toList == (wat b k).name.toList)
        rotate_left
        · have n1 := Lib.hid (text_eq (s := (wat a k).name) (t := (wat b k).name) q1)
          have q1' : ((wat a k).name.toList != (wat b k).name.toList) = false := by rw [bne, q1]; rfl
          cases q2 : (((wat a k).brs.length : Int) != ((wat b k).brs.length : Int))
          · have n2 := Lib.hid (show (wat a k).brs.length = (wat b k).brs.length by have h : ((wat a k).brs.length : Int) = (wat b k).brs.length := (by simpa using q2); omega)
            clear ha hb
            go_wp2_with (first | ((with_reducible refine wp_region_up (by kernel_rfl) (by kernel_rfl) ?_); (repeat (go_big_quiet_step (fail))); refine wpQuiet_nil ?_; intro _ hw'; obtain ⟨nq, hw''⟩ := hw'; subst hw''))
            go_loopw [43] (fun i wr => ∃ j : Nat, j ≤ (wat a k).brs.length ∧ i = i64 j ∧ Hid (∀ i, i < j → brkEq (wat a k) (wat b k) i = true) ∧ ∃ g' : Up (up w (g.al (.cells #[.string (wat a k).name, .slice A1 (wat a k).brs.length c1] 29))), wr = up w ((g.al (.cells #[.string (wat a k).name, .slice A1 (wat a k).brs.length c1] 29)).tr g')) (fun i _ => (wat a k).brs.length - (intOf i).toNat)
            case atStart => exact ⟨0, by omega, rfl, fun i hi => by omega, ex_tr (by repeat (first | exact Below.refl _ _ | refine bl_tr ?_ _ | refine bl_al ?_ _ | refine bl_dr ?_ | refine bl_up ?_ _ | refine Below.drew ?_ | refine bl_alloc ?_ _ | refine Below.setCell ?_ (by first | (simp; done) | (simp; omega)) _))⟩
            case round =>
              obtain ⟨j, hj, rfl, hbe, g', rfl⟩ := hrel
              by_cases hlt3 : j < (wat a k).brs.length
              · obtain ⟨p1, o1, rfl, hp1, hz1⟩ := brk_all r1 (by omega)
                obtain ⟨p2, o2, rfl, hp2, hz2⟩ := brk_all r2 (by have := n2.out; omega)
                obtain ⟨u0, u1⟩ := hz1 j hlt3
                obtain ⟨v0, v1⟩ := hz2 j (by have := n2.out; omega)
                have hj2 : (j : Int) < ((wat b k).brs.length : Int) := by have := n2.out; omega
                clear hz1 hz2
                cases q5 : ((brk (wat a k) j).fr == (brk (wat b k) j).fr)
                · have hf := Lib.hid (sameR_at hlt (sameAt_3 hlt3 (show brkEq (wat a k) (wat b k) j = false from decide_eq_false (fun h => by rw [beq_eq_false_iff_ne] at q5; exact q5 h.1))))
                  go_wp2_with (first | ((with_reducible refine wp_region_up (by kernel_rfl) (by kernel_rfl) ?_); (repeat (go_big_quiet_step (fail))); refine wpQuiet_nil ?_; intro _ hw'; obtain ⟨nq, hw''⟩ := hw'; subst hw''))
                  go_ret
                  exact ⟨ret_bool hf.out.symm, UpOf.of (by repeat (first | exact Below.refl _ _ | refine bl_tr ?_ _ | refine bl_al ?_ _ | refine bl_dr ?_ | refine bl_up ?_ _ | refine Below.drew ?_ | refine bl_alloc ?_ _ | refine Below.setCell ?_ (by first | (simp; done) | (simp; omega)) _))⟩
                cases q6 : ((brk (wat a k) j).pr == (brk (wat b k) j).pr)
                · have hf := Lib.hid (sameR_at hlt (sameAt_3 hlt3 (show brkEq (wat a k) (wat b k) j = false from decide_eq_false (fun h => by rw [beq_eq_false_iff_ne] at q6; exact q6 h.2))))
                  go_wp2_with (first | ((with_reducible refine wp_region_up (by kernel_rfl) (by kernel_rfl) ?_); (repeat (go_big_quiet_step (fail))); refine wpQuiet_nil ?_; intro _ hw'; obtain ⟨nq, hw''⟩ := hw'; subst hw''))
                  go_ret
                  exact ⟨ret_bool hf.out.symm, UpOf.of (by repeat (first | exact Below.refl _ _ | refine bl_tr ?_ _ | refine bl_al ?_ _ | refine bl_dr ?_ | refine bl_up ?_ _ | refine Below.drew ?_ | refine bl_alloc ?_ _ | refine Below.setCell ?_ (by first | (simp; done) | (simp; omega)) _))⟩
                · have hq := Lib.hid (show brkEq (wat a k) (wat b k) j = true from decide_eq_true ⟨by rw [beq_iff_eq] at q5; exact q5, by rw [beq_iff_eq] at q6; exact q6⟩)
                  go_wp2_with (first | ((with_reducible refine wp_region_up (by kernel_rfl) (by kernel_rfl) ?_); (repeat (go_big_quiet_step (fail))); refine wpQuiet_nil ?_; intro _ hw'; obtain ⟨nq, hw''⟩ := hw'; subst hw''))
                  go_roundw
                  case rel => have hx := lt_ext (P := fun i => brkEq (wat a k) (wat b k) i = true) hbe.out hq.out; exact ⟨j + 1, by omega, by go_num, hx, ex_tr (by repeat (first | exact Below.refl _ _ | refine bl_tr ?_ _ | refine bl_al ?_ _ | refine bl_dr ?_ | refine bl_up ?_ _ | refine Below.drew ?_ | refine bl_alloc ?_ _ | refine Below.setCell ?_ (by first | (simp; done) | (simp; omega)) _))⟩
                  case measure => (simp [intOf]; try omega)
              · obtain rfl : j = (wat a k).brs.length := by omega
                have hq := Lib.hid (sameAt_0 n1.out n2.out hbe.out)
                go_wp2_with (first | ((with_reducible refine wp_region_up (by kernel_rfl) (by kernel_rfl) ?_); (repeat (go_big_quiet_step (fail))); refine wpQuiet_nil ?_; intro _ hw'; obtain ⟨nq, hw''⟩ := hw'; subst hw''))
                go_roundw
                case rel => have hx := lt_ext (P := fun j => sameAt a b j = true) hok.out hq.out; exact ⟨k + 1, by omega, by go_num, hx, ex_up (by repeat (first | exact Below.refl _ _ | refine bl_tr ?_ _ | refine bl_al ?_ _ | refine bl_dr ?_ | refine bl_up ?_ _ | refine Below.drew ?_ | refine bl_alloc ?_ _ | refine Below.setCell ?_ (by first | (simp; done) | (simp; omega)) _))⟩
                case measure => (simp [intOf]; try omega)
          · have hf := Lib.hid (sameR_at hlt (sameAt_2 (show ¬ (wat a k).brs.length = (wat b k).brs.length by have h : ¬ ((wat a k).brs.length : Int) = (wat b k).brs.length := (by simpa using q2); omega)))
            go_wp2_with (first | ((with_reducible refine wp_region_up (by kernel_rfl) (by kernel_rfl) ?_); (repeat (go_big_quiet_step (fail))); refine wpQuiet_nil ?_; intro _ hw'; obtain ⟨nq, hw''⟩ := hw'; subst hw''))
            go_ret
            exact ⟨ret_bool hf.out.symm, UpOf.of (by repeat (first | exact Below.refl _ _ | refine bl_tr ?_ _ | refine bl_al ?_ _ | refine bl_dr ?_ | refine bl_up ?_ _ | refine Below.drew ?_ | refine bl_alloc ?_ _ | refine Below.setCell ?_ (by first | (simp; done) | (simp; omega)) _))⟩
        · have hf := Lib.hid (sameR_at hlt (sameAt_1 (text_ne (s := (wat a k).name) (t := (wat b k).name) q1)))
          have q1' : ((wat a k).name.toList != (wat b k).name.toList) = true := by rw [bne, q1]; rfl
          go_wp2_with (first | ((with_reducible refine wp_region_up (by kernel_rfl) (by kernel_rfl) ?_); (repeat (go_big_quiet_step (fail))); refine wpQuiet_nil ?_; intro _ hw'; obtain ⟨nq, hw''⟩ := hw'; subst hw''))
          go_ret
          exact ⟨ret_bool hf.out.symm, UpOf.of (by repeat (first | exact Below.refl _ _ | refine bl_tr ?_ _ | refine bl_al ?_ _ | refine bl_dr ?_ | refine bl_up ?_ _ | refine Below.drew ?_ | refine bl_alloc ?_ _ | refine Below.setCell ?_ (by first | (simp; done) | (simp; omega)) _))⟩
      · obtain rfl : k = a.length := by omega
        have hf := Lib.hid (sameR_true hle.out hok.out)
        go_wp2_with (first | ((with_reducible refine wp_region_up (by kernel_rfl) (by kernel_rfl) ?_); (repeat (go_big_quiet_step (fail))); refine wpQuiet_nil ?_; intro _ hw'; obtain ⟨nq, hw''⟩ := hw'; subst hw''))
        go_ret
        exact ⟨ret_bool hf.out.symm, UpOf.of (by repeat (first | exact Below.refl _ _ | refine bl_tr ?_ _ | refine bl_al ?_ _ | refine bl_dr ?_ | refine bl_up ?_ _ | refine Below.drew ?_ | refine bl_alloc ?_ _ | refine Below.setCell ?_ (by first | (simp; done) | (simp; omega)) _))⟩
  · have hf := Lib.hid (sameR_len (a := a) (b := b) (show ¬ a.length = b.length by have h : ¬ (a.length : Int) = b.length := (by simpa using h1); omega))
    go_enter Tryd.func35, Tryd.ntmps35
    go_wp2_with (first | ((with_reducible refine wp_region_up (by kernel_rfl) (by kernel_rfl) ?_); (repeat (go_big_quiet_step (fail))); refine wpQuiet_nil ?_; intro _ hw'; obtain ⟨nq, hw''⟩ := hw'; subst hw''))
    go_ret
    exact ⟨ret_bool hf.out.symm, UpOf.of (by repeat (first | exact Below.refl _ _ | refine bl_tr ?_ _ | refine bl_al ?_ _ | refine bl_dr ?_ | refine bl_up ?_ _ | refine Below.drew ?_ | refine bl_alloc ?_ _ | refine Below.setCell ?_ (by first | (simp; done) | (simp; omega)) _))⟩
set_option maxRecDepth 10000 in
set_option maxHeartbeats 2000000 in
theorem sameS_any (A B : Option Addr) (c d : Nat) (a b : List Ware) (w : World) (ha : WSee w A a) (hb : WSee w B b) (hn : a.length ≤ 100000000) (_hm : b.length ≤ 100000000) (hfa : WBd a) (hfb : WBd b) :
    Calls Tryd.prog 33 #[.slice A a.length c, .slice B b.length d] w fun e w' => e = .returned (.bool (sameR a b)) ∧ UpOf w w' := by
  have HFA := Lib.hid hfa
  have HFB := Lib.hid hfb
  clear hfa hfb
  cases h1 : ((a.length : Int) != (b.length : Int))
  · have hle := Lib.hid (show a.length = b.length by have h : (a.length : Int) = b.length := (by simpa using h1); omega)
    go_enter Tryd.func33, Tryd.ntmps33
    go_wp2_with (first | ((with_reducible refine wp_region_up (by kernel_rfl) (by kernel_rfl) ?_); (repeat (go_big_quiet_step (fail))); refine wpQuiet_nil ?_; intro _ hw'; obtain ⟨nq, hw''⟩ := hw'; subst hw''))
    clear h1
    go_loopw [5] (fun i wr => ∃ k : Nat, k ≤ a.length ∧ i = i64 k ∧ Hid (∀ j, j < k → sameAt a b j = true) ∧ ∃ g : Up w, wr = up w g) (fun i _ => a.length - (intOf i).toNat)
    case atStart => exact ⟨0, by omega, rfl, fun i hi => by omega, ex_up (by repeat (first | exact Below.refl _ _ | refine bl_tr ?_ _ | refine bl_al ?_ _ | refine bl_dr ?_ | refine bl_up ?_ _ | refine Below.drew ?_ | refine bl_alloc ?_ _ | refine Below.setCell ?_ (by first | (simp; done) | (simp; omega)) _))⟩
    case round =>
      obtain ⟨k, hk, rfl, hok, g, rfl⟩ := hrel
      by_cases hlt : k < a.length
      · have hlt2 : k < b.length := by have := hle.out; omega
        obtain ⟨b1, off1, A1, c1, rfl, hb1, x0, x1, r1⟩ := ware_at ha hlt
        obtain ⟨b2, off2, A2, c2, rfl, hb2, y0, y1, r2⟩ := ware_at hb hlt2
        have ha' := Lib.hid ha
        have hb' := Lib.hid hb
        have HFk := (HFA.out k hlt).2
        have HFk2 := (HFB.out k hlt2).2
        cases q1 : ((wat a k).name.toList == (wat b k).name.toList)
        rotate_left
        · have n1 := Lib.hid (text_eq (s := (wat a k).name) (t := (wat b k).name) q1)
          have q1' : ((wat a k).name.toList != (wat b k).name.toList) = false := by rw [bne, q1]; rfl
          cases q2 : (((wat a k).brs.length : Int) != ((wat b k).brs.length : Int))
          · have n2 := Lib.hid (show (wat a k).brs.length = (wat b k).brs.length by have h : ((wat a k).brs.length : Int) = (wat b k).brs.length := (by simpa using q2); omega)
            clear ha hb
            go_wp2_with (first | ((with_reducible refine wp_region_up (by kernel_rfl) (by kernel_rfl) ?_); (repeat (go_big_quiet_step (fail))); refine wpQuiet_nil ?_; intro _ hw'; obtain ⟨nq, hw''⟩ := hw'; subst hw''))
            go_loopw [6] (fun i wr => ∃ j : Nat, j ≤ (wat a k).brs.length ∧ i = i64 j ∧ Hid (∀ i, i < j → brkEq (wat a k) (wat b k) i = true) ∧ ∃ g' : Up w, wr = up w g') (fun i _ => (wat a k).brs.length - (intOf i).toNat)
            case atStart => exact ⟨0, by omega, rfl, fun i hi => by omega, ex_up (by repeat (first | exact Below.refl _ _ | refine bl_tr ?_ _ | refine bl_al ?_ _ | refine bl_dr ?_ | refine bl_up ?_ _ | refine Below.drew ?_ | refine bl_alloc ?_ _ | refine Below.setCell ?_ (by first | (simp; done) | (simp; omega)) _))⟩
            case round =>
              obtain ⟨j, hj, rfl, hbe, g', rfl⟩ := hrel
              by_cases hlt3 : j < (wat a k).brs.length
              · obtain ⟨p1, o1, rfl, hp1, hz1⟩ := brk_all r1 (by omega)
                obtain ⟨p2, o2, rfl, hp2, hz2⟩ := brk_all r2 (by have := n2.out; omega)
                obtain ⟨u0, u1⟩ := hz1 j hlt3
                obtain ⟨v0, v1⟩ := hz2 j (by have := n2.out; omega)
                have hj2 : (j : Int) < ((wat b k).brs.length : Int) := by have := n2.out; omega
                clear hz1 hz2
                cases q5 : ((brk (wat a k) j).fr == (brk (wat b k) j).fr)
                · have hf := Lib.hid (sameR_at hlt (sameAt_3 hlt3 (show brkEq (wat a k) (wat b k) j = false from decide_eq_false (fun h => by rw [beq_eq_false_iff_ne] at q5; exact q5 h.1))))
                  go_wp2_with (first | ((with_reducible refine wp_region_up (by kernel_rfl) (by kernel_rfl) ?_); (repeat (go_big_quiet_step (fail))); refine wpQuiet_nil ?_; intro _ hw'; obtain ⟨nq, hw''⟩ := hw'; subst hw''))
                  go_ret
                  exact ⟨ret_bool hf.out.symm, UpOf.of (by repeat (first | exact Below.refl _ _ | refine bl_tr ?_ _ | refine bl_al ?_ _ | refine bl_dr ?_ | refine bl_up ?_ _ | refine Below.drew ?_ | refine bl_alloc ?_ _ | refine Below.setCell ?_ (by first | (simp; done) | (simp; omega)) _))⟩
                cases q6 : ((brk (wat a k) j).pr == (brk (wat b k) j).pr)
                · have hf := Lib.hid (sameR_at hlt (sameAt_3 hlt3 (show brkEq (wat a k) (wat b k) j = false from decide_eq_false (fun h => by rw [beq_eq_false_iff_ne] at q6; exact q6 h.2))))
                  go_wp2_with (first | ((with_reducible refine wp_region_up (by kernel_rfl) (by kernel_rfl) ?_); (repeat (go_big_quiet_step (fail))); refine wpQuiet_nil ?_; intro _ hw'; obtain ⟨nq, hw''⟩ := hw'; subst hw''))
                  go_ret
                  exact ⟨ret_bool hf.out.symm, UpOf.of (by repeat (first | exact Below.refl _ _ | refine bl_tr ?_ _ | refine bl_al ?_ _ | refine bl_dr ?_ | refine bl_up ?_ _ | refine Below.drew ?_ | refine bl_alloc ?_ _ | refine Below.setCell ?_ (by first | (simp; done) | (simp; omega)) _))⟩
                · have hq := Lib.hid (show brkEq (wat a k) (wat b k) j = true from decide_eq_true ⟨by rw [beq_iff_eq] at q5; exact q5, by rw [beq_iff_eq] at q6; exact q6⟩)
                  go_wp2_with (first | ((with_reducible refine wp_region_up (by kernel_rfl) (by kernel_rfl) ?_); (repeat (go_big_quiet_step (fail))); refine wpQuiet_nil ?_; intro _ hw'; obtain ⟨nq, hw''⟩ := hw'; subst hw''))
                  go_roundw
                  case rel => have hx := lt_ext (P := fun i => brkEq (wat a k) (wat b k) i = true) hbe.out hq.out; exact ⟨j + 1, by omega, by go_num, hx, ex_up (by repeat (first | exact Below.refl _ _ | refine bl_tr ?_ _ | refine bl_al ?_ _ | refine bl_dr ?_ | refine bl_up ?_ _ | refine Below.drew ?_ | refine bl_alloc ?_ _ | refine Below.setCell ?_ (by first | (simp; done) | (simp; omega)) _))⟩
                  case measure => (simp [intOf]; try omega)
              · obtain rfl : j = (wat a k).brs.length := by omega
                have hq := Lib.hid (sameAt_0 n1.out n2.out hbe.out)
                go_wp2_with (first | ((with_reducible refine wp_region_up (by kernel_rfl) (by kernel_rfl) ?_); (repeat (go_big_quiet_step (fail))); refine wpQuiet_nil ?_; intro _ hw'; obtain ⟨nq, hw''⟩ := hw'; subst hw''))
                go_roundw
                case rel => have hx := lt_ext (P := fun j => sameAt a b j = true) hok.out hq.out; exact ⟨k + 1, by omega, by go_num, hx, ex_up (by repeat (first | exact Below.refl _ _ | refine bl_tr ?_ _ | refine bl_al ?_ _ | refine bl_dr ?_ | refine bl_up ?_ _ | refine Below.drew ?_ | refine bl_alloc ?_ _ | refine Below.setCell ?_ (by first | (simp; done) | (simp; omega)) _))⟩
                case measure => (simp [intOf]; try omega)
          · have hf := Lib.hid (sameR_at hlt (sameAt_2 (show ¬ (wat a k).brs.length = (wat b k).brs.length by have h : ¬ ((wat a k).brs.length : Int) = (wat b k).brs.length := (by simpa using q2); omega)))
            go_wp2_with (first | ((with_reducible refine wp_region_up (by kernel_rfl) (by kernel_rfl) ?_); (repeat (go_big_quiet_step (fail))); refine wpQuiet_nil ?_; intro _ hw'; obtain ⟨nq, hw''⟩ := hw'; subst hw''))
            go_ret
            exact ⟨ret_bool hf.out.symm, UpOf.of (by repeat (first | exact Below.refl _ _ | refine bl_tr ?_ _ | refine bl_al ?_ _ | refine bl_dr ?_ | refine bl_up ?_ _ | refine Below.drew ?_ | refine bl_alloc ?_ _ | refine Below.setCell ?_ (by first | (simp; done) | (simp; omega)) _))⟩
        · have hf := Lib.hid (sameR_at hlt (sameAt_1 (text_ne (s := (wat a k).name) (t := (wat b k).name) q1)))
          have q1' : ((wat a k).name.toList != (wat b k).name.toList) = true := by rw [bne, q1]; rfl
          go_wp2_with (first | ((with_reducible refine wp_region_up (by kernel_rfl) (by kernel_rfl) ?_); (repeat (go_big_quiet_step (fail))); refine wpQuiet_nil ?_; intro _ hw'; obtain ⟨nq, hw''⟩ := hw'; subst hw''))
          go_ret
          exact ⟨ret_bool hf.out.symm, UpOf.of (by repeat (first | exact Below.refl _ _ | refine bl_tr ?_ _ | refine bl_al ?_ _ | refine bl_dr ?_ | refine bl_up ?_ _ | refine Below.drew ?_ | refine bl_alloc ?_ _ | refine Below.setCell ?_ (by first | (simp; done) | (simp; omega)) _))⟩
      · obtain rfl : k = a.length := by omega
        have hf := Lib.hid (sameR_true hle.out hok.out)
        go_wp2_with (first | ((with_reducible refine wp_region_up (by kernel_rfl) (by kernel_rfl) ?_); (repeat (go_big_quiet_step (fail))); refine wpQuiet_nil ?_; intro _ hw'; obtain ⟨nq, hw''⟩ := hw'; subst hw''))
        go_ret
        exact ⟨ret_bool hf.out.symm, UpOf.of (by repeat (first | exact Below.refl _ _ | refine bl_tr ?_ _ | refine bl_al ?_ _ | refine bl_dr ?_ | refine bl_up ?_ _ | refine Below.drew ?_ | refine bl_alloc ?_ _ | refine Below.setCell ?_ (by first | (simp; done) | (simp; omega)) _))⟩
  · have hf := Lib.hid (sameR_len (a := a) (b := b) (show ¬ a.length = b.length by have h : ¬ (a.length : Int) = b.length := (by simpa using h1); omega))
    go_enter Tryd.func33, Tryd.ntmps33
    go_wp2_with (first | ((with_reducible refine wp_region_up (by kernel_rfl) (by kernel_rfl) ?_); (repeat (go_big_quiet_step (fail))); refine wpQuiet_nil ?_; intro _ hw'; obtain ⟨nq, hw''⟩ := hw'; subst hw''))
    go_ret
    exact ⟨ret_bool hf.out.symm, UpOf.of (by repeat (first | exact Below.refl _ _ | refine bl_tr ?_ _ | refine bl_al ?_ _ | refine bl_dr ?_ | refine bl_up ?_ _ | refine Below.drew ?_ | refine bl_alloc ?_ _ | refine Below.setCell ?_ (by first | (simp; done) | (simp; omega)) _))⟩
end Go.Proofs.YtiibpldfnnhhlaaDoor
namespace Go.Proofs.YtiibpldfnnhhlaaDoor
open Go.RowKit
def dec (n : Int) : ByteArray := ⟨(Lib.itoa n).toArray⟩
theorem dec_list (n : Int) : (dec n).data.toList = Lib.itoa n := by simp [dec]
theorem bsz (s : ByteArray) : s.data.toList.length = s.size := rfl
theorem dec_size (n : Int) : (dec n).size = (Lib.itoa n).length := by rw [← bsz, dec_list]
theorem dec_len {n : Int} (h0 : -9223372036854775808 ≤ n) (h1 : n ≤ 9223372036854775807) : (dec n).size ≤ 21 := by
  rw [dec_size]; exact Lib.itoa_length_le n h0 h1
/-- the digits of u, none for 0 -/
def decGo (u : Nat) : List UInt8 := if u = 0 then [] else Lib.decDigits u
theorem decGo_zero : decGo 0 = [] := rfl
theorem decGo_step {u : Nat} (h : 0 < u) : decGo u = decGo (u / 10) ++ [UInt8.ofNat (48 + u % 10)] := by
  rw [decGo, if_neg (by omega), Lib.decDigits]
  split
  · rename_i h2
    rw [decGo, if_pos (by omega), Nat.mod_eq_of_lt h2]; rfl
  · rename_i h2
    rw [decGo, if_neg (by omega)]
theorem decGo_len {u : Nat} (h : u ≤ 9223372036854775808) : (decGo u).length ≤ 20 := by
  unfold decGo
  split
  · simp
  · rw [Lib.decDigits_length]; exact Lib.nDigits_le20 u (by omega)
theorem dec_pos {u : Nat} (h : 0 < u) : dec (u : Int) = ⟨(decGo u).toArray⟩ := by
  rw [dec, Lib.itoa_nonneg, decGo, if_neg (by omega)]
theorem dec_zero : dec 0 = ⟨#[48]⟩ := by
  have : dec ((0 : Nat) : Int) = ⟨#[48]⟩ := by rw [dec, Lib.itoa_nonneg, Lib.decDigits]; rfl
  exact this
theorem dec_neg {u : Nat} (h : 0 < u) : dec (-(u : Int)) = ⟨#[45]⟩ ++ ⟨(decGo u).toArray⟩ := by
  rw [dec, Lib.itoa_neg u h, decGo, if_neg (by omega)]
  apply ba_ext
  simp [ByteArray.data_append]
end Go.Proofs.YtiibpldfnnhhlaaDoor
namespace Go.Proofs.YtiibpldfnnhhlaaDoor
open Go.RowKit
/-- the laid table -/
def Tab (w : World) : Prop := Lib.TabIs Tryd.prog w "internal/strconv.uint64pow10" .u64 Lib.pow10Tab
theorem Tab.below {w w' : World} (h : Tab w) (hb : Below w.heap.size w w') : Tab w' := by
  unfold Tab Lib.TabIs World.var? at *
  generalize Tryd.prog.globalNamed "internal/strconv.uint64pow10" = o at *
  cases o with
  | none => cases h
  | some g =>
    simp only [Option.bind_some] at h ⊢
    have hlt : g < w.heap.size := by
      rcases Nat.lt_or_ge g w.heap.size with h' | h'
      · exact h'
      · rw [Array.getElem?_eq_none h'] at h; cases h
    rw [hb.block g hlt]
    exact h
theorem below_grow (w : World) (k : Nat) (os : Array Obj) : Below w.heap.size w (Sort.grow (w.drewN k) os) :=
  ⟨rfl, rfl, rfl, by simp [Sort.grow, World.drewN], fun i hi => by
    simp [Sort.grow, World.drewN]
    rw [Array.getElem?_append_left (by simpa using hi)]⟩
theorem decI_any (n : Int) (w : World) (h0 : -9223372036854775808 ≤ n) (h1 : n ≤ 9223372036854775807) (ht : Tab w) :
    Calls Tryd.prog 44 #[i64 n] w fun e w' => e = .returned (.string (dec n)) ∧ UpOf w w' := by
  go_enter Tryd.func44, Tryd.ntmps44
  go_wp2_with fail
  refine (Tryd.strconv_FormatInt_10 n h0 h1 _ ht).mono ?_
  rintro e w' ⟨rfl, k, os, rfl⟩
  go_wp2_with fail
  go_ret
  exact ⟨rfl, UpOf.of (below_grow w k os)⟩
end Go.Proofs.YtiibpldfnnhhlaaDoor
namespace Go.Proofs.YtiibpldfnnhhlaaDoor
open Go.RowKit
theorem wpl_appS {P : Program} {w : World} {ops : Array Oper} {rest : List Oper} {o : Oper} {a : Act} {Q : Exit → Act → World → Prop} (hgd : o.guard = none) (sl x : Operand) (t u : TypeId)
    (ho : o.op = .call { callee := .builtin .append, args := #[sl, x], argTypes := #[t, u] })
    (W : World) (base : Nat) (e : TypeId) (el : ElemOf P t e (.int .u8 0) 1 1) (hu : P.underlying u = some .string)
    (A : Option Addr) (c : Nat) (l : List UInt8) (hs : a.eval sl = .slice A l.length c) (hown : w.ownsRow base e 1 (.slice A l.length c) l.length (Lib.byteCells l)) (s : ByteArray) (hx : a.eval x = .string s)
    (h63 : l.length + s.size ≤ 100000000) (hbase : base ≤ w.heap.size) (hW : Below W.heap.size W w) (hWb : W.heap.size ≤ base)
    (h : ∀ A' c' (g : Up W), (up W g).ownsRow base e 1 (.slice A' (l ++ s.data.toList).length c') (l ++ s.data.toList).length (Lib.byteCells (l ++ s.data.toList)) → wpList P ops Q rest (a.put o.dst (.slice A' (l ++ s.data.toList).length c')) (up W g)) : wpList P ops Q (o :: rest) a w := by
  obtain ⟨ht, _, _, i, hi, hz, hsize, hby⟩ := el
  refine Lib.wpList_append_own_string (w := w) hgd sl x t u ho base e i ht hu hi hz hsize hby _ _ _ hs hown s hx (by unfold maxLen; omega) (by omega) hbase fun v' w' h2 h3 _ => ?_
  obtain ⟨g, rfl⟩ := own_grown hown hW hWb h3
  obtain ⟨A', c', rfl⟩ := own_shape h2
  have e1 : l.length + s.size = (l ++ s.data.toList).length := by rw [List.length_append]; rfl
  have e2 : Lib.byteCells l ++ Lib.strCells s = Lib.byteCells (l ++ s.data.toList) := by
    rw [Lib.strCells_eq]; simp [Lib.byteCells]
  rw [e1, e2] at h2
  rw [e1]
  exact h A' c' g h2
theorem byteCells_one (l : List UInt8) : ∀ u ∈ Lib.byteCells l, u.oneCell' = true := by
  intro u hu
  simp only [Lib.byteCells, List.mem_map] at hu
  obtain ⟨b, _, rfl⟩ := hu
  rfl
theorem el_byte : ElemOf Tryd.prog 37 5 (.int .u8 0) 1 1 := elem_of Tryd.underlying37 (by kernel_rfl) rfl (by omega)
set_option maxRecDepth 100000 in
/-- bytes of the call's own, as a text -/
theorem conv_own {w w1 : World} {base n c : Nat} {A : Option Addr} {l : List UInt8} (h : w.ownsRow base 5 1 (.slice A n c) n (Lib.byteCells l)) (hn : n = l.length) (hb : Below w.heap.size w w1) :
    (convert 37 9 (.slice A n c)).run Tryd.prog w1 = .ok (.string ⟨l.toArray⟩) w1 := by
  subst hn
  have h1 := own_below h hb
  rcases h1.2 with ⟨hv, h0⟩ | ⟨g, cap, cur, hv, _⟩
  · injection hv with hA _ hc
    subst hA hc
    have hl : l = [] := List.eq_nil_of_length_eq_zero h0
    subst hl
    exact run_convert_bytes_nil _ 37 5 Tryd.underlying37 Tryd.underlying5 0 0 _ Tryd.underlying9
  · injection hv with hA hc
    subst hA
    exact run_convert_bytes_back w1 _ _ 5 ⟨g, 0, none⟩ c l Tryd.underlying37 Tryd.underlying5 Tryd.underlying9 (fun j hj => h1.cells (g := g) rfl j _ (by simp [Lib.byteCells, hj]))
end Go.Proofs.YtiibpldfnnhhlaaDoor
namespace Go.Proofs.YtiibpldfnnhhlaaDoor
open Go.RowKit
theorem dig_val (u : Nat) : [Value.int .u8 (48 + (u : Int) % 10)] = Lib.byteCells [UInt8.ofNat (48 + u % 10)] := by
  simp [Lib.byteCells]
  omega
theorem dig_val0 {u : Nat} (h : (u : Int) % 10 = 0) : [Value.int .u8 48] = Lib.byteCells [UInt8.ofNat (48 + u % 10)] := by
  have : u % 10 = 0 := by omega
  rw [this]
  rfl
theorem byteCells_snoc (a b : List UInt8) : Lib.byteCells a ++ Lib.byteCells b = Lib.byteCells (a ++ b) := by simp [Lib.byteCells]
set_option maxRecDepth 10000 in
set_option maxHeartbeats 2000000 in
theorem l01Dec_any (n : Int) (w : World) (h0 : -9223372036854775808 ≤ n) (h1 : n ≤ 9223372036854775807) :
    Calls Tryd.prog 78 #[i64 n] w fun e w' => e = .returned (.string (dec n)) ∧ UpOf w w' := by
  have hOwn := Lib.hid (World.ownsRow_lit (base := w.heap.size) (e := 5) (size := 1) w #[] 0 (Nat.le_refl _) (by unfold maxLen; omega) rfl)
  rcases Int.lt_or_le n 0 with hn | hn
  · obtain ⟨N, rfl⟩ : ∃ N : Nat, n = -(N : Int) := ⟨n.natAbs, by omega⟩
    have hN0 : 0 < N := by omega
    have hD := Lib.hid (dec_neg hN0)
    go_enter Tryd.func78, Tryd.ntmps78
    go_wp2_with (first | ((with_reducible refine wp_region_up (by kernel_rfl) (by kernel_rfl) ?_); (repeat (go_big_quiet_step (fail))); refine wpQuiet_nil ?_; intro _ hw'; obtain ⟨nq, hw''⟩ := hw'; subst hw''))
    go_loopw [3, 4] (fun out k wr => ∃ (u : Nat) (l : List UInt8) (A : Option Addr) (c : Nat), k = i64 (-(u : Int)) ∧ out = .slice A l.length c ∧ u ≤ N ∧ Hid (decGo N = decGo u ++ l) ∧ wr.ownsRow w.heap.size 5 1 (.slice A l.length c) l.length (Lib.byteCells l) ∧ ∃ g : Up w, wr = up w g) (fun _ k _ => (intOf k).natAbs)
    case atStart => exact ⟨N, [], _, _, rfl, rfl, Nat.le_refl _, by show decGo N = decGo N ++ []; simp, hOwn.out, ex_up (by repeat (first | exact Below.refl _ _ | refine bl_tr ?_ _ | refine bl_al ?_ _ | refine bl_dr ?_ | refine bl_up ?_ _ | refine Below.drew ?_ | refine bl_alloc ?_ _ | refine Below.setCell ?_ (by first | (simp; done) | (simp; omega)) _))⟩
    case round =>
      obtain ⟨u, l, A, c, rfl, rfl, huN, HN, hown, g, rfl⟩ := hrel
      by_cases hu : 0 < u
      · have hne : ((-(u : Int)) != 0) = true := by simp; omega
        have hm10 : (-(u : Int)).tmod 10 = -((u : Int) % 10) := by rw [Int.neg_tmod, Int.tmod_eq_emod_of_nonneg (by omega)]
        have hd10 : (-(u : Int)).tdiv 10 = -((u : Int) / 10) := by rw [Int.neg_tdiv, Int.tdiv_eq_ediv_of_nonneg (by omega)]
        by_cases r0 : (u : Int) % 10 = 0
        · have hl20 : l.length + 1 ≤ 20 := by
            have h1 := decGo_len (u := N) (by omega)
            rw [HN.out, decGo_step hu] at h1
            simp only [List.length_append, List.length_singleton] at h1
            omega
          have HN2 := Lib.hid (show decGo N = decGo (u / 10) ++ (UInt8.ofNat (48 + u % 10) :: l) by rw [HN.out, decGo_step hu]; simp)
          have HO := Lib.hid hown
          clear hown
          have hnew : (up w (g.al (.cells #[.int .u8 (48)] 5))).ownsRow w.heap.size 5 1 (.slice (some ⟨(up w g).heap.size, 0, none⟩) 1 1) 1 [.int .u8 (48)] := World.ownsRow_lit (up w g) #[.int .u8 (48)] 1 (up_below w g).size (by unfold maxLen; omega) rfl
          have HNEW := Lib.hid hnew
          clear hnew
          go_wp2_with (first | (at_builtin; go_must (refine wpl_appU rfl _ _ 37 rfl w w.heap.size 5 _ 1 1 el_byte (.slice (some ⟨(up w g).heap.size, 0, none⟩) 1 1) 1 [.int .u8 (48)] rfl HNEW.out A l.length c (Lib.byteCells l) rfl ((Rds.of_own HO.out).below (by repeat (first | exact Below.refl _ _ | refine bl_tr ?_ _ | refine bl_al ?_ _ | refine bl_dr ?_ | refine bl_up ?_ _ | refine Below.drew ?_ | refine bl_alloc ?_ _ | refine Below.setCell ?_ (by first | (simp; done) | (simp; omega)) _))) (byteCells_one _) (by unfold maxLen; omega) (by omega) (up_below w _).size (by repeat (first | exact Below.refl _ _ | refine bl_tr ?_ _ | refine bl_al ?_ _ | refine bl_dr ?_ | refine bl_up ?_ _ | refine Below.drew ?_ | refine bl_alloc ?_ _ | refine Below.setCell ?_ (by first | (simp; done) | (simp; omega)) _)) (Nat.le_refl _) ?_; intro A2 c2 g2 o2)) | ((with_reducible refine wp_region_up (by kernel_rfl) (by kernel_rfl) ?_); (repeat (go_big_quiet_step (fail))); refine wpQuiet_nil ?_; intro _ hw'; obtain ⟨nq, hw''⟩ := hw'; subst hw''))
          all_goals go_roundw
          case rel =>
            refine ⟨u / 10, UInt8.ofNat (48 + u % 10) :: l, A2, c2, by go_num, congrArg (fun n => Value.slice A2 n c2) (by simp; omega), by omega, HN2.out, ?_, _, rfl⟩
            rw [dig_val0 r0, byteCells_snoc, show 1 + l.length = (UInt8.ofNat (48 + u % 10) :: l).length by simp; omega] at o2
            exact o2
          case measure => (simp [intOf]; omega)
        · have r1 : -((u : Int) % 10) < 0 := by omega
          have hl20 : l.length + 1 ≤ 20 := by
            have h1 := decGo_len (u := N) (by omega)
            rw [HN.out, decGo_step hu] at h1
            simp only [List.length_append, List.length_singleton] at h1
            omega
          have HN2 := Lib.hid (show decGo N = decGo (u / 10) ++ (UInt8.ofNat (48 + u % 10) :: l) by rw [HN.out, decGo_step hu]; simp)
          have HO := Lib.hid hown
          clear hown
          have hnew : (up w (g.al (.cells #[.int .u8 (48 + (u : Int) % 10)] 5))).ownsRow w.heap.size 5 1 (.slice (some ⟨(up w g).heap.size, 0, none⟩) 1 1) 1 [.int .u8 (48 + (u : Int) % 10)] := World.ownsRow_lit (up w g) #[.int .u8 (48 + (u : Int) % 10)] 1 (up_below w g).size (by unfold maxLen; omega) rfl
          have HNEW := Lib.hid hnew
          clear hnew
          go_wp2_with (first | (at_builtin; go_must (refine wpl_appU rfl _ _ 37 rfl w w.heap.size 5 _ 1 1 el_byte (.slice (some ⟨(up w g).heap.size, 0, none⟩) 1 1) 1 [.int .u8 (48 + (u : Int) % 10)] rfl HNEW.out A l.length c (Lib.byteCells l) rfl ((Rds.of_own HO.out).below (by repeat (first | exact Below.refl _ _ | refine bl_tr ?_ _ | refine bl_al ?_ _ | refine bl_dr ?_ | refine bl_up ?_ _ | refine Below.drew ?_ | refine bl_alloc ?_ _ | refine Below.setCell ?_ (by first | (simp; done) | (simp; omega)) _))) (byteCells_one _) (by unfold maxLen; omega) (by omega) (up_below w _).size (by repeat (first | exact Below.refl _ _ | refine bl_tr ?_ _ | refine bl_al ?_ _ | refine bl_dr ?_ | refine bl_up ?_ _ | refine Below.drew ?_ | refine bl_alloc ?_ _ | refine Below.setCell ?_ (by first | (simp; done) | (simp; omega)) _)) (Nat.le_refl _) ?_; intro A2 c2 g2 o2)) | ((with_reducible refine wp_region_up (by kernel_rfl) (by kernel_rfl) ?_); (repeat (go_big_quiet_step (fail))); refine wpQuiet_nil ?_; intro _ hw'; obtain ⟨nq, hw''⟩ := hw'; subst hw''))
          all_goals go_roundw
          case rel =>
            refine ⟨u / 10, UInt8.ofNat (48 + u % 10) :: l, A2, c2, by go_num, congrArg (fun n => Value.slice A2 n c2) (by simp; omega), by omega, HN2.out, ?_, _, rfl⟩
            rw [dig_val, byteCells_snoc, show 1 + l.length = (UInt8.ofNat (48 + u % 10) :: l).length by simp; omega] at o2
            exact o2
          case measure => (simp [intOf]; omega)
      · obtain rfl : u = 0 := by omega
        have hl : l.length ≠ 0 := by
          intro h0
          have h1 := HN.out
          rw [List.eq_nil_of_length_eq_zero h0, decGo_zero, decGo_step hN0] at h1
          simp at h1
        have hl2 : ((l.length : Int) == 0) = false := by rw [beq_eq_false_iff_ne]; omega
        have hcv := conv_own hown rfl (Below.refl _ _)
        have hN2 := Lib.hid (show decGo N = l by rw [HN.out]; rfl)
        have hl20 : l.length ≤ 20 := by rw [← hN2.out]; exact decGo_len (by omega)
        go_wp2_with (first | ((with_reducible refine wp_region_up (by kernel_rfl) (by kernel_rfl) ?_); (repeat (go_big_quiet_step (fail))); refine wpQuiet_nil ?_; intro _ hw'; obtain ⟨nq, hw''⟩ := hw'; subst hw''))
        go_ret
        rw [hD.out, hN2.out]
        exact ⟨rfl, UpOf.of (by repeat (first | exact Below.refl _ _ | refine bl_tr ?_ _ | refine bl_al ?_ _ | refine bl_dr ?_ | refine bl_up ?_ _ | refine Below.drew ?_ | refine bl_alloc ?_ _ | refine Below.setCell ?_ (by first | (simp; done) | (simp; omega)) _))⟩
  · obtain ⟨N, rfl⟩ : ∃ N : Nat, n = (N : Int) := ⟨n.toNat, by omega⟩
    go_enter Tryd.func78, Tryd.ntmps78
    go_wp2_with (first | ((with_reducible refine wp_region_up (by kernel_rfl) (by kernel_rfl) ?_); (repeat (go_big_quiet_step (fail))); refine wpQuiet_nil ?_; intro _ hw'; obtain ⟨nq, hw''⟩ := hw'; subst hw''))
    go_loopw [3, 4] (fun out k wr => ∃ (u : Nat) (l : List UInt8) (A : Option Addr) (c : Nat), k = i64 u ∧ out = .slice A l.length c ∧ u ≤ N ∧ Hid (decGo N = decGo u ++ l) ∧ wr.ownsRow w.heap.size 5 1 (.slice A l.length c) l.length (Lib.byteCells l) ∧ ∃ g : Up w, wr = up w g) (fun _ k _ => (intOf k).toNat)
    case atStart => exact ⟨N, [], _, _, rfl, rfl, Nat.le_refl _, by show decGo N = decGo N ++ []; simp, hOwn.out, ex_up (by repeat (first | exact Below.refl _ _ | refine bl_tr ?_ _ | refine bl_al ?_ _ | refine bl_dr ?_ | refine bl_up ?_ _ | refine Below.drew ?_ | refine bl_alloc ?_ _ | refine Below.setCell ?_ (by first | (simp; done) | (simp; omega)) _))⟩
    case round =>
      obtain ⟨u, l, A, c, rfl, rfl, huN, HN, hown, g, rfl⟩ := hrel
      by_cases hu : 0 < u
      · have hne : ((u : Int) != 0) = true := by simp; omega
        have hl20 : l.length + 1 ≤ 20 := by
          have h1 := decGo_len (u := N) (by omega)
          rw [HN.out, decGo_step hu] at h1
          simp only [List.length_append, List.length_singleton] at h1
          omega
        have HN2 := Lib.hid (show decGo N = decGo (u / 10) ++ (UInt8.ofNat (48 + u % 10) :: l) by rw [HN.out, decGo_step hu]; simp)
        have HO := Lib.hid hown
        clear hown
        have hnew : (up w (g.al (.cells #[.int .u8 (48 + (u : Int) % 10)] 5))).ownsRow w.heap.size 5 1 (.slice (some ⟨(up w g).heap.size, 0, none⟩) 1 1) 1 [.int .u8 (48 + (u : Int) % 10)] := World.ownsRow_lit (up w g) #[.int .u8 (48 + (u : Int) % 10)] 1 (up_below w g).size (by unfold maxLen; omega) rfl
        have HNEW := Lib.hid hnew
        clear hnew
        go_wp2_with (first | (at_builtin; go_must (refine wpl_appU rfl _ _ 37 rfl w w.heap.size 5 _ 1 1 el_byte (.slice (some ⟨(up w g).heap.size, 0, none⟩) 1 1) 1 [.int .u8 (48 + (u : Int) % 10)] rfl HNEW.out A l.length c (Lib.byteCells l) rfl ((Rds.of_own HO.out).below (by repeat (first | exact Below.refl _ _ | refine bl_tr ?_ _ | refine bl_al ?_ _ | refine bl_dr ?_ | refine bl_up ?_ _ | refine Below.drew ?_ | refine bl_alloc ?_ _ | refine Below.setCell ?_ (by first | (simp; done) | (simp; omega)) _))) (byteCells_one _) (by unfold maxLen; omega) (by omega) (up_below w _).size (by repeat (first | exact Below.refl _ _ | refine bl_tr ?_ _ | refine bl_al ?_ _ | refine bl_dr ?_ | refine bl_up ?_ _ | refine Below.drew ?_ | refine bl_alloc ?_ _ | refine Below.setCell ?_ (by first | (simp; done) | (simp; omega)) _)) (Nat.le_refl _) ?_; intro A2 c2 g2 o2)) | ((with_reducible refine wp_region_up (by kernel_rfl) (by kernel_rfl) ?_); (repeat (go_big_quiet_step (fail))); refine wpQuiet_nil ?_; intro _ hw'; obtain ⟨nq, hw''⟩ := hw'; subst hw''))
        all_goals go_roundw
        case rel =>
          refine ⟨u / 10, UInt8.ofNat (48 + u % 10) :: l, A2, c2, by go_num, congrArg (fun n => Value.slice A2 n c2) (by simp; omega), by omega, HN2.out, ?_, _, rfl⟩
          rw [dig_val, byteCells_snoc, show 1 + l.length = (UInt8.ofNat (48 + u % 10) :: l).length by simp; omega] at o2
          exact o2
        case measure => (simp [intOf]; omega)
      · obtain rfl : u = 0 := by omega
        have hN2 := Lib.hid (show decGo N = l by rw [HN.out]; rfl)
        by_cases h0 : N = 0
        · subst h0
          have hl : l = [] := by rw [← hN2.out]; rfl
          subst hl
          have hD := Lib.hid dec_zero
          go_wp2_with (first | ((with_reducible refine wp_region_up (by kernel_rfl) (by kernel_rfl) ?_); (repeat (go_big_quiet_step (fail))); refine wpQuiet_nil ?_; intro _ hw'; obtain ⟨nq, hw''⟩ := hw'; subst hw''))
          go_ret
          exact ⟨congrArg (fun x => Ending.returned (.string x)) hD.out.symm, UpOf.of (by repeat (first | exact Below.refl _ _ | refine bl_tr ?_ _ | refine bl_al ?_ _ | refine bl_dr ?_ | refine bl_up ?_ _ | refine Below.drew ?_ | refine bl_alloc ?_ _ | refine Below.setCell ?_ (by first | (simp; done) | (simp; omega)) _))⟩
        · have hl : l.length ≠ 0 := by
            intro h1
            have h2 := hN2.out
            rw [List.eq_nil_of_length_eq_zero h1, decGo_step (by omega)] at h2
            simp at h2
          have hl2 : ((l.length : Int) == 0) = false := by rw [beq_eq_false_iff_ne]; omega
          have hcv := conv_own hown rfl (Below.refl _ _)
          have hD := Lib.hid (dec_pos (u := N) (by omega))
          go_wp2_with (first | ((with_reducible refine wp_region_up (by kernel_rfl) (by kernel_rfl) ?_); (repeat (go_big_quiet_step (fail))); refine wpQuiet_nil ?_; intro _ hw'; obtain ⟨nq, hw''⟩ := hw'; subst hw''))
          go_ret
          rw [hD.out, hN2.out]
          exact ⟨rfl, UpOf.of (by repeat (first | exact Below.refl _ _ | refine bl_tr ?_ _ | refine bl_al ?_ _ | refine bl_dr ?_ | refine bl_up ?_ _ | refine Below.drew ?_ | refine bl_alloc ?_ _ | refine Below.setCell ?_ (by first | (simp; done) | (simp; omega)) _))⟩
end Go.Proofs.YtiibpldfnnhhlaaDoor
