/-
  The reference's l01Number answers rdR. No condition but the text's length.
-/
import Derived.Test.YtiagckbdofeecaaDoorNumL
import Derived.Test.YtiagckbdofeecaaDoorDec
import Derived.Test.YtiagckbdofeecaaDoorName
namespace Go.Proofs.YtiagckbdofeecaaDoor
open Go.RowKit
set_option maxRecDepth 10000 in
set_option maxHeartbeats 1000000 in
theorem l01Number_any (s : ByteArray) (w : World) (hs : s.size ≤ 9223372036854775807) :
    Calls Tryd.prog 38 #[.string s] w fun e w' => e = .returned (.tuple #[i64 (rdR s).1, .bool (rdR s).2]) ∧ UpOf w w' := by
  by_cases h0 : 0 < s.size
  · have hb := Lib.hid (byteAt_eq h0)
    have ze := isEmpty_no h0
    by_cases h45 : (s[0].toNat : Int) = 45
    · have hg := Lib.hid (show negS s = true by unfold negS; rw [← hb.out]; exact decide_eq_true ⟨h0, h45⟩)
      obtain ⟨t, ht⟩ : ∃ t, s.extract 1 s.size = t := ⟨_, rfl⟩
      have htl : t.data.toList = digs s := by
        rw [digs, if_pos hg.out, ← ht, bs_extract s 1 s.size, bs_list, List.take_of_length_le (by simp)]
      obtain ⟨m, htm⟩ : ∃ m, t.size = m := ⟨_, rfl⟩
      have hms : m < s.size := by rw [← htm, ← ht, ByteArray.size_extract]; omega
      obtain ⟨T, hT0⟩ : ∃ T, digs s = T := ⟨_, rfl⟩
      have HTL := Lib.hid hT0
      have HTT := Lib.hid (htl.trans hT0)
      have hT := Lib.hid (show T.length = m by rw [← hT0, ← htl, ← htm]; rfl)
      clear htl hT0
      go_enter Tryd.func38, Tryd.ntmps38
      by_cases hl : 1 ≤ m ∧ m ≤ 18
      · obtain ⟨l1, l2⟩ := hl
        have z : ((m : Int) == 0) = false := by rw [beq_eq_false_iff_ne]; omega
        have L12 := Lib.hid (show 1 ≤ (digs s).length ∧ (digs s).length ≤ 18 by rw [HTL.out, hT.out]; exact ⟨l1, l2⟩)
        go_wp2_with (first | ((with_reducible refine wp_region_up (by kernel_rfl) (by kernel_rfl) ?_); (repeat (go_big_quiet_step (fail))); refine wpQuiet_nil ?_; intro _ hw'; obtain ⟨nq, hw''⟩ := hw'; subst hw''))
        go_loopw [5, 6] (fun n i wr => ∃ (k v : Nat), k ≤ m ∧ i = i64 k ∧ n = i64 v ∧ Hid (valL 0 (T.take k) = v) ∧ Hid (∀ j, j < k → digit (T.getD j 0) = true) ∧ ∃ g : Up w, wr = up w g) (fun _ i _ => m - (intOf i).toNat)
        case atStart => exact ⟨0, 0, by omega, rfl, rfl, rfl, fun j hj => by omega, ex_up (by repeat (first | exact Below.refl _ _ | refine bl_tr ?_ _ | refine bl_al ?_ _ | refine bl_dr ?_ | refine bl_up ?_ _ | refine Below.drew ?_ | refine bl_alloc ?_ _ | refine Below.setCell ?_ (by first | (simp; done) | (simp; omega)) _))⟩
        case round =>
          obtain ⟨k, v, hk, rfl, rfl, hv, hall, g, rfl⟩ := hrel
          by_cases hlt : k < m
          · have hlt' : k < t.size := by omega
            have hbt := Lib.hid (show t[k] = T.getD k 0 by rw [byteAt_eq hlt', byteAt, HTT.out])
            cases q : digit t[k]
            · have HF := Lib.hid (rdR_no (numB_digit (s := s) (by rw [HTL.out]; exact all_no (by rw [hT.out]; exact hlt) (by rw [← hbt.out]; exact q))))
              go_wp2_with (first | (go_at_call 66; refine (ret_as (l01Digit_any _ _) q).mono ?_; rintro e w' ⟨rfl, rfl⟩) | ((with_reducible refine wp_region_up (by kernel_rfl) (by kernel_rfl) ?_); (repeat (go_big_quiet_step (first | (go_at_call 66; first | exact upq_tr_same (ret_as (l01Digit_any _ _) q) | exact upq_same (ret_as (l01Digit_any _ _) q))))); refine wpQuiet_nil ?_; intro _ hw'; obtain ⟨nq, hw''⟩ := hw'; subst hw''))
              go_ret2
              exact ⟨by rw [HF.out] <;> rfl, UpOf.of (by repeat (first | exact Below.refl _ _ | refine bl_tr ?_ _ | refine bl_al ?_ _ | refine bl_dr ?_ | refine bl_up ?_ _ | refine Below.drew ?_ | refine bl_alloc ?_ _ | refine Below.setCell ?_ (by first | (simp; done) | (simp; omega)) _))⟩
            · have hv0 := valL_take_bd hall.out (by omega) (by rw [hT.out]; omega)
              rw [hv.out] at hv0
              have hds := dig_sub q
              have hdl := dval_lt q
              have hq := of_decide_eq_true q
              have hv2 := Lib.hid (show valL 0 (T.take (k + 1)) = 10 * v + dval t[k] by rw [take_snoc (by rw [hT.out]; exact hlt), valL_snoc, hv.out, hbt.out])
              have hall2 := Lib.hid (lt_ext (P := fun j => digit (T.getD j 0) = true) hall.out (by rw [← hbt.out]; exact q))
              go_wp2_with (first | (go_at_call 66; refine (ret_as (l01Digit_any _ _) q).mono ?_; rintro e w' ⟨rfl, rfl⟩) | ((with_reducible refine wp_region_up (by kernel_rfl) (by kernel_rfl) ?_); (repeat (go_big_quiet_step (first | (go_at_call 66; first | exact upq_tr_same (ret_as (l01Digit_any _ _) q) | exact upq_same (ret_as (l01Digit_any _ _) q))))); refine wpQuiet_nil ?_; intro _ hw'; obtain ⟨nq, hw''⟩ := hw'; subst hw''))
              go_roundw
              case rel => exact ⟨k + 1, 10 * v + dval t[k], by omega, by go_num, by go_num, hv2, hall2, ex_up (by repeat (first | exact Below.refl _ _ | refine bl_tr ?_ _ | refine bl_al ?_ _ | refine bl_dr ?_ | refine bl_up ?_ _ | refine Below.drew ?_ | refine bl_alloc ?_ _ | refine Below.setCell ?_ (by first | (simp; done) | (simp; omega)) _))⟩
              case measure => (simp [intOf]; try omega)
          · obtain rfl : k = m := by omega
            have HA := Lib.hid (show (digs s).all digit = true by rw [HTL.out]; exact all_of_at (by rw [hT.out]; exact hall.out))
            have HV := Lib.hid (show sval s = -(v : Int) by rw [sval, if_pos hg.out, HTL.out, ← hv.out, List.take_of_length_le (by rw [hT.out]; omega)])
            have HB := Lib.hid (sval_bd L12.out.2 HA.out)
            rw [HV.out] at HB
            have hB := HB.out
            by_cases hd : dec (-(v : Int)) = s
            · have HF := Lib.hid (rdR_ok (numB_ok L12.out HA.out (by rw [HV.out]; exact hd)))
              have hne := tl_eq hd
              go_wp2_with (first | (go_at_call 64; refine (l01Dec_any _ _ (by omega) (by omega)).mono ?_; rintro e w' ⟨rfl, g, rfl⟩) | ((with_reducible refine wp_region_up (by kernel_rfl) (by kernel_rfl) ?_); (repeat (go_big_quiet_step (first | (go_at_call 64; first | exact upq_tr (l01Dec_any _ _ (by omega) (by omega)) | exact upq (l01Dec_any _ _ (by omega) (by omega)))))); refine wpQuiet_nil ?_; intro _ hw'; obtain ⟨nq, hw''⟩ := hw'; subst hw''))
              go_ret2
              exact ⟨by rw [HF.out, HV.out] <;> rfl, UpOf.of (by repeat (first | exact Below.refl _ _ | refine bl_tr ?_ _ | refine bl_al ?_ _ | refine bl_dr ?_ | refine bl_up ?_ _ | refine Below.drew ?_ | refine bl_alloc ?_ _ | refine Below.setCell ?_ (by first | (simp; done) | (simp; omega)) _))⟩
            · have HF := Lib.hid (rdR_no (numB_dec (s := s) (by rw [HV.out]; exact hd)))
              have hne := tl_ne hd
              go_wp2_with (first | (go_at_call 64; refine (l01Dec_any _ _ (by omega) (by omega)).mono ?_; rintro e w' ⟨rfl, g, rfl⟩) | ((with_reducible refine wp_region_up (by kernel_rfl) (by kernel_rfl) ?_); (repeat (go_big_quiet_step (first | (go_at_call 64; first | exact upq_tr (l01Dec_any _ _ (by omega) (by omega)) | exact upq (l01Dec_any _ _ (by omega) (by omega)))))); refine wpQuiet_nil ?_; intro _ hw'; obtain ⟨nq, hw''⟩ := hw'; subst hw''))
              go_ret2
              exact ⟨by rw [HF.out] <;> rfl, UpOf.of (by repeat (first | exact Below.refl _ _ | refine bl_tr ?_ _ | refine bl_al ?_ _ | refine bl_dr ?_ | refine bl_up ?_ _ | refine Below.drew ?_ | refine bl_alloc ?_ _ | refine Below.setCell ?_ (by first | (simp; done) | (simp; omega)) _))⟩
      · have HF := Lib.hid (rdR_no (numB_len (s := s) (by rw [HTL.out, hT.out]; exact hl)))
        by_cases l0 : m = 0
        · first
            | (exfalso; omega)
            | (go_wp2_with (first | ((with_reducible refine wp_region_up (by kernel_rfl) (by kernel_rfl) ?_); (repeat (go_big_quiet_step (fail))); refine wpQuiet_nil ?_; intro _ hw'; obtain ⟨nq, hw''⟩ := hw'; subst hw''))
               go_ret2
               exact ⟨by rw [HF.out] <;> rfl, UpOf.of (by repeat (first | exact Below.refl _ _ | refine bl_tr ?_ _ | refine bl_al ?_ _ | refine bl_dr ?_ | refine bl_up ?_ _ | refine Below.drew ?_ | refine bl_alloc ?_ _ | refine Below.setCell ?_ (by first | (simp; done) | (simp; omega)) _))⟩)
        · have z : ((m : Int) == 0) = false := by rw [beq_eq_false_iff_ne]; omega
          have l3 : 18 < m := by omega
          go_wp2_with (first | ((with_reducible refine wp_region_up (by kernel_rfl) (by kernel_rfl) ?_); (repeat (go_big_quiet_step (fail))); refine wpQuiet_nil ?_; intro _ hw'; obtain ⟨nq, hw''⟩ := hw'; subst hw''))
          go_ret2
          exact ⟨by rw [HF.out] <;> rfl, UpOf.of (by repeat (first | exact Below.refl _ _ | refine bl_tr ?_ _ | refine bl_al ?_ _ | refine bl_dr ?_ | refine bl_up ?_ _ | refine Below.drew ?_ | refine bl_alloc ?_ _ | refine Below.setCell ?_ (by first | (simp; done) | (simp; omega)) _))⟩
    · have hg := Lib.hid (show negS s = false by unfold negS; rw [← hb.out]; exact decide_eq_false fun h => h45 h.2)
      obtain ⟨t, rfl⟩ : ∃ t, s = t := ⟨_, rfl⟩
      have htl : s.data.toList = digs s := by rw [digs, if_neg (by rw [hg.out]; simp)]
      obtain ⟨m, htm⟩ : ∃ m, s.size = m := ⟨_, rfl⟩
      obtain ⟨T, hT0⟩ : ∃ T, digs s = T := ⟨_, rfl⟩
      have HTL := Lib.hid hT0
      have HTT := Lib.hid (htl.trans hT0)
      have hT := Lib.hid (show T.length = m by rw [← hT0, ← htl, ← htm]; rfl)
      clear htl hT0
      obtain ⟨c0, hc0⟩ : ∃ c, s[0] = c := ⟨_, rfl⟩
      rw [hc0] at h45
      have z45 : ((c0.toNat : Int) == 45) = false := by rw [beq_eq_false_iff_ne]; exact h45
      go_enter Tryd.func38, Tryd.ntmps38
      by_cases hl : 1 ≤ m ∧ m ≤ 18
      · obtain ⟨l1, l2⟩ := hl
        have z : ((m : Int) == 0) = false := by rw [beq_eq_false_iff_ne]; omega
        have L12 := Lib.hid (show 1 ≤ (digs s).length ∧ (digs s).length ≤ 18 by rw [HTL.out, hT.out]; exact ⟨l1, l2⟩)
        go_wp2_with (first | ((with_reducible refine wp_region_up (by kernel_rfl) (by kernel_rfl) ?_); (repeat (go_big_quiet_step (fail))); refine wpQuiet_nil ?_; intro _ hw'; obtain ⟨nq, hw''⟩ := hw'; subst hw''))
        go_loopw [5, 6] (fun n i wr => ∃ (k v : Nat), k ≤ m ∧ i = i64 k ∧ n = i64 v ∧ Hid (valL 0 (T.take k) = v) ∧ Hid (∀ j, j < k → digit (T.getD j 0) = true) ∧ ∃ g : Up w, wr = up w g) (fun _ i _ => m - (intOf i).toNat)
        case atStart => exact ⟨0, 0, by omega, rfl, rfl, rfl, fun j hj => by omega, ex_up (by repeat (first | exact Below.refl _ _ | refine bl_tr ?_ _ | refine bl_al ?_ _ | refine bl_dr ?_ | refine bl_up ?_ _ | refine Below.drew ?_ | refine bl_alloc ?_ _ | refine Below.setCell ?_ (by first | (simp; done) | (simp; omega)) _))⟩
        case round =>
          obtain ⟨k, v, hk, rfl, rfl, hv, hall, g, rfl⟩ := hrel
          by_cases hlt : k < m
          · have hlt' : k < s.size := by omega
            have hbt := Lib.hid (show s[k] = T.getD k 0 by rw [byteAt_eq hlt', byteAt, HTT.out])
            cases q : digit s[k]
            · have HF := Lib.hid (rdR_no (numB_digit (s := s) (by rw [HTL.out]; exact all_no (by rw [hT.out]; exact hlt) (by rw [← hbt.out]; exact q))))
              go_wp2_with (first | (go_at_call 66; refine (ret_as (l01Digit_any _ _) q).mono ?_; rintro e w' ⟨rfl, rfl⟩) | ((with_reducible refine wp_region_up (by kernel_rfl) (by kernel_rfl) ?_); (repeat (go_big_quiet_step (first | (go_at_call 66; first | exact upq_tr_same (ret_as (l01Digit_any _ _) q) | exact upq_same (ret_as (l01Digit_any _ _) q))))); refine wpQuiet_nil ?_; intro _ hw'; obtain ⟨nq, hw''⟩ := hw'; subst hw''))
              go_ret2
              exact ⟨by rw [HF.out] <;> rfl, UpOf.of (by repeat (first | exact Below.refl _ _ | refine bl_tr ?_ _ | refine bl_al ?_ _ | refine bl_dr ?_ | refine bl_up ?_ _ | refine Below.drew ?_ | refine bl_alloc ?_ _ | refine Below.setCell ?_ (by first | (simp; done) | (simp; omega)) _))⟩
            · have hv0 := valL_take_bd hall.out (by omega) (by rw [hT.out]; omega)
              rw [hv.out] at hv0
              have hds := dig_sub q
              have hdl := dval_lt q
              have hq := of_decide_eq_true q
              have hv2 := Lib.hid (show valL 0 (T.take (k + 1)) = 10 * v + dval s[k] by rw [take_snoc (by rw [hT.out]; exact hlt), valL_snoc, hv.out, hbt.out])
              have hall2 := Lib.hid (lt_ext (P := fun j => digit (T.getD j 0) = true) hall.out (by rw [← hbt.out]; exact q))
              go_wp2_with (first | (go_at_call 66; refine (ret_as (l01Digit_any _ _) q).mono ?_; rintro e w' ⟨rfl, rfl⟩) | ((with_reducible refine wp_region_up (by kernel_rfl) (by kernel_rfl) ?_); (repeat (go_big_quiet_step (first | (go_at_call 66; first | exact upq_tr_same (ret_as (l01Digit_any _ _) q) | exact upq_same (ret_as (l01Digit_any _ _) q))))); refine wpQuiet_nil ?_; intro _ hw'; obtain ⟨nq, hw''⟩ := hw'; subst hw''))
              go_roundw
              case rel => exact ⟨k + 1, 10 * v + dval s[k], by omega, by go_num, by go_num, hv2, hall2, ex_up (by repeat (first | exact Below.refl _ _ | refine bl_tr ?_ _ | refine bl_al ?_ _ | refine bl_dr ?_ | refine bl_up ?_ _ | refine Below.drew ?_ | refine bl_alloc ?_ _ | refine Below.setCell ?_ (by first | (simp; done) | (simp; omega)) _))⟩
              case measure => (simp [intOf]; try omega)
          · obtain rfl : k = m := by omega
            have HA := Lib.hid (show (digs s).all digit = true by rw [HTL.out]; exact all_of_at (by rw [hT.out]; exact hall.out))
            have HV := Lib.hid (show sval s = (v : Int) by rw [sval, if_neg (by rw [hg.out]; simp), HTL.out, ← hv.out, List.take_of_length_le (by rw [hT.out]; omega)])
            have HB := Lib.hid (sval_bd L12.out.2 HA.out)
            rw [HV.out] at HB
            have hB := HB.out
            by_cases hd : dec ((v : Int)) = s
            · have HF := Lib.hid (rdR_ok (numB_ok L12.out HA.out (by rw [HV.out]; exact hd)))
              have hne := tl_eq hd
              go_wp2_with (first | (go_at_call 64; refine (l01Dec_any _ _ (by omega) (by omega)).mono ?_; rintro e w' ⟨rfl, g, rfl⟩) | ((with_reducible refine wp_region_up (by kernel_rfl) (by kernel_rfl) ?_); (repeat (go_big_quiet_step (first | (go_at_call 64; first | exact upq_tr (l01Dec_any _ _ (by omega) (by omega)) | exact upq (l01Dec_any _ _ (by omega) (by omega)))))); refine wpQuiet_nil ?_; intro _ hw'; obtain ⟨nq, hw''⟩ := hw'; subst hw''))
              go_ret2
              exact ⟨by rw [HF.out, HV.out] <;> rfl, UpOf.of (by repeat (first | exact Below.refl _ _ | refine bl_tr ?_ _ | refine bl_al ?_ _ | refine bl_dr ?_ | refine bl_up ?_ _ | refine Below.drew ?_ | refine bl_alloc ?_ _ | refine Below.setCell ?_ (by first | (simp; done) | (simp; omega)) _))⟩
            · have HF := Lib.hid (rdR_no (numB_dec (s := s) (by rw [HV.out]; exact hd)))
              have hne := tl_ne hd
              go_wp2_with (first | (go_at_call 64; refine (l01Dec_any _ _ (by omega) (by omega)).mono ?_; rintro e w' ⟨rfl, g, rfl⟩) | ((with_reducible refine wp_region_up (by kernel_rfl) (by kernel_rfl) ?_); (repeat (go_big_quiet_step (first | (go_at_call 64; first | exact upq_tr (l01Dec_any _ _ (by omega) (by omega)) | exact upq (l01Dec_any _ _ (by omega) (by omega)))))); refine wpQuiet_nil ?_; intro _ hw'; obtain ⟨nq, hw''⟩ := hw'; subst hw''))
              go_ret2
              exact ⟨by rw [HF.out] <;> rfl, UpOf.of (by repeat (first | exact Below.refl _ _ | refine bl_tr ?_ _ | refine bl_al ?_ _ | refine bl_dr ?_ | refine bl_up ?_ _ | refine Below.drew ?_ | refine bl_alloc ?_ _ | refine Below.setCell ?_ (by first | (simp; done) | (simp; omega)) _))⟩
      · have HF := Lib.hid (rdR_no (numB_len (s := s) (by rw [HTL.out, hT.out]; exact hl)))
        by_cases l0 : m = 0
        · first
            | (exfalso; omega)
            | (go_wp2_with (first | ((with_reducible refine wp_region_up (by kernel_rfl) (by kernel_rfl) ?_); (repeat (go_big_quiet_step (fail))); refine wpQuiet_nil ?_; intro _ hw'; obtain ⟨nq, hw''⟩ := hw'; subst hw''))
               go_ret2
               exact ⟨by rw [HF.out] <;> rfl, UpOf.of (by repeat (first | exact Below.refl _ _ | refine bl_tr ?_ _ | refine bl_al ?_ _ | refine bl_dr ?_ | refine bl_up ?_ _ | refine Below.drew ?_ | refine bl_alloc ?_ _ | refine Below.setCell ?_ (by first | (simp; done) | (simp; omega)) _))⟩)
        · have z : ((m : Int) == 0) = false := by rw [beq_eq_false_iff_ne]; omega
          have l3 : 18 < m := by omega
          go_wp2_with (first | ((with_reducible refine wp_region_up (by kernel_rfl) (by kernel_rfl) ?_); (repeat (go_big_quiet_step (fail))); refine wpQuiet_nil ?_; intro _ hw'; obtain ⟨nq, hw''⟩ := hw'; subst hw''))
          go_ret2
          exact ⟨by rw [HF.out] <;> rfl, UpOf.of (by repeat (first | exact Below.refl _ _ | refine bl_tr ?_ _ | refine bl_al ?_ _ | refine bl_dr ?_ | refine bl_up ?_ _ | refine Below.drew ?_ | refine bl_alloc ?_ _ | refine Below.setCell ?_ (by first | (simp; done) | (simp; omega)) _))⟩
  · have h1 : s.size = 0 := by omega
    have ze := isEmpty_yes h1
    have HF := Lib.hid (rdR_no (numB_len (s := s) (by
      have : digs s = [] := by
        have h2 : s.data.toList = [] := List.eq_nil_of_length_eq_zero (by rw [bsz]; exact h1)
        rw [digs, h2]; simp
      rw [this]; simp)))
    go_enter Tryd.func38, Tryd.ntmps38
    go_wp2_with (first | ((with_reducible refine wp_region_up (by kernel_rfl) (by kernel_rfl) ?_); (repeat (go_big_quiet_step (fail))); refine wpQuiet_nil ?_; intro _ hw'; obtain ⟨nq, hw''⟩ := hw'; subst hw''))
    go_ret2
    exact ⟨by rw [HF.out] <;> rfl, UpOf.of (by repeat (first | exact Below.refl _ _ | refine bl_tr ?_ _ | refine bl_al ?_ _ | refine bl_dr ?_ | refine bl_up ?_ _ | refine Below.drew ?_ | refine bl_alloc ?_ _ | refine Below.setCell ?_ (by first | (simp; done) | (simp; omega)) _))⟩
end Go.Proofs.YtiagckbdofeecaaDoor
