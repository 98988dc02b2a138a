/-
  HirePrice, of the program and of the reference. No condition.
-/
import Derived.Test.YtiagckbdofeecaaHirePriceP
import Derived.Test.YtiagckbdofeecaaGen
import Derived.Deep.DeepCutAuto
namespace Go.Proofs.Ytiagckbdofeecaa
open Go.RowKit
theorem hpR_no {n d e f : Int} (h : hpOk n d e f = false) : hpR n d e f = (0, 2) := by rw [hpR, if_neg (by simp [h])]
theorem hpK_take {n d e f b : Int} {m k : Nat} (h : hpK n d e f b m k < 0 ∨ hp1 n d e f m k < hpK n d e f b m k) : hpK n d e f b m (k + 1) = hp1 n d e f m k := by rw [hpK, hpU, if_pos h]
theorem hpK_keep {n d e f b : Int} {m k : Nat} (h : ¬ (hpK n d e f b m k < 0 ∨ hp1 n d e f m k < hpK n d e f b m k)) : hpK n d e f b m (k + 1) = hpK n d e f b m k := by rw [hpK, hpU, if_neg h]
/-- the sums of one week, none of which is great -/
theorem hp_wraps {n d e f : Int} (h : hpOk n d e f = true) {m k : Nat} (hm : m ≤ 122) (hk : k ≤ 522) :
    IntKind.i64.wrap ((m : Int) * f) = (m : Int) * f ∧ IntKind.i64.wrap ((k : Int) * e) = (k : Int) * e ∧ IntKind.i64.wrap ((m : Int) * f + (k : Int) * e) = (m : Int) * f + (k : Int) * e ∧
    IntKind.i64.wrap (7 * (k : Int)) = 7 * (k : Int) ∧ IntKind.i64.wrap (hpL n m - 7 * (k : Int)) = hpL n m - 7 * (k : Int) ∧ IntKind.i64.wrap (max (hpL n m - 7 * (k : Int)) 0 * d) = max (hpL n m - 7 * (k : Int)) 0 * d ∧
    IntKind.i64.wrap ((m : Int) * f + (k : Int) * e + max (hpL n m - 7 * (k : Int)) 0 * d) = hp1 n d e f m k := by
  obtain ⟨h1, h2, h3, h4⟩ := hpOk_inv h
  have h5 := hpL_bd h1 m
  have a0 : 0 ≤ (m : Int) * f := Int.mul_nonneg (by omega) h4.1
  have a1 : (m : Int) * f ≤ 122 * 10000000 := Int.mul_le_mul (by omega) h4.2 h4.1 (by omega)
  have b0 : 0 ≤ (k : Int) * e := Int.mul_nonneg (by omega) h3.1
  have b1 : (k : Int) * e ≤ 522 * 1000000 := Int.mul_le_mul (by omega) h3.2 h3.1 (by omega)
  have c0 : 0 ≤ max (hpL n m - 7 * (k : Int)) 0 * d := Int.mul_nonneg (by omega) h2.1
  have c1 : max (hpL n m - 7 * (k : Int)) 0 * d ≤ 3650 * 100000 := Int.mul_le_mul (by omega) h2.2 h2.1 (by omega)
  unfold hp1
  simp only [IntKind.wrap_i64]
  refine ⟨by omega, by omega, by omega, by omega, by omega, by omega, by omega⟩
set_option maxRecDepth 10000 in
set_option maxHeartbeats 2000000 in
theorem hireI_any (n d e f : Int) (w : World) :
    Calls Try.prog 45 #[i64 n, i64 d, i64 e, i64 f] w fun x w' => x = .returned (.tuple #[i64 (hpR n d e f).1, i64 (hpR n d e f).2]) ∧ UpOf w w' := by
  cases h1 : btw n 1 3650
  · have hR := Lib.hid (hpR_no (n := n) (d := d) (e := e) (f := f) (by simp [hpOk, h1]))
    go_enter Try.func45, Try.ntmps45
    go_wp2_with (first | (go_at_call 50; refine (between_any _ _ _ _).mono ?_; rintro e w' ⟨rfl, rfl⟩) | ((with_reducible refine wp_region_up (by kernel_rfl) (by kernel_rfl) ?_); (repeat (go_big_quiet_step (first | (go_at_call 50; first | exact upq_tr_same (between_any _ _ _ _) | exact upq_same (between_any _ _ _ _))))); refine wpQuiet_nil ?_; intro _ hw'; obtain ⟨nq, hw''⟩ := hw'; subst hw''))
    go_ret2
    exact ⟨by rw [hR.out]; rfl, UpOf.of (by repeat (first | exact Below.refl _ _ | refine bl_tr ?_ _ | refine bl_al ?_ _ | refine bl_dr ?_ | refine bl_up ?_ _ | refine Below.drew ?_ | refine bl_alloc ?_ _ | refine Below.setCell ?_ (by first | (simp; done) | (simp; omega)) _))⟩
  cases h2 : btw d 0 100000
  · have hR := Lib.hid (hpR_no (n := n) (d := d) (e := e) (f := f) (by simp [hpOk, h1, h2]))
    go_enter Try.func45, Try.ntmps45
    go_wp2_with (first | (go_at_call 50; refine (between_any _ _ _ _).mono ?_; rintro e w' ⟨rfl, rfl⟩) | ((with_reducible refine wp_region_up (by kernel_rfl) (by kernel_rfl) ?_); (repeat (go_big_quiet_step (first | (go_at_call 50; first | exact upq_tr_same (between_any _ _ _ _) | exact upq_same (between_any _ _ _ _))))); refine wpQuiet_nil ?_; intro _ hw'; obtain ⟨nq, hw''⟩ := hw'; subst hw''))
    go_ret2
    exact ⟨by rw [hR.out]; rfl, UpOf.of (by repeat (first | exact Below.refl _ _ | refine bl_tr ?_ _ | refine bl_al ?_ _ | refine bl_dr ?_ | refine bl_up ?_ _ | refine Below.drew ?_ | refine bl_alloc ?_ _ | refine Below.setCell ?_ (by first | (simp; done) | (simp; omega)) _))⟩
  cases h3 : btw e 0 1000000
  · have hR := Lib.hid (hpR_no (n := n) (d := d) (e := e) (f := f) (by simp [hpOk, h1, h2, h3]))
    go_enter Try.func45, Try.ntmps45
    go_wp2_with (first | (go_at_call 50; refine (between_any _ _ _ _).mono ?_; rintro e w' ⟨rfl, rfl⟩) | ((with_reducible refine wp_region_up (by kernel_rfl) (by kernel_rfl) ?_); (repeat (go_big_quiet_step (first | (go_at_call 50; first | exact upq_tr_same (between_any _ _ _ _) | exact upq_same (between_any _ _ _ _))))); refine wpQuiet_nil ?_; intro _ hw'; obtain ⟨nq, hw''⟩ := hw'; subst hw''))
    go_ret2
    exact ⟨by rw [hR.out]; rfl, UpOf.of (by repeat (first | exact Below.refl _ _ | refine bl_tr ?_ _ | refine bl_al ?_ _ | refine bl_dr ?_ | refine bl_up ?_ _ | refine Below.drew ?_ | refine bl_alloc ?_ _ | refine Below.setCell ?_ (by first | (simp; done) | (simp; omega)) _))⟩
  cases h4 : btw f 0 10000000
  · have hR := Lib.hid (hpR_no (n := n) (d := d) (e := e) (f := f) (by simp [hpOk, h1, h2, h3, h4]))
    go_enter Try.func45, Try.ntmps45
    go_wp2_with (first | (go_at_call 50; refine (between_any _ _ _ _).mono ?_; rintro e w' ⟨rfl, rfl⟩) | ((with_reducible refine wp_region_up (by kernel_rfl) (by kernel_rfl) ?_); (repeat (go_big_quiet_step (first | (go_at_call 50; first | exact upq_tr_same (between_any _ _ _ _) | exact upq_same (between_any _ _ _ _))))); refine wpQuiet_nil ?_; intro _ hw'; obtain ⟨nq, hw''⟩ := hw'; subst hw''))
    go_ret2
    exact ⟨by rw [hR.out]; rfl, UpOf.of (by repeat (first | exact Below.refl _ _ | refine bl_tr ?_ _ | refine bl_al ?_ _ | refine bl_dr ?_ | refine bl_up ?_ _ | refine Below.drew ?_ | refine bl_alloc ?_ _ | refine Below.setCell ?_ (by first | (simp; done) | (simp; omega)) _))⟩
  have HOK := Lib.hid (show hpOk n d e f = true by simp [hpOk, h1, h2, h3, h4])
  have hR := Lib.hid (show hpR n d e f = (hpM n d e f (((n + 29) / 30).toNat + 1), 0) by rw [hpR, if_pos HOK.out])
  have hn := (hpOk_inv HOK.out).1
  go_enter Try.func45, Try.ntmps45
  go_wp2_with (first | (go_at_call 50; refine (between_any _ _ _ _).mono ?_; rintro e w' ⟨rfl, rfl⟩) | ((with_reducible refine wp_region_up (by kernel_rfl) (by kernel_rfl) ?_); (repeat (go_big_quiet_step (first | (go_at_call 50; first | exact upq_tr_same (between_any _ _ _ _) | exact upq_same (between_any _ _ _ _))))); refine wpQuiet_nil ?_; intro _ hw'; obtain ⟨nq, hw''⟩ := hw'; subst hw''))
  go_loopw [10, 11] (fun b mm wr => ∃ (m : Nat), mm = i64 m ∧ m ≤ ((n + 29) / 30).toNat ∧ b = i64 (hpM n d e f m) ∧ ∃ g : Up w, wr = up w g) (fun _ mm _ => ((n + 29) / 30).toNat + 1 - (intOf mm).toNat)
  case atStart => exact ⟨0, rfl, by omega, rfl, ex_up (by repeat (first | exact Below.refl _ _ | refine bl_tr ?_ _ | refine bl_al ?_ _ | refine bl_dr ?_ | refine bl_up ?_ _ | refine Below.drew ?_ | refine bl_alloc ?_ _ | refine Below.setCell ?_ (by first | (simp; done) | (simp; omega)) _))⟩
  case round =>
    obtain ⟨m, rfl, hm, rfl, g, rfl⟩ := hrel
    have w1 : IntKind.i64.wrap (30 * (m : Int)) = 30 * (m : Int) := by rw [IntKind.wrap_i64]; omega
    have w2 : IntKind.i64.wrap (n - 30 * (m : Int)) = n - 30 * (m : Int) := by rw [IntKind.wrap_i64]; omega
    have hW := hpW_bd hn m
    have hL := hpL_bd hn m
    have hWd := Lib.hid (show (hpW n m : Int) = (hpL n m + 6) / 7 by unfold hpW; omega)
    go_upto_region 6 with (fail)
    go_cut [12] (fun z V => z = i64 (hpL n m) ∧ ∃ g : Up w, V = up w g)
    case first =>
      go_wp2_with fail
      all_goals go_meet
      all_goals exact ⟨congrArg (Value.int IntKind.i64) (by unfold hpL; omega), ex_up (by repeat (first | exact Below.refl _ _ | refine bl_tr ?_ _ | refine bl_al ?_ _ | refine bl_dr ?_ | refine bl_up ?_ _ | refine Below.drew ?_ | refine bl_alloc ?_ _ | refine Below.setCell ?_ (by first | (simp; done) | (simp; omega)) _))⟩
    obtain ⟨rfl, g1, rfl⟩ := hcut
    clear w1 w2
    go_wp2_with fail
    go_loopw [10, 13] (fun b kk wr => ∃ (k : Nat), kk = i64 k ∧ k ≤ hpW n m ∧ b = i64 (hpK n d e f (hpM n d e f m) m k) ∧ ∃ g : Up w, wr = up w g) (fun _ kk _ => hpW n m + 1 - (intOf kk).toNat)
    case atStart => exact ⟨0, rfl, by omega, rfl, ex_up (by repeat (first | exact Below.refl _ _ | refine bl_tr ?_ _ | refine bl_al ?_ _ | refine bl_dr ?_ | refine bl_up ?_ _ | refine Below.drew ?_ | refine bl_alloc ?_ _ | refine Below.setCell ?_ (by first | (simp; done) | (simp; omega)) _))⟩
    case round =>
      obtain ⟨k, rfl, hk, rfl, g2, rfl⟩ := hrel
      obtain ⟨v1, v2, v3, v4, v5, v6, v7⟩ := hp_wraps HOK.out (m := m) (k := k) (by omega) (by omega)
      go_upto_region 9 with (fail)
      go_cut [14] (fun z V => z = i64 (max (hpL n m - 7 * (k : Int)) 0) ∧ ∃ g : Up w, V = up w g)
      case first =>
        go_wp2_with fail
        all_goals go_meet
        all_goals exact ⟨congrArg (Value.int IntKind.i64) (by omega), ex_up (by repeat (first | exact Below.refl _ _ | refine bl_tr ?_ _ | refine bl_al ?_ _ | refine bl_dr ?_ | refine bl_up ?_ _ | refine Below.drew ?_ | refine bl_alloc ?_ _ | refine Below.setCell ?_ (by first | (simp; done) | (simp; omega)) _))⟩
      obtain ⟨rfl, g3, rfl⟩ := hcut
      clear v4 v5
      have hx0 := Lib.hid (hp1_bd HOK.out (m := m) (k := k) (by omega) (by omega))
      by_cases hb : hpK n d e f (hpM n d e f m) m k < 0
      · have K1 := Lib.hid (hpK_take (n := n) (d := d) (e := e) (f := f) (b := hpM n d e f m) (m := m) (k := k) (.inl hb))
        by_cases hkW : k = hpW n m
        · have q1 : (max (hpL n m - 7 * (k : Int)) 0 == 0) = true := by rw [beq_iff_eq]; have := hWd.out; omega
          have HK := Lib.hid hkW
          clear hkW
          by_cases hz : hpL n m = 0
          · have q2 : (hpL n m == 0) = true := by rw [beq_iff_eq]; exact hz
            have HM := Lib.hid (show m = ((n + 29) / 30).toNat by unfold hpL at hz; omega)
            clear hz
            go_wp2_with fail
            go_ret2
            exact ⟨by rw [hR.out, ← HM.out, hpM, ← HK.out, K1.out]; rfl, UpOf.of (by repeat (first | exact Below.refl _ _ | refine bl_tr ?_ _ | refine bl_al ?_ _ | refine bl_dr ?_ | refine bl_up ?_ _ | refine Below.drew ?_ | refine bl_alloc ?_ _ | refine Below.setCell ?_ (by first | (simp; done) | (simp; omega)) _))⟩
          · have q2 : (hpL n m == 0) = false := by rw [beq_eq_false_iff_ne]; exact hz
            have HM := Lib.hid (show m + 1 ≤ ((n + 29) / 30).toNat by unfold hpL at hz; omega)
            clear hz
            go_wp2_with fail
            go_roundw
            case rel => exact ⟨m + 1, by go_num, HM.out, by rw [hpM, ← HK.out, K1.out], ex_up (by repeat (first | exact Below.refl _ _ | refine bl_tr ?_ _ | refine bl_al ?_ _ | refine bl_dr ?_ | refine bl_up ?_ _ | refine Below.drew ?_ | refine bl_alloc ?_ _ | refine Below.setCell ?_ (by first | (simp; done) | (simp; omega)) _))⟩
            case measure => (simp [intOf]; try omega)
        · have q1 : (max (hpL n m - 7 * (k : Int)) 0 == 0) = false := by rw [beq_eq_false_iff_ne]; have := hWd.out; omega
          have hk2 : k + 1 ≤ hpW n m := by omega
          go_wp2_with fail
          go_roundw
          case rel => exact ⟨k + 1, by go_num, hk2, by rw [K1.out], ex_up (by repeat (first | exact Below.refl _ _ | refine bl_tr ?_ _ | refine bl_al ?_ _ | refine bl_dr ?_ | refine bl_up ?_ _ | refine Below.drew ?_ | refine bl_alloc ?_ _ | refine Below.setCell ?_ (by first | (simp; done) | (simp; omega)) _))⟩
          case measure => (simp [intOf]; try omega)
      by_cases hx : hp1 n d e f m k < hpK n d e f (hpM n d e f m) m k
      · have K1 := Lib.hid (hpK_take (n := n) (d := d) (e := e) (f := f) (b := hpM n d e f m) (m := m) (k := k) (.inr hx))
        by_cases hkW : k = hpW n m
        · have q1 : (max (hpL n m - 7 * (k : Int)) 0 == 0) = true := by rw [beq_iff_eq]; have := hWd.out; omega
          have HK := Lib.hid hkW
          clear hkW
          by_cases hz : hpL n m = 0
          · have q2 : (hpL n m == 0) = true := by rw [beq_iff_eq]; exact hz
            have HM := Lib.hid (show m = ((n + 29) / 30).toNat by unfold hpL at hz; omega)
            clear hz
            go_wp2_with fail
            go_ret2
            exact ⟨by rw [hR.out, ← HM.out, hpM, ← HK.out, K1.out]; rfl, UpOf.of (by repeat (first | exact Below.refl _ _ | refine bl_tr ?_ _ | refine bl_al ?_ _ | refine bl_dr ?_ | refine bl_up ?_ _ | refine Below.drew ?_ | refine bl_alloc ?_ _ | refine Below.setCell ?_ (by first | (simp; done) | (simp; omega)) _))⟩
          · have q2 : (hpL n m == 0) = false := by rw [beq_eq_false_iff_ne]; exact hz
            have HM := Lib.hid (show m + 1 ≤ ((n + 29) / 30).toNat by unfold hpL at hz; omega)
            clear hz
            go_wp2_with fail
            go_roundw
            case rel => exact ⟨m + 1, by go_num, HM.out, by rw [hpM, ← HK.out, K1.out], ex_up (by repeat (first | exact Below.refl _ _ | refine bl_tr ?_ _ | refine bl_al ?_ _ | refine bl_dr ?_ | refine bl_up ?_ _ | refine Below.drew ?_ | refine bl_alloc ?_ _ | refine Below.setCell ?_ (by first | (simp; done) | (simp; omega)) _))⟩
            case measure => (simp [intOf]; try omega)
        · have q1 : (max (hpL n m - 7 * (k : Int)) 0 == 0) = false := by rw [beq_eq_false_iff_ne]; have := hWd.out; omega
          have hk2 : k + 1 ≤ hpW n m := by omega
          go_wp2_with fail
          go_roundw
          case rel => exact ⟨k + 1, by go_num, hk2, by rw [K1.out], ex_up (by repeat (first | exact Below.refl _ _ | refine bl_tr ?_ _ | refine bl_al ?_ _ | refine bl_dr ?_ | refine bl_up ?_ _ | refine Below.drew ?_ | refine bl_alloc ?_ _ | refine Below.setCell ?_ (by first | (simp; done) | (simp; omega)) _))⟩
          case measure => (simp [intOf]; try omega)
      · have K1 := Lib.hid (hpK_keep (n := n) (d := d) (e := e) (f := f) (b := hpM n d e f m) (m := m) (k := k) (fun h9 => h9.elim hb hx))
        by_cases hkW : k = hpW n m
        · have q1 : (max (hpL n m - 7 * (k : Int)) 0 == 0) = true := by rw [beq_iff_eq]; have := hWd.out; omega
          have HK := Lib.hid hkW
          clear hkW
          by_cases hz : hpL n m = 0
          · have q2 : (hpL n m == 0) = true := by rw [beq_iff_eq]; exact hz
            have HM := Lib.hid (show m = ((n + 29) / 30).toNat by unfold hpL at hz; omega)
            clear hz
            go_wp2_with fail
            go_ret2
            exact ⟨by rw [hR.out, ← HM.out, hpM, ← HK.out, K1.out]; rfl, UpOf.of (by repeat (first | exact Below.refl _ _ | refine bl_tr ?_ _ | refine bl_al ?_ _ | refine bl_dr ?_ | refine bl_up ?_ _ | refine Below.drew ?_ | refine bl_alloc ?_ _ | refine Below.setCell ?_ (by first | (simp; done) | (simp; omega)) _))⟩
          · have q2 : (hpL n m == 0) = false := by rw [beq_eq_false_iff_ne]; exact hz
            have HM := Lib.hid (show m + 1 ≤ ((n + 29) / 30).toNat by unfold hpL at hz; omega)
            clear hz
            go_wp2_with fail
            go_roundw
            case rel => exact ⟨m + 1, by go_num, HM.out, by rw [hpM, ← HK.out, K1.out], ex_up (by repeat (first | exact Below.refl _ _ | refine bl_tr ?_ _ | refine bl_al ?_ _ | refine bl_dr ?_ | refine bl_up ?_ _ | refine Below.drew ?_ | refine bl_alloc ?_ _ | refine Below.setCell ?_ (by first | (simp; done) | (simp; omega)) _))⟩
            case measure => (simp [intOf]; try omega)
        · have q1 : (max (hpL n m - 7 * (k : Int)) 0 == 0) = false := by rw [beq_eq_false_iff_ne]; have := hWd.out; omega
          have hk2 : k + 1 ≤ hpW n m := by omega
          go_wp2_with fail
          go_roundw
          case rel => exact ⟨k + 1, by go_num, hk2, by rw [K1.out], ex_up (by repeat (first | exact Below.refl _ _ | refine bl_tr ?_ _ | refine bl_al ?_ _ | refine bl_dr ?_ | refine bl_up ?_ _ | refine Below.drew ?_ | refine bl_alloc ?_ _ | refine Below.setCell ?_ (by first | (simp; done) | (simp; omega)) _))⟩
          case measure => (simp [intOf]; try omega)
set_option maxRecDepth 10000 in
set_option maxHeartbeats 2000000 in
theorem hireS_any (n d e f : Int) (w : World) :
    Calls Try.prog 46 #[i64 n, i64 d, i64 e, i64 f] w fun x w' => x = .returned (.tuple #[i64 (hpR n d e f).1, i64 (hpR n d e f).2]) ∧ UpOf w w' := by
  cases h1 : btw n 1 3650
  · have hR := Lib.hid (hpR_no (n := n) (d := d) (e := e) (f := f) (by simp [hpOk, h1]))
    go_enter Try.func46, Try.ntmps46
    go_wp2_with (first | (go_at_call 55; refine (in_any _ _ _ _).mono ?_; rintro e w' ⟨rfl, rfl⟩) | ((with_reducible refine wp_region_up (by kernel_rfl) (by kernel_rfl) ?_); (repeat (go_big_quiet_step (first | (go_at_call 55; first | exact upq_tr_same (in_any _ _ _ _) | exact upq_same (in_any _ _ _ _))))); refine wpQuiet_nil ?_; intro _ hw'; obtain ⟨nq, hw''⟩ := hw'; subst hw''))
    go_ret2
    exact ⟨by rw [hR.out]; rfl, UpOf.of (by repeat (first | exact Below.refl _ _ | refine bl_tr ?_ _ | refine bl_al ?_ _ | refine bl_dr ?_ | refine bl_up ?_ _ | refine Below.drew ?_ | refine bl_alloc ?_ _ | refine Below.setCell ?_ (by first | (simp; done) | (simp; omega)) _))⟩
  cases h2 : btw d 0 100000
  · have hR := Lib.hid (hpR_no (n := n) (d := d) (e := e) (f := f) (by simp [hpOk, h1, h2]))
    go_enter Try.func46, Try.ntmps46
    go_wp2_with (first | (go_at_call 55; refine (in_any _ _ _ _).mono ?_; rintro e w' ⟨rfl, rfl⟩) | ((with_reducible refine wp_region_up (by kernel_rfl) (by kernel_rfl) ?_); (repeat (go_big_quiet_step (first | (go_at_call 55; first | exact upq_tr_same (in_any _ _ _ _) | exact upq_same (in_any _ _ _ _))))); refine wpQuiet_nil ?_; intro _ hw'; obtain ⟨nq, hw''⟩ := hw'; subst hw''))
    go_ret2
    exact ⟨by rw [hR.out]; rfl, UpOf.of (by repeat (first | exact Below.refl _ _ | refine bl_tr ?_ _ | refine bl_al ?_ _ | refine bl_dr ?_ | refine bl_up ?_ _ | refine Below.drew ?_ | refine bl_alloc ?_ _ | refine Below.setCell ?_ (by first | (simp; done) | (simp; omega)) _))⟩
  cases h3 : btw e 0 1000000
  · have hR := Lib.hid (hpR_no (n := n) (d := d) (e := e) (f := f) (by simp [hpOk, h1, h2, h3]))
    go_enter Try.func46, Try.ntmps46
    go_wp2_with (first | (go_at_call 55; refine (in_any _ _ _ _).mono ?_; rintro e w' ⟨rfl, rfl⟩) | ((with_reducible refine wp_region_up (by kernel_rfl) (by kernel_rfl) ?_); (repeat (go_big_quiet_step (first | (go_at_call 55; first | exact upq_tr_same (in_any _ _ _ _) | exact upq_same (in_any _ _ _ _))))); refine wpQuiet_nil ?_; intro _ hw'; obtain ⟨nq, hw''⟩ := hw'; subst hw''))
    go_ret2
    exact ⟨by rw [hR.out]; rfl, UpOf.of (by repeat (first | exact Below.refl _ _ | refine bl_tr ?_ _ | refine bl_al ?_ _ | refine bl_dr ?_ | refine bl_up ?_ _ | refine Below.drew ?_ | refine bl_alloc ?_ _ | refine Below.setCell ?_ (by first | (simp; done) | (simp; omega)) _))⟩
  cases h4 : btw f 0 10000000
  · have hR := Lib.hid (hpR_no (n := n) (d := d) (e := e) (f := f) (by simp [hpOk, h1, h2, h3, h4]))
    go_enter Try.func46, Try.ntmps46
    go_wp2_with (first | (go_at_call 55; refine (in_any _ _ _ _).mono ?_; rintro e w' ⟨rfl, rfl⟩) | ((with_reducible refine wp_region_up (by kernel_rfl) (by kernel_rfl) ?_); (repeat (go_big_quiet_step (first | (go_at_call 55; first | exact upq_tr_same (in_any _ _ _ _) | exact upq_same (in_any _ _ _ _))))); refine wpQuiet_nil ?_; intro _ hw'; obtain ⟨nq, hw''⟩ := hw'; subst hw''))
    go_ret2
    exact ⟨by rw [hR.out]; rfl, UpOf.of (by repeat (first | exact Below.refl _ _ | refine bl_tr ?_ _ | refine bl_al ?_ _ | refine bl_dr ?_ | refine bl_up ?_ _ | refine Below.drew ?_ | refine bl_alloc ?_ _ | refine Below.setCell ?_ (by first | (simp; done) | (simp; omega)) _))⟩
  have HOK := Lib.hid (show hpOk n d e f = true by simp [hpOk, h1, h2, h3, h4])
  have hR := Lib.hid (show hpR n d e f = (hpM n d e f (((n + 29) / 30).toNat + 1), 0) by rw [hpR, if_pos HOK.out])
  have hn := (hpOk_inv HOK.out).1
  go_enter Try.func46, Try.ntmps46
  go_wp2_with (first | (go_at_call 55; refine (in_any _ _ _ _).mono ?_; rintro e w' ⟨rfl, rfl⟩) | ((with_reducible refine wp_region_up (by kernel_rfl) (by kernel_rfl) ?_); (repeat (go_big_quiet_step (first | (go_at_call 55; first | exact upq_tr_same (in_any _ _ _ _) | exact upq_same (in_any _ _ _ _))))); refine wpQuiet_nil ?_; intro _ hw'; obtain ⟨nq, hw''⟩ := hw'; subst hw''))
  have w0 : IntKind.i64.wrap (n + 29) = n + 29 := by rw [IntKind.wrap_i64]; omega
  go_loopw [10, 11] (fun b mm wr => ∃ (m : Nat), mm = i64 m ∧ m ≤ ((n + 29) / 30).toNat + 1 ∧ b = i64 (hpM n d e f m) ∧ ∃ g : Up w, wr = up w g) (fun _ mm _ => ((n + 29) / 30).toNat + 2 - (intOf mm).toNat)
  case atStart => exact ⟨0, rfl, by omega, rfl, ex_up (by repeat (first | exact Below.refl _ _ | refine bl_tr ?_ _ | refine bl_al ?_ _ | refine bl_dr ?_ | refine bl_up ?_ _ | refine Below.drew ?_ | refine bl_alloc ?_ _ | refine Below.setCell ?_ (by first | (simp; done) | (simp; omega)) _))⟩
  case round =>
    obtain ⟨m, rfl, hm, rfl, g, rfl⟩ := hrel
    have w1 : IntKind.i64.wrap (30 * (m : Int)) = 30 * (m : Int) := by rw [IntKind.wrap_i64]; omega
    have w2 : IntKind.i64.wrap (n - 30 * (m : Int)) = n - 30 * (m : Int) := by rw [IntKind.wrap_i64]; omega
    have w3 : max 0 (n - 30 * (m : Int)) = hpL n m := by unfold hpL; omega
    have hW := hpW_bd hn m
    have hL := hpL_bd hn m
    have hWd := Lib.hid (show (hpW n m : Int) = (hpL n m + 6) / 7 by unfold hpW; omega)
    by_cases hmM : m ≤ ((n + 29) / 30).toNat
    · have t1 : (m : Int) ≤ (n + 29) / 30 := by omega
      have t2 : (n + 29).tdiv 30 = (n + 29) / 30 := Int.tdiv_eq_ediv_of_nonneg (by omega)
      go_wp2_with (first | (go_at_call 58; refine (max_any _ _ _).mono ?_; rintro e w' ⟨rfl, rfl⟩) | ((with_reducible refine wp_region_up (by kernel_rfl) (by kernel_rfl) ?_); (repeat (go_big_quiet_step (first | (go_at_call 58; first | exact upq_tr_same (max_any _ _ _) | exact upq_same (max_any _ _ _))))); refine wpQuiet_nil ?_; intro _ hw'; obtain ⟨nq, hw''⟩ := hw'; subst hw''))
      clear w1 w2 t1 t2
      go_loopw [10, 13] (fun b kk wr => ∃ (k : Nat), kk = i64 k ∧ k ≤ hpW n m + 1 ∧ b = i64 (hpK n d e f (hpM n d e f m) m k) ∧ ∃ g : Up w, wr = up w g) (fun _ kk _ => hpW n m + 2 - (intOf kk).toNat)
      case atStart => exact ⟨0, rfl, by omega, rfl, ex_up (by repeat (first | exact Below.refl _ _ | refine bl_tr ?_ _ | refine bl_al ?_ _ | refine bl_dr ?_ | refine bl_up ?_ _ | refine Below.drew ?_ | refine bl_alloc ?_ _ | refine Below.setCell ?_ (by first | (simp; done) | (simp; omega)) _))⟩
      case round =>
        obtain ⟨k, rfl, hk, rfl, g2, rfl⟩ := hrel
        have w5 : IntKind.i64.wrap (hpL n m + 6) = hpL n m + 6 := by rw [IntKind.wrap_i64]; omega
        have t4 : (hpL n m + 6).tdiv 7 = (hpL n m + 6) / 7 := Int.tdiv_eq_ediv_of_nonneg (by omega)
        by_cases hkW : k ≤ hpW n m
        · have t3 : (k : Int) ≤ (hpL n m + 6) / 7 := by have := hWd.out; omega
          obtain ⟨v1, v2, v3, v4, v5, v6, v7⟩ := hp_wraps HOK.out (m := m) (k := k) (by omega) (by omega)
          have w6 : max 0 (hpL n m - 7 * (k : Int)) = max (hpL n m - 7 * (k : Int)) 0 := by omega
          by_cases hb : hpK n d e f (hpM n d e f m) m k < 0
          · have K1 := Lib.hid (hpK_take (n := n) (d := d) (e := e) (f := f) (b := hpM n d e f m) (m := m) (k := k) (.inl hb))
            go_wp2_with (first | (go_at_call 58; refine (max_any _ _ _).mono ?_; rintro e w' ⟨rfl, rfl⟩) | ((with_reducible refine wp_region_up (by kernel_rfl) (by kernel_rfl) ?_); (repeat (go_big_quiet_step (first | (go_at_call 58; first | exact upq_tr_same (max_any _ _ _) | exact upq_same (max_any _ _ _))))); refine wpQuiet_nil ?_; intro _ hw'; obtain ⟨nq, hw''⟩ := hw'; subst hw''))
            go_roundw
            case rel => exact ⟨k + 1, by go_num, by omega, by rw [K1.out], ex_up (by repeat (first | exact Below.refl _ _ | refine bl_tr ?_ _ | refine bl_al ?_ _ | refine bl_dr ?_ | refine bl_up ?_ _ | refine Below.drew ?_ | refine bl_alloc ?_ _ | refine Below.setCell ?_ (by first | (simp; done) | (simp; omega)) _))⟩
            case measure => (simp [intOf]; try omega)
          by_cases hx : hp1 n d e f m k < hpK n d e f (hpM n d e f m) m k
          · have K1 := Lib.hid (hpK_take (n := n) (d := d) (e := e) (f := f) (b := hpM n d e f m) (m := m) (k := k) (.inr hx))
            go_wp2_with (first | (go_at_call 58; refine (max_any _ _ _).mono ?_; rintro e w' ⟨rfl, rfl⟩) | ((with_reducible refine wp_region_up (by kernel_rfl) (by kernel_rfl) ?_); (repeat (go_big_quiet_step (first | (go_at_call 58; first | exact upq_tr_same (max_any _ _ _) | exact upq_same (max_any _ _ _))))); refine wpQuiet_nil ?_; intro _ hw'; obtain ⟨nq, hw''⟩ := hw'; subst hw''))
            go_roundw
            case rel => exact ⟨k + 1, by go_num, by omega, by rw [K1.out], ex_up (by repeat (first | exact Below.refl _ _ | refine bl_tr ?_ _ | refine bl_al ?_ _ | refine bl_dr ?_ | refine bl_up ?_ _ | refine Below.drew ?_ | refine bl_alloc ?_ _ | refine Below.setCell ?_ (by first | (simp; done) | (simp; omega)) _))⟩
            case measure => (simp [intOf]; try omega)
          · have K1 := Lib.hid (hpK_keep (n := n) (d := d) (e := e) (f := f) (b := hpM n d e f m) (m := m) (k := k) (fun h9 => h9.elim hb hx))
            go_wp2_with (first | (go_at_call 58; refine (max_any _ _ _).mono ?_; rintro e w' ⟨rfl, rfl⟩) | ((with_reducible refine wp_region_up (by kernel_rfl) (by kernel_rfl) ?_); (repeat (go_big_quiet_step (first | (go_at_call 58; first | exact upq_tr_same (max_any _ _ _) | exact upq_same (max_any _ _ _))))); refine wpQuiet_nil ?_; intro _ hw'; obtain ⟨nq, hw''⟩ := hw'; subst hw''))
            go_roundw
            case rel => exact ⟨k + 1, by go_num, by omega, by rw [K1.out], ex_up (by repeat (first | exact Below.refl _ _ | refine bl_tr ?_ _ | refine bl_al ?_ _ | refine bl_dr ?_ | refine bl_up ?_ _ | refine Below.drew ?_ | refine bl_alloc ?_ _ | refine Below.setCell ?_ (by first | (simp; done) | (simp; omega)) _))⟩
            case measure => (simp [intOf]; try omega)
        · have t3 : ¬ (k : Int) ≤ (hpL n m + 6) / 7 := by have := hWd.out; omega
          obtain rfl : k = hpW n m + 1 := by omega
          go_wp2_with fail
          go_roundw
          case rel => exact ⟨m + 1, by go_num, by omega, rfl, ex_up (by repeat (first | exact Below.refl _ _ | refine bl_tr ?_ _ | refine bl_al ?_ _ | refine bl_dr ?_ | refine bl_up ?_ _ | refine Below.drew ?_ | refine bl_alloc ?_ _ | refine Below.setCell ?_ (by first | (simp; done) | (simp; omega)) _))⟩
          case measure => (simp [intOf]; try omega)
    · have t1 : ¬ (m : Int) ≤ (n + 29) / 30 := by omega
      have t2 : (n + 29).tdiv 30 = (n + 29) / 30 := Int.tdiv_eq_ediv_of_nonneg (by omega)
      obtain rfl : m = ((n + 29) / 30).toNat + 1 := by omega
      go_wp2_with fail
      go_ret2
      exact ⟨by rw [hR.out]; rfl, UpOf.of (by repeat (first | exact Below.refl _ _ | refine bl_tr ?_ _ | refine bl_al ?_ _ | refine bl_dr ?_ | refine bl_up ?_ _ | refine Below.drew ?_ | refine bl_alloc ?_ _ | refine Below.setCell ?_ (by first | (simp; done) | (simp; omega)) _))⟩
end Go.Proofs.Ytiagckbdofeecaa
