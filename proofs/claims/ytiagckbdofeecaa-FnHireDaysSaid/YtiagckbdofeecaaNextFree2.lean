/-
  NextFree: the walks of the program and of the reference.
-/
import Derived.Test.YtiagckbdofeecaaNextFree
namespace Go.Proofs.Ytiagckbdofeecaa
open Go.RowKit
def NFR (l : List Hire) (n day days : Int) (r : Int × Int × Int) : Prop :=
  if vHires l n = true then if btw day 0 3650 = true ∧ btw days 1 3650 = true then IsNF l n day days r else r = (0, 0, 2) else r = (0, 0, 1)
theorem nfr_one {l : List Hire} {n day days : Int} {r s : Int × Int × Int} (h : NFR l n day days r) (g : NFR l n day days s) : r = s := by
  unfold NFR at h g
  split at h
  · split at h
    · rw [if_pos (by assumption), if_pos (by assumption)] at g
      exact isNF_one h g
    · rw [if_pos (by assumption), if_neg (by assumption)] at g
      rw [h, g]
  · rw [if_neg (by assumption)] at g
    rw [h, g]
theorem vHires_n20 {l : List Hire} {n : Int} (h : vHires l n = true) : 1 ≤ n ∧ n ≤ 20 := by
  simp only [vHires, Bool.and_eq_true] at h
  exact btw_true h.1.1
set_option maxRecDepth 10000 in
set_option maxHeartbeats 1000000 in
theorem nextFreeI_any (A : Option Addr) (c : Nat) (l : List Hire) (n day days : Int) (w : World) (h : Rds w 3 A l.length (hcs l)) (hn : l.length ≤ 100000000) (hcap : l.length ≤ c) :
    Calls Try.prog 32 #[.slice A l.length c, i64 n, i64 day, i64 days] w fun e w' => ∃ r, e = .returned (.tuple #[i64 r.1, i64 r.2.1, i64 r.2.2]) ∧ NFR l n day days r ∧ UpOf w w' := by
  by_cases h1 : vHires l n = true
  · obtain ⟨n1, n2⟩ := vHires_n20 h1
    obtain ⟨N, rfl⟩ : ∃ N : Nat, n = N := ⟨n.toNat, by omega⟩
    cases b1 : btw day 0 3650
    · have hR := Lib.hid (show NFR l N day days (0, 0, 2) by rw [NFR, if_pos h1, if_neg (by simp [b1])])
      go_enter Try.func32, Try.ntmps32
      go_wp2_with (first | (go_at_call 16; refine (ret_as (validHires_any _ _ _ _ _ h hn hcap) h1).mono ?_; rintro e w' ⟨rfl, g, rfl⟩) | (go_at_call 50; refine (ret_as (between_any _ _ _ _) b1).mono ?_; rintro e w' ⟨rfl, rfl⟩) | ((with_reducible refine wp_region_up (by kernel_rfl) (by kernel_rfl) ?_); (repeat (go_big_quiet_step (first | (go_at_call 16; first | exact upq_tr (ret_as (validHires_any _ _ _ _ _ h hn hcap) h1) | exact upq (ret_as (validHires_any _ _ _ _ _ h hn hcap) h1)) | (go_at_call 50; first | exact upq_tr_same (ret_as (between_any _ _ _ _) b1) | exact upq_same (ret_as (between_any _ _ _ _) b1))))); refine wpQuiet_nil ?_; intro _ hw'; obtain ⟨nq, hw''⟩ := hw'; subst hw''))
      go_ret3
      exact ⟨_, rfl, hR.out, UpOf.of (by repeat (first | exact Below.refl _ _ | refine bl_tr ?_ _ | refine bl_al ?_ _ | refine bl_dr ?_ | refine bl_up ?_ _ | refine Below.drew ?_ | refine bl_alloc ?_ _ | refine Below.setCell ?_ (by first | (simp; done) | (simp; omega)) _))⟩
    · cases b2 : btw days 1 3650
      · have hR := Lib.hid (show NFR l N day days (0, 0, 2) by rw [NFR, if_pos h1, if_neg (by simp [b2])])
        go_enter Try.func32, Try.ntmps32
        go_wp2_with (first | (go_at_call 16; refine (ret_as (validHires_any _ _ _ _ _ h hn hcap) h1).mono ?_; rintro e w' ⟨rfl, g, rfl⟩) | (go_at_call 50; refine (between_any _ _ _ _).mono ?_; rintro e w' ⟨rfl, rfl⟩) | ((with_reducible refine wp_region_up (by kernel_rfl) (by kernel_rfl) ?_); (repeat (go_big_quiet_step (first | (go_at_call 16; first | exact upq_tr (ret_as (validHires_any _ _ _ _ _ h hn hcap) h1) | exact upq (ret_as (validHires_any _ _ _ _ _ h hn hcap) h1)) | (go_at_call 50; first | exact upq_tr_same (between_any _ _ _ _) | exact upq_same (between_any _ _ _ _))))); refine wpQuiet_nil ?_; intro _ hw'; obtain ⟨nq, hw''⟩ := hw'; subst hw''))
        go_ret3
        exact ⟨_, rfl, hR.out, UpOf.of (by repeat (first | exact Below.refl _ _ | refine bl_tr ?_ _ | refine bl_al ?_ _ | refine bl_dr ?_ | refine bl_up ?_ _ | refine Below.drew ?_ | refine bl_alloc ?_ _ | refine Below.setCell ?_ (by first | (simp; done) | (simp; omega)) _))⟩
      · obtain ⟨d1, d2⟩ := btw_true b1
        obtain ⟨d3, d4⟩ := btw_true b2
        have hR := Lib.hid (show ∀ r, IsNF l N day days r → NFR l N day days r from fun r hr => by rw [NFR, if_pos h1, if_pos ⟨b1, b2⟩]; exact hr)
        go_enter Try.func32, Try.ntmps32
        go_wp2_with (first | (go_at_call 16; refine (ret_as (validHires_any _ _ _ _ _ h hn hcap) h1).mono ?_; rintro e w' ⟨rfl, g, rfl⟩) | (go_at_call 50; refine (between_any _ _ _ _).mono ?_; rintro e w' ⟨rfl, rfl⟩) | ((with_reducible refine wp_region_up (by kernel_rfl) (by kernel_rfl) ?_); (repeat (go_big_quiet_step (first | (go_at_call 16; first | exact upq_tr (ret_as (validHires_any _ _ _ _ _ h hn hcap) h1) | exact upq (ret_as (validHires_any _ _ _ _ _ h hn hcap) h1)) | (go_at_call 50; first | exact upq_tr_same (between_any _ _ _ _) | exact upq_same (between_any _ _ _ _))))); refine wpQuiet_nil ?_; intro _ hw'; obtain ⟨nq, hw''⟩ := hw'; subst hw''))
        go_loopw [2] (fun i wr => ∃ d : Int, day ≤ d ∧ d ≤ 3651 ∧ i = i64 d ∧ Hid (∀ c x, NF l N day days c x → d ≤ c) ∧ ∃ g : Up w, wr = up w g) (fun i _ => (3700 - intOf i).toNat)
        case atStart => exact ⟨day, by omega, by omega, rfl, fun c x hc => hc.1, ex_up (by repeat (first | exact Below.refl _ _ | refine bl_tr ?_ _ | refine bl_al ?_ _ | refine bl_dr ?_ | refine bl_up ?_ _ | refine Below.drew ?_ | refine bl_alloc ?_ _ | refine Below.setCell ?_ (by first | (simp; done) | (simp; omega)) _))⟩
        case round =>
          obtain ⟨d, hd, hd', rfl, hno, g, rfl⟩ := hrel
          by_cases hlt : d + days ≤ 3650
          · go_wp2_with (first | ((with_reducible refine wp_region_up (by kernel_rfl) (by kernel_rfl) ?_); (repeat (go_big_quiet_step (fail))); refine wpQuiet_nil ?_; intro _ hw'; obtain ⟨nq, hw''⟩ := hw'; subst hw''))
            go_loopw [31] (fun i wr => ∃ q : Nat, q ≤ N ∧ i = i64 q ∧ Hid (∀ c x, NF l N day days c x → d < c ∨ d = c ∧ q ≤ x) ∧ ∃ g : Up w, wr = up w g) (fun i _ => N - (intOf i).toNat)
            case atStart => exact ⟨0, by omega, rfl, fun c x hc => by have := hno.out c x hc; have := hc.2.2.1; omega, ex_up (by repeat (first | exact Below.refl _ _ | refine bl_tr ?_ _ | refine bl_al ?_ _ | refine bl_dr ?_ | refine bl_up ?_ _ | refine Below.drew ?_ | refine bl_alloc ?_ _ | refine Below.setCell ?_ (by first | (simp; done) | (simp; omega)) _))⟩
            case round =>
              obtain ⟨q, hq, rfl, hme, g', rfl⟩ := hrel
              by_cases hqN : q < N
              · cases f1 : free l q d (d + days)
                · go_wp2_with (first | (go_at_call 60; refine (ret_as (isFree_any _ _ _ _ _ _ _ (h.below (by repeat (first | exact Below.refl _ _ | refine bl_tr ?_ _ | refine bl_al ?_ _ | refine bl_dr ?_ | refine bl_up ?_ _ | refine Below.drew ?_ | refine bl_alloc ?_ _ | refine Below.setCell ?_ (by first | (simp; done) | (simp; omega)) _))) hn) f1).mono ?_; rintro e w' ⟨rfl, g, rfl⟩) | ((with_reducible refine wp_region_up (by kernel_rfl) (by kernel_rfl) ?_); (repeat (go_big_quiet_step (first | (go_at_call 60; first | exact upq_tr (ret_as (isFree_any _ _ _ _ _ _ _ (h.below (by repeat (first | exact Below.refl _ _ | refine bl_tr ?_ _ | refine bl_al ?_ _ | refine bl_dr ?_ | refine bl_up ?_ _ | refine Below.drew ?_ | refine bl_alloc ?_ _ | refine Below.setCell ?_ (by first | (simp; done) | (simp; omega)) _))) hn) f1) | exact upq (ret_as (isFree_any _ _ _ _ _ _ _ (h.below (by repeat (first | exact Below.refl _ _ | refine bl_tr ?_ _ | refine bl_al ?_ _ | refine bl_dr ?_ | refine bl_up ?_ _ | refine Below.drew ?_ | refine bl_alloc ?_ _ | refine Below.setCell ?_ (by first | (simp; done) | (simp; omega)) _))) hn) f1))))); refine wpQuiet_nil ?_; intro _ hw'; obtain ⟨nq, hw''⟩ := hw'; subst hw''))
                  go_roundw
                  case rel =>
                    refine ⟨q + 1, by omega, by go_num, fun c x hc => ?_, ex_up (by repeat (first | exact Below.refl _ _ | refine bl_tr ?_ _ | refine bl_al ?_ _ | refine bl_dr ?_ | refine bl_up ?_ _ | refine Below.drew ?_ | refine bl_alloc ?_ _ | refine Below.setCell ?_ (by first | (simp; done) | (simp; omega)) _))⟩
                    have h1 := hme.out c x hc
                    by_cases hx : d = c ∧ x = q
                    · have h2 := hc.2.2.2.2
                      rw [← hx.1, hx.2, f1] at h2
                      simp at h2
                    · omega
                  case measure => (simp [intOf]; try omega)
                · go_wp2_with (first | (go_at_call 60; refine (ret_as (isFree_any _ _ _ _ _ _ _ (h.below (by repeat (first | exact Below.refl _ _ | refine bl_tr ?_ _ | refine bl_al ?_ _ | refine bl_dr ?_ | refine bl_up ?_ _ | refine Below.drew ?_ | refine bl_alloc ?_ _ | refine Below.setCell ?_ (by first | (simp; done) | (simp; omega)) _))) hn) f1).mono ?_; rintro e w' ⟨rfl, g, rfl⟩) | ((with_reducible refine wp_region_up (by kernel_rfl) (by kernel_rfl) ?_); (repeat (go_big_quiet_step (first | (go_at_call 60; first | exact upq_tr (ret_as (isFree_any _ _ _ _ _ _ _ (h.below (by repeat (first | exact Below.refl _ _ | refine bl_tr ?_ _ | refine bl_al ?_ _ | refine bl_dr ?_ | refine bl_up ?_ _ | refine Below.drew ?_ | refine bl_alloc ?_ _ | refine Below.setCell ?_ (by first | (simp; done) | (simp; omega)) _))) hn) f1) | exact upq (ret_as (isFree_any _ _ _ _ _ _ _ (h.below (by repeat (first | exact Below.refl _ _ | refine bl_tr ?_ _ | refine bl_al ?_ _ | refine bl_dr ?_ | refine bl_up ?_ _ | refine Below.drew ?_ | refine bl_alloc ?_ _ | refine Below.setCell ?_ (by first | (simp; done) | (simp; omega)) _))) hn) f1))))); refine wpQuiet_nil ?_; intro _ hw'; obtain ⟨nq, hw''⟩ := hw'; subst hw''))
                  go_ret3
                  first | exact ⟨(d, q, 0), rfl, hR.out _ (.inr ⟨d, q, rfl, ⟨hd, hlt, by omega, by omega, f1⟩, hme.out⟩), UpOf.of (by repeat (first | exact Below.refl _ _ | refine bl_tr ?_ _ | refine bl_al ?_ _ | refine bl_dr ?_ | refine bl_up ?_ _ | refine Below.drew ?_ | refine bl_alloc ?_ _ | refine Below.setCell ?_ (by first | (simp; done) | (simp; omega)) _))⟩ | exact ⟨d, q, 0, rfl, hR.out _ (.inr ⟨d, q, rfl, ⟨hd, hlt, by omega, by omega, f1⟩, hme.out⟩), UpOf.of (by repeat (first | exact Below.refl _ _ | refine bl_tr ?_ _ | refine bl_al ?_ _ | refine bl_dr ?_ | refine bl_up ?_ _ | refine Below.drew ?_ | refine bl_alloc ?_ _ | refine Below.setCell ?_ (by first | (simp; done) | (simp; omega)) _))⟩
              · obtain rfl : q = N := by omega
                go_wp2_with (first | ((with_reducible refine wp_region_up (by kernel_rfl) (by kernel_rfl) ?_); (repeat (go_big_quiet_step (fail))); refine wpQuiet_nil ?_; intro _ hw'; obtain ⟨nq, hw''⟩ := hw'; subst hw''))
                go_roundw
                case rel => exact ⟨d + 1, by omega, by omega, by go_num, fun c x hc => by have := hme.out c x hc; have := hc.2.2.2.1; omega, ex_up (by repeat (first | exact Below.refl _ _ | refine bl_tr ?_ _ | refine bl_al ?_ _ | refine bl_dr ?_ | refine bl_up ?_ _ | refine Below.drew ?_ | refine bl_alloc ?_ _ | refine Below.setCell ?_ (by first | (simp; done) | (simp; omega)) _))⟩
                case measure => (simp [intOf]; try omega)
          · go_wp2_with (first | ((with_reducible refine wp_region_up (by kernel_rfl) (by kernel_rfl) ?_); (repeat (go_big_quiet_step (fail))); refine wpQuiet_nil ?_; intro _ hw'; obtain ⟨nq, hw''⟩ := hw'; subst hw''))
            go_ret3
            first | exact ⟨(0, 0, 3), rfl, hR.out _ (.inl ⟨rfl, fun c x hc => by have := hno.out c x hc; have := hc.2.1; omega⟩), UpOf.of (by repeat (first | exact Below.refl _ _ | refine bl_tr ?_ _ | refine bl_al ?_ _ | refine bl_dr ?_ | refine bl_up ?_ _ | refine Below.drew ?_ | refine bl_alloc ?_ _ | refine Below.setCell ?_ (by first | (simp; done) | (simp; omega)) _))⟩ | exact ⟨0, 0, 3, rfl, hR.out _ (.inl ⟨rfl, fun c x hc => by have := hno.out c x hc; have := hc.2.1; omega⟩), UpOf.of (by repeat (first | exact Below.refl _ _ | refine bl_tr ?_ _ | refine bl_al ?_ _ | refine bl_dr ?_ | refine bl_up ?_ _ | refine Below.drew ?_ | refine bl_alloc ?_ _ | refine Below.setCell ?_ (by first | (simp; done) | (simp; omega)) _))⟩
  · have h1' : vHires l n = false := by simpa using h1
    have hR := Lib.hid (show NFR l n day days (0, 0, 1) by rw [NFR, if_neg h1])
    clear h1
    go_enter Try.func32, Try.ntmps32
    go_wp2_with (first | (go_at_call 16; refine (ret_as (validHires_any _ _ _ _ _ h hn hcap) h1').mono ?_; rintro e w' ⟨rfl, g, rfl⟩) | ((with_reducible refine wp_region_up (by kernel_rfl) (by kernel_rfl) ?_); (repeat (go_big_quiet_step (first | (go_at_call 16; first | exact upq_tr (ret_as (validHires_any _ _ _ _ _ h hn hcap) h1') | exact upq (ret_as (validHires_any _ _ _ _ _ h hn hcap) h1'))))); refine wpQuiet_nil ?_; intro _ hw'; obtain ⟨nq, hw''⟩ := hw'; subst hw''))
    go_ret3
    exact ⟨_, rfl, hR.out, UpOf.of (by repeat (first | exact Below.refl _ _ | refine bl_tr ?_ _ | refine bl_al ?_ _ | refine bl_dr ?_ | refine bl_up ?_ _ | refine Below.drew ?_ | refine bl_alloc ?_ _ | refine Below.setCell ?_ (by first | (simp; done) | (simp; omega)) _))⟩
def idx : Nat → Int
  | 0 => -1
  | j + 1 => (j : Int)
theorem idx_eq (k : Nat) : idx k = (k : Int) - 1 := by cases k <;> simp [idx]
set_option maxRecDepth 10000 in
set_option maxHeartbeats 2000000 in
theorem nextFreeS_any (A : Option Addr) (c : Nat) (l : List Hire) (n day days : Int) (w : World) (h : Rds w 3 A l.length (hcs l)) (hn : l.length ≤ 100000000) :
    Calls Try.prog 31 #[.slice A l.length c, i64 n, i64 day, i64 days] w fun e w' => ∃ r, e = .returned (.tuple #[i64 r.1, i64 r.2.1, i64 r.2.2]) ∧ NFR l n day days r ∧ UpOf w w' := by
  by_cases h1 : vHires l n = true
  · obtain ⟨n1, n2⟩ := vHires_n20 h1
    obtain ⟨N, rfl⟩ : ∃ N : Nat, n = N := ⟨n.toNat, by omega⟩
    cases b1 : btw day 0 3650
    · have hR := Lib.hid (show NFR l N day days (0, 0, 2) by rw [NFR, if_pos h1, if_neg (by simp [b1])])
      go_enter Try.func31, Try.ntmps31
      go_wp2_with (first | (go_at_call 49; refine (ret_as (l25Ok_any _ _ _ _ _ h hn) h1).mono ?_; rintro e w' ⟨rfl, g, rfl⟩) | (go_at_call 55; refine (ret_as (in_any _ _ _ _) b1).mono ?_; rintro e w' ⟨rfl, rfl⟩) | ((with_reducible refine wp_region_up (by kernel_rfl) (by kernel_rfl) ?_); (repeat (go_big_quiet_step (first | (go_at_call 49; first | exact upq_tr (ret_as (l25Ok_any _ _ _ _ _ h hn) h1) | exact upq (ret_as (l25Ok_any _ _ _ _ _ h hn) h1)) | (go_at_call 55; first | exact upq_tr_same (ret_as (in_any _ _ _ _) b1) | exact upq_same (ret_as (in_any _ _ _ _) b1))))); refine wpQuiet_nil ?_; intro _ hw'; obtain ⟨nq, hw''⟩ := hw'; subst hw''))
      go_ret3
      exact ⟨_, rfl, hR.out, UpOf.of (by repeat (first | exact Below.refl _ _ | refine bl_tr ?_ _ | refine bl_al ?_ _ | refine bl_dr ?_ | refine bl_up ?_ _ | refine Below.drew ?_ | refine bl_alloc ?_ _ | refine Below.setCell ?_ (by first | (simp; done) | (simp; omega)) _))⟩
    · cases b2 : btw days 1 3650
      · have hR := Lib.hid (show NFR l N day days (0, 0, 2) by rw [NFR, if_pos h1, if_neg (by simp [b2])])
        go_enter Try.func31, Try.ntmps31
        go_wp2_with (first | (go_at_call 49; refine (ret_as (l25Ok_any _ _ _ _ _ h hn) h1).mono ?_; rintro e w' ⟨rfl, g, rfl⟩) | (go_at_call 55; refine (in_any _ _ _ _).mono ?_; rintro e w' ⟨rfl, rfl⟩) | ((with_reducible refine wp_region_up (by kernel_rfl) (by kernel_rfl) ?_); (repeat (go_big_quiet_step (first | (go_at_call 49; first | exact upq_tr (ret_as (l25Ok_any _ _ _ _ _ h hn) h1) | exact upq (ret_as (l25Ok_any _ _ _ _ _ h hn) h1)) | (go_at_call 55; first | exact upq_tr_same (in_any _ _ _ _) | exact upq_same (in_any _ _ _ _))))); refine wpQuiet_nil ?_; intro _ hw'; obtain ⟨nq, hw''⟩ := hw'; subst hw''))
        go_ret3
        exact ⟨_, rfl, hR.out, UpOf.of (by repeat (first | exact Below.refl _ _ | refine bl_tr ?_ _ | refine bl_al ?_ _ | refine bl_dr ?_ | refine bl_up ?_ _ | refine Below.drew ?_ | refine bl_alloc ?_ _ | refine Below.setCell ?_ (by first | (simp; done) | (simp; omega)) _))⟩
      · obtain ⟨d1, d2⟩ := btw_true b1
        obtain ⟨d3, d4⟩ := btw_true b2
        have hR := Lib.hid (show ∀ r, IsNF l N day days r → NFR l N day days r from fun r hr => by rw [NFR, if_pos h1, if_pos ⟨b1, b2⟩]; exact hr)
        have hone := Lib.hid (fun i (hi : i < l.length) => vHire_bd (vHires_one h1 hi).1)
        go_enter Try.func31, Try.ntmps31
        go_wp2_with (first | (go_at_call 49; refine (ret_as (l25Ok_any _ _ _ _ _ h hn) h1).mono ?_; rintro e w' ⟨rfl, g, rfl⟩) | (go_at_call 55; refine (in_any _ _ _ _).mono ?_; rintro e w' ⟨rfl, rfl⟩) | ((with_reducible refine wp_region_up (by kernel_rfl) (by kernel_rfl) ?_); (repeat (go_big_quiet_step (first | (go_at_call 49; first | exact upq_tr (ret_as (l25Ok_any _ _ _ _ _ h hn) h1) | exact upq (ret_as (l25Ok_any _ _ _ _ _ h hn) h1)) | (go_at_call 55; first | exact upq_tr_same (in_any _ _ _ _) | exact upq_same (in_any _ _ _ _))))); refine wpQuiet_nil ?_; intro _ hw'; obtain ⟨nq, hw''⟩ := hw'; subst hw''))
        clear h1 b1 b2
        go_loopw [11, 12, 13] (fun x y i wr => ∃ (k : Nat) (b m : Int), k ≤ l.length + 1 ∧ x = i64 b ∧ y = i64 m ∧ i = i64 (idx k) ∧ Hid (Best (Seen l N day days k) b m) ∧ ∃ g : Up w, wr = up w g) (fun _ _ i _ => l.length + 1 - (intOf i + 1).toNat)
        case atStart => exact ⟨0, -1, 0, by omega, rfl, rfl, rfl, best_start, ex_up (by repeat (first | exact Below.refl _ _ | refine bl_tr ?_ _ | refine bl_al ?_ _ | refine bl_dr ?_ | refine bl_up ?_ _ | refine Below.drew ?_ | refine bl_alloc ?_ _ | refine Below.setCell ?_ (by first | (simp; done) | (simp; omega)) _))⟩
        case round =>
          obtain ⟨k, b, m, hk, rfl, rfl, hi, hB, g, rfl⟩ := hrel
          by_cases hlt : k < l.length + 1
          · rcases Nat.eq_zero_or_pos k with hk0 | hk0
            · have hidx := Lib.hid (show idx (k + 1) = 0 by rw [idx_eq]; omega)
              have hF := Lib.hid (show cand l day k = day by rw [hk0]; rfl)
              have hi' := hi.trans (show i64 (idx k) = i64 (-1) by rw [hk0]; rfl)
              clear hi
              subst hi'
              have hl0 : (-1 : Int) < l.length := by omega
              by_cases s1 : day < day
              · go_wp2_with (first | ((with_reducible refine wp_region_up (by kernel_rfl) (by kernel_rfl) ?_); (repeat (go_big_quiet_step (fail))); refine wpQuiet_nil ?_; intro _ hw'; obtain ⟨nq, hw''⟩ := hw'; subst hw''))
                go_roundw
                case rel => exact ⟨k + 1, b, m, by omega, rfl, rfl, by rw [hidx.out], best_skip hB.out (by rw [hF.out]; omega), ex_up (by repeat (first | exact Below.refl _ _ | refine bl_tr ?_ _ | refine bl_al ?_ _ | refine bl_dr ?_ | refine bl_up ?_ _ | refine Below.drew ?_ | refine bl_alloc ?_ _ | refine Below.setCell ?_ (by first | (simp; done) | (simp; omega)) _))⟩
                case measure => (simp [intOf]; try omega)
              · by_cases s2 : 3650 < day + days
                · go_wp2_with (first | ((with_reducible refine wp_region_up (by kernel_rfl) (by kernel_rfl) ?_); (repeat (go_big_quiet_step (fail))); refine wpQuiet_nil ?_; intro _ hw'; obtain ⟨nq, hw''⟩ := hw'; subst hw''))
                  go_roundw
                  case rel => exact ⟨k + 1, b, m, by omega, rfl, rfl, by rw [hidx.out], best_skip hB.out (by rw [hF.out]; omega), ex_up (by repeat (first | exact Below.refl _ _ | refine bl_tr ?_ _ | refine bl_al ?_ _ | refine bl_dr ?_ | refine bl_up ?_ _ | refine Below.drew ?_ | refine bl_alloc ?_ _ | refine Below.setCell ?_ (by first | (simp; done) | (simp; omega)) _))⟩
                  case measure => (simp [intOf]; try omega)
                · by_cases s3 : 0 ≤ b ∧ b < day
                  · obtain ⟨s4, s5⟩ := s3
                    go_wp2_with (first | ((with_reducible refine wp_region_up (by kernel_rfl) (by kernel_rfl) ?_); (repeat (go_big_quiet_step (fail))); refine wpQuiet_nil ?_; intro _ hw'; obtain ⟨nq, hw''⟩ := hw'; subst hw''))
                    go_roundw
                    case rel => exact ⟨k + 1, b, m, by omega, rfl, rfl, by rw [hidx.out], best_skip hB.out (by rw [hF.out]; omega), ex_up (by repeat (first | exact Below.refl _ _ | refine bl_tr ?_ _ | refine bl_al ?_ _ | refine bl_dr ?_ | refine bl_up ?_ _ | refine Below.drew ?_ | refine bl_alloc ?_ _ | refine Below.setCell ?_ (by first | (simp; done) | (simp; omega)) _))⟩
                    case measure => (simp [intOf]; try omega)
                  · have hle := Lib.hid (show 0 ≤ b → day ≤ b by omega)
                    by_cases s4 : 0 ≤ b
                    all_goals try (have s5 : ¬ b < day := by omega)
                    all_goals clear s3
                    all_goals
                     (go_wp2_with (first | ((with_reducible refine wp_region_up (by kernel_rfl) (by kernel_rfl) ?_); (repeat (go_big_quiet_step (fail))); refine wpQuiet_nil ?_; intro _ hw'; obtain ⟨nq, hw''⟩ := hw'; subst hw''))
                      go_loopw [11, 12, 15] (fun x y i wr => ∃ (q : Nat) (b' m' : Int), q ≤ N ∧ x = i64 b' ∧ y = i64 m' ∧ i = i64 q ∧ Hid (Best (SeenIn l N day days k q) b' m') ∧ Hid (0 ≤ b' → day ≤ b') ∧ ∃ g : Up w, wr = up w g) (fun _ _ i _ => N - (intOf i).toNat)
                      case atStart => exact ⟨0, b, m, by omega, rfl, rfl, rfl, best_in hB.out, hle, ex_up (by repeat (first | exact Below.refl _ _ | refine bl_tr ?_ _ | refine bl_al ?_ _ | refine bl_dr ?_ | refine bl_up ?_ _ | refine Below.drew ?_ | refine bl_alloc ?_ _ | refine Below.setCell ?_ (by first | (simp; done) | (simp; omega)) _))⟩
                      case round =>
                        obtain ⟨q, b', m', hq, rfl, rfl, rfl, hB', hle', g', rfl⟩ := hrel
                        by_cases hqN : q < N
                        · cases f1 : free l q day (day + days)
                          · go_wp2_with (first | (go_at_call 59; refine (ret_as (l25Free_any _ _ _ _ _ _ _ (h.below (by repeat (first | exact Below.refl _ _ | refine bl_tr ?_ _ | refine bl_al ?_ _ | refine bl_dr ?_ | refine bl_up ?_ _ | refine Below.drew ?_ | refine bl_alloc ?_ _ | refine Below.setCell ?_ (by first | (simp; done) | (simp; omega)) _))) hn) f1).mono ?_; rintro e w' ⟨rfl, g, rfl⟩) | ((with_reducible refine wp_region_up (by kernel_rfl) (by kernel_rfl) ?_); (repeat (go_big_quiet_step (first | (go_at_call 59; first | exact upq_tr (ret_as (l25Free_any _ _ _ _ _ _ _ (h.below (by repeat (first | exact Below.refl _ _ | refine bl_tr ?_ _ | refine bl_al ?_ _ | refine bl_dr ?_ | refine bl_up ?_ _ | refine Below.drew ?_ | refine bl_alloc ?_ _ | refine Below.setCell ?_ (by first | (simp; done) | (simp; omega)) _))) hn) f1) | exact upq (ret_as (l25Free_any _ _ _ _ _ _ _ (h.below (by repeat (first | exact Below.refl _ _ | refine bl_tr ?_ _ | refine bl_al ?_ _ | refine bl_dr ?_ | refine bl_up ?_ _ | refine Below.drew ?_ | refine bl_alloc ?_ _ | refine Below.setCell ?_ (by first | (simp; done) | (simp; omega)) _))) hn) f1))))); refine wpQuiet_nil ?_; intro _ hw'; obtain ⟨nq, hw''⟩ := hw'; subst hw''))
                            go_roundw
                            case rel => exact ⟨q + 1, b', m', by omega, rfl, rfl, by go_num, best_keep hB'.out (by rw [hF.out]; exact hle'.out) (by rw [hF.out]; exact .inl f1), hle', ex_up (by repeat (first | exact Below.refl _ _ | refine bl_tr ?_ _ | refine bl_al ?_ _ | refine bl_dr ?_ | refine bl_up ?_ _ | refine Below.drew ?_ | refine bl_alloc ?_ _ | refine Below.setCell ?_ (by first | (simp; done) | (simp; omega)) _))⟩
                            case measure => (simp [intOf]; try omega)
                          · by_cases t1 : b' < 0
                            · go_wp2_with (first | (go_at_call 59; refine (ret_as (l25Free_any _ _ _ _ _ _ _ (h.below (by repeat (first | exact Below.refl _ _ | refine bl_tr ?_ _ | refine bl_al ?_ _ | refine bl_dr ?_ | refine bl_up ?_ _ | refine Below.drew ?_ | refine bl_alloc ?_ _ | refine Below.setCell ?_ (by first | (simp; done) | (simp; omega)) _))) hn) f1).mono ?_; rintro e w' ⟨rfl, g, rfl⟩) | ((with_reducible refine wp_region_up (by kernel_rfl) (by kernel_rfl) ?_); (repeat (go_big_quiet_step (first | (go_at_call 59; first | exact upq_tr (ret_as (l25Free_any _ _ _ _ _ _ _ (h.below (by repeat (first | exact Below.refl _ _ | refine bl_tr ?_ _ | refine bl_al ?_ _ | refine bl_dr ?_ | refine bl_up ?_ _ | refine Below.drew ?_ | refine bl_alloc ?_ _ | refine Below.setCell ?_ (by first | (simp; done) | (simp; omega)) _))) hn) f1) | exact upq (ret_as (l25Free_any _ _ _ _ _ _ _ (h.below (by repeat (first | exact Below.refl _ _ | refine bl_tr ?_ _ | refine bl_al ?_ _ | refine bl_dr ?_ | refine bl_up ?_ _ | refine Below.drew ?_ | refine bl_alloc ?_ _ | refine Below.setCell ?_ (by first | (simp; done) | (simp; omega)) _))) hn) f1))))); refine wpQuiet_nil ?_; intro _ hw'; obtain ⟨nq, hw''⟩ := hw'; subst hw''))
                              go_roundw
                              case rel => exact ⟨q + 1, day, q, by omega, rfl, rfl, by go_num, by have := best_new (q := q) hB'.out (by rw [hF.out]; exact hle'.out) d1 (by rw [hF.out]; omega) (by rw [hF.out]; omega) (by omega) (by rw [hF.out]; exact f1) (by rw [hF.out]; omega); rw [hF.out] at this; exact this, fun _ => Int.le_refl _, ex_up (by repeat (first | exact Below.refl _ _ | refine bl_tr ?_ _ | refine bl_al ?_ _ | refine bl_dr ?_ | refine bl_up ?_ _ | refine Below.drew ?_ | refine bl_alloc ?_ _ | refine Below.setCell ?_ (by first | (simp; done) | (simp; omega)) _))⟩
                              case measure => (simp [intOf]; try omega)
                            · by_cases t2 : day < b'
                              · go_wp2_with (first | (go_at_call 59; refine (ret_as (l25Free_any _ _ _ _ _ _ _ (h.below (by repeat (first | exact Below.refl _ _ | refine bl_tr ?_ _ | refine bl_al ?_ _ | refine bl_dr ?_ | refine bl_up ?_ _ | refine Below.drew ?_ | refine bl_alloc ?_ _ | refine Below.setCell ?_ (by first | (simp; done) | (simp; omega)) _))) hn) f1).mono ?_; rintro e w' ⟨rfl, g, rfl⟩) | ((with_reducible refine wp_region_up (by kernel_rfl) (by kernel_rfl) ?_); (repeat (go_big_quiet_step (first | (go_at_call 59; first | exact upq_tr (ret_as (l25Free_any _ _ _ _ _ _ _ (h.below (by repeat (first | exact Below.refl _ _ | refine bl_tr ?_ _ | refine bl_al ?_ _ | refine bl_dr ?_ | refine bl_up ?_ _ | refine Below.drew ?_ | refine bl_alloc ?_ _ | refine Below.setCell ?_ (by first | (simp; done) | (simp; omega)) _))) hn) f1) | exact upq (ret_as (l25Free_any _ _ _ _ _ _ _ (h.below (by repeat (first | exact Below.refl _ _ | refine bl_tr ?_ _ | refine bl_al ?_ _ | refine bl_dr ?_ | refine bl_up ?_ _ | refine Below.drew ?_ | refine bl_alloc ?_ _ | refine Below.setCell ?_ (by first | (simp; done) | (simp; omega)) _))) hn) f1))))); refine wpQuiet_nil ?_; intro _ hw'; obtain ⟨nq, hw''⟩ := hw'; subst hw''))
                                go_roundw
                                case rel => exact ⟨q + 1, day, q, by omega, rfl, rfl, by go_num, by have := best_new (q := q) hB'.out (by rw [hF.out]; exact hle'.out) d1 (by rw [hF.out]; omega) (by rw [hF.out]; omega) (by omega) (by rw [hF.out]; exact f1) (by rw [hF.out]; omega); rw [hF.out] at this; exact this, fun _ => Int.le_refl _, ex_up (by repeat (first | exact Below.refl _ _ | refine bl_tr ?_ _ | refine bl_al ?_ _ | refine bl_dr ?_ | refine bl_up ?_ _ | refine Below.drew ?_ | refine bl_alloc ?_ _ | refine Below.setCell ?_ (by first | (simp; done) | (simp; omega)) _))⟩
                                case measure => (simp [intOf]; try omega)
                              · by_cases t3 : (q : Int) < m'
                                · go_wp2_with (first | (go_at_call 59; refine (ret_as (l25Free_any _ _ _ _ _ _ _ (h.below (by repeat (first | exact Below.refl _ _ | refine bl_tr ?_ _ | refine bl_al ?_ _ | refine bl_dr ?_ | refine bl_up ?_ _ | refine Below.drew ?_ | refine bl_alloc ?_ _ | refine Below.setCell ?_ (by first | (simp; done) | (simp; omega)) _))) hn) f1).mono ?_; rintro e w' ⟨rfl, g, rfl⟩) | ((with_reducible refine wp_region_up (by kernel_rfl) (by kernel_rfl) ?_); (repeat (go_big_quiet_step (first | (go_at_call 59; first | exact upq_tr (ret_as (l25Free_any _ _ _ _ _ _ _ (h.below (by repeat (first | exact Below.refl _ _ | refine bl_tr ?_ _ | refine bl_al ?_ _ | refine bl_dr ?_ | refine bl_up ?_ _ | refine Below.drew ?_ | refine bl_alloc ?_ _ | refine Below.setCell ?_ (by first | (simp; done) | (simp; omega)) _))) hn) f1) | exact upq (ret_as (l25Free_any _ _ _ _ _ _ _ (h.below (by repeat (first | exact Below.refl _ _ | refine bl_tr ?_ _ | refine bl_al ?_ _ | refine bl_dr ?_ | refine bl_up ?_ _ | refine Below.drew ?_ | refine bl_alloc ?_ _ | refine Below.setCell ?_ (by first | (simp; done) | (simp; omega)) _))) hn) f1))))); refine wpQuiet_nil ?_; intro _ hw'; obtain ⟨nq, hw''⟩ := hw'; subst hw''))
                                  go_roundw
                                  case rel => exact ⟨q + 1, day, q, by omega, rfl, rfl, by go_num, by have := best_new (q := q) hB'.out (by rw [hF.out]; exact hle'.out) d1 (by rw [hF.out]; omega) (by rw [hF.out]; omega) (by omega) (by rw [hF.out]; exact f1) (by rw [hF.out]; omega); rw [hF.out] at this; exact this, fun _ => Int.le_refl _, ex_up (by repeat (first | exact Below.refl _ _ | refine bl_tr ?_ _ | refine bl_al ?_ _ | refine bl_dr ?_ | refine bl_up ?_ _ | refine Below.drew ?_ | refine bl_alloc ?_ _ | refine Below.setCell ?_ (by first | (simp; done) | (simp; omega)) _))⟩
                                  case measure => (simp [intOf]; try omega)
                                · go_wp2_with (first | (go_at_call 59; refine (ret_as (l25Free_any _ _ _ _ _ _ _ (h.below (by repeat (first | exact Below.refl _ _ | refine bl_tr ?_ _ | refine bl_al ?_ _ | refine bl_dr ?_ | refine bl_up ?_ _ | refine Below.drew ?_ | refine bl_alloc ?_ _ | refine Below.setCell ?_ (by first | (simp; done) | (simp; omega)) _))) hn) f1).mono ?_; rintro e w' ⟨rfl, g, rfl⟩) | ((with_reducible refine wp_region_up (by kernel_rfl) (by kernel_rfl) ?_); (repeat (go_big_quiet_step (first | (go_at_call 59; first | exact upq_tr (ret_as (l25Free_any _ _ _ _ _ _ _ (h.below (by repeat (first | exact Below.refl _ _ | refine bl_tr ?_ _ | refine bl_al ?_ _ | refine bl_dr ?_ | refine bl_up ?_ _ | refine Below.drew ?_ | refine bl_alloc ?_ _ | refine Below.setCell ?_ (by first | (simp; done) | (simp; omega)) _))) hn) f1) | exact upq (ret_as (l25Free_any _ _ _ _ _ _ _ (h.below (by repeat (first | exact Below.refl _ _ | refine bl_tr ?_ _ | refine bl_al ?_ _ | refine bl_dr ?_ | refine bl_up ?_ _ | refine Below.drew ?_ | refine bl_alloc ?_ _ | refine Below.setCell ?_ (by first | (simp; done) | (simp; omega)) _))) hn) f1))))); refine wpQuiet_nil ?_; intro _ hw'; obtain ⟨nq, hw''⟩ := hw'; subst hw''))
                                  go_roundw
                                  case rel => exact ⟨q + 1, b', m', by omega, rfl, rfl, by go_num, best_keep hB'.out (by rw [hF.out]; exact hle'.out) (by rw [hF.out]; omega), hle', ex_up (by repeat (first | exact Below.refl _ _ | refine bl_tr ?_ _ | refine bl_al ?_ _ | refine bl_dr ?_ | refine bl_up ?_ _ | refine Below.drew ?_ | refine bl_alloc ?_ _ | refine Below.setCell ?_ (by first | (simp; done) | (simp; omega)) _))⟩
                                  case measure => (simp [intOf]; try omega)
                        · obtain rfl : q = N := by omega
                          go_wp2_with (first | ((with_reducible refine wp_region_up (by kernel_rfl) (by kernel_rfl) ?_); (repeat (go_big_quiet_step (fail))); refine wpQuiet_nil ?_; intro _ hw'; obtain ⟨nq, hw''⟩ := hw'; subst hw''))
                          go_roundw
                          case rel => exact ⟨k + 1, b', m', by omega, rfl, rfl, by rw [hidx.out], best_out (by omega) hB'.out, ex_up (by repeat (first | exact Below.refl _ _ | refine bl_tr ?_ _ | refine bl_al ?_ _ | refine bl_dr ?_ | refine bl_up ?_ _ | refine Below.drew ?_ | refine bl_alloc ?_ _ | refine Below.setCell ?_ (by first | (simp; done) | (simp; omega)) _))⟩
                          case measure => (simp [intOf]; try omega))
            · obtain ⟨j, hj⟩ : ∃ j, k = j + 1 := ⟨k - 1, by omega⟩
              have hjl : j < l.length := by omega
              have hidx := Lib.hid (show idx (k + 1) = (j : Int) + 1 by rw [idx_eq]; omega)
              have hF := Lib.hid (show cand l day k = (hat l j).t by rw [hj]; rfl)
              have hi' := hi.trans (show i64 (idx k) = i64 j by rw [hj]; rfl)
              clear hi
              subst hi'
              obtain ⟨o1, o2, o3, o4, o5⟩ := hone.out j hjl
              obtain ⟨bl, off, rfl, hbl, ha⟩ := hire_at' h hjl
              obtain ⟨_, c0, c1, c2⟩ := ha j hjl
              by_cases s1 : (hat l j).t < day
              · go_wp2_with (first | ((with_reducible refine wp_region_up (by kernel_rfl) (by kernel_rfl) ?_); (repeat (go_big_quiet_step (fail))); refine wpQuiet_nil ?_; intro _ hw'; obtain ⟨nq, hw''⟩ := hw'; subst hw''))
                go_roundw
                case rel => exact ⟨k + 1, b, m, by omega, rfl, rfl, by rw [hidx.out], best_skip hB.out (by rw [hF.out]; omega), ex_up (by repeat (first | exact Below.refl _ _ | refine bl_tr ?_ _ | refine bl_al ?_ _ | refine bl_dr ?_ | refine bl_up ?_ _ | refine Below.drew ?_ | refine bl_alloc ?_ _ | refine Below.setCell ?_ (by first | (simp; done) | (simp; omega)) _))⟩
                case measure => (simp [intOf]; try omega)
              · by_cases s2 : 3650 < (hat l j).t + days
                · go_wp2_with (first | ((with_reducible refine wp_region_up (by kernel_rfl) (by kernel_rfl) ?_); (repeat (go_big_quiet_step (fail))); refine wpQuiet_nil ?_; intro _ hw'; obtain ⟨nq, hw''⟩ := hw'; subst hw''))
                  go_roundw
                  case rel => exact ⟨k + 1, b, m, by omega, rfl, rfl, by rw [hidx.out], best_skip hB.out (by rw [hF.out]; omega), ex_up (by repeat (first | exact Below.refl _ _ | refine bl_tr ?_ _ | refine bl_al ?_ _ | refine bl_dr ?_ | refine bl_up ?_ _ | refine Below.drew ?_ | refine bl_alloc ?_ _ | refine Below.setCell ?_ (by first | (simp; done) | (simp; omega)) _))⟩
                  case measure => (simp [intOf]; try omega)
                · by_cases s3 : 0 ≤ b ∧ b < (hat l j).t
                  · obtain ⟨s4, s5⟩ := s3
                    go_wp2_with (first | ((with_reducible refine wp_region_up (by kernel_rfl) (by kernel_rfl) ?_); (repeat (go_big_quiet_step (fail))); refine wpQuiet_nil ?_; intro _ hw'; obtain ⟨nq, hw''⟩ := hw'; subst hw''))
                    go_roundw
                    case rel => exact ⟨k + 1, b, m, by omega, rfl, rfl, by rw [hidx.out], best_skip hB.out (by rw [hF.out]; omega), ex_up (by repeat (first | exact Below.refl _ _ | refine bl_tr ?_ _ | refine bl_al ?_ _ | refine bl_dr ?_ | refine bl_up ?_ _ | refine Below.drew ?_ | refine bl_alloc ?_ _ | refine Below.setCell ?_ (by first | (simp; done) | (simp; omega)) _))⟩
                    case measure => (simp [intOf]; try omega)
                  · have hle := Lib.hid (show 0 ≤ b → (hat l j).t ≤ b by omega)
                    by_cases s4 : 0 ≤ b
                    all_goals try (have s5 : ¬ b < (hat l j).t := by omega)
                    all_goals clear s3
                    all_goals
                     (go_wp2_with (first | ((with_reducible refine wp_region_up (by kernel_rfl) (by kernel_rfl) ?_); (repeat (go_big_quiet_step (fail))); refine wpQuiet_nil ?_; intro _ hw'; obtain ⟨nq, hw''⟩ := hw'; subst hw''))
                      go_loopw [11, 12, 15] (fun x y i wr => ∃ (q : Nat) (b' m' : Int), q ≤ N ∧ x = i64 b' ∧ y = i64 m' ∧ i = i64 q ∧ Hid (Best (SeenIn l N day days k q) b' m') ∧ Hid (0 ≤ b' → (hat l j).t ≤ b') ∧ ∃ g : Up w, wr = up w g) (fun _ _ i _ => N - (intOf i).toNat)
                      case atStart => exact ⟨0, b, m, by omega, rfl, rfl, rfl, best_in hB.out, hle, ex_up (by repeat (first | exact Below.refl _ _ | refine bl_tr ?_ _ | refine bl_al ?_ _ | refine bl_dr ?_ | refine bl_up ?_ _ | refine Below.drew ?_ | refine bl_alloc ?_ _ | refine Below.setCell ?_ (by first | (simp; done) | (simp; omega)) _))⟩
                      case round =>
                        obtain ⟨q, b', m', hq, rfl, rfl, rfl, hB', hle', g', rfl⟩ := hrel
                        by_cases hqN : q < N
                        · cases f1 : free l q (hat l j).t ((hat l j).t + days)
                          · go_wp2_with (first | (go_at_call 59; refine (ret_as (l25Free_any _ _ _ _ _ _ _ (h.below (by repeat (first | exact Below.refl _ _ | refine bl_tr ?_ _ | refine bl_al ?_ _ | refine bl_dr ?_ | refine bl_up ?_ _ | refine Below.drew ?_ | refine bl_alloc ?_ _ | refine Below.setCell ?_ (by first | (simp; done) | (simp; omega)) _))) hn) f1).mono ?_; rintro e w' ⟨rfl, g, rfl⟩) | ((with_reducible refine wp_region_up (by kernel_rfl) (by kernel_rfl) ?_); (repeat (go_big_quiet_step (first | (go_at_call 59; first | exact upq_tr (ret_as (l25Free_any _ _ _ _ _ _ _ (h.below (by repeat (first | exact Below.refl _ _ | refine bl_tr ?_ _ | refine bl_al ?_ _ | refine bl_dr ?_ | refine bl_up ?_ _ | refine Below.drew ?_ | refine bl_alloc ?_ _ | refine Below.setCell ?_ (by first | (simp; done) | (simp; omega)) _))) hn) f1) | exact upq (ret_as (l25Free_any _ _ _ _ _ _ _ (h.below (by repeat (first | exact Below.refl _ _ | refine bl_tr ?_ _ | refine bl_al ?_ _ | refine bl_dr ?_ | refine bl_up ?_ _ | refine Below.drew ?_ | refine bl_alloc ?_ _ | refine Below.setCell ?_ (by first | (simp; done) | (simp; omega)) _))) hn) f1))))); refine wpQuiet_nil ?_; intro _ hw'; obtain ⟨nq, hw''⟩ := hw'; subst hw''))
                            go_roundw
                            case rel => exact ⟨q + 1, b', m', by omega, rfl, rfl, by go_num, best_keep hB'.out (by rw [hF.out]; exact hle'.out) (by rw [hF.out]; exact .inl f1), hle', ex_up (by repeat (first | exact Below.refl _ _ | refine bl_tr ?_ _ | refine bl_al ?_ _ | refine bl_dr ?_ | refine bl_up ?_ _ | refine Below.drew ?_ | refine bl_alloc ?_ _ | refine Below.setCell ?_ (by first | (simp; done) | (simp; omega)) _))⟩
                            case measure => (simp [intOf]; try omega)
                          · by_cases t1 : b' < 0
                            · go_wp2_with (first | (go_at_call 59; refine (ret_as (l25Free_any _ _ _ _ _ _ _ (h.below (by repeat (first | exact Below.refl _ _ | refine bl_tr ?_ _ | refine bl_al ?_ _ | refine bl_dr ?_ | refine bl_up ?_ _ | refine Below.drew ?_ | refine bl_alloc ?_ _ | refine Below.setCell ?_ (by first | (simp; done) | (simp; omega)) _))) hn) f1).mono ?_; rintro e w' ⟨rfl, g, rfl⟩) | ((with_reducible refine wp_region_up (by kernel_rfl) (by kernel_rfl) ?_); (repeat (go_big_quiet_step (first | (go_at_call 59; first | exact upq_tr (ret_as (l25Free_any _ _ _ _ _ _ _ (h.below (by repeat (first | exact Below.refl _ _ | refine bl_tr ?_ _ | refine bl_al ?_ _ | refine bl_dr ?_ | refine bl_up ?_ _ | refine Below.drew ?_ | refine bl_alloc ?_ _ | refine Below.setCell ?_ (by first | (simp; done) | (simp; omega)) _))) hn) f1) | exact upq (ret_as (l25Free_any _ _ _ _ _ _ _ (h.below (by repeat (first | exact Below.refl _ _ | refine bl_tr ?_ _ | refine bl_al ?_ _ | refine bl_dr ?_ | refine bl_up ?_ _ | refine Below.drew ?_ | refine bl_alloc ?_ _ | refine Below.setCell ?_ (by first | (simp; done) | (simp; omega)) _))) hn) f1))))); refine wpQuiet_nil ?_; intro _ hw'; obtain ⟨nq, hw''⟩ := hw'; subst hw''))
                              go_roundw
                              case rel => exact ⟨q + 1, (hat l j).t, q, by omega, rfl, rfl, by go_num, by have := best_new (q := q) hB'.out (by rw [hF.out]; exact hle'.out) d1 (by rw [hF.out]; omega) (by rw [hF.out]; omega) (by omega) (by rw [hF.out]; exact f1) (by rw [hF.out]; omega); rw [hF.out] at this; exact this, fun _ => Int.le_refl _, ex_up (by repeat (first | exact Below.refl _ _ | refine bl_tr ?_ _ | refine bl_al ?_ _ | refine bl_dr ?_ | refine bl_up ?_ _ | refine Below.drew ?_ | refine bl_alloc ?_ _ | refine Below.setCell ?_ (by first | (simp; done) | (simp; omega)) _))⟩
                              case measure => (simp [intOf]; try omega)
                            · by_cases t2 : (hat l j).t < b'
                              · go_wp2_with (first | (go_at_call 59; refine (ret_as (l25Free_any _ _ _ _ _ _ _ (h.below (by repeat (first | exact Below.refl _ _ | refine bl_tr ?_ _ | refine bl_al ?_ _ | refine bl_dr ?_ | refine bl_up ?_ _ | refine Below.drew ?_ | refine bl_alloc ?_ _ | refine Below.setCell ?_ (by first | (simp; done) | (simp; omega)) _))) hn) f1).mono ?_; rintro e w' ⟨rfl, g, rfl⟩) | ((with_reducible refine wp_region_up (by kernel_rfl) (by kernel_rfl) ?_); (repeat (go_big_quiet_step (first | (go_at_call 59; first | exact upq_tr (ret_as (l25Free_any _ _ _ _ _ _ _ (h.below (by repeat (first | exact Below.refl _ _ | refine bl_tr ?_ _ | refine bl_al ?_ _ | refine bl_dr ?_ | refine bl_up ?_ _ | refine Below.drew ?_ | refine bl_alloc ?_ _ | refine Below.setCell ?_ (by first | (simp; done) | (simp; omega)) _))) hn) f1) | exact upq (ret_as (l25Free_any _ _ _ _ _ _ _ (h.below (by repeat (first | exact Below.refl _ _ | refine bl_tr ?_ _ | refine bl_al ?_ _ | refine bl_dr ?_ | refine bl_up ?_ _ | refine Below.drew ?_ | refine bl_alloc ?_ _ | refine Below.setCell ?_ (by first | (simp; done) | (simp; omega)) _))) hn) f1))))); refine wpQuiet_nil ?_; intro _ hw'; obtain ⟨nq, hw''⟩ := hw'; subst hw''))
                                go_roundw
                                case rel => exact ⟨q + 1, (hat l j).t, q, by omega, rfl, rfl, by go_num, by have := best_new (q := q) hB'.out (by rw [hF.out]; exact hle'.out) d1 (by rw [hF.out]; omega) (by rw [hF.out]; omega) (by omega) (by rw [hF.out]; exact f1) (by rw [hF.out]; omega); rw [hF.out] at this; exact this, fun _ => Int.le_refl _, ex_up (by repeat (first | exact Below.refl _ _ | refine bl_tr ?_ _ | refine bl_al ?_ _ | refine bl_dr ?_ | refine bl_up ?_ _ | refine Below.drew ?_ | refine bl_alloc ?_ _ | refine Below.setCell ?_ (by first | (simp; done) | (simp; omega)) _))⟩
                                case measure => (simp [intOf]; try omega)
                              · by_cases t3 : (q : Int) < m'
                                · go_wp2_with (first | (go_at_call 59; refine (ret_as (l25Free_any _ _ _ _ _ _ _ (h.below (by repeat (first | exact Below.refl _ _ | refine bl_tr ?_ _ | refine bl_al ?_ _ | refine bl_dr ?_ | refine bl_up ?_ _ | refine Below.drew ?_ | refine bl_alloc ?_ _ | refine Below.setCell ?_ (by first | (simp; done) | (simp; omega)) _))) hn) f1).mono ?_; rintro e w' ⟨rfl, g, rfl⟩) | ((with_reducible refine wp_region_up (by kernel_rfl) (by kernel_rfl) ?_); (repeat (go_big_quiet_step (first | (go_at_call 59; first | exact upq_tr (ret_as (l25Free_any _ _ _ _ _ _ _ (h.below (by repeat (first | exact Below.refl _ _ | refine bl_tr ?_ _ | refine bl_al ?_ _ | refine bl_dr ?_ | refine bl_up ?_ _ | refine Below.drew ?_ | refine bl_alloc ?_ _ | refine Below.setCell ?_ (by first | (simp; done) | (simp; omega)) _))) hn) f1) | exact upq (ret_as (l25Free_any _ _ _ _ _ _ _ (h.below (by repeat (first | exact Below.refl _ _ | refine bl_tr ?_ _ | refine bl_al ?_ _ | refine bl_dr ?_ | refine bl_up ?_ _ | refine Below.drew ?_ | refine bl_alloc ?_ _ | refine Below.setCell ?_ (by first | (simp; done) | (simp; omega)) _))) hn) f1))))); refine wpQuiet_nil ?_; intro _ hw'; obtain ⟨nq, hw''⟩ := hw'; subst hw''))
                                  go_roundw
                                  case rel => exact ⟨q + 1, (hat l j).t, q, by omega, rfl, rfl, by go_num, by have := best_new (q := q) hB'.out (by rw [hF.out]; exact hle'.out) d1 (by rw [hF.out]; omega) (by rw [hF.out]; omega) (by omega) (by rw [hF.out]; exact f1) (by rw [hF.out]; omega); rw [hF.out] at this; exact this, fun _ => Int.le_refl _, ex_up (by repeat (first | exact Below.refl _ _ | refine bl_tr ?_ _ | refine bl_al ?_ _ | refine bl_dr ?_ | refine bl_up ?_ _ | refine Below.drew ?_ | refine bl_alloc ?_ _ | refine Below.setCell ?_ (by first | (simp; done) | (simp; omega)) _))⟩
                                  case measure => (simp [intOf]; try omega)
                                · go_wp2_with (first | (go_at_call 59; refine (ret_as (l25Free_any _ _ _ _ _ _ _ (h.below (by repeat (first | exact Below.refl _ _ | refine bl_tr ?_ _ | refine bl_al ?_ _ | refine bl_dr ?_ | refine bl_up ?_ _ | refine Below.drew ?_ | refine bl_alloc ?_ _ | refine Below.setCell ?_ (by first | (simp; done) | (simp; omega)) _))) hn) f1).mono ?_; rintro e w' ⟨rfl, g, rfl⟩) | ((with_reducible refine wp_region_up (by kernel_rfl) (by kernel_rfl) ?_); (repeat (go_big_quiet_step (first | (go_at_call 59; first | exact upq_tr (ret_as (l25Free_any _ _ _ _ _ _ _ (h.below (by repeat (first | exact Below.refl _ _ | refine bl_tr ?_ _ | refine bl_al ?_ _ | refine bl_dr ?_ | refine bl_up ?_ _ | refine Below.drew ?_ | refine bl_alloc ?_ _ | refine Below.setCell ?_ (by first | (simp; done) | (simp; omega)) _))) hn) f1) | exact upq (ret_as (l25Free_any _ _ _ _ _ _ _ (h.below (by repeat (first | exact Below.refl _ _ | refine bl_tr ?_ _ | refine bl_al ?_ _ | refine bl_dr ?_ | refine bl_up ?_ _ | refine Below.drew ?_ | refine bl_alloc ?_ _ | refine Below.setCell ?_ (by first | (simp; done) | (simp; omega)) _))) hn) f1))))); refine wpQuiet_nil ?_; intro _ hw'; obtain ⟨nq, hw''⟩ := hw'; subst hw''))
                                  go_roundw
                                  case rel => exact ⟨q + 1, b', m', by omega, rfl, rfl, by go_num, best_keep hB'.out (by rw [hF.out]; exact hle'.out) (by rw [hF.out]; omega), hle', ex_up (by repeat (first | exact Below.refl _ _ | refine bl_tr ?_ _ | refine bl_al ?_ _ | refine bl_dr ?_ | refine bl_up ?_ _ | refine Below.drew ?_ | refine bl_alloc ?_ _ | refine Below.setCell ?_ (by first | (simp; done) | (simp; omega)) _))⟩
                                  case measure => (simp [intOf]; try omega)
                        · obtain rfl : q = N := by omega
                          go_wp2_with (first | ((with_reducible refine wp_region_up (by kernel_rfl) (by kernel_rfl) ?_); (repeat (go_big_quiet_step (fail))); refine wpQuiet_nil ?_; intro _ hw'; obtain ⟨nq, hw''⟩ := hw'; subst hw''))
                          go_roundw
                          case rel => exact ⟨k + 1, b', m', by omega, rfl, rfl, by rw [hidx.out], best_out (by omega) hB'.out, ex_up (by repeat (first | exact Below.refl _ _ | refine bl_tr ?_ _ | refine bl_al ?_ _ | refine bl_dr ?_ | refine bl_up ?_ _ | refine Below.drew ?_ | refine bl_alloc ?_ _ | refine Below.setCell ?_ (by first | (simp; done) | (simp; omega)) _))⟩
                          case measure => (simp [intOf]; try omega))
          · obtain rfl : k = l.length + 1 := by omega
            have hE := best_end hB.out
            have hi' := hi.trans (show i64 (idx (l.length + 1)) = i64 l.length from rfl)
            clear hi
            subst hi'
            by_cases hb : b < 0
            · rw [if_pos hb] at hE
              have hE' := Lib.hid hE
              clear hE
              go_wp2_with (first | ((with_reducible refine wp_region_up (by kernel_rfl) (by kernel_rfl) ?_); (repeat (go_big_quiet_step (fail))); refine wpQuiet_nil ?_; intro _ hw'; obtain ⟨nq, hw''⟩ := hw'; subst hw''))
              go_ret3
              first | exact ⟨(0, 0, 3), rfl, hR.out _ hE'.out, UpOf.of (by repeat (first | exact Below.refl _ _ | refine bl_tr ?_ _ | refine bl_al ?_ _ | refine bl_dr ?_ | refine bl_up ?_ _ | refine Below.drew ?_ | refine bl_alloc ?_ _ | refine Below.setCell ?_ (by first | (simp; done) | (simp; omega)) _))⟩ | exact ⟨0, 0, 3, rfl, hR.out _ hE'.out, UpOf.of (by repeat (first | exact Below.refl _ _ | refine bl_tr ?_ _ | refine bl_al ?_ _ | refine bl_dr ?_ | refine bl_up ?_ _ | refine Below.drew ?_ | refine bl_alloc ?_ _ | refine Below.setCell ?_ (by first | (simp; done) | (simp; omega)) _))⟩
            · rw [if_neg hb] at hE
              have hE' := Lib.hid hE
              clear hE
              go_wp2_with (first | ((with_reducible refine wp_region_up (by kernel_rfl) (by kernel_rfl) ?_); (repeat (go_big_quiet_step (fail))); refine wpQuiet_nil ?_; intro _ hw'; obtain ⟨nq, hw''⟩ := hw'; subst hw''))
              go_ret3
              first | exact ⟨(b, m, 0), rfl, hR.out _ hE'.out, UpOf.of (by repeat (first | exact Below.refl _ _ | refine bl_tr ?_ _ | refine bl_al ?_ _ | refine bl_dr ?_ | refine bl_up ?_ _ | refine Below.drew ?_ | refine bl_alloc ?_ _ | refine Below.setCell ?_ (by first | (simp; done) | (simp; omega)) _))⟩ | exact ⟨b, m, 0, rfl, hR.out _ hE'.out, UpOf.of (by repeat (first | exact Below.refl _ _ | refine bl_tr ?_ _ | refine bl_al ?_ _ | refine bl_dr ?_ | refine bl_up ?_ _ | refine Below.drew ?_ | refine bl_alloc ?_ _ | refine Below.setCell ?_ (by first | (simp; done) | (simp; omega)) _))⟩
  · have h1' : vHires l n = false := by simpa using h1
    have hR := Lib.hid (show NFR l n day days (0, 0, 1) by rw [NFR, if_neg h1])
    clear h1
    go_enter Try.func31, Try.ntmps31
    go_wp2_with (first | (go_at_call 49; refine (ret_as (l25Ok_any _ _ _ _ _ h hn) h1').mono ?_; rintro e w' ⟨rfl, g, rfl⟩) | ((with_reducible refine wp_region_up (by kernel_rfl) (by kernel_rfl) ?_); (repeat (go_big_quiet_step (first | (go_at_call 49; first | exact upq_tr (ret_as (l25Ok_any _ _ _ _ _ h hn) h1') | exact upq (ret_as (l25Ok_any _ _ _ _ _ h hn) h1'))))); refine wpQuiet_nil ?_; intro _ hw'; obtain ⟨nq, hw''⟩ := hw'; subst hw''))
    go_ret3
    exact ⟨_, rfl, hR.out, UpOf.of (by repeat (first | exact Below.refl _ _ | refine bl_tr ?_ _ | refine bl_al ?_ _ | refine bl_dr ?_ | refine bl_up ?_ _ | refine Below.drew ?_ | refine bl_alloc ?_ _ | refine Below.setCell ?_ (by first | (simp; done) | (simp; omega)) _))⟩
end Go.Proofs.Ytiagckbdofeecaa
