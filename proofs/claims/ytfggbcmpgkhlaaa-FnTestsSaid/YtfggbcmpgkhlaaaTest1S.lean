/-
  Valid defects: the reference's. The bounds stand at each.
-/
import Derived.Test.YtfggbcmpgkhlaaaTest1
namespace Go.Proofs.Ytfggbcmpgkhlaaa
open Go.RowKit
set_option maxRecDepth 10000 in
set_option maxHeartbeats 2000000 in
theorem l23One_any (d : Defect) (n b o : Nat) (w : World) (h : DAt w b o d) (h1 : d.name.size ≤ 100000000) (h2 : d.signs.size ≤ 100000000) :
    Calls Try.prog 69 #[.pointer (some ⟨b, o, none⟩), i64 n] w fun e w' => e = .returned (.bool (vDef n d)) ∧ UpOf w w' := by
  obtain ⟨hb0, x0, x1, x2⟩ := h
  go_enter Try.func69, Try.ntmps69
  go_wp2_with (first | ((with_reducible refine wp_region_up (by kernel_rfl) (by kernel_rfl) ?_); (repeat (go_big_quiet_step (fail))); refine wpQuiet_nil ?_; intro _ hw'; obtain ⟨nq, hw''⟩ := hw'; subst hw''))
  go_loopw [5] (fun i wr => ∃ k : Nat, k ≤ d.signs.size ∧ i = i64 k ∧ Hid (∀ j, j < k → signC (byteAt d.signs j) = true) ∧ ∃ g : Up w, wr = up w g) (fun i _ => d.signs.size - (intOf i).toNat)
  case atStart => exact ⟨0, by omega, rfl, fun i hi => by omega, ex_up (by repeat (first | exact Below.refl _ _ | refine bl_tr ?_ _ | refine bl_al ?_ _ | refine bl_dr ?_ | refine bl_up ?_ _ | refine Below.drew ?_ | refine bl_alloc ?_ _ | refine Below.setCell ?_ (by first | (simp; done) | (simp; omega)) _))⟩
  case round =>
    obtain ⟨k, hk, rfl, hok, g, rfl⟩ := hrel
    by_cases hlt : k < d.signs.size
    · have hbb := Lib.hid (byteAt_eq hlt)
      cases q1 : ((d.signs[k].toNat : Int) != 48)
      · have hq := Lib.hid (show signC (byteAt d.signs k) = true by rw [← hbb.out]; exact signC_1 q1)
        go_wp2_with (first | ((with_reducible refine wp_region_up (by kernel_rfl) (by kernel_rfl) ?_); (repeat (go_big_quiet_step (fail))); refine wpQuiet_nil ?_; intro _ hw'; obtain ⟨nq, hw''⟩ := hw'; subst hw''))
        go_roundw
        case rel => have hx := lt_ext (P := fun i => signC (byteAt d.signs i) = true) hok.out hq.out; exact ⟨k + 1, by omega, by go_num, hx, ex_up (by repeat (first | exact Below.refl _ _ | refine bl_tr ?_ _ | refine bl_al ?_ _ | refine bl_dr ?_ | refine bl_up ?_ _ | refine Below.drew ?_ | refine bl_alloc ?_ _ | refine Below.setCell ?_ (by first | (simp; done) | (simp; omega)) _))⟩
        case measure => (simp [intOf]; try omega)
      cases q2 : ((d.signs[k].toNat : Int) != 49)
      · have hq := Lib.hid (show signC (byteAt d.signs k) = true by rw [← hbb.out]; exact signC_2 q2)
        go_wp2_with (first | ((with_reducible refine wp_region_up (by kernel_rfl) (by kernel_rfl) ?_); (repeat (go_big_quiet_step (fail))); refine wpQuiet_nil ?_; intro _ hw'; obtain ⟨nq, hw''⟩ := hw'; subst hw''))
        go_roundw
        case rel => have hx := lt_ext (P := fun i => signC (byteAt d.signs i) = true) hok.out hq.out; exact ⟨k + 1, by omega, by go_num, hx, ex_up (by repeat (first | exact Below.refl _ _ | refine bl_tr ?_ _ | refine bl_al ?_ _ | refine bl_dr ?_ | refine bl_up ?_ _ | refine Below.drew ?_ | refine bl_alloc ?_ _ | refine Below.setCell ?_ (by first | (simp; done) | (simp; omega)) _))⟩
        case measure => (simp [intOf]; try omega)
      have hf := Lib.hid (vDef_4 (n := n) hlt (show signC (byteAt d.signs k) = false by rw [← hbb.out]; exact signC_0 q1 q2))
      go_wp2_with (first | ((with_reducible refine wp_region_up (by kernel_rfl) (by kernel_rfl) ?_); (repeat (go_big_quiet_step (fail))); refine wpQuiet_nil ?_; intro _ hw'; obtain ⟨nq, hw''⟩ := hw'; subst hw''))
      go_ret
      exact ⟨ret_bool hf.out.symm, UpOf.of (by repeat (first | exact Below.refl _ _ | refine bl_tr ?_ _ | refine bl_al ?_ _ | refine bl_dr ?_ | refine bl_up ?_ _ | refine Below.drew ?_ | refine bl_alloc ?_ _ | refine Below.setCell ?_ (by first | (simp; done) | (simp; omega)) _))⟩
    · have HOK := Lib.hid (fun i hi => hok.out i (by omega) : ∀ i, i < d.signs.size → signC (byteAt d.signs i) = true)
      clear hok
      cases b1 : nameB d.name
      · have hf := Lib.hid (vDef_1 (n := n) b1)
        go_wp2_with (first | (go_at_call 72; refine (ret_as (isNameS_any _ _ (by omega)) b1).mono ?_; rintro e w' ⟨rfl, rfl⟩) | (go_at_call 67; refine (in_any _ _ _ _).mono ?_; rintro e w' ⟨rfl, rfl⟩) | ((with_reducible refine wp_region_up (by kernel_rfl) (by kernel_rfl) ?_); (repeat (go_big_quiet_step (first | (go_at_call 72; first | exact upq_tr_same (ret_as (isNameS_any _ _ (by omega)) b1) | exact upq_same (ret_as (isNameS_any _ _ (by omega)) b1)) | (go_at_call 67; first | exact upq_tr_same (in_any _ _ _ _) | exact upq_same (in_any _ _ _ _))))); refine wpQuiet_nil ?_; intro _ hw'; obtain ⟨nq, hw''⟩ := hw'; subst hw''))
        go_ret
        exact ⟨ret_bool hf.out.symm, UpOf.of (by repeat (first | exact Below.refl _ _ | refine bl_tr ?_ _ | refine bl_al ?_ _ | refine bl_dr ?_ | refine bl_up ?_ _ | refine Below.drew ?_ | refine bl_alloc ?_ _ | refine Below.setCell ?_ (by first | (simp; done) | (simp; omega)) _))⟩
      cases b3 : btw d.weight 1 1000
      · have hf := Lib.hid (vDef_2 (n := n) b3)
        go_wp2_with (first | (go_at_call 72; refine (ret_as (isNameS_any _ _ (by omega)) b1).mono ?_; rintro e w' ⟨rfl, rfl⟩) | (go_at_call 67; refine (ret_as (in_any _ _ _ _) b3).mono ?_; rintro e w' ⟨rfl, rfl⟩) | ((with_reducible refine wp_region_up (by kernel_rfl) (by kernel_rfl) ?_); (repeat (go_big_quiet_step (first | (go_at_call 72; first | exact upq_tr_same (ret_as (isNameS_any _ _ (by omega)) b1) | exact upq_same (ret_as (isNameS_any _ _ (by omega)) b1)) | (go_at_call 67; first | exact upq_tr_same (ret_as (in_any _ _ _ _) b3) | exact upq_same (ret_as (in_any _ _ _ _) b3))))); refine wpQuiet_nil ?_; intro _ hw'; obtain ⟨nq, hw''⟩ := hw'; subst hw''))
        go_ret
        exact ⟨ret_bool hf.out.symm, UpOf.of (by repeat (first | exact Below.refl _ _ | refine bl_tr ?_ _ | refine bl_al ?_ _ | refine bl_dr ?_ | refine bl_up ?_ _ | refine Below.drew ?_ | refine bl_alloc ?_ _ | refine Below.setCell ?_ (by first | (simp; done) | (simp; omega)) _))⟩
      cases b4 : ((d.signs.size : Int) == (n : Int))
      · have hf := Lib.hid (vDef_3 (n := n) (d := d) (fun e => by rw [e] at b4; simp at b4))
        go_wp2_with (first | (go_at_call 72; refine (ret_as (isNameS_any _ _ (by omega)) b1).mono ?_; rintro e w' ⟨rfl, rfl⟩) | (go_at_call 67; refine (ret_as (in_any _ _ _ _) b3).mono ?_; rintro e w' ⟨rfl, rfl⟩) | ((with_reducible refine wp_region_up (by kernel_rfl) (by kernel_rfl) ?_); (repeat (go_big_quiet_step (first | (go_at_call 72; first | exact upq_tr_same (ret_as (isNameS_any _ _ (by omega)) b1) | exact upq_same (ret_as (isNameS_any _ _ (by omega)) b1)) | (go_at_call 67; first | exact upq_tr_same (ret_as (in_any _ _ _ _) b3) | exact upq_same (ret_as (in_any _ _ _ _) b3))))); refine wpQuiet_nil ?_; intro _ hw'; obtain ⟨nq, hw''⟩ := hw'; subst hw''))
        go_ret
        exact ⟨ret_bool hf.out.symm, UpOf.of (by repeat (first | exact Below.refl _ _ | refine bl_tr ?_ _ | refine bl_al ?_ _ | refine bl_dr ?_ | refine bl_up ?_ _ | refine Below.drew ?_ | refine bl_alloc ?_ _ | refine Below.setCell ?_ (by first | (simp; done) | (simp; omega)) _))⟩
      · have hf := Lib.hid (vDef_0 (n := n) b1 b3 (by have : (d.signs.size : Int) = n := by simpa using b4
                                                      omega) HOK.out)
        go_wp2_with (first | (go_at_call 72; refine (ret_as (isNameS_any _ _ (by omega)) b1).mono ?_; rintro e w' ⟨rfl, rfl⟩) | (go_at_call 67; refine (ret_as (in_any _ _ _ _) b3).mono ?_; rintro e w' ⟨rfl, rfl⟩) | ((with_reducible refine wp_region_up (by kernel_rfl) (by kernel_rfl) ?_); (repeat (go_big_quiet_step (first | (go_at_call 72; first | exact upq_tr_same (ret_as (isNameS_any _ _ (by omega)) b1) | exact upq_same (ret_as (isNameS_any _ _ (by omega)) b1)) | (go_at_call 67; first | exact upq_tr_same (ret_as (in_any _ _ _ _) b3) | exact upq_same (ret_as (in_any _ _ _ _) b3))))); refine wpQuiet_nil ?_; intro _ hw'; obtain ⟨nq, hw''⟩ := hw'; subst hw''))
        go_ret
        exact ⟨ret_bool hf.out.symm, UpOf.of (by repeat (first | exact Below.refl _ _ | refine bl_tr ?_ _ | refine bl_al ?_ _ | refine bl_dr ?_ | refine bl_up ?_ _ | refine Below.drew ?_ | refine bl_alloc ?_ _ | refine Below.setCell ?_ (by first | (simp; done) | (simp; omega)) _))⟩
set_option maxRecDepth 10000 in
set_option maxHeartbeats 4000000 in
theorem l23Ok_any (A B : Option Addr) (c c' : Nat) (l : List Defect) (ps : List Int) (w : World) (h : Rds w 3 A l.length (dfcs l)) (hp : Rds w 1 B ps.length (ics ps)) (hn : l.length ≤ 100000000) (hm : ps.length ≤ 100000000)
    (hs : ∀ i, i < l.length → (dat l i).name.size ≤ 100000000 ∧ (dat l i).signs.size ≤ 100000000) :
    Calls Try.prog 62 #[.slice A l.length c, .slice B ps.length c'] w fun e w' => e = .returned (.bool (vDefects l ps)) ∧ UpOf w w' := by
  have HS := Lib.hid hs
  clear hs
  go_enter Try.func62, Try.ntmps62
  go_wp2_with (first | ((with_reducible refine wp_region_up (by kernel_rfl) (by kernel_rfl) ?_); (repeat (go_big_quiet_step (fail))); refine wpQuiet_nil ?_; intro _ hw'; obtain ⟨nq, hw''⟩ := hw'; subst hw''))
  go_loopw [5] (fun i wr => ∃ k : Nat, k ≤ ps.length ∧ i = i64 k ∧ Hid (∀ j, j < k → btw (num ps j) 1 100 = true) ∧ ∃ g : Up w, wr = up w g) (fun i _ => ps.length - (intOf i).toNat)
  case atStart => exact ⟨0, by omega, rfl, fun i hi => by omega, ex_up (by repeat (first | exact Below.refl _ _ | refine bl_tr ?_ _ | refine bl_al ?_ _ | refine bl_dr ?_ | refine bl_up ?_ _ | refine Below.drew ?_ | refine bl_alloc ?_ _ | refine Below.setCell ?_ (by first | (simp; done) | (simp; omega)) _))⟩
  case round =>
    obtain ⟨k, hk, rfl, hok, g, rfl⟩ := hrel
    by_cases hlt : k < ps.length
    · obtain ⟨b, off, rfl, hb, hc⟩ := num_at hp hlt
      have c0 := hc k hlt
      clear hc
      cases b0 : btw (num ps k) 1 100
      · have hf := Lib.hid (vDefects_price (l := l) hlt b0)
        go_wp2_with (first | (go_at_call 67; refine (ret_as (in_any _ _ _ _) b0).mono ?_; rintro e w' ⟨rfl, rfl⟩) | ((with_reducible refine wp_region_up (by kernel_rfl) (by kernel_rfl) ?_); (repeat (go_big_quiet_step (first | (go_at_call 67; first | exact upq_tr_same (ret_as (in_any _ _ _ _) b0) | exact upq_same (ret_as (in_any _ _ _ _) b0))))); refine wpQuiet_nil ?_; intro _ hw'; obtain ⟨nq, hw''⟩ := hw'; subst hw''))
        go_ret
        exact ⟨ret_bool hf.out.symm, UpOf.of (by repeat (first | exact Below.refl _ _ | refine bl_tr ?_ _ | refine bl_al ?_ _ | refine bl_dr ?_ | refine bl_up ?_ _ | refine Below.drew ?_ | refine bl_alloc ?_ _ | refine Below.setCell ?_ (by first | (simp; done) | (simp; omega)) _))⟩
      · have hq := Lib.hid b0
        go_wp2_with (first | (go_at_call 67; refine (ret_as (in_any _ _ _ _) b0).mono ?_; rintro e w' ⟨rfl, rfl⟩) | ((with_reducible refine wp_region_up (by kernel_rfl) (by kernel_rfl) ?_); (repeat (go_big_quiet_step (first | (go_at_call 67; first | exact upq_tr_same (ret_as (in_any _ _ _ _) b0) | exact upq_same (ret_as (in_any _ _ _ _) b0))))); refine wpQuiet_nil ?_; intro _ hw'; obtain ⟨nq, hw''⟩ := hw'; subst hw''))
        go_roundw
        case rel => have hx := lt_ext (P := fun j => btw (num ps j) 1 100 = true) hok.out hq.out; exact ⟨k + 1, by omega, by go_num, hx, ex_up (by repeat (first | exact Below.refl _ _ | refine bl_tr ?_ _ | refine bl_al ?_ _ | refine bl_dr ?_ | refine bl_up ?_ _ | refine Below.drew ?_ | refine bl_alloc ?_ _ | refine Below.setCell ?_ (by first | (simp; done) | (simp; omega)) _))⟩
        case measure => (simp [intOf]; try omega)
    · have HOK := Lib.hid (show ∀ j, j < ps.length → btw (num ps j) 1 100 = true from fun j hj => hok.out j (by omega))
      clear hok
      go_wp2_with (first | ((with_reducible refine wp_region_up (by kernel_rfl) (by kernel_rfl) ?_); (repeat (go_big_quiet_step (fail))); refine wpQuiet_nil ?_; intro _ hw'; obtain ⟨nq, hw''⟩ := hw'; subst hw''))
      clear hlt hk
      go_loopw [6] (fun i wr => ∃ k : Nat, k ≤ l.length ∧ i = i64 k ∧ Hid (∀ j, j < k → okD l ps.length j = true) ∧ ∃ g : Up w, wr = up w g) (fun i _ => l.length - (intOf i).toNat)
      case atStart => exact ⟨0, by omega, rfl, fun i hi => by omega, ex_up (by repeat (first | exact Below.refl _ _ | refine bl_tr ?_ _ | refine bl_al ?_ _ | refine bl_dr ?_ | refine bl_up ?_ _ | refine Below.drew ?_ | refine bl_alloc ?_ _ | refine Below.setCell ?_ (by first | (simp; done) | (simp; omega)) _))⟩
      case round =>
        obtain ⟨k, hk, rfl, hok, g', rfl⟩ := hrel
        by_cases hlt : k < l.length
        · obtain ⟨b, off, rfl, hb, ha⟩ := def_all h hlt
          have HA := Lib.hid ha
          have hat := Lib.hid (ha k hlt)
          obtain ⟨f1, f2⟩ := HS.out k hlt
          clear ha
          cases b1 : vDef ps.length (dat l k)
          · have hf := Lib.hid (vDefects_at (ps := ps) hlt (okD_no b1))
            go_wp2_with (first | (go_at_call 69; refine (ret_as (l23One_any _ _ _ _ _ (hat.out.below (by repeat (first | exact Below.refl _ _ | refine bl_tr ?_ _ | refine bl_al ?_ _ | refine bl_dr ?_ | refine bl_up ?_ _ | refine Below.drew ?_ | refine bl_alloc ?_ _ | refine Below.setCell ?_ (by first | (simp; done) | (simp; omega)) _))) f1 f2) b1).mono ?_; rintro e w' ⟨rfl, g, rfl⟩) | ((with_reducible refine wp_region_up (by kernel_rfl) (by kernel_rfl) ?_); (repeat (go_big_quiet_step (first | (go_at_call 69; first | exact upq_tr (ret_as (l23One_any _ _ _ _ _ (hat.out.below (by repeat (first | exact Below.refl _ _ | refine bl_tr ?_ _ | refine bl_al ?_ _ | refine bl_dr ?_ | refine bl_up ?_ _ | refine Below.drew ?_ | refine bl_alloc ?_ _ | refine Below.setCell ?_ (by first | (simp; done) | (simp; omega)) _))) f1 f2) b1) | exact upq (ret_as (l23One_any _ _ _ _ _ (hat.out.below (by repeat (first | exact Below.refl _ _ | refine bl_tr ?_ _ | refine bl_al ?_ _ | refine bl_dr ?_ | refine bl_up ?_ _ | refine Below.drew ?_ | refine bl_alloc ?_ _ | refine Below.setCell ?_ (by first | (simp; done) | (simp; omega)) _))) f1 f2) b1))))); refine wpQuiet_nil ?_; intro _ hw'; obtain ⟨nq, hw''⟩ := hw'; subst hw''))
            go_ret
            exact ⟨ret_bool hf.out.symm, UpOf.of (by repeat (first | exact Below.refl _ _ | refine bl_tr ?_ _ | refine bl_al ?_ _ | refine bl_dr ?_ | refine bl_up ?_ _ | refine Below.drew ?_ | refine bl_alloc ?_ _ | refine Below.setCell ?_ (by first | (simp; done) | (simp; omega)) _))⟩
          · go_wp2_with (first | (go_at_call 69; refine (ret_as (l23One_any _ _ _ _ _ (hat.out.below (by repeat (first | exact Below.refl _ _ | refine bl_tr ?_ _ | refine bl_al ?_ _ | refine bl_dr ?_ | refine bl_up ?_ _ | refine Below.drew ?_ | refine bl_alloc ?_ _ | refine Below.setCell ?_ (by first | (simp; done) | (simp; omega)) _))) f1 f2) b1).mono ?_; rintro e w' ⟨rfl, g, rfl⟩) | ((with_reducible refine wp_region_up (by kernel_rfl) (by kernel_rfl) ?_); (repeat (go_big_quiet_step (first | (go_at_call 69; first | exact upq_tr (ret_as (l23One_any _ _ _ _ _ (hat.out.below (by repeat (first | exact Below.refl _ _ | refine bl_tr ?_ _ | refine bl_al ?_ _ | refine bl_dr ?_ | refine bl_up ?_ _ | refine Below.drew ?_ | refine bl_alloc ?_ _ | refine Below.setCell ?_ (by first | (simp; done) | (simp; omega)) _))) f1 f2) b1) | exact upq (ret_as (l23One_any _ _ _ _ _ (hat.out.below (by repeat (first | exact Below.refl _ _ | refine bl_tr ?_ _ | refine bl_al ?_ _ | refine bl_dr ?_ | refine bl_up ?_ _ | refine Below.drew ?_ | refine bl_alloc ?_ _ | refine Below.setCell ?_ (by first | (simp; done) | (simp; omega)) _))) f1 f2) b1))))); refine wpQuiet_nil ?_; intro _ hw'; obtain ⟨nq, hw''⟩ := hw'; subst hw''))
            have hv := Lib.hid b1
            clear b1
            go_loopw [7] (fun i wr => ∃ j : Nat, j ≤ k ∧ i = i64 j ∧ Hid (∀ i, i < j → (dat l i).name ≠ (dat l k).name) ∧ ∃ g : Up w, wr = up w g) (fun i _ => k - (intOf i).toNat)
            case atStart => exact ⟨0, by omega, rfl, fun i hi => by omega, ex_up (by repeat (first | exact Below.refl _ _ | refine bl_tr ?_ _ | refine bl_al ?_ _ | refine bl_dr ?_ | refine bl_up ?_ _ | refine Below.drew ?_ | refine bl_alloc ?_ _ | refine Below.setCell ?_ (by first | (simp; done) | (simp; omega)) _))⟩
            case round =>
              obtain ⟨j, hj, rfl, hne, g'', rfl⟩ := hrel
              by_cases hlt2 : j < k
              · obtain ⟨_, d0, _, _⟩ := HA.out j (by omega)
                obtain ⟨_, c0, _, _⟩ := hat.out
                cases q : ((dat l j).name.toList == (dat l k).name.toList)
                · have hq := Lib.hid (text_ne q)
                  go_wp2_with (first | ((with_reducible refine wp_region_up (by kernel_rfl) (by kernel_rfl) ?_); (repeat (go_big_quiet_step (fail))); refine wpQuiet_nil ?_; intro _ hw'; obtain ⟨nq, hw''⟩ := hw'; subst hw''))
                  go_roundw
                  case rel => have hx := lt_ext (P := fun i => (dat l i).name ≠ (dat l k).name) hne.out hq.out; exact ⟨j + 1, by omega, by go_num, hx, ex_up (by repeat (first | exact Below.refl _ _ | refine bl_tr ?_ _ | refine bl_al ?_ _ | refine bl_dr ?_ | refine bl_up ?_ _ | refine Below.drew ?_ | refine bl_alloc ?_ _ | refine Below.setCell ?_ (by first | (simp; done) | (simp; omega)) _))⟩
                  case measure => (simp [intOf]; try omega)
                · have hf := Lib.hid (vDefects_at (ps := ps) hlt (okD_name hlt2 (text_eq q)))
                  go_wp2_with (first | ((with_reducible refine wp_region_up (by kernel_rfl) (by kernel_rfl) ?_); (repeat (go_big_quiet_step (fail))); refine wpQuiet_nil ?_; intro _ hw'; obtain ⟨nq, hw''⟩ := hw'; subst hw''))
                  go_ret
                  exact ⟨ret_bool hf.out.symm, UpOf.of (by repeat (first | exact Below.refl _ _ | refine bl_tr ?_ _ | refine bl_al ?_ _ | refine bl_dr ?_ | refine bl_up ?_ _ | refine Below.drew ?_ | refine bl_alloc ?_ _ | refine Below.setCell ?_ (by first | (simp; done) | (simp; omega)) _))⟩
              · obtain rfl : j = k := by omega
                have hq := Lib.hid (okD_true hv.out hne.out)
                go_wp2_with (first | ((with_reducible refine wp_region_up (by kernel_rfl) (by kernel_rfl) ?_); (repeat (go_big_quiet_step (fail))); refine wpQuiet_nil ?_; intro _ hw'; obtain ⟨nq, hw''⟩ := hw'; subst hw''))
                go_roundw
                case rel => have hx := lt_ext (P := fun j => okD l ps.length j = true) hok.out hq.out; exact ⟨j + 1, by omega, by go_num, hx, ex_up (by repeat (first | exact Below.refl _ _ | refine bl_tr ?_ _ | refine bl_al ?_ _ | refine bl_dr ?_ | refine bl_up ?_ _ | refine Below.drew ?_ | refine bl_alloc ?_ _ | refine Below.setCell ?_ (by first | (simp; done) | (simp; omega)) _))⟩
                case measure => (simp [intOf]; try omega)
        · obtain rfl : k = l.length := by omega
          by_cases q : l.length ≤ 10
          · by_cases q2 : ps.length ≤ 6
            · have hf := Lib.hid (vDefects_true ⟨q, q2⟩ HOK.out hok.out)
              have q' : decide (l.length ≤ 10) = true := decide_eq_true q
              go_wp2_with (first | ((with_reducible refine wp_region_up (by kernel_rfl) (by kernel_rfl) ?_); (repeat (go_big_quiet_step (fail))); refine wpQuiet_nil ?_; intro _ hw'; obtain ⟨nq, hw''⟩ := hw'; subst hw''))
              go_ret
              exact ⟨ret_bool (by rw [hf.out]; exact decide_eq_true (by omega)), UpOf.of (by repeat (first | exact Below.refl _ _ | refine bl_tr ?_ _ | refine bl_al ?_ _ | refine bl_dr ?_ | refine bl_up ?_ _ | refine Below.drew ?_ | refine bl_alloc ?_ _ | refine Below.setCell ?_ (by first | (simp; done) | (simp; omega)) _))⟩
            · have hf := Lib.hid (vDefects_len (l := l) (ps := ps) (by omega))
              have q' : decide (l.length ≤ 10) = true := decide_eq_true q
              go_wp2_with (first | ((with_reducible refine wp_region_up (by kernel_rfl) (by kernel_rfl) ?_); (repeat (go_big_quiet_step (fail))); refine wpQuiet_nil ?_; intro _ hw'; obtain ⟨nq, hw''⟩ := hw'; subst hw''))
              go_ret
              exact ⟨ret_bool (by rw [hf.out]; exact decide_eq_false (by omega)), UpOf.of (by repeat (first | exact Below.refl _ _ | refine bl_tr ?_ _ | refine bl_al ?_ _ | refine bl_dr ?_ | refine bl_up ?_ _ | refine Below.drew ?_ | refine bl_alloc ?_ _ | refine Below.setCell ?_ (by first | (simp; done) | (simp; omega)) _))⟩
          · have hf := Lib.hid (vDefects_len (l := l) (ps := ps) (by omega))
            have q' : decide (l.length ≤ 10) = false := decide_eq_false q
            go_wp2_with (first | ((with_reducible refine wp_region_up (by kernel_rfl) (by kernel_rfl) ?_); (repeat (go_big_quiet_step (fail))); refine wpQuiet_nil ?_; intro _ hw'; obtain ⟨nq, hw''⟩ := hw'; subst hw''))
            go_ret
            exact ⟨ret_bool hf.out.symm, UpOf.of (by repeat (first | exact Below.refl _ _ | refine bl_tr ?_ _ | refine bl_al ?_ _ | refine bl_dr ?_ | refine bl_up ?_ _ | refine Below.drew ?_ | refine bl_alloc ?_ _ | refine Below.setCell ?_ (by first | (simp; done) | (simp; omega)) _))⟩
end Go.Proofs.Ytfggbcmpgkhlaaa
