/-
  Valid wares: the program's and the reference's look at one ware. The bounds stand at each.
-/
import Derived.Test.YtiibpldfnnhhlaaWare0
import Derived.Test.YtiibpldfnnhhlaaSet
namespace Go.Proofs.Ytiibpldfnnhhlaa
open Go.RowKit
theorem between_any (n lo hi : Int) (w : World) :
    Calls Try.prog 63 #[i64 n, i64 lo, i64 hi] w fun e w' => e = .returned (.bool (btw n lo hi)) ∧ w = w' := by
  go_enter Try.func63, Try.ntmps63
  go_wp2
  all_goals go_ret
  all_goals exact ⟨ret_bool (by simp [btw]; omega), rfl⟩
theorem in_any (n lo hi : Int) (w : World) :
    Calls Try.prog 65 #[i64 n, i64 lo, i64 hi] w fun e w' => e = .returned (.bool (btw n lo hi)) ∧ w = w' := by
  go_enter Try.func65, Try.ntmps65
  go_wp2
  all_goals go_ret
  all_goals exact ⟨ret_bool (by simp [btw]; omega), rfl⟩
theorem brk_all {w : World} {A : Option Addr} {x : Ware} (h : Rds w 2 A x.brs.length (bkcs x.brs)) (hl : 0 < x.brs.length) :
    ∃ b off, A = some ⟨b, off, none⟩ ∧ b < w.heap.size ∧ ∀ i, i < x.brs.length → w.cell? ⟨b, off + i * 2, none⟩ = some (i64 (brk x i).fr) ∧ w.cell? ⟨b, off + i * 2 + 1, none⟩ = some (i64 (brk x i).pr) := by
  obtain ⟨b, off, rfl, hb, _⟩ := bk_at h hl
  refine ⟨b, off, rfl, hb, fun i hi => ?_⟩
  obtain ⟨b', off', e, _, c0, c1⟩ := bk_at h hi
  injection e with e
  injection e with e1 e2
  subst e1 e2
  rw [brk_eq hi] at c0 c1
  exact ⟨c0, c1⟩
theorem brkAt_zero {x : Ware} (h1 : btw (brk x 0).fr 1 1000 = true) (h2 : btw (brk x 0).pr 1 1000000 = true) (h3 : (brk x 0).fr = 1) : brkAt x 0 = true := by rw [brkAt, vBrk, h1, h2]; simp [h3]
theorem brkAt_bad1 {x : Ware} {k : Nat} (h1 : btw (brk x k).fr 1 1000 = false) : brkAt x k = false := by simp [brkAt, vBrk, h1]
theorem brkAt_bad2 {x : Ware} {k : Nat} (h1 : btw (brk x k).pr 1 1000000 = false) : brkAt x k = false := by simp [brkAt, vBrk, h1]
theorem brkAt_bad3 {x : Ware} {k : Nat} (hk : 0 < k) (h : ¬ ((brk x (k - 1)).fr < (brk x k).fr ∧ (brk x k).pr < (brk x (k - 1)).pr)) : brkAt x k = false := by
  rw [brkAt, if_neg (by omega), decide_eq_false h, Bool.and_false]
theorem brkAt_good {x : Ware} {k : Nat} (hk : 0 < k) (h1 : btw (brk x k).fr 1 1000 = true) (h2 : btw (brk x k).pr 1 1000000 = true) (h3 : (brk x (k - 1)).fr < (brk x k).fr) (h4 : (brk x k).pr < (brk x (k - 1)).pr) : brkAt x k = true := by
  rw [brkAt, if_neg (by omega), decide_eq_true ⟨h3, h4⟩, vBrk, h1, h2]; rfl
set_option maxRecDepth 10000 in
set_option maxHeartbeats 2000000 in
theorem validWare_any (x : Ware) (A : Option Addr) (c : Nat) (w : World) (h : Rds w 2 A x.brs.length (bkcs x.brs)) (hn : x.brs.length ≤ 100000000) (hs : x.name.size ≤ 9223372036854775807) :
    Calls Try.prog 58 #[.agg #[.string x.name, .slice A x.brs.length c]] w fun e w' => e = .returned (.bool (vWare x)) ∧ UpOf w w' := by
  go_enter Try.func58, Try.ntmps58
  go_wp2_with fail
  have hA := h.alloc (.cells #[.string x.name, .slice A x.brs.length c] 74)
  have hx : w.heap.size < (w.alloc (.cells #[.string x.name, .slice A x.brs.length c] 74)).heap.size ∧ (w.alloc (.cells #[.string x.name, .slice A x.brs.length c] 74)).cell? ⟨w.heap.size, 0, none⟩ = some (.string x.name) ∧ (w.alloc (.cells #[.string x.name, .slice A x.brs.length c] 74)).cell? ⟨w.heap.size, 1, none⟩ = some (.slice A x.brs.length c) := ⟨by simp, World.cell?_alloc_new _ _ _ _, World.cell?_alloc_new _ _ _ _⟩
  have hB : Below w.heap.size w (w.alloc (.cells #[.string x.name, .slice A x.brs.length c] 74)) := (Below.refl _ _).alloc (Nat.le_refl _) _
  revert hA hx hB
  generalize w.alloc (.cells #[.string x.name, .slice A x.brs.length c] 74) = W
  intro hA hx hB
  obtain ⟨hx0, x0, x1⟩ := hx
  have HB := Lib.hid hB
  clear h hB
  cases b0 : nameB x.name
  · have hf := Lib.hid (vWare_name b0)
    go_wp2_with (first | (go_at_call 91; refine (ret_as (isNameI_any _ _ hs) b0).mono ?_; rintro e w' ⟨rfl, rfl⟩) | (go_at_call 63; refine (between_any _ _ _ _).mono ?_; rintro e w' ⟨rfl, rfl⟩) | ((with_reducible refine wp_region_up (by kernel_rfl) (by kernel_rfl) ?_); (repeat (go_big_quiet_step (first | (go_at_call 91; first | exact upq_tr_same (ret_as (isNameI_any _ _ hs) b0) | exact upq_same (ret_as (isNameI_any _ _ hs) b0)) | (go_at_call 63; first | exact upq_tr_same (between_any _ _ _ _) | exact upq_same (between_any _ _ _ _))))); refine wpQuiet_nil ?_; intro _ hw'; obtain ⟨nq, hw''⟩ := hw'; subst hw''))
    go_ret
    exact ⟨ret_bool hf.out.symm, UpOf.of HB.out⟩
  cases b1 : btw x.brs.length 1 6
  · have hf := Lib.hid (vWare_len b1)
    go_wp2_with (first | (go_at_call 91; refine (ret_as (isNameI_any _ _ hs) b0).mono ?_; rintro e w' ⟨rfl, rfl⟩) | (go_at_call 63; refine (ret_as (between_any _ _ _ _) b1).mono ?_; rintro e w' ⟨rfl, rfl⟩) | ((with_reducible refine wp_region_up (by kernel_rfl) (by kernel_rfl) ?_); (repeat (go_big_quiet_step (first | (go_at_call 91; first | exact upq_tr_same (ret_as (isNameI_any _ _ hs) b0) | exact upq_same (ret_as (isNameI_any _ _ hs) b0)) | (go_at_call 63; first | exact upq_tr_same (ret_as (between_any _ _ _ _) b1) | exact upq_same (ret_as (between_any _ _ _ _) b1))))); refine wpQuiet_nil ?_; intro _ hw'; obtain ⟨nq, hw''⟩ := hw'; subst hw''))
    go_ret
    exact ⟨ret_bool hf.out.symm, UpOf.of HB.out⟩
  have hlen := btw_true b1
  obtain ⟨b, off, rfl, hb, ha⟩ := brk_all hA (by omega)
  have HA := Lib.hid ha
  obtain ⟨z0, z1⟩ := ha 0 (by omega)
  have hn0 : 0 < x.brs.length := by omega
  clear ha
  cases b2 : ((brk x 0).fr != 1)
  · have hfr := Lib.hid (show (brk x 0).fr = 1 by simpa using b2)
    have hb0 := Lib.hid b0
    have hb1 := Lib.hid b1
    simp only [Nat.zero_mul, Nat.add_zero] at z0 z1
    go_wp2_with (first | (go_at_call 91; refine (ret_as (isNameI_any _ _ hs) b0).mono ?_; rintro e w' ⟨rfl, rfl⟩) | (go_at_call 63; refine (ret_as (between_any _ _ _ _) b1).mono ?_; rintro e w' ⟨rfl, rfl⟩) | ((with_reducible refine wp_region_up (by kernel_rfl) (by kernel_rfl) ?_); (repeat (go_big_quiet_step (first | (go_at_call 91; first | exact upq_tr_same (ret_as (isNameI_any _ _ hs) b0) | exact upq_same (ret_as (isNameI_any _ _ hs) b0)) | (go_at_call 63; first | exact upq_tr_same (ret_as (between_any _ _ _ _) b1) | exact upq_same (ret_as (between_any _ _ _ _) b1))))); refine wpQuiet_nil ?_; intro _ hw'; obtain ⟨nq, hw''⟩ := hw'; subst hw''))
    clear b0 b1 b2 z0 z1
    go_loopw [27] (fun i wr => ∃ k : Nat, k ≤ x.brs.length ∧ i = i64 k ∧ Hid (∀ j, j < k → brkAt x j = true) ∧ ∃ g : Up W, wr = up W g) (fun i _ => x.brs.length - (intOf i).toNat)
    case atStart => exact ⟨0, by omega, rfl, fun i hi => by omega, ex_up (by repeat (first | exact Below.refl _ _ | refine bl_tr ?_ _ | refine bl_al ?_ _ | refine bl_dr ?_ | refine bl_up ?_ _ | refine Below.drew ?_ | refine bl_alloc ?_ _ | refine Below.setCell ?_ (by first | (simp; done) | (simp; omega)) _))⟩
    case round =>
      obtain ⟨k, hk, rfl, hok, g, rfl⟩ := hrel
      by_cases hlt : k < x.brs.length
      · obtain ⟨c0, c1⟩ := HA.out k hlt
        cases p1 : btw (brk x k).fr 1 1000
        · have hf := Lib.hid (vWare_at hlt (brkAt_bad1 p1))
          go_wp2_with (first | (go_at_call 63; refine (between_any _ _ _ _).mono ?_; rintro e w' ⟨rfl, rfl⟩) | ((with_reducible refine wp_region_up (by kernel_rfl) (by kernel_rfl) ?_); (repeat (go_big_quiet_step (first | (go_at_call 63; first | exact upq_tr_same (between_any _ _ _ _) | exact upq_same (between_any _ _ _ _))))); refine wpQuiet_nil ?_; intro _ hw'; obtain ⟨nq, hw''⟩ := hw'; subst hw''))
          go_ret
          exact ⟨ret_bool hf.out.symm, UpOf.of (HB.out.trans (Below.mono (by repeat (first | exact Below.refl _ _ | refine bl_tr ?_ _ | refine bl_al ?_ _ | refine bl_dr ?_ | refine bl_up ?_ _ | refine Below.drew ?_ | refine bl_alloc ?_ _ | refine Below.setCell ?_ (by first | (simp; done) | (simp; omega)) _)) HB.out.size))⟩
        cases p2 : btw (brk x k).pr 1 1000000
        · have hf := Lib.hid (vWare_at hlt (brkAt_bad2 p2))
          go_wp2_with (first | (go_at_call 63; refine (between_any _ _ _ _).mono ?_; rintro e w' ⟨rfl, rfl⟩) | ((with_reducible refine wp_region_up (by kernel_rfl) (by kernel_rfl) ?_); (repeat (go_big_quiet_step (first | (go_at_call 63; first | exact upq_tr_same (between_any _ _ _ _) | exact upq_same (between_any _ _ _ _))))); refine wpQuiet_nil ?_; intro _ hw'; obtain ⟨nq, hw''⟩ := hw'; subst hw''))
          go_ret
          exact ⟨ret_bool hf.out.symm, UpOf.of (HB.out.trans (Below.mono (by repeat (first | exact Below.refl _ _ | refine bl_tr ?_ _ | refine bl_al ?_ _ | refine bl_dr ?_ | refine bl_up ?_ _ | refine Below.drew ?_ | refine bl_alloc ?_ _ | refine Below.setCell ?_ (by first | (simp; done) | (simp; omega)) _)) HB.out.size))⟩
        by_cases k0 : k = 0
        · have hq := Lib.hid (show brkAt x k = true by subst k0; exact brkAt_zero p1 p2 hfr.out)
          have hk0 : decide (0 < k) = false := by simp; omega
          clear k0
          go_wp2_with (first | (go_at_call 63; refine (between_any _ _ _ _).mono ?_; rintro e w' ⟨rfl, rfl⟩) | ((with_reducible refine wp_region_up (by kernel_rfl) (by kernel_rfl) ?_); (repeat (go_big_quiet_step (first | (go_at_call 63; first | exact upq_tr_same (between_any _ _ _ _) | exact upq_same (between_any _ _ _ _))))); refine wpQuiet_nil ?_; intro _ hw'; obtain ⟨nq, hw''⟩ := hw'; subst hw''))
          go_roundw
          case rel => have hx := lt_ext (P := fun i => brkAt x i = true) hok.out hq.out; exact ⟨k + 1, by omega, by go_num, hx, ex_up (by repeat (first | exact Below.refl _ _ | refine bl_tr ?_ _ | refine bl_al ?_ _ | refine bl_dr ?_ | refine bl_up ?_ _ | refine Below.drew ?_ | refine bl_alloc ?_ _ | refine Below.setCell ?_ (by first | (simp; done) | (simp; omega)) _))⟩
          case measure => (simp [intOf]; try omega)
        · obtain ⟨d0, d1⟩ := HA.out (k - 1) (by omega)
          have hk0 : decide (0 < k) = true := by simp; omega
          have hk1 : (1 : Int) ≤ (k : Int) := by omega
          by_cases e1 : (brk x k).fr ≤ (brk x (k - 1)).fr
          · have hf := Lib.hid (vWare_at hlt (brkAt_bad3 (by omega) (fun h => by omega)))
            go_wp2_with (first | (go_at_call 63; refine (between_any _ _ _ _).mono ?_; rintro e w' ⟨rfl, rfl⟩) | ((with_reducible refine wp_region_up (by kernel_rfl) (by kernel_rfl) ?_); (repeat (go_big_quiet_step (first | (go_at_call 63; first | exact upq_tr_same (between_any _ _ _ _) | exact upq_same (between_any _ _ _ _))))); refine wpQuiet_nil ?_; intro _ hw'; obtain ⟨nq, hw''⟩ := hw'; subst hw''))
            go_ret
            exact ⟨ret_bool hf.out.symm, UpOf.of (HB.out.trans (Below.mono (by repeat (first | exact Below.refl _ _ | refine bl_tr ?_ _ | refine bl_al ?_ _ | refine bl_dr ?_ | refine bl_up ?_ _ | refine Below.drew ?_ | refine bl_alloc ?_ _ | refine Below.setCell ?_ (by first | (simp; done) | (simp; omega)) _)) HB.out.size))⟩
          · have e1' : decide ((brk x k).fr ≤ (brk x (k - 1)).fr) = false := decide_eq_false e1
            by_cases e2 : (brk x (k - 1)).pr ≤ (brk x k).pr
            · have hf := Lib.hid (vWare_at hlt (brkAt_bad3 (by omega) (fun h => by omega)))
              go_wp2_with (first | (go_at_call 63; refine (between_any _ _ _ _).mono ?_; rintro e w' ⟨rfl, rfl⟩) | ((with_reducible refine wp_region_up (by kernel_rfl) (by kernel_rfl) ?_); (repeat (go_big_quiet_step (first | (go_at_call 63; first | exact upq_tr_same (between_any _ _ _ _) | exact upq_same (between_any _ _ _ _))))); refine wpQuiet_nil ?_; intro _ hw'; obtain ⟨nq, hw''⟩ := hw'; subst hw''))
              go_ret
              exact ⟨ret_bool hf.out.symm, UpOf.of (HB.out.trans (Below.mono (by repeat (first | exact Below.refl _ _ | refine bl_tr ?_ _ | refine bl_al ?_ _ | refine bl_dr ?_ | refine bl_up ?_ _ | refine Below.drew ?_ | refine bl_alloc ?_ _ | refine Below.setCell ?_ (by first | (simp; done) | (simp; omega)) _)) HB.out.size))⟩
            · have hq := Lib.hid (brkAt_good (by omega) p1 p2 (show (brk x (k - 1)).fr < (brk x k).fr by omega) (by omega))
              go_wp2_with (first | (go_at_call 63; refine (between_any _ _ _ _).mono ?_; rintro e w' ⟨rfl, rfl⟩) | ((with_reducible refine wp_region_up (by kernel_rfl) (by kernel_rfl) ?_); (repeat (go_big_quiet_step (first | (go_at_call 63; first | exact upq_tr_same (between_any _ _ _ _) | exact upq_same (between_any _ _ _ _))))); refine wpQuiet_nil ?_; intro _ hw'; obtain ⟨nq, hw''⟩ := hw'; subst hw''))
              go_roundw
              case rel => have hx := lt_ext (P := fun i => brkAt x i = true) hok.out hq.out; exact ⟨k + 1, by omega, by go_num, hx, ex_up (by repeat (first | exact Below.refl _ _ | refine bl_tr ?_ _ | refine bl_al ?_ _ | refine bl_dr ?_ | refine bl_up ?_ _ | refine Below.drew ?_ | refine bl_alloc ?_ _ | refine Below.setCell ?_ (by first | (simp; done) | (simp; omega)) _))⟩
              case measure => (simp [intOf]; try omega)
      · obtain rfl : k = x.brs.length := by omega
        have hf := Lib.hid (vWare_true hb0.out hb1.out hok.out)
        go_wp2_with (first | ((with_reducible refine wp_region_up (by kernel_rfl) (by kernel_rfl) ?_); (repeat (go_big_quiet_step (fail))); refine wpQuiet_nil ?_; intro _ hw'; obtain ⟨nq, hw''⟩ := hw'; subst hw''))
        go_ret
        exact ⟨ret_bool hf.out.symm, UpOf.of (HB.out.trans (Below.mono (by repeat (first | exact Below.refl _ _ | refine bl_tr ?_ _ | refine bl_al ?_ _ | refine bl_dr ?_ | refine bl_up ?_ _ | refine Below.drew ?_ | refine bl_alloc ?_ _ | refine Below.setCell ?_ (by first | (simp; done) | (simp; omega)) _)) HB.out.size))⟩
  · have hf := Lib.hid (vWare_at (i := 0) hn0 (show brkAt x 0 = false by simp [brkAt]; intro _; simpa using b2))
    simp only [Nat.zero_mul, Nat.add_zero] at z0 z1
    go_wp2_with (first | (go_at_call 91; refine (ret_as (isNameI_any _ _ hs) b0).mono ?_; rintro e w' ⟨rfl, rfl⟩) | (go_at_call 63; refine (ret_as (between_any _ _ _ _) b1).mono ?_; rintro e w' ⟨rfl, rfl⟩) | ((with_reducible refine wp_region_up (by kernel_rfl) (by kernel_rfl) ?_); (repeat (go_big_quiet_step (first | (go_at_call 91; first | exact upq_tr_same (ret_as (isNameI_any _ _ hs) b0) | exact upq_same (ret_as (isNameI_any _ _ hs) b0)) | (go_at_call 63; first | exact upq_tr_same (ret_as (between_any _ _ _ _) b1) | exact upq_same (ret_as (between_any _ _ _ _) b1))))); refine wpQuiet_nil ?_; intro _ hw'; obtain ⟨nq, hw''⟩ := hw'; subst hw''))
    go_ret
    exact ⟨ret_bool hf.out.symm, UpOf.of HB.out⟩
/-- a ware lies at an address -/
def WAt (w : World) (b o : Nat) (x : Ware) (A : Option Addr) (c : Nat) : Prop :=
  b < w.heap.size ∧ w.cell? ⟨b, o, none⟩ = some (.string x.name) ∧ w.cell? ⟨b, o + 1, none⟩ = some (.slice A x.brs.length c) ∧ Rds w 2 A x.brs.length (bkcs x.brs)
theorem WAt.below {w w' : World} {b o : Nat} {x : Ware} {A : Option Addr} {c : Nat} (a : WAt w b o x A c) (hb : Below w.heap.size w w') : WAt w' b o x A c :=
  ⟨Nat.lt_of_lt_of_le a.1 hb.size, (hb.cell (p := ⟨b, o, none⟩) a.1).trans a.2.1, (hb.cell (p := ⟨b, o + 1, none⟩) a.1).trans a.2.2.1, a.2.2.2.below hb⟩
theorem brkAt_bad0 {x : Ware} (h : ¬ (brk x 0).fr = 1) : brkAt x 0 = false := by
  rw [brkAt, if_pos rfl, decide_eq_false h, Bool.and_false]
set_option maxRecDepth 10000 in
set_option maxHeartbeats 2000000 in
theorem l26One_any (x : Ware) (b0 o0 : Nat) (A : Option Addr) (c : Nat) (w : World) (h : WAt w b0 o0 x A c) (hn : x.brs.length ≤ 100000000) (hs : x.name.size ≤ 9223372036854775807) :
    Calls Try.prog 71 #[.pointer (some ⟨b0, o0, none⟩)] w fun e w' => e = .returned (.bool (vWare x)) ∧ UpOf w w' := by
  obtain ⟨hb0, x0, x1, hr⟩ := h
  go_enter Try.func71, Try.ntmps71
  go_wp2_with (first | ((with_reducible refine wp_region_up (by kernel_rfl) (by kernel_rfl) ?_); (repeat (go_big_quiet_step (fail))); refine wpQuiet_nil ?_; intro _ hw'; obtain ⟨nq, hw''⟩ := hw'; subst hw''))
  go_loopw [3] (fun i wr => ∃ k : Nat, k ≤ x.brs.length ∧ i = i64 k ∧ Hid (∀ j, j < k → brkAt x j = true) ∧ ∃ g : Up w, wr = up w g) (fun i _ => x.brs.length - (intOf i).toNat)
  case atStart => exact ⟨0, by omega, rfl, fun i hi => by omega, ex_up (by repeat (first | exact Below.refl _ _ | refine bl_tr ?_ _ | refine bl_al ?_ _ | refine bl_dr ?_ | refine bl_up ?_ _ | refine Below.drew ?_ | refine bl_alloc ?_ _ | refine Below.setCell ?_ (by first | (simp; done) | (simp; omega)) _))⟩
  case round =>
    obtain ⟨k, hk, rfl, hok, g, rfl⟩ := hrel
    by_cases hlt : k < x.brs.length
    · obtain ⟨b, off, rfl, hb, ha⟩ := brk_all hr (by omega)
      have HA := Lib.hid ha
      obtain ⟨c0, c1⟩ := ha k hlt
      clear ha
      cases p1 : btw (brk x k).fr 1 1000
      · have hf := Lib.hid (vWare_at hlt (brkAt_bad1 p1))
        go_wp2_with (first | (go_at_call 65; refine (in_any _ _ _ _).mono ?_; rintro e w' ⟨rfl, rfl⟩) | ((with_reducible refine wp_region_up (by kernel_rfl) (by kernel_rfl) ?_); (repeat (go_big_quiet_step (first | (go_at_call 65; first | exact upq_tr_same (in_any _ _ _ _) | exact upq_same (in_any _ _ _ _))))); refine wpQuiet_nil ?_; intro _ hw'; obtain ⟨nq, hw''⟩ := hw'; subst hw''))
        go_ret
        exact ⟨ret_bool hf.out.symm, UpOf.of (by repeat (first | exact Below.refl _ _ | refine bl_tr ?_ _ | refine bl_al ?_ _ | refine bl_dr ?_ | refine bl_up ?_ _ | refine Below.drew ?_ | refine bl_alloc ?_ _ | refine Below.setCell ?_ (by first | (simp; done) | (simp; omega)) _))⟩
      cases p2 : btw (brk x k).pr 1 1000000
      · have hf := Lib.hid (vWare_at hlt (brkAt_bad2 p2))
        go_wp2_with (first | (go_at_call 65; refine (in_any _ _ _ _).mono ?_; rintro e w' ⟨rfl, rfl⟩) | ((with_reducible refine wp_region_up (by kernel_rfl) (by kernel_rfl) ?_); (repeat (go_big_quiet_step (first | (go_at_call 65; first | exact upq_tr_same (in_any _ _ _ _) | exact upq_same (in_any _ _ _ _))))); refine wpQuiet_nil ?_; intro _ hw'; obtain ⟨nq, hw''⟩ := hw'; subst hw''))
        go_ret
        exact ⟨ret_bool hf.out.symm, UpOf.of (by repeat (first | exact Below.refl _ _ | refine bl_tr ?_ _ | refine bl_al ?_ _ | refine bl_dr ?_ | refine bl_up ?_ _ | refine Below.drew ?_ | refine bl_alloc ?_ _ | refine Below.setCell ?_ (by first | (simp; done) | (simp; omega)) _))⟩
      by_cases k0 : k = 0
      · have hk0 : decide (0 < k) = false := by simp; omega
        have hk1 : ((k : Int) == 0) = true := by rw [beq_iff_eq]; omega
        cases p3 : ((brk x k).fr != 1)
        · have hq := Lib.hid (show brkAt x k = true by subst k0; exact brkAt_zero p1 p2 (by simpa using p3))
          clear k0
          go_wp2_with (first | (go_at_call 65; refine (in_any _ _ _ _).mono ?_; rintro e w' ⟨rfl, rfl⟩) | ((with_reducible refine wp_region_up (by kernel_rfl) (by kernel_rfl) ?_); (repeat (go_big_quiet_step (first | (go_at_call 65; first | exact upq_tr_same (in_any _ _ _ _) | exact upq_same (in_any _ _ _ _))))); refine wpQuiet_nil ?_; intro _ hw'; obtain ⟨nq, hw''⟩ := hw'; subst hw''))
          go_roundw
          case rel => have hx := lt_ext (P := fun i => brkAt x i = true) hok.out hq.out; exact ⟨k + 1, by omega, by go_num, hx, ex_up (by repeat (first | exact Below.refl _ _ | refine bl_tr ?_ _ | refine bl_al ?_ _ | refine bl_dr ?_ | refine bl_up ?_ _ | refine Below.drew ?_ | refine bl_alloc ?_ _ | refine Below.setCell ?_ (by first | (simp; done) | (simp; omega)) _))⟩
          case measure => (simp [intOf]; try omega)
        · have hf := Lib.hid (vWare_at hlt (show brkAt x k = false by subst k0; exact brkAt_bad0 (by simpa using p3)))
          clear k0
          go_wp2_with (first | (go_at_call 65; refine (in_any _ _ _ _).mono ?_; rintro e w' ⟨rfl, rfl⟩) | ((with_reducible refine wp_region_up (by kernel_rfl) (by kernel_rfl) ?_); (repeat (go_big_quiet_step (first | (go_at_call 65; first | exact upq_tr_same (in_any _ _ _ _) | exact upq_same (in_any _ _ _ _))))); refine wpQuiet_nil ?_; intro _ hw'; obtain ⟨nq, hw''⟩ := hw'; subst hw''))
          go_ret
          exact ⟨ret_bool hf.out.symm, UpOf.of (by repeat (first | exact Below.refl _ _ | refine bl_tr ?_ _ | refine bl_al ?_ _ | refine bl_dr ?_ | refine bl_up ?_ _ | refine Below.drew ?_ | refine bl_alloc ?_ _ | refine Below.setCell ?_ (by first | (simp; done) | (simp; omega)) _))⟩
      · obtain ⟨d0, d1⟩ := HA.out (k - 1) (by omega)
        have hk0 : decide (0 < k) = true := by simp; omega
        have hk1 : (1 : Int) ≤ (k : Int) := by omega
        have hk2 : ((k : Int) == 0) = false := by rw [beq_eq_false_iff_ne]; omega
        by_cases e1 : (brk x k).fr ≤ (brk x (k - 1)).fr
        · have hf := Lib.hid (vWare_at hlt (brkAt_bad3 (by omega) (fun h => by omega)))
          go_wp2_with (first | (go_at_call 65; refine (in_any _ _ _ _).mono ?_; rintro e w' ⟨rfl, rfl⟩) | ((with_reducible refine wp_region_up (by kernel_rfl) (by kernel_rfl) ?_); (repeat (go_big_quiet_step (first | (go_at_call 65; first | exact upq_tr_same (in_any _ _ _ _) | exact upq_same (in_any _ _ _ _))))); refine wpQuiet_nil ?_; intro _ hw'; obtain ⟨nq, hw''⟩ := hw'; subst hw''))
          go_ret
          exact ⟨ret_bool hf.out.symm, UpOf.of (by repeat (first | exact Below.refl _ _ | refine bl_tr ?_ _ | refine bl_al ?_ _ | refine bl_dr ?_ | refine bl_up ?_ _ | refine Below.drew ?_ | refine bl_alloc ?_ _ | refine Below.setCell ?_ (by first | (simp; done) | (simp; omega)) _))⟩
        · have e1' : decide ((brk x k).fr ≤ (brk x (k - 1)).fr) = false := decide_eq_false e1
          by_cases e2 : (brk x (k - 1)).pr ≤ (brk x k).pr
          · have hf := Lib.hid (vWare_at hlt (brkAt_bad3 (by omega) (fun h => by omega)))
            go_wp2_with (first | (go_at_call 65; refine (in_any _ _ _ _).mono ?_; rintro e w' ⟨rfl, rfl⟩) | ((with_reducible refine wp_region_up (by kernel_rfl) (by kernel_rfl) ?_); (repeat (go_big_quiet_step (first | (go_at_call 65; first | exact upq_tr_same (in_any _ _ _ _) | exact upq_same (in_any _ _ _ _))))); refine wpQuiet_nil ?_; intro _ hw'; obtain ⟨nq, hw''⟩ := hw'; subst hw''))
            go_ret
            exact ⟨ret_bool hf.out.symm, UpOf.of (by repeat (first | exact Below.refl _ _ | refine bl_tr ?_ _ | refine bl_al ?_ _ | refine bl_dr ?_ | refine bl_up ?_ _ | refine Below.drew ?_ | refine bl_alloc ?_ _ | refine Below.setCell ?_ (by first | (simp; done) | (simp; omega)) _))⟩
          · have hq := Lib.hid (brkAt_good (by omega) p1 p2 (show (brk x (k - 1)).fr < (brk x k).fr by omega) (by omega))
            go_wp2_with (first | (go_at_call 65; refine (in_any _ _ _ _).mono ?_; rintro e w' ⟨rfl, rfl⟩) | ((with_reducible refine wp_region_up (by kernel_rfl) (by kernel_rfl) ?_); (repeat (go_big_quiet_step (first | (go_at_call 65; first | exact upq_tr_same (in_any _ _ _ _) | exact upq_same (in_any _ _ _ _))))); refine wpQuiet_nil ?_; intro _ hw'; obtain ⟨nq, hw''⟩ := hw'; subst hw''))
            go_roundw
            case rel => have hx := lt_ext (P := fun i => brkAt x i = true) hok.out hq.out; exact ⟨k + 1, by omega, by go_num, hx, ex_up (by repeat (first | exact Below.refl _ _ | refine bl_tr ?_ _ | refine bl_al ?_ _ | refine bl_dr ?_ | refine bl_up ?_ _ | refine Below.drew ?_ | refine bl_alloc ?_ _ | refine Below.setCell ?_ (by first | (simp; done) | (simp; omega)) _))⟩
            case measure => (simp [intOf]; try omega)
    · obtain rfl : k = x.brs.length := by omega
      cases b0 : nameB x.name
      · have hf := Lib.hid (vWare_name b0)
        go_wp2_with (first | (go_at_call 92; refine (ret_as (isNameS_any _ _ hs) b0).mono ?_; rintro e w' ⟨rfl, rfl⟩) | (go_at_call 65; refine (in_any _ _ _ _).mono ?_; rintro e w' ⟨rfl, rfl⟩) | ((with_reducible refine wp_region_up (by kernel_rfl) (by kernel_rfl) ?_); (repeat (go_big_quiet_step (first | (go_at_call 92; first | exact upq_tr_same (ret_as (isNameS_any _ _ hs) b0) | exact upq_same (ret_as (isNameS_any _ _ hs) b0)) | (go_at_call 65; first | exact upq_tr_same (in_any _ _ _ _) | exact upq_same (in_any _ _ _ _))))); refine wpQuiet_nil ?_; intro _ hw'; obtain ⟨nq, hw''⟩ := hw'; subst hw''))
        go_ret
        exact ⟨ret_bool hf.out.symm, UpOf.of (by repeat (first | exact Below.refl _ _ | refine bl_tr ?_ _ | refine bl_al ?_ _ | refine bl_dr ?_ | refine bl_up ?_ _ | refine Below.drew ?_ | refine bl_alloc ?_ _ | refine Below.setCell ?_ (by first | (simp; done) | (simp; omega)) _))⟩
      cases b1 : btw x.brs.length 1 6
      · have hf := Lib.hid (vWare_len b1)
        go_wp2_with (first | (go_at_call 92; refine (ret_as (isNameS_any _ _ hs) b0).mono ?_; rintro e w' ⟨rfl, rfl⟩) | (go_at_call 65; refine (ret_as (in_any _ _ _ _) b1).mono ?_; rintro e w' ⟨rfl, rfl⟩) | ((with_reducible refine wp_region_up (by kernel_rfl) (by kernel_rfl) ?_); (repeat (go_big_quiet_step (first | (go_at_call 92; first | exact upq_tr_same (ret_as (isNameS_any _ _ hs) b0) | exact upq_same (ret_as (isNameS_any _ _ hs) b0)) | (go_at_call 65; first | exact upq_tr_same (ret_as (in_any _ _ _ _) b1) | exact upq_same (ret_as (in_any _ _ _ _) b1))))); refine wpQuiet_nil ?_; intro _ hw'; obtain ⟨nq, hw''⟩ := hw'; subst hw''))
        go_ret
        exact ⟨ret_bool hf.out.symm, UpOf.of (by repeat (first | exact Below.refl _ _ | refine bl_tr ?_ _ | refine bl_al ?_ _ | refine bl_dr ?_ | refine bl_up ?_ _ | refine Below.drew ?_ | refine bl_alloc ?_ _ | refine Below.setCell ?_ (by first | (simp; done) | (simp; omega)) _))⟩
      · have hf := Lib.hid (vWare_true b0 b1 hok.out)
        go_wp2_with (first | (go_at_call 92; refine (ret_as (isNameS_any _ _ hs) b0).mono ?_; rintro e w' ⟨rfl, rfl⟩) | (go_at_call 65; refine (ret_as (in_any _ _ _ _) b1).mono ?_; rintro e w' ⟨rfl, rfl⟩) | ((with_reducible refine wp_region_up (by kernel_rfl) (by kernel_rfl) ?_); (repeat (go_big_quiet_step (first | (go_at_call 92; first | exact upq_tr_same (ret_as (isNameS_any _ _ hs) b0) | exact upq_same (ret_as (isNameS_any _ _ hs) b0)) | (go_at_call 65; first | exact upq_tr_same (ret_as (in_any _ _ _ _) b1) | exact upq_same (ret_as (in_any _ _ _ _) b1))))); refine wpQuiet_nil ?_; intro _ hw'; obtain ⟨nq, hw''⟩ := hw'; subst hw''))
        go_ret
        exact ⟨ret_bool hf.out.symm, UpOf.of (by repeat (first | exact Below.refl _ _ | refine bl_tr ?_ _ | refine bl_al ?_ _ | refine bl_dr ?_ | refine bl_up ?_ _ | refine Below.drew ?_ | refine bl_alloc ?_ _ | refine Below.setCell ?_ (by first | (simp; done) | (simp; omega)) _))⟩
end Go.Proofs.Ytiibpldfnnhhlaa
