/-
  FreeMachines: of the program and of the reference.
-/
import Derived.Test.YtiagckbdofeecaaDoorHire5
import Derived.Test.YtiagckbdofeecaaDoorInts
import Derived.Test.YtiagckbdofeecaaDoorLawDaysOut
import Derived.Maps.AppendAt
namespace Go.Proofs.YtiagckbdofeecaaDoor
open Go.RowKit
def fL (l : List Hire) (f t : Int) : Nat → List Int
  | 0 => []
  | k + 1 => if free l k f t = true then fL l f t k ++ [(k : Int)] else fL l f t k
def fmR (l : List Hire) (n f t : Int) : List Int × Int := if vHires l n = true then if days f t = true then (fL l f t n.toNat, 0) else ([], 2) else ([], 1)
theorem fL_len (l : List Hire) (f t : Int) (k : Nat) : (fL l f t k).length ≤ k := by
  induction k with
  | zero => simp [fL]
  | succ k ih => rw [fL]; split <;> (try rw [List.length_append, List.length_singleton]) <;> omega
theorem ics_app (l : List Int) (x : Int) : ics (l ++ [x]) = ics l ++ [i64 x] := by simp [ics]
set_option maxRecDepth 10000 in
set_option maxHeartbeats 1000000 in
theorem freeMachI_any (A : Option Addr) (c : Nat) (l : List Hire) (n f t : Int) (w : World) (h : Rds w 3 A l.length (hcs l)) (hn : l.length ≤ 100000000) (hcap : l.length ≤ c) :
    Calls Tryd.prog 16 #[.slice A l.length c, i64 n, i64 f, i64 t] w fun e w' => ∃ A' c', e = .returned (.tuple #[.slice A' (fmR l n f t).1.length c', i64 (fmR l n f t).2]) ∧ w'.ownsRow w.heap.size 2 1 (.slice A' (fmR l n f t).1.length c') (fmR l n f t).1.length (ics (fmR l n f t).1) ∧ UpOf w w' := by
  by_cases h1 : vHires l n = true
  · obtain ⟨n1, n2⟩ := vHires_nn h1
    obtain ⟨N, rfl⟩ : ∃ N : Nat, n = N := ⟨n.toNat, by omega⟩
    cases b1 : days f t
    · have hR := Lib.hid (show fmR l N f t = ([], 2) by rw [fmR, if_pos h1, if_neg (by simp [b1])])
      go_enter Tryd.func16, Tryd.ntmps16
      go_wp2_with (first | (go_at_call 30; refine (ret_as (validHires_any _ _ _ _ _ h hn hcap) h1).mono ?_; rintro e w' ⟨rfl, g, rfl⟩) | (go_at_call 47; refine (ret_as (areDays_any _ _ _) b1).mono ?_; rintro e w' ⟨rfl, rfl⟩) | ((with_reducible refine wp_region_up (by kernel_rfl) (by kernel_rfl) ?_); (repeat (go_big_quiet_step (first | (go_at_call 30; first | exact upq_tr (ret_as (validHires_any _ _ _ _ _ h hn hcap) h1) | exact upq (ret_as (validHires_any _ _ _ _ _ h hn hcap) h1)) | (go_at_call 47; first | exact upq_tr_same (ret_as (areDays_any _ _ _) b1) | exact upq_same (ret_as (areDays_any _ _ _) b1))))); refine wpQuiet_nil ?_; intro _ hw'; obtain ⟨nq, hw''⟩ := hw'; subst hw''))
      go_ret2
      rw [hR.out]
      exact ⟨none, 0, rfl, ⟨rfl, .inl ⟨rfl, rfl⟩⟩, UpOf.of (by repeat (first | exact Below.refl _ _ | refine bl_tr ?_ _ | refine bl_al ?_ _ | refine bl_dr ?_ | refine bl_up ?_ _ | refine Below.drew ?_ | refine bl_alloc ?_ _ | refine Below.setCell ?_ (by first | (simp; done) | (simp; omega)) _))⟩
    · have hR := Lib.hid (show fmR l N f t = (fL l f t N, 0) by rw [fmR, if_pos h1, if_pos b1]; rfl)
      have hi : (Tryd.prog.info? 2).map (fun i => (i.zero, i.size, i.bytes)) = some (some (i64 0), 1, 8) := by kernel_rfl
      obtain ⟨i0, hi, hz0, hz1, hz2⟩ := info_parts hi
      go_enter Tryd.func16, Tryd.ntmps16
      go_wp2_with (first | (go_at_call 30; refine (ret_as (validHires_any _ _ _ _ _ h hn hcap) h1).mono ?_; rintro e w' ⟨rfl, g, rfl⟩) | (go_at_call 47; refine (ret_as (areDays_any _ _ _) b1).mono ?_; rintro e w' ⟨rfl, rfl⟩) | ((with_reducible refine wp_region_up (by kernel_rfl) (by kernel_rfl) ?_); (repeat (go_big_quiet_step (first | (go_at_call 30; first | exact upq_tr (ret_as (validHires_any _ _ _ _ _ h hn hcap) h1) | exact upq (ret_as (validHires_any _ _ _ _ _ h hn hcap) h1)) | (go_at_call 47; first | exact upq_tr_same (ret_as (areDays_any _ _ _) b1) | exact upq_same (ret_as (areDays_any _ _ _) b1))))); refine wpQuiet_nil ?_; intro _ hw'; obtain ⟨nq, hw''⟩ := hw'; subst hw''))
      clear h1 b1
      go_loopw [10, 22] (fun v i wr => ∃ k : Nat, k ≤ N ∧ i = i64 k ∧ wr.ownsRow w.heap.size 2 1 v (fL l f t k).length (ics (fL l f t k)) ∧ v ≠ .slice none 0 0 ∧ Below w.heap.size w wr) (fun _ i _ => N - (intOf i).toNat)
      case atStart => exact ⟨0, by omega, rfl, World.ownsRow_lit (up w g) #[] 0 g.below.size (by unfold maxLen; omega) rfl, by simp, (by repeat (first | exact Below.refl _ _ | refine bl_tr ?_ _ | refine bl_al ?_ _ | refine bl_dr ?_ | refine bl_up ?_ _ | refine Below.drew ?_ | refine bl_alloc ?_ _ | refine Below.setCell ?_ (by first | (simp; done) | (simp; omega)) _))⟩
      case round =>
        obtain ⟨k, hk, rfl, hown, hv, hbel⟩ := hrel
        have hkl := fL_len l f t k
        by_cases hlt : k < N
        · cases f1 : free l k f t
          · refine as_up fun g0 => ?_
            go_wp2_with (first | (go_at_call 48; refine (ret_as (isFree_any _ _ _ _ _ _ _ (h.below (hbel.trans (Below.mono (by repeat (first | exact Below.refl _ _ | refine bl_tr ?_ _ | refine bl_al ?_ _ | refine bl_dr ?_ | refine bl_up ?_ _ | refine Below.drew ?_ | refine bl_alloc ?_ _ | refine Below.setCell ?_ (by first | (simp; done) | (simp; omega)) _)) hbel.size))) hn) f1).mono ?_; rintro e w' ⟨rfl, g, rfl⟩) | ((with_reducible refine wp_region_up (by kernel_rfl) (by kernel_rfl) ?_); (repeat (go_big_quiet_step (first | (go_at_call 48; first | exact upq_tr (ret_as (isFree_any _ _ _ _ _ _ _ (h.below (hbel.trans (Below.mono (by repeat (first | exact Below.refl _ _ | refine bl_tr ?_ _ | refine bl_al ?_ _ | refine bl_dr ?_ | refine bl_up ?_ _ | refine Below.drew ?_ | refine bl_alloc ?_ _ | refine Below.setCell ?_ (by first | (simp; done) | (simp; omega)) _)) hbel.size))) hn) f1) | exact upq (ret_as (isFree_any _ _ _ _ _ _ _ (h.below (hbel.trans (Below.mono (by repeat (first | exact Below.refl _ _ | refine bl_tr ?_ _ | refine bl_al ?_ _ | refine bl_dr ?_ | refine bl_up ?_ _ | refine Below.drew ?_ | refine bl_alloc ?_ _ | refine Below.setCell ?_ (by first | (simp; done) | (simp; omega)) _)) hbel.size))) hn) f1))))); refine wpQuiet_nil ?_; intro _ hw'; obtain ⟨nq, hw''⟩ := hw'; subst hw''))
            go_roundw
            case rel => exact ⟨k + 1, by omega, by go_num, by rw [show fL l f t (k + 1) = fL l f t k by rw [fL, if_neg (by simp [f1])]]; exact own_up hown (g0.tr g), hv, hbel.trans ((g0.tr g).below.mono hbel.size)⟩
            case measure => (simp [intOf]; try omega)
          · have hf := Lib.hid (show fL l f t (k + 1) = fL l f t k ++ [(k : Int)] by rw [fL, if_pos f1])
            refine as_up fun g0 => ?_
            go_wp2_with (first | (go_at_call 48; refine (ret_as (isFree_any _ _ _ _ _ _ _ (h.below (hbel.trans (Below.mono (by repeat (first | exact Below.refl _ _ | refine bl_tr ?_ _ | refine bl_al ?_ _ | refine bl_dr ?_ | refine bl_up ?_ _ | refine Below.drew ?_ | refine bl_alloc ?_ _ | refine Below.setCell ?_ (by first | (simp; done) | (simp; omega)) _)) hbel.size))) hn) f1).mono ?_; rintro e w' ⟨rfl, g, rfl⟩) | (at_builtin; refine wpList_append_own _ rfl _ _ 39 rfl w.heap.size 2 i0 (i64 0) 1 8 Tryd.underlying39 hi hz0 hz1 hz2 rfl (by decide) _ _ _ rfl ((own_up hown (g0.tr g)).alloc _) ⟨(up wr (g0.tr g)).heap.size, 0, none⟩ 1 1 [i64 k] rfl rfl (cell_one_new _ _ _) (fun x hx => by simp at hx; subst hx; rfl) (by unfold maxLen; omega) (by omega) (bl_alloc (hbel.trans ((g0.tr g).below.mono hbel.size)) _).size ?_; intro v' w3 hown' hgr hnil) | ((with_reducible refine wp_region_up (by kernel_rfl) (by kernel_rfl) ?_); (repeat (go_big_quiet_step (first | (go_at_call 48; first | exact upq_tr (ret_as (isFree_any _ _ _ _ _ _ _ (h.below (hbel.trans (Below.mono (by repeat (first | exact Below.refl _ _ | refine bl_tr ?_ _ | refine bl_al ?_ _ | refine bl_dr ?_ | refine bl_up ?_ _ | refine Below.drew ?_ | refine bl_alloc ?_ _ | refine Below.setCell ?_ (by first | (simp; done) | (simp; omega)) _)) hbel.size))) hn) f1) | exact upq (ret_as (isFree_any _ _ _ _ _ _ _ (h.below (hbel.trans (Below.mono (by repeat (first | exact Below.refl _ _ | refine bl_tr ?_ _ | refine bl_al ?_ _ | refine bl_dr ?_ | refine bl_up ?_ _ | refine Below.drew ?_ | refine bl_alloc ?_ _ | refine Below.setCell ?_ (by first | (simp; done) | (simp; omega)) _)) hbel.size))) hn) f1))))); refine wpQuiet_nil ?_; intro _ hw'; obtain ⟨nq, hw''⟩ := hw'; subst hw''))
            go_roundw
            case rel => exact ⟨k + 1, by omega, by go_num, by rw [hf.out, List.length_append, ics_app]; exact hown', fun e => by have := (hnil.1 e).2; omega, (up_of_grown (W := w) (bl_alloc (hbel.trans ((g0.tr g).below.mono hbel.size)) _) hgr (fun j hj => (hown.lt j hj).1)).below⟩
            case measure => (simp [intOf]; try omega)
        · obtain rfl : k = N := by omega
          obtain ⟨b3, c3, rfl⟩ : ∃ b c, u10 = .slice (some ⟨b, 0, none⟩) (fL l f t k).length c := by
            rcases hown.2 with ⟨h0, _⟩ | ⟨g', cap, cur, h0, _⟩
            · exact absurd h0 hv
            · exact ⟨g', cap, h0⟩
          go_wp2_with (first | ((with_reducible refine wp_region_up (by kernel_rfl) (by kernel_rfl) ?_); (repeat (go_big_quiet_step (fail))); refine wpQuiet_nil ?_; intro _ hw'; obtain ⟨nq, hw''⟩ := hw'; subst hw''))
          go_ret2
          rw [hR.out]
          exact ⟨some ⟨b3, 0, none⟩, c3, rfl, hown, UpOf.of hbel⟩
  · have h1' : vHires l n = false := by simpa using h1
    have hR := Lib.hid (show fmR l n f t = ([], 1) by rw [fmR, if_neg h1])
    clear h1
    go_enter Tryd.func16, Tryd.ntmps16
    go_wp2_with (first | (go_at_call 30; refine (ret_as (validHires_any _ _ _ _ _ h hn hcap) h1').mono ?_; rintro e w' ⟨rfl, g, rfl⟩) | ((with_reducible refine wp_region_up (by kernel_rfl) (by kernel_rfl) ?_); (repeat (go_big_quiet_step (first | (go_at_call 30; first | exact upq_tr (ret_as (validHires_any _ _ _ _ _ h hn hcap) h1') | exact upq (ret_as (validHires_any _ _ _ _ _ h hn hcap) h1'))))); refine wpQuiet_nil ?_; intro _ hw'; obtain ⟨nq, hw''⟩ := hw'; subst hw''))
    go_ret2
    rw [hR.out]
    exact ⟨none, 0, rfl, ⟨rfl, .inl ⟨rfl, rfl⟩⟩, UpOf.of (by repeat (first | exact Below.refl _ _ | refine bl_tr ?_ _ | refine bl_al ?_ _ | refine bl_dr ?_ | refine bl_up ?_ _ | refine Below.drew ?_ | refine bl_alloc ?_ _ | refine Below.setCell ?_ (by first | (simp; done) | (simp; omega)) _))⟩
set_option maxRecDepth 10000 in
theorem l25Code_any (A : Option Addr) (c : Nat) (l : List Hire) (n f t : Int) (w : World) (h : Rds w 3 A l.length (hcs l)) (hn : l.length ≤ 100000000) :
    Calls Tryd.prog 43 #[.slice A l.length c, i64 n, i64 f, i64 t] w fun e w' => e = .returned (i64 (fmR l n f t).2) ∧ UpOf w w' := by
  by_cases h1 : vHires l n = true
  · cases b1 : btw f 0 3649
    · have hR := Lib.hid (show (fmR l n f t).2 = 2 by rw [fmR, if_pos h1, if_neg (by simp [days]; simp [btw] at b1; omega)])
      go_enter Tryd.func43, Tryd.ntmps43
      go_wp2_with (first | (go_at_call 55; refine (ret_as (l25Ok_any _ _ _ _ _ h hn) h1).mono ?_; rintro e w' ⟨rfl, g, rfl⟩) | (go_at_call 59; refine (in_any _ _ _ _).mono ?_; rintro e w' ⟨rfl, rfl⟩) | ((with_reducible refine wp_region_up (by kernel_rfl) (by kernel_rfl) ?_); (repeat (go_big_quiet_step (first | (go_at_call 55; first | exact upq_tr (ret_as (l25Ok_any _ _ _ _ _ h hn) h1) | exact upq (ret_as (l25Ok_any _ _ _ _ _ h hn) h1)) | (go_at_call 59; first | exact upq_tr_same (in_any _ _ _ _) | exact upq_same (in_any _ _ _ _))))); refine wpQuiet_nil ?_; intro _ hw'; obtain ⟨nq, hw''⟩ := hw'; subst hw''))
      go_ret
      exact ⟨ret_int hR.out.symm, UpOf.of (by repeat (first | exact Below.refl _ _ | refine bl_tr ?_ _ | refine bl_al ?_ _ | refine bl_dr ?_ | refine bl_up ?_ _ | refine Below.drew ?_ | refine bl_alloc ?_ _ | refine Below.setCell ?_ (by first | (simp; done) | (simp; omega)) _))⟩
    · obtain ⟨f1, f2⟩ := btw_true b1
      cases b2 : btw t (f + 1) 3650
      · have hR := Lib.hid (show (fmR l n f t).2 = 2 by rw [fmR, if_pos h1, if_neg (by simp [days]; simp [btw] at b2; omega)])
        go_enter Tryd.func43, Tryd.ntmps43
        go_wp2_with (first | (go_at_call 55; refine (ret_as (l25Ok_any _ _ _ _ _ h hn) h1).mono ?_; rintro e w' ⟨rfl, g, rfl⟩) | (go_at_call 59; refine (in_any _ _ _ _).mono ?_; rintro e w' ⟨rfl, rfl⟩) | ((with_reducible refine wp_region_up (by kernel_rfl) (by kernel_rfl) ?_); (repeat (go_big_quiet_step (first | (go_at_call 55; first | exact upq_tr (ret_as (l25Ok_any _ _ _ _ _ h hn) h1) | exact upq (ret_as (l25Ok_any _ _ _ _ _ h hn) h1)) | (go_at_call 59; first | exact upq_tr_same (in_any _ _ _ _) | exact upq_same (in_any _ _ _ _))))); refine wpQuiet_nil ?_; intro _ hw'; obtain ⟨nq, hw''⟩ := hw'; subst hw''))
        go_ret
        exact ⟨ret_int hR.out.symm, UpOf.of (by repeat (first | exact Below.refl _ _ | refine bl_tr ?_ _ | refine bl_al ?_ _ | refine bl_dr ?_ | refine bl_up ?_ _ | refine Below.drew ?_ | refine bl_alloc ?_ _ | refine Below.setCell ?_ (by first | (simp; done) | (simp; omega)) _))⟩
      · have hR := Lib.hid (show (fmR l n f t).2 = 0 by rw [fmR, if_pos h1, if_pos (by simp [days]; simp [btw] at b2; omega)])
        go_enter Tryd.func43, Tryd.ntmps43
        go_wp2_with (first | (go_at_call 55; refine (ret_as (l25Ok_any _ _ _ _ _ h hn) h1).mono ?_; rintro e w' ⟨rfl, g, rfl⟩) | (go_at_call 59; refine (in_any _ _ _ _).mono ?_; rintro e w' ⟨rfl, rfl⟩) | ((with_reducible refine wp_region_up (by kernel_rfl) (by kernel_rfl) ?_); (repeat (go_big_quiet_step (first | (go_at_call 55; first | exact upq_tr (ret_as (l25Ok_any _ _ _ _ _ h hn) h1) | exact upq (ret_as (l25Ok_any _ _ _ _ _ h hn) h1)) | (go_at_call 59; first | exact upq_tr_same (in_any _ _ _ _) | exact upq_same (in_any _ _ _ _))))); refine wpQuiet_nil ?_; intro _ hw'; obtain ⟨nq, hw''⟩ := hw'; subst hw''))
        go_ret
        exact ⟨ret_int hR.out.symm, UpOf.of (by repeat (first | exact Below.refl _ _ | refine bl_tr ?_ _ | refine bl_al ?_ _ | refine bl_dr ?_ | refine bl_up ?_ _ | refine Below.drew ?_ | refine bl_alloc ?_ _ | refine Below.setCell ?_ (by first | (simp; done) | (simp; omega)) _))⟩
  · have h1' : vHires l n = false := by simpa using h1
    have hR := Lib.hid (show (fmR l n f t).2 = 1 by rw [fmR, if_neg h1])
    clear h1
    go_enter Tryd.func43, Tryd.ntmps43
    go_wp2_with (first | (go_at_call 55; refine (ret_as (l25Ok_any _ _ _ _ _ h hn) h1').mono ?_; rintro e w' ⟨rfl, g, rfl⟩) | ((with_reducible refine wp_region_up (by kernel_rfl) (by kernel_rfl) ?_); (repeat (go_big_quiet_step (first | (go_at_call 55; first | exact upq_tr (ret_as (l25Ok_any _ _ _ _ _ h hn) h1') | exact upq (ret_as (l25Ok_any _ _ _ _ _ h hn) h1'))))); refine wpQuiet_nil ?_; intro _ hw'; obtain ⟨nq, hw''⟩ := hw'; subst hw''))
    go_ret
    exact ⟨ret_int hR.out.symm, UpOf.of (by repeat (first | exact Below.refl _ _ | refine bl_tr ?_ _ | refine bl_al ?_ _ | refine bl_dr ?_ | refine bl_up ?_ _ | refine Below.drew ?_ | refine bl_alloc ?_ _ | refine Below.setCell ?_ (by first | (simp; done) | (simp; omega)) _))⟩
theorem ret_num {P : Program} {f : FuncId} {args : Array Value} {w : World} {B b : Int} {Q : World → Prop} (h : Calls P f args w fun e w' => e = .returned (i64 B) ∧ Q w') (hB : B = b) :
    Calls P f args w fun e w' => e = .returned (i64 b) ∧ Q w' := by subst hB; exact h
set_option maxRecDepth 10000 in
set_option maxHeartbeats 1000000 in
theorem freeMachS_any (A : Option Addr) (c : Nat) (l : List Hire) (n f t : Int) (w : World) (h : Rds w 3 A l.length (hcs l)) (hn : l.length ≤ 100000000) :
    Calls Tryd.prog 17 #[.slice A l.length c, i64 n, i64 f, i64 t] w fun e w' => ∃ A' c', e = .returned (.tuple #[.slice A' (fmR l n f t).1.length c', i64 (fmR l n f t).2]) ∧ w'.ownsRow w.heap.size 2 1 (.slice A' (fmR l n f t).1.length c') (fmR l n f t).1.length (ics (fmR l n f t).1) ∧ UpOf w w' := by
  by_cases h1 : vHires l n = true
  · obtain ⟨n1, n2⟩ := vHires_nn h1
    obtain ⟨N, rfl⟩ : ∃ N : Nat, n = N := ⟨n.toNat, by omega⟩
    cases b1 : days f t
    · have hR := Lib.hid (show fmR l N f t = ([], 2) by rw [fmR, if_pos h1, if_neg (by simp [b1])])
      have hC := Lib.hid (show (fmR l N f t).2 = 2 by rw [hR.out])
      go_enter Tryd.func17, Tryd.ntmps17
      go_wp2_with (first | (go_at_call 43; refine (ret_num (l25Code_any _ _ _ _ _ _ _ h hn) hC.out).mono ?_; rintro e w' ⟨rfl, g, rfl⟩) | ((with_reducible refine wp_region_up (by kernel_rfl) (by kernel_rfl) ?_); (repeat (go_big_quiet_step (first | (go_at_call 43; first | exact upq_tr (ret_num (l25Code_any _ _ _ _ _ _ _ h hn) hC.out) | exact upq (ret_num (l25Code_any _ _ _ _ _ _ _ h hn) hC.out))))); refine wpQuiet_nil ?_; intro _ hw'; obtain ⟨nq, hw''⟩ := hw'; subst hw''))
      go_ret2
      rw [hR.out]
      exact ⟨none, 0, rfl, ⟨rfl, .inl ⟨rfl, rfl⟩⟩, UpOf.of (by repeat (first | exact Below.refl _ _ | refine bl_tr ?_ _ | refine bl_al ?_ _ | refine bl_dr ?_ | refine bl_up ?_ _ | refine Below.drew ?_ | refine bl_alloc ?_ _ | refine Below.setCell ?_ (by first | (simp; done) | (simp; omega)) _))⟩
    · have hR := Lib.hid (show fmR l N f t = (fL l f t N, 0) by rw [fmR, if_pos h1, if_pos b1]; rfl)
      have hC := Lib.hid (show (fmR l N f t).2 = 0 by rw [hR.out])
      have hi : (Tryd.prog.info? 2).map (fun i => (i.zero, i.size, i.bytes)) = some (some (i64 0), 1, 8) := by kernel_rfl
      obtain ⟨i0, hi, hz0, hz1, hz2⟩ := info_parts hi
      go_enter Tryd.func17, Tryd.ntmps17
      go_wp2_with (first | (go_at_call 43; refine (ret_num (l25Code_any _ _ _ _ _ _ _ h hn) hC.out).mono ?_; rintro e w' ⟨rfl, g, rfl⟩) | ((with_reducible refine wp_region_up (by kernel_rfl) (by kernel_rfl) ?_); (repeat (go_big_quiet_step (first | (go_at_call 43; first | exact upq_tr (ret_num (l25Code_any _ _ _ _ _ _ _ h hn) hC.out) | exact upq (ret_num (l25Code_any _ _ _ _ _ _ _ h hn) hC.out))))); refine wpQuiet_nil ?_; intro _ hw'; obtain ⟨nq, hw''⟩ := hw'; subst hw''))
      clear h1 b1
      go_loopw [11, 12] (fun v i wr => ∃ k : Nat, k ≤ N ∧ i = i64 k ∧ wr.ownsRow w.heap.size 2 1 v (fL l f t k).length (ics (fL l f t k)) ∧ v ≠ .slice none 0 0 ∧ Below w.heap.size w wr) (fun _ i _ => N - (intOf i).toNat)
      case atStart => exact ⟨0, by omega, rfl, World.ownsRow_lit (up w g) #[] 0 g.below.size (by unfold maxLen; omega) rfl, by simp, (by repeat (first | exact Below.refl _ _ | refine bl_tr ?_ _ | refine bl_al ?_ _ | refine bl_dr ?_ | refine bl_up ?_ _ | refine Below.drew ?_ | refine bl_alloc ?_ _ | refine Below.setCell ?_ (by first | (simp; done) | (simp; omega)) _))⟩
      case round =>
        obtain ⟨k, hk, rfl, hown, hv, hbel⟩ := hrel
        have hkl := fL_len l f t k
        by_cases hlt : k < N
        · cases f1 : free l k f t
          · refine as_up fun g0 => ?_
            go_wp2_with (first | (go_at_call 44; refine (ret_as (l25Free_any _ _ _ _ _ _ _ (h.below (hbel.trans (Below.mono (by repeat (first | exact Below.refl _ _ | refine bl_tr ?_ _ | refine bl_al ?_ _ | refine bl_dr ?_ | refine bl_up ?_ _ | refine Below.drew ?_ | refine bl_alloc ?_ _ | refine Below.setCell ?_ (by first | (simp; done) | (simp; omega)) _)) hbel.size))) hn) f1).mono ?_; rintro e w' ⟨rfl, g, rfl⟩) | ((with_reducible refine wp_region_up (by kernel_rfl) (by kernel_rfl) ?_); (repeat (go_big_quiet_step (first | (go_at_call 44; first | exact upq_tr (ret_as (l25Free_any _ _ _ _ _ _ _ (h.below (hbel.trans (Below.mono (by repeat (first | exact Below.refl _ _ | refine bl_tr ?_ _ | refine bl_al ?_ _ | refine bl_dr ?_ | refine bl_up ?_ _ | refine Below.drew ?_ | refine bl_alloc ?_ _ | refine Below.setCell ?_ (by first | (simp; done) | (simp; omega)) _)) hbel.size))) hn) f1) | exact upq (ret_as (l25Free_any _ _ _ _ _ _ _ (h.below (hbel.trans (Below.mono (by repeat (first | exact Below.refl _ _ | refine bl_tr ?_ _ | refine bl_al ?_ _ | refine bl_dr ?_ | refine bl_up ?_ _ | refine Below.drew ?_ | refine bl_alloc ?_ _ | refine Below.setCell ?_ (by first | (simp; done) | (simp; omega)) _)) hbel.size))) hn) f1))))); refine wpQuiet_nil ?_; intro _ hw'; obtain ⟨nq, hw''⟩ := hw'; subst hw''))
            go_roundw
            case rel => exact ⟨k + 1, by omega, by go_num, by rw [show fL l f t (k + 1) = fL l f t k by rw [fL, if_neg (by simp [f1])]]; exact own_up hown (g0.tr g), hv, hbel.trans ((g0.tr g).below.mono hbel.size)⟩
            case measure => (simp [intOf]; try omega)
          · have hf := Lib.hid (show fL l f t (k + 1) = fL l f t k ++ [(k : Int)] by rw [fL, if_pos f1])
            refine as_up fun g0 => ?_
            go_wp2_with (first | (go_at_call 44; refine (ret_as (l25Free_any _ _ _ _ _ _ _ (h.below (hbel.trans (Below.mono (by repeat (first | exact Below.refl _ _ | refine bl_tr ?_ _ | refine bl_al ?_ _ | refine bl_dr ?_ | refine bl_up ?_ _ | refine Below.drew ?_ | refine bl_alloc ?_ _ | refine Below.setCell ?_ (by first | (simp; done) | (simp; omega)) _)) hbel.size))) hn) f1).mono ?_; rintro e w' ⟨rfl, g, rfl⟩) | (at_builtin; refine wpList_append_own _ rfl _ _ 39 rfl w.heap.size 2 i0 (i64 0) 1 8 Tryd.underlying39 hi hz0 hz1 hz2 rfl (by decide) _ _ _ rfl ((own_up hown (g0.tr g)).alloc _) ⟨(up wr (g0.tr g)).heap.size, 0, none⟩ 1 1 [i64 k] rfl rfl (cell_one_new _ _ _) (fun x hx => by simp at hx; subst hx; rfl) (by unfold maxLen; omega) (by omega) (bl_alloc (hbel.trans ((g0.tr g).below.mono hbel.size)) _).size ?_; intro v' w3 hown' hgr hnil) | ((with_reducible refine wp_region_up (by kernel_rfl) (by kernel_rfl) ?_); (repeat (go_big_quiet_step (first | (go_at_call 44; first | exact upq_tr (ret_as (l25Free_any _ _ _ _ _ _ _ (h.below (hbel.trans (Below.mono (by repeat (first | exact Below.refl _ _ | refine bl_tr ?_ _ | refine bl_al ?_ _ | refine bl_dr ?_ | refine bl_up ?_ _ | refine Below.drew ?_ | refine bl_alloc ?_ _ | refine Below.setCell ?_ (by first | (simp; done) | (simp; omega)) _)) hbel.size))) hn) f1) | exact upq (ret_as (l25Free_any _ _ _ _ _ _ _ (h.below (hbel.trans (Below.mono (by repeat (first | exact Below.refl _ _ | refine bl_tr ?_ _ | refine bl_al ?_ _ | refine bl_dr ?_ | refine bl_up ?_ _ | refine Below.drew ?_ | refine bl_alloc ?_ _ | refine Below.setCell ?_ (by first | (simp; done) | (simp; omega)) _)) hbel.size))) hn) f1))))); refine wpQuiet_nil ?_; intro _ hw'; obtain ⟨nq, hw''⟩ := hw'; subst hw''))
            go_roundw
            case rel => exact ⟨k + 1, by omega, by go_num, by rw [hf.out, List.length_append, ics_app]; exact hown', fun e => by have := (hnil.1 e).2; omega, (up_of_grown (W := w) (bl_alloc (hbel.trans ((g0.tr g).below.mono hbel.size)) _) hgr (fun j hj => (hown.lt j hj).1)).below⟩
            case measure => (simp [intOf]; try omega)
        · obtain rfl : k = N := by omega
          obtain ⟨b3, c3, rfl⟩ : ∃ b c, u11 = .slice (some ⟨b, 0, none⟩) (fL l f t k).length c := by
            rcases hown.2 with ⟨h0, _⟩ | ⟨g', cap, cur, h0, _⟩
            · exact absurd h0 hv
            · exact ⟨g', cap, h0⟩
          go_wp2_with (first | ((with_reducible refine wp_region_up (by kernel_rfl) (by kernel_rfl) ?_); (repeat (go_big_quiet_step (fail))); refine wpQuiet_nil ?_; intro _ hw'; obtain ⟨nq, hw''⟩ := hw'; subst hw''))
          go_ret2
          rw [hR.out]
          exact ⟨some ⟨b3, 0, none⟩, c3, rfl, hown, UpOf.of hbel⟩
  · have h1' : vHires l n = false := by simpa using h1
    have hR := Lib.hid (show fmR l n f t = ([], 1) by rw [fmR, if_neg h1])
    have hC := Lib.hid (show (fmR l n f t).2 = 1 by rw [hR.out])
    clear h1
    go_enter Tryd.func17, Tryd.ntmps17
    go_wp2_with (first | (go_at_call 43; refine (ret_num (l25Code_any _ _ _ _ _ _ _ h hn) hC.out).mono ?_; rintro e w' ⟨rfl, g, rfl⟩) | ((with_reducible refine wp_region_up (by kernel_rfl) (by kernel_rfl) ?_); (repeat (go_big_quiet_step (first | (go_at_call 43; first | exact upq_tr (ret_num (l25Code_any _ _ _ _ _ _ _ h hn) hC.out) | exact upq (ret_num (l25Code_any _ _ _ _ _ _ _ h hn) hC.out))))); refine wpQuiet_nil ?_; intro _ hw'; obtain ⟨nq, hw''⟩ := hw'; subst hw''))
    go_ret2
    rw [hR.out]
    exact ⟨none, 0, rfl, ⟨rfl, .inl ⟨rfl, rfl⟩⟩, UpOf.of (by repeat (first | exact Below.refl _ _ | refine bl_tr ?_ _ | refine bl_al ?_ _ | refine bl_dr ?_ | refine bl_up ?_ _ | refine Below.drew ?_ | refine bl_alloc ?_ _ | refine Below.setCell ?_ (by first | (simp; done) | (simp; omega)) _))⟩
end Go.Proofs.YtiagckbdofeecaaDoor
