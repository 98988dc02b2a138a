/-
  How many machines are out on a day, and how many all hires need: the program's functions and the reference's.
-/
import Derived.Test.YtiagckbdofeecaaHire2
namespace Go.Proofs.Ytiagckbdofeecaa
open Go.RowKit
def cnt (P : Nat → Bool) : Nat → Nat
  | 0 => 0
  | k + 1 => cnt P k + if P k then 1 else 0
theorem cnt_le (P : Nat → Bool) (k : Nat) : cnt P k ≤ k := by
  induction k with
  | zero => simp [cnt]
  | succ k ih => rw [cnt]; split <;> omega
theorem cnt_yes {P : Nat → Bool} {k : Nat} (h : P k = true) : cnt P (k + 1) = cnt P k + 1 := by rw [cnt, if_pos h]
theorem cnt_no {P : Nat → Bool} {k : Nat} (h : P k = false) : cnt P (k + 1) = cnt P k := by rw [cnt, if_neg (by simp [h])]; rfl
def isOut (l : List Hire) (d : Int) (i : Nat) : Bool := ovl (hat l i) d (d + 1)
def outN (l : List Hire) (d : Int) : Nat := cnt (isOut l d) l.length
def mostOut (l : List Hire) : Nat → Int
  | 0 => 0
  | k + 1 => max (mostOut l k) (outN l (hat l k).f)
theorem mostOut_bd (l : List Hire) (k : Nat) : 0 ≤ mostOut l k ∧ mostOut l k ≤ l.length := by
  induction k with
  | zero => simp [mostOut]
  | succ k ih => rw [mostOut]; have := cnt_le (isOut l (hat l k).f) l.length; unfold outN; omega
theorem ret_two {a b c d : Int} (h : a = b) (h' : c = d) : Ending.returned (.tuple #[i64 a, i64 c]) = .returned (.tuple #[i64 b, i64 d]) := by rw [h, h']

set_option maxRecDepth 10000 in
theorem outOn_any (A : Option Addr) (c : Nat) (l : List Hire) (d : Int) (w : World) (h : Rds w 3 A l.length (hcs l)) (hn : l.length ≤ 100000000) (hd : -1000000 ≤ d) (hd1 : d ≤ 1000000) :
    Calls Try.prog 57 #[.slice A l.length c, i64 d] w fun e w' => e = .returned (i64 (outN l d)) ∧ UpOf w w' := by
  go_enter Try.func57, Try.ntmps57
  go_wp2_with (first | ((with_reducible refine wp_region_up (by kernel_rfl) (by kernel_rfl) ?_); (repeat (go_big_quiet_step (fail))); refine wpQuiet_nil ?_; intro _ hw'; obtain ⟨nq, hw''⟩ := hw'; subst hw''))
  go_loopw [5, 10] (fun s i wr => ∃ k : Nat, k ≤ l.length ∧ i = i64 k ∧ s = i64 (cnt (isOut l d) k) ∧ ∃ g : Up w, wr = up w g) (fun _ i _ => l.length - (intOf i).toNat)
  case atStart => exact ⟨0, by omega, rfl, rfl, ex_up (by repeat (first | exact Below.refl _ _ | refine bl_tr ?_ _ | refine bl_al ?_ _ | refine bl_dr ?_ | refine bl_up ?_ _ | refine Below.drew ?_ | refine bl_alloc ?_ _ | refine Below.setCell ?_ (by first | (simp; done) | (simp; omega)) _))⟩
  case round =>
    obtain ⟨k, hk, rfl, rfl, g, rfl⟩ := hrel
    have hc := cnt_le (isOut l d) k
    by_cases hlt : k < l.length
    · obtain ⟨b, off, rfl, hb, ha⟩ := hire_at' h hlt
      obtain ⟨_, c0, c1, c2⟩ := ha k hlt
      cases hq : isOut l d k
      · have hs := Lib.hid (cnt_no hq)
        have hq' : ovl (hat l k) d (d + 1) = false := hq
        clear hq
        go_wp2_with (first | (go_at_call 53; refine (ret_as (overlaps_any _ _ _ _) hq').mono ?_; rintro e w' ⟨rfl, g, rfl⟩) | ((with_reducible refine wp_region_up (by kernel_rfl) (by kernel_rfl) ?_); (repeat (go_big_quiet_step (first | (go_at_call 53; first | exact upq_tr (ret_as (overlaps_any _ _ _ _) hq') | exact upq (ret_as (overlaps_any _ _ _ _) hq'))))); refine wpQuiet_nil ?_; intro _ hw'; obtain ⟨nq, hw''⟩ := hw'; subst hw''))
        go_roundw
        case rel => exact ⟨k + 1, by omega, by go_num, by rw [hs.out], ex_up (by repeat (first | exact Below.refl _ _ | refine bl_tr ?_ _ | refine bl_al ?_ _ | refine bl_dr ?_ | refine bl_up ?_ _ | refine Below.drew ?_ | refine bl_alloc ?_ _ | refine Below.setCell ?_ (by first | (simp; done) | (simp; omega)) _))⟩
        case measure => (simp [intOf]; try omega)
      · have hs := Lib.hid (cnt_yes hq)
        have hq' : ovl (hat l k) d (d + 1) = true := hq
        clear hq
        go_wp2_with (first | (go_at_call 53; refine (ret_as (overlaps_any _ _ _ _) hq').mono ?_; rintro e w' ⟨rfl, g, rfl⟩) | ((with_reducible refine wp_region_up (by kernel_rfl) (by kernel_rfl) ?_); (repeat (go_big_quiet_step (first | (go_at_call 53; first | exact upq_tr (ret_as (overlaps_any _ _ _ _) hq') | exact upq (ret_as (overlaps_any _ _ _ _) hq'))))); refine wpQuiet_nil ?_; intro _ hw'; obtain ⟨nq, hw''⟩ := hw'; subst hw''))
        go_roundw
        case rel => exact ⟨k + 1, by omega, by go_num, by rw [hs.out]; go_num, ex_up (by repeat (first | exact Below.refl _ _ | refine bl_tr ?_ _ | refine bl_al ?_ _ | refine bl_dr ?_ | refine bl_up ?_ _ | refine Below.drew ?_ | refine bl_alloc ?_ _ | refine Below.setCell ?_ (by first | (simp; done) | (simp; omega)) _))⟩
        case measure => (simp [intOf]; try omega)
    · obtain rfl : k = l.length := by omega
      go_wp2_with (first | ((with_reducible refine wp_region_up (by kernel_rfl) (by kernel_rfl) ?_); (repeat (go_big_quiet_step (fail))); refine wpQuiet_nil ?_; intro _ hw'; obtain ⟨nq, hw''⟩ := hw'; subst hw''))
      go_ret
      exact ⟨rfl, UpOf.of (by repeat (first | exact Below.refl _ _ | refine bl_tr ?_ _ | refine bl_al ?_ _ | refine bl_dr ?_ | refine bl_up ?_ _ | refine Below.drew ?_ | refine bl_alloc ?_ _ | refine Below.setCell ?_ (by first | (simp; done) | (simp; omega)) _))⟩
set_option maxRecDepth 10000 in
theorem l25Out_any (A : Option Addr) (c : Nat) (l : List Hire) (d : Int) (w : World) (h : Rds w 3 A l.length (hcs l)) (hn : l.length ≤ 100000000) :
    Calls Try.prog 56 #[.slice A l.length c, i64 d] w fun e w' => e = .returned (i64 (outN l d)) ∧ UpOf w w' := by
  go_enter Try.func56, Try.ntmps56
  go_wp2_with (first | ((with_reducible refine wp_region_up (by kernel_rfl) (by kernel_rfl) ?_); (repeat (go_big_quiet_step (fail))); refine wpQuiet_nil ?_; intro _ hw'; obtain ⟨nq, hw''⟩ := hw'; subst hw''))
  go_loopw [5, 6] (fun s i wr => ∃ k : Nat, k ≤ l.length ∧ i = i64 k ∧ s = i64 (cnt (isOut l d) k) ∧ ∃ g : Up w, wr = up w g) (fun _ i _ => l.length - (intOf i).toNat)
  case atStart => exact ⟨0, by omega, rfl, rfl, ex_up (by repeat (first | exact Below.refl _ _ | refine bl_tr ?_ _ | refine bl_al ?_ _ | refine bl_dr ?_ | refine bl_up ?_ _ | refine Below.drew ?_ | refine bl_alloc ?_ _ | refine Below.setCell ?_ (by first | (simp; done) | (simp; omega)) _))⟩
  case round =>
    obtain ⟨k, hk, rfl, rfl, g, rfl⟩ := hrel
    have hc := cnt_le (isOut l d) k
    by_cases hlt : k < l.length
    · obtain ⟨b, off, rfl, hb, ha⟩ := hire_at' h hlt
      obtain ⟨_, c0, c1, c2⟩ := ha k hlt
      go_wp2_with (first | ((with_reducible refine wp_region_up (by kernel_rfl) (by kernel_rfl) ?_); (repeat (go_big_quiet_step (fail))); refine wpQuiet_nil ?_; intro _ hw'; obtain ⟨nq, hw''⟩ := hw'; subst hw''))
      all_goals go_roundw
      all_goals first
        | (case measure => (simp [intOf]; try omega))
        | (go_light; refine ⟨k + 1, by omega, by go_num, ?_, ex_up (by repeat (first | exact Below.refl _ _ | refine bl_tr ?_ _ | refine bl_al ?_ _ | refine bl_dr ?_ | refine bl_up ?_ _ | refine Below.drew ?_ | refine bl_alloc ?_ _ | refine Below.setCell ?_ (by first | (simp; done) | (simp; omega)) _))⟩
           first
             | (rw [cnt_yes (by simp [isOut, ovl]; omega)]; go_num)
             | (rw [cnt_no (by simp [isOut, ovl]; omega)]))
    · obtain rfl : k = l.length := by omega
      go_wp2_with (first | ((with_reducible refine wp_region_up (by kernel_rfl) (by kernel_rfl) ?_); (repeat (go_big_quiet_step (fail))); refine wpQuiet_nil ?_; intro _ hw'; obtain ⟨nq, hw''⟩ := hw'; subst hw''))
      go_ret
      exact ⟨rfl, UpOf.of (by repeat (first | exact Below.refl _ _ | refine bl_tr ?_ _ | refine bl_al ?_ _ | refine bl_dr ?_ | refine bl_up ?_ _ | refine Below.drew ?_ | refine bl_alloc ?_ _ | refine Below.setCell ?_ (by first | (simp; done) | (simp; omega)) _))⟩
end Go.Proofs.Ytiagckbdofeecaa
