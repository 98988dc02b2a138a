/-
  Equal lists of hires, of the program and of the reference; a number in a list. The bounds stand at each.
-/
import Derived.Test.YtiagckbdofeecaaDoorHire5
import Derived.Test.YtiagckbdofeecaaDoorF6
namespace Go.Proofs.YtiagckbdofeecaaDoor
open Go.RowKit
def hEq (x y : Hire) : Bool := x.m == y.m && x.f == y.f && x.t == y.t
theorem hEq_refl (x : Hire) : hEq x x = true := by simp [hEq]
def sameH (a b : List Hire) : Bool := decide (a.length = b.length) && (List.range a.length).all fun i => hEq (hat a i) (hat b i)
theorem sameH_len {a b : List Hire} (h : ¬ a.length = b.length) : sameH a b = false := by rw [sameH, decide_eq_false h]; rfl
theorem sameH_at {a b : List Hire} {i : Nat} (hi : i < a.length) (h : hEq (hat a i) (hat b i) = false) : sameH a b = false := by
  rw [← Bool.not_eq_true]
  intro hc
  simp only [sameH, Bool.and_eq_true, List.all_eq_true, List.mem_range] at hc
  rw [hc.2 i hi] at h; cases h
theorem sameH_true {a b : List Hire} (h : a.length = b.length) (h2 : ∀ i, i < a.length → hEq (hat a i) (hat b i) = true) : sameH a b = true := by
  simp only [sameH, decide_eq_true h, Bool.true_and, List.all_eq_true, List.mem_range]
  exact h2
theorem sameH_refl (a : List Hire) : sameH a a = true := sameH_true rfl fun _ _ => hEq_refl _
set_option maxRecDepth 10000 in
set_option maxHeartbeats 1000000 in
theorem sameHiresI_any (A B : Option Addr) (c d : Nat) (x y : List Hire) (w : World) (h1 : Rds w 3 A x.length (hcs x)) (h2 : Rds w 3 B y.length (hcs y)) (hn : x.length ≤ 100000000) (hm : y.length ≤ 100000000) :
    Calls Tryd.prog 29 #[.slice A x.length c, .slice B y.length d] w fun e w' => e = .returned (.bool (sameH x y)) ∧ UpOf w w' := by
  cases q6 : ((x.length : Int) != (y.length : Int))
  rotate_left
  · have hf := Lib.hid (sameH_len (show ¬ x.length = y.length by have h : ¬ (x.length : Int) = y.length := (by simpa using q6); omega))
    go_enter Tryd.func29, Tryd.ntmps29
    go_wp2_with (first | ((with_reducible refine wp_region_up (by kernel_rfl) (by kernel_rfl) ?_); (repeat (go_big_quiet_step (fail))); refine wpQuiet_nil ?_; intro _ hw'; obtain ⟨nq, hw''⟩ := hw'; subst hw''))
    go_ret
    exact ⟨ret_bool hf.out.symm, UpOf.of (by repeat (first | exact Below.refl _ _ | refine bl_tr ?_ _ | refine bl_al ?_ _ | refine bl_dr ?_ | refine bl_up ?_ _ | refine Below.drew ?_ | refine bl_alloc ?_ _ | refine Below.setCell ?_ (by first | (simp; done) | (simp; omega)) _))⟩
  have hle := Lib.hid (show x.length = y.length by have h : (x.length : Int) = y.length := (by simpa using q6); omega)
  go_enter Tryd.func29, Tryd.ntmps29
  go_wp2_with (first | ((with_reducible refine wp_region_up (by kernel_rfl) (by kernel_rfl) ?_); (repeat (go_big_quiet_step (fail))); refine wpQuiet_nil ?_; intro _ hw'; obtain ⟨nq, hw''⟩ := hw'; subst hw''))
  clear q6
  go_loopw [13] (fun i wr => ∃ k : Nat, k ≤ x.length ∧ i = i64 k ∧ Hid (∀ j, j < k → hEq (hat x j) (hat y j) = true) ∧ ∃ g : Up w, wr = up w g) (fun i _ => x.length - (intOf i).toNat)
  case atStart => exact ⟨0, by omega, rfl, fun i hi => by omega, ex_up (by repeat (first | exact Below.refl _ _ | refine bl_tr ?_ _ | refine bl_al ?_ _ | refine bl_dr ?_ | refine bl_up ?_ _ | refine Below.drew ?_ | refine bl_alloc ?_ _ | refine Below.setCell ?_ (by first | (simp; done) | (simp; omega)) _))⟩
  case round =>
    obtain ⟨k, hk, rfl, hok, g', rfl⟩ := hrel
    by_cases hlt : k < x.length
    · have hlt2 : k < y.length := by have := hle.out; omega
      obtain ⟨b1, o1, rfl, hb1, ha1⟩ := hire_at' h1 hlt
      obtain ⟨_, u0, u1, u2⟩ := ha1 k hlt
      obtain ⟨b2, o2, rfl, hb2, ha2⟩ := hire_at' h2 hlt2
      obtain ⟨_, v0, v1, v2⟩ := ha2 k hlt2
      clear ha1 ha2
      cases r1 : ((hat x k).m == (hat y k).m)
      · have hf := Lib.hid (sameH_at (b := y) hlt (by simp only [hEq, r1]; rfl))
        go_wp2_with (first | ((with_reducible refine wp_region_up (by kernel_rfl) (by kernel_rfl) ?_); (repeat (go_big_quiet_step (fail))); refine wpQuiet_nil ?_; intro _ hw'; obtain ⟨nq, hw''⟩ := hw'; subst hw''))
        go_ret
        exact ⟨ret_bool hf.out.symm, UpOf.of (by repeat (first | exact Below.refl _ _ | refine bl_tr ?_ _ | refine bl_al ?_ _ | refine bl_dr ?_ | refine bl_up ?_ _ | refine Below.drew ?_ | refine bl_alloc ?_ _ | refine Below.setCell ?_ (by first | (simp; done) | (simp; omega)) _))⟩
      cases r2 : ((hat x k).f == (hat y k).f)
      · have hf := Lib.hid (sameH_at (b := y) hlt (by simp only [hEq, r1, r2]; rfl))
        go_wp2_with (first | ((with_reducible refine wp_region_up (by kernel_rfl) (by kernel_rfl) ?_); (repeat (go_big_quiet_step (fail))); refine wpQuiet_nil ?_; intro _ hw'; obtain ⟨nq, hw''⟩ := hw'; subst hw''))
        go_ret
        exact ⟨ret_bool hf.out.symm, UpOf.of (by repeat (first | exact Below.refl _ _ | refine bl_tr ?_ _ | refine bl_al ?_ _ | refine bl_dr ?_ | refine bl_up ?_ _ | refine Below.drew ?_ | refine bl_alloc ?_ _ | refine Below.setCell ?_ (by first | (simp; done) | (simp; omega)) _))⟩
      cases r3 : ((hat x k).t == (hat y k).t)
      · have hf := Lib.hid (sameH_at (b := y) hlt (by simp only [hEq, r1, r2, r3]; rfl))
        go_wp2_with (first | ((with_reducible refine wp_region_up (by kernel_rfl) (by kernel_rfl) ?_); (repeat (go_big_quiet_step (fail))); refine wpQuiet_nil ?_; intro _ hw'; obtain ⟨nq, hw''⟩ := hw'; subst hw''))
        go_ret
        exact ⟨ret_bool hf.out.symm, UpOf.of (by repeat (first | exact Below.refl _ _ | refine bl_tr ?_ _ | refine bl_al ?_ _ | refine bl_dr ?_ | refine bl_up ?_ _ | refine Below.drew ?_ | refine bl_alloc ?_ _ | refine Below.setCell ?_ (by first | (simp; done) | (simp; omega)) _))⟩
      have hq := Lib.hid (show hEq (hat x k) (hat y k) = true by simp only [hEq, r1, r2, r3]; rfl)
      go_wp2_with (first | ((with_reducible refine wp_region_up (by kernel_rfl) (by kernel_rfl) ?_); (repeat (go_big_quiet_step (fail))); refine wpQuiet_nil ?_; intro _ hw'; obtain ⟨nq, hw''⟩ := hw'; subst hw''))
      go_roundw
      case rel => exact ⟨k + 1, by omega, by go_num, fun j hj => by rcases Nat.lt_succ_iff_lt_or_eq.1 hj with h' | h'
                                                                    · exact hok.out j h'
                                                                    · rw [h']; exact hq.out, ex_up (by repeat (first | exact Below.refl _ _ | refine bl_tr ?_ _ | refine bl_al ?_ _ | refine bl_dr ?_ | refine bl_up ?_ _ | refine Below.drew ?_ | refine bl_alloc ?_ _ | refine Below.setCell ?_ (by first | (simp; done) | (simp; omega)) _))⟩
      case measure => (simp [intOf]; try omega)
    · have hf := Lib.hid (sameH_true hle.out (fun i hi => hok.out i (by omega)))
      go_wp2_with (first | ((with_reducible refine wp_region_up (by kernel_rfl) (by kernel_rfl) ?_); (repeat (go_big_quiet_step (fail))); refine wpQuiet_nil ?_; intro _ hw'; obtain ⟨nq, hw''⟩ := hw'; subst hw''))
      go_ret
      exact ⟨ret_bool hf.out.symm, UpOf.of (by repeat (first | exact Below.refl _ _ | refine bl_tr ?_ _ | refine bl_al ?_ _ | refine bl_dr ?_ | refine bl_up ?_ _ | refine Below.drew ?_ | refine bl_alloc ?_ _ | refine Below.setCell ?_ (by first | (simp; done) | (simp; omega)) _))⟩
set_option maxRecDepth 10000 in
set_option maxHeartbeats 1000000 in
theorem sameHiresS_any (A B : Option Addr) (c d : Nat) (x y : List Hire) (w : World) (h1 : Rds w 3 A x.length (hcs x)) (h2 : Rds w 3 B y.length (hcs y)) (hn : x.length ≤ 100000000) (hm : y.length ≤ 100000000) :
    Calls Tryd.prog 27 #[.slice A x.length c, .slice B y.length d] w fun e w' => e = .returned (.bool (sameH x y)) ∧ UpOf w w' := by
  cases q6 : ((x.length : Int) != (y.length : Int))
  rotate_left
  · have hf := Lib.hid (sameH_len (show ¬ x.length = y.length by have h : ¬ (x.length : Int) = y.length := (by simpa using q6); omega))
    go_enter Tryd.func27, Tryd.ntmps27
    go_wp2_with (first | ((with_reducible refine wp_region_up (by kernel_rfl) (by kernel_rfl) ?_); (repeat (go_big_quiet_step (fail))); refine wpQuiet_nil ?_; intro _ hw'; obtain ⟨nq, hw''⟩ := hw'; subst hw''))
    go_ret
    exact ⟨ret_bool hf.out.symm, UpOf.of (by repeat (first | exact Below.refl _ _ | refine bl_tr ?_ _ | refine bl_al ?_ _ | refine bl_dr ?_ | refine bl_up ?_ _ | refine Below.drew ?_ | refine bl_alloc ?_ _ | refine Below.setCell ?_ (by first | (simp; done) | (simp; omega)) _))⟩
  have hle := Lib.hid (show x.length = y.length by have h : (x.length : Int) = y.length := (by simpa using q6); omega)
  go_enter Tryd.func27, Tryd.ntmps27
  go_wp2_with (first | ((with_reducible refine wp_region_up (by kernel_rfl) (by kernel_rfl) ?_); (repeat (go_big_quiet_step (fail))); refine wpQuiet_nil ?_; intro _ hw'; obtain ⟨nq, hw''⟩ := hw'; subst hw''))
  clear q6
  go_loopw [5] (fun i wr => ∃ k : Nat, k ≤ x.length ∧ i = i64 k ∧ Hid (∀ j, j < k → hEq (hat x j) (hat y j) = true) ∧ ∃ g : Up w, wr = up w g) (fun i _ => x.length - (intOf i).toNat)
  case atStart => exact ⟨0, by omega, rfl, fun i hi => by omega, ex_up (by repeat (first | exact Below.refl _ _ | refine bl_tr ?_ _ | refine bl_al ?_ _ | refine bl_dr ?_ | refine bl_up ?_ _ | refine Below.drew ?_ | refine bl_alloc ?_ _ | refine Below.setCell ?_ (by first | (simp; done) | (simp; omega)) _))⟩
  case round =>
    obtain ⟨k, hk, rfl, hok, g', rfl⟩ := hrel
    by_cases hlt : k < x.length
    · have hlt2 : k < y.length := by have := hle.out; omega
      obtain ⟨b1, o1, rfl, hb1, ha1⟩ := hire_at' h1 hlt
      obtain ⟨_, u0, u1, u2⟩ := ha1 k hlt
      obtain ⟨b2, o2, rfl, hb2, ha2⟩ := hire_at' h2 hlt2
      obtain ⟨_, v0, v1, v2⟩ := ha2 k hlt2
      clear ha1 ha2
      cases r1 : ((hat x k).m == (hat y k).m)
      · have hf := Lib.hid (sameH_at (b := y) hlt (by simp only [hEq, r1]; rfl))
        go_wp2_with (first | ((with_reducible refine wp_region_up (by kernel_rfl) (by kernel_rfl) ?_); (repeat (go_big_quiet_step (fail))); refine wpQuiet_nil ?_; intro _ hw'; obtain ⟨nq, hw''⟩ := hw'; subst hw''))
        go_ret
        exact ⟨ret_bool hf.out.symm, UpOf.of (by repeat (first | exact Below.refl _ _ | refine bl_tr ?_ _ | refine bl_al ?_ _ | refine bl_dr ?_ | refine bl_up ?_ _ | refine Below.drew ?_ | refine bl_alloc ?_ _ | refine Below.setCell ?_ (by first | (simp; done) | (simp; omega)) _))⟩
      cases r2 : ((hat x k).f == (hat y k).f)
      · have hf := Lib.hid (sameH_at (b := y) hlt (by simp only [hEq, r1, r2]; rfl))
        go_wp2_with (first | ((with_reducible refine wp_region_up (by kernel_rfl) (by kernel_rfl) ?_); (repeat (go_big_quiet_step (fail))); refine wpQuiet_nil ?_; intro _ hw'; obtain ⟨nq, hw''⟩ := hw'; subst hw''))
        go_ret
        exact ⟨ret_bool hf.out.symm, UpOf.of (by repeat (first | exact Below.refl _ _ | refine bl_tr ?_ _ | refine bl_al ?_ _ | refine bl_dr ?_ | refine bl_up ?_ _ | refine Below.drew ?_ | refine bl_alloc ?_ _ | refine Below.setCell ?_ (by first | (simp; done) | (simp; omega)) _))⟩
      cases r3 : ((hat x k).t == (hat y k).t)
      · have hf := Lib.hid (sameH_at (b := y) hlt (by simp only [hEq, r1, r2, r3]; rfl))
        go_wp2_with (first | ((with_reducible refine wp_region_up (by kernel_rfl) (by kernel_rfl) ?_); (repeat (go_big_quiet_step (fail))); refine wpQuiet_nil ?_; intro _ hw'; obtain ⟨nq, hw''⟩ := hw'; subst hw''))
        go_ret
        exact ⟨ret_bool hf.out.symm, UpOf.of (by repeat (first | exact Below.refl _ _ | refine bl_tr ?_ _ | refine bl_al ?_ _ | refine bl_dr ?_ | refine bl_up ?_ _ | refine Below.drew ?_ | refine bl_alloc ?_ _ | refine Below.setCell ?_ (by first | (simp; done) | (simp; omega)) _))⟩
      have hq := Lib.hid (show hEq (hat x k) (hat y k) = true by simp only [hEq, r1, r2, r3]; rfl)
      go_wp2_with (first | ((with_reducible refine wp_region_up (by kernel_rfl) (by kernel_rfl) ?_); (repeat (go_big_quiet_step (fail))); refine wpQuiet_nil ?_; intro _ hw'; obtain ⟨nq, hw''⟩ := hw'; subst hw''))
      go_roundw
      case rel => exact ⟨k + 1, by omega, by go_num, fun j hj => by rcases Nat.lt_succ_iff_lt_or_eq.1 hj with h' | h'
                                                                    · exact hok.out j h'
                                                                    · rw [h']; exact hq.out, ex_up (by repeat (first | exact Below.refl _ _ | refine bl_tr ?_ _ | refine bl_al ?_ _ | refine bl_dr ?_ | refine bl_up ?_ _ | refine Below.drew ?_ | refine bl_alloc ?_ _ | refine Below.setCell ?_ (by first | (simp; done) | (simp; omega)) _))⟩
      case measure => (simp [intOf]; try omega)
    · have hf := Lib.hid (sameH_true hle.out (fun i hi => hok.out i (by omega)))
      go_wp2_with (first | ((with_reducible refine wp_region_up (by kernel_rfl) (by kernel_rfl) ?_); (repeat (go_big_quiet_step (fail))); refine wpQuiet_nil ?_; intro _ hw'; obtain ⟨nq, hw''⟩ := hw'; subst hw''))
      go_ret
      exact ⟨ret_bool hf.out.symm, UpOf.of (by repeat (first | exact Below.refl _ _ | refine bl_tr ?_ _ | refine bl_al ?_ _ | refine bl_dr ?_ | refine bl_up ?_ _ | refine Below.drew ?_ | refine bl_alloc ?_ _ | refine Below.setCell ?_ (by first | (simp; done) | (simp; omega)) _))⟩
set_option maxRecDepth 10000 in
theorem f6has_any (A : Option Addr) (c : Nat) (l : List Int) (x : Int) (w : World) (h : Rds w 1 A l.length (ics l)) (hn : l.length ≤ 100000000) :
    Calls Tryd.prog 32 #[.slice A l.length c, i64 x] w fun e w' => e = .returned (.bool (l.contains x)) ∧ UpOf w w' := by
  go_enter Tryd.func32, Tryd.ntmps32
  go_wp2_with (first | ((with_reducible refine wp_region_up (by kernel_rfl) (by kernel_rfl) ?_); (repeat (go_big_quiet_step (fail))); refine wpQuiet_nil ?_; intro _ hw'; obtain ⟨nq, hw''⟩ := hw'; subst hw''))
  go_loopw [5] (fun i wr => ∃ k : Nat, k ≤ l.length ∧ i = i64 k ∧ Hid (∀ j (hj : j < l.length), j < k → l[j] ≠ x) ∧ ∃ g : Up w, wr = up w g) (fun i _ => l.length - (intOf i).toNat)
  case atStart => exact ⟨0, by omega, rfl, fun j hj h => by omega, ex_up (by repeat (first | exact Below.refl _ _ | refine bl_tr ?_ _ | refine bl_al ?_ _ | refine bl_dr ?_ | refine bl_up ?_ _ | refine Below.drew ?_ | refine bl_alloc ?_ _ | refine Below.setCell ?_ (by first | (simp; done) | (simp; omega)) _))⟩
  case round =>
    obtain ⟨k, hk, rfl, hok, g, rfl⟩ := hrel
    by_cases hlt : k < l.length
    · obtain ⟨b, off, rfl, hb, c0⟩ := int_at h rfl hlt
      cases r1 : (l[k] == x)
      · have hq := Lib.hid (show l[k] ≠ x by simpa using r1)
        go_wp2_with (first | ((with_reducible refine wp_region_up (by kernel_rfl) (by kernel_rfl) ?_); (repeat (go_big_quiet_step (fail))); refine wpQuiet_nil ?_; intro _ hw'; obtain ⟨nq, hw''⟩ := hw'; subst hw''))
        go_roundw
        case rel => exact ⟨k + 1, by omega, by go_num, fun j hj h => by
          rcases Nat.lt_succ_iff_lt_or_eq.1 h with h' | h'
          · exact hok.out j hj h'
          · subst h'; exact hq.out, ex_up (by repeat (first | exact Below.refl _ _ | refine bl_tr ?_ _ | refine bl_al ?_ _ | refine bl_dr ?_ | refine bl_up ?_ _ | refine Below.drew ?_ | refine bl_alloc ?_ _ | refine Below.setCell ?_ (by first | (simp; done) | (simp; omega)) _))⟩
        case measure => (simp [intOf]; try omega)
      · have hf := Lib.hid (show l.contains x = true by rw [List.contains_iff_mem, ← (show l[k] = x by simpa using r1)]; exact List.getElem_mem _)
        go_wp2_with (first | ((with_reducible refine wp_region_up (by kernel_rfl) (by kernel_rfl) ?_); (repeat (go_big_quiet_step (fail))); refine wpQuiet_nil ?_; intro _ hw'; obtain ⟨nq, hw''⟩ := hw'; subst hw''))
        go_ret
        exact ⟨ret_bool hf.out.symm, UpOf.of (by repeat (first | exact Below.refl _ _ | refine bl_tr ?_ _ | refine bl_al ?_ _ | refine bl_dr ?_ | refine bl_up ?_ _ | refine Below.drew ?_ | refine bl_alloc ?_ _ | refine Below.setCell ?_ (by first | (simp; done) | (simp; omega)) _))⟩
    · have hf : Hid (l.contains x = false) := by
        show _ = _
        rw [← Bool.not_eq_true, List.contains_iff_mem]
        intro hm
        obtain ⟨j, hj, e⟩ := List.getElem_of_mem hm
        exact hok.out j hj (by omega) e
      go_wp2_with (first | ((with_reducible refine wp_region_up (by kernel_rfl) (by kernel_rfl) ?_); (repeat (go_big_quiet_step (fail))); refine wpQuiet_nil ?_; intro _ hw'; obtain ⟨nq, hw''⟩ := hw'; subst hw''))
      go_ret
      exact ⟨ret_bool hf.out.symm, UpOf.of (by repeat (first | exact Below.refl _ _ | refine bl_tr ?_ _ | refine bl_al ?_ _ | refine bl_dr ?_ | refine bl_up ?_ _ | refine Below.drew ?_ | refine bl_alloc ?_ _ | refine Below.setCell ?_ (by first | (simp; done) | (simp; omega)) _))⟩
end Go.Proofs.YtiagckbdofeecaaDoor
