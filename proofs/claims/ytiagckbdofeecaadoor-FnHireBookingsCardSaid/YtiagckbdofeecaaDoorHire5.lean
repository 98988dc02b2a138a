/-
  Is a machine free: the program's test and the reference's.
-/
import Derived.Test.YtiagckbdofeecaaDoorMgA
namespace Go.Proofs.YtiagckbdofeecaaDoor
open Go.RowKit
def free (l : List Hire) (m f t : Int) : Bool := (List.range l.length).all (fun k => !meet (hat l k) ⟨m, f, t⟩)
theorem free_true {l : List Hire} {m f t : Int} (h : ∀ k, k < l.length → meet (hat l k) ⟨m, f, t⟩ = false) : free l m f t = true := by
  simp only [free, List.all_eq_true, List.mem_range]
  intro k hk
  simp [h k hk]
theorem free_at {l : List Hire} {m f t : Int} {k : Nat} (hk : k < l.length) (h : meet (hat l k) ⟨m, f, t⟩ = true) : free l m f t = false := by
  rw [← Bool.not_eq_true]
  intro hc
  simp only [free, List.all_eq_true, List.mem_range] at hc
  have := hc k hk
  simp [h] at this
theorem free_not {l : List Hire} {m f t : Int} (h : free l m f t = true) {k : Nat} (hk : k < l.length) : meet (hat l k) ⟨m, f, t⟩ = false := by
  simp only [free, List.all_eq_true, List.mem_range] at h
  have := h k hk
  simpa using this
theorem free_some {l : List Hire} {m f t : Int} (h : free l m f t = false) : ∃ k, k < l.length ∧ meet (hat l k) ⟨m, f, t⟩ = true := by
  rw [← Bool.not_eq_true] at h
  simp only [free, List.all_eq_true, List.mem_range] at h
  obtain ⟨k, hk⟩ := Classical.not_forall.1 h
  obtain ⟨hk, hm⟩ := Classical.not_imp.1 hk
  exact ⟨k, hk, by simpa using hm⟩
theorem meet_is {h : Hire} {m f t : Int} (h1 : (h.m == m) = true) (h2 : ovl h f t = true) : meet h ⟨m, f, t⟩ = true := by
  simp [ovl] at h2
  simp at h1
  simp [meet]
  omega
theorem meet_is1 {h : Hire} {m f t : Int} (h1 : (h.m == m) = false) : meet h ⟨m, f, t⟩ = false := by
  simp at h1
  simp [meet]
  intro h
  exact absurd h h1
theorem meet_is2 {h : Hire} {m f t : Int} (h2 : ovl h f t = false) : meet h ⟨m, f, t⟩ = false := by
  simp [ovl] at h2
  simp [meet]
  omega
set_option maxRecDepth 10000 in
theorem isFree_any (A : Option Addr) (c : Nat) (l : List Hire) (m f t : Int) (w : World) (h : Rds w 3 A l.length (hcs l)) (hn : l.length ≤ 100000000) :
    Calls Tryd.prog 48 #[.slice A l.length c, i64 m, i64 f, i64 t] w fun e w' => e = .returned (.bool (free l m f t)) ∧ UpOf w w' := by
  go_enter Tryd.func48, Tryd.ntmps48
  go_wp2_with (first | ((with_reducible refine wp_region_up (by kernel_rfl) (by kernel_rfl) ?_); (repeat (go_big_quiet_step (fail))); refine wpQuiet_nil ?_; intro _ hw'; obtain ⟨nq, hw''⟩ := hw'; subst hw''))
  go_loopw [13] (fun i wr => ∃ k : Nat, k ≤ l.length ∧ i = i64 k ∧ Hid (∀ i, i < k → meet (hat l i) ⟨m, f, t⟩ = false) ∧ ∃ g : Up w, wr = up w g) (fun i _ => l.length - (intOf i).toNat)
  case atStart => exact ⟨0, by omega, rfl, fun i hi => by omega, ex_up (by repeat (first | exact Below.refl _ _ | refine bl_tr ?_ _ | refine bl_al ?_ _ | refine bl_dr ?_ | refine bl_up ?_ _ | refine Below.drew ?_ | refine bl_alloc ?_ _ | refine Below.setCell ?_ (by first | (simp; done) | (simp; omega)) _))⟩
  case round =>
    obtain ⟨k, hk, rfl, hme, g, rfl⟩ := hrel
    by_cases hlt : k < l.length
    · obtain ⟨b, off, rfl, hb, ha⟩ := hire_at' h hlt
      obtain ⟨_, c0, c1, c2⟩ := ha k hlt
      cases q1 : ((hat l k).m == m)
      · have hm' := Lib.hid (meet_is1 (f := f) (t := t) q1)
        go_wp2_with (first | (go_at_call 63; refine (overlaps_any _ _ _ _).mono ?_; rintro e w' ⟨rfl, g, rfl⟩) | ((with_reducible refine wp_region_up (by kernel_rfl) (by kernel_rfl) ?_); (repeat (go_big_quiet_step (first | (go_at_call 63; first | exact upq_tr (overlaps_any _ _ _ _) | exact upq (overlaps_any _ _ _ _))))); refine wpQuiet_nil ?_; intro _ hw'; obtain ⟨nq, hw''⟩ := hw'; subst hw''))
        go_roundw
        case rel => have hx := ext_lt (P := fun i => meet (hat l i) ⟨m, f, t⟩ = false) hme.out hm'.out; exact ⟨k + 1, by omega, by go_num, hx, ex_up (by repeat (first | exact Below.refl _ _ | refine bl_tr ?_ _ | refine bl_al ?_ _ | refine bl_dr ?_ | refine bl_up ?_ _ | refine Below.drew ?_ | refine bl_alloc ?_ _ | refine Below.setCell ?_ (by first | (simp; done) | (simp; omega)) _))⟩
        case measure => (simp [intOf]; try omega)
      · cases q2 : ovl (hat l k) f t
        · have hm' := Lib.hid (meet_is2 (m := m) q2)
          go_wp2_with (first | (go_at_call 63; refine (ret_as (overlaps_any _ _ _ _) q2).mono ?_; rintro e w' ⟨rfl, g, rfl⟩) | ((with_reducible refine wp_region_up (by kernel_rfl) (by kernel_rfl) ?_); (repeat (go_big_quiet_step (first | (go_at_call 63; first | exact upq_tr (ret_as (overlaps_any _ _ _ _) q2) | exact upq (ret_as (overlaps_any _ _ _ _) q2))))); refine wpQuiet_nil ?_; intro _ hw'; obtain ⟨nq, hw''⟩ := hw'; subst hw''))
          go_roundw
          case rel => have hx := ext_lt (P := fun i => meet (hat l i) ⟨m, f, t⟩ = false) hme.out hm'.out; exact ⟨k + 1, by omega, by go_num, hx, ex_up (by repeat (first | exact Below.refl _ _ | refine bl_tr ?_ _ | refine bl_al ?_ _ | refine bl_dr ?_ | refine bl_up ?_ _ | refine Below.drew ?_ | refine bl_alloc ?_ _ | refine Below.setCell ?_ (by first | (simp; done) | (simp; omega)) _))⟩
          case measure => (simp [intOf]; try omega)
        · have hm' := Lib.hid (free_at hlt (meet_is q1 q2))
          go_wp2_with (first | (go_at_call 63; refine (ret_as (overlaps_any _ _ _ _) q2).mono ?_; rintro e w' ⟨rfl, g, rfl⟩) | ((with_reducible refine wp_region_up (by kernel_rfl) (by kernel_rfl) ?_); (repeat (go_big_quiet_step (first | (go_at_call 63; first | exact upq_tr (ret_as (overlaps_any _ _ _ _) q2) | exact upq (ret_as (overlaps_any _ _ _ _) q2))))); refine wpQuiet_nil ?_; intro _ hw'; obtain ⟨nq, hw''⟩ := hw'; subst hw''))
          go_ret
          exact ⟨ret_bool hm'.out.symm, UpOf.of (by repeat (first | exact Below.refl _ _ | refine bl_tr ?_ _ | refine bl_al ?_ _ | refine bl_dr ?_ | refine bl_up ?_ _ | refine Below.drew ?_ | refine bl_alloc ?_ _ | refine Below.setCell ?_ (by first | (simp; done) | (simp; omega)) _))⟩
    · obtain rfl : k = l.length := by omega
      have hm' := Lib.hid (free_true hme.out)
      go_wp2_with (first | ((with_reducible refine wp_region_up (by kernel_rfl) (by kernel_rfl) ?_); (repeat (go_big_quiet_step (fail))); refine wpQuiet_nil ?_; intro _ hw'; obtain ⟨nq, hw''⟩ := hw'; subst hw''))
      go_ret
      exact ⟨ret_bool hm'.out.symm, UpOf.of (by repeat (first | exact Below.refl _ _ | refine bl_tr ?_ _ | refine bl_al ?_ _ | refine bl_dr ?_ | refine bl_up ?_ _ | refine Below.drew ?_ | refine bl_alloc ?_ _ | refine Below.setCell ?_ (by first | (simp; done) | (simp; omega)) _))⟩
theorem At.new {w : World} {m f t : Int} {T : TypeId} : At (w.alloc (.cells #[i64 m, i64 f, i64 t] T)) w.heap.size 0 ⟨m, f, t⟩ :=
  ⟨by show _ < (w.heap.push _).size; rw [Array.size_push]; omega, World.cell?_alloc_new _ _ _ _, World.cell?_alloc_new _ _ _ _, World.cell?_alloc_new _ _ _ _⟩
theorem At.al {w : World} {b o : Nat} {h : Hire} (a : At w b o h) (x : Obj) : At (w.alloc x) b o h :=
  ⟨by have := a.1; show _ < (w.heap.push _).size; rw [Array.size_push]; omega, (World.cell?_alloc_lt _ _ _ a.1).trans a.2.1, (World.cell?_alloc_lt _ _ _ a.1).trans a.2.2.1, (World.cell?_alloc_lt _ _ _ a.1).trans a.2.2.2⟩
set_option maxRecDepth 10000 in
theorem l25Free_any (A : Option Addr) (c : Nat) (l : List Hire) (m f t : Int) (w : World) (h : Rds w 3 A l.length (hcs l)) (hn : l.length ≤ 100000000) :
    Calls Tryd.prog 44 #[.slice A l.length c, i64 m, i64 f, i64 t] w fun e w' => e = .returned (.bool (free l m f t)) ∧ UpOf w w' := by
  go_enter Tryd.func44, Tryd.ntmps44
  go_wp2_with (first | ((with_reducible refine wp_region_up (by kernel_rfl) (by kernel_rfl) ?_); (repeat (go_big_quiet_step (fail))); refine wpQuiet_nil ?_; intro _ hw'; obtain ⟨nq, hw''⟩ := hw'; subst hw''))
  go_loopw [10] (fun i wr => ∃ k : Nat, k ≤ l.length ∧ i = i64 k ∧ Hid (∀ i, i < k → meet (hat l i) ⟨m, f, t⟩ = false) ∧ ∃ g : Up (w.alloc (.cells #[i64 m, i64 f, i64 t] 25)), wr = up (w.alloc (.cells #[i64 m, i64 f, i64 t] 25)) g) (fun i _ => l.length - (intOf i).toNat)
  case atStart => exact ⟨0, by omega, rfl, fun i hi => by omega, ex_up (by repeat (first | exact Below.refl _ _ | refine bl_tr ?_ _ | refine bl_al ?_ _ | refine bl_dr ?_ | refine bl_up ?_ _ | refine Below.drew ?_ | refine bl_alloc ?_ _ | refine Below.setCell ?_ (by first | (simp; done) | (simp; omega)) _))⟩
  case round =>
    obtain ⟨k, hk, rfl, hme, g, rfl⟩ := hrel
    by_cases hlt : k < l.length
    · obtain ⟨b, off, rfl, hb, ha⟩ := hire_at' h hlt
      cases q1 : meet (hat l k) ⟨m, f, t⟩
      · have hm' := Lib.hid q1
        go_wp2_with (first | (go_at_call 68; refine (ret_as (l25Meet_any _ _ _ _ _ _ _ (((ha k hlt).al _).up _) (At.new.up _)) q1).mono ?_; rintro e w' ⟨rfl, g, rfl⟩) | ((with_reducible refine wp_region_up (by kernel_rfl) (by kernel_rfl) ?_); (repeat (go_big_quiet_step (first | (go_at_call 68; first | exact upq_tr (ret_as (l25Meet_any _ _ _ _ _ _ _ (((ha k hlt).al _).up _) (At.new.up _)) q1) | exact upq (ret_as (l25Meet_any _ _ _ _ _ _ _ (((ha k hlt).al _).up _) (At.new.up _)) q1))))); refine wpQuiet_nil ?_; intro _ hw'; obtain ⟨nq, hw''⟩ := hw'; subst hw''))
        go_roundw
        case rel => have hx := ext_lt (P := fun i => meet (hat l i) ⟨m, f, t⟩ = false) hme.out hm'.out; exact ⟨k + 1, by omega, by go_num, hx, ex_up (by repeat (first | exact Below.refl _ _ | refine bl_tr ?_ _ | refine bl_al ?_ _ | refine bl_dr ?_ | refine bl_up ?_ _ | refine Below.drew ?_ | refine bl_alloc ?_ _ | refine Below.setCell ?_ (by first | (simp; done) | (simp; omega)) _))⟩
        case measure => (simp [intOf]; try omega)
      · have hm' := Lib.hid (free_at hlt q1)
        go_wp2_with (first | (go_at_call 68; refine (ret_as (l25Meet_any _ _ _ _ _ _ _ (((ha k hlt).al _).up _) (At.new.up _)) q1).mono ?_; rintro e w' ⟨rfl, g, rfl⟩) | ((with_reducible refine wp_region_up (by kernel_rfl) (by kernel_rfl) ?_); (repeat (go_big_quiet_step (first | (go_at_call 68; first | exact upq_tr (ret_as (l25Meet_any _ _ _ _ _ _ _ (((ha k hlt).al _).up _) (At.new.up _)) q1) | exact upq (ret_as (l25Meet_any _ _ _ _ _ _ _ (((ha k hlt).al _).up _) (At.new.up _)) q1))))); refine wpQuiet_nil ?_; intro _ hw'; obtain ⟨nq, hw''⟩ := hw'; subst hw''))
        go_ret
        exact ⟨ret_bool hm'.out.symm, UpOf.of (by repeat (first | exact Below.refl _ _ | refine bl_tr ?_ _ | refine bl_al ?_ _ | refine bl_dr ?_ | refine bl_up ?_ _ | refine Below.drew ?_ | refine bl_alloc ?_ _ | refine Below.setCell ?_ (by first | (simp; done) | (simp; omega)) _))⟩
    · obtain rfl : k = l.length := by omega
      have hm' := Lib.hid (free_true hme.out)
      go_wp2_with (first | ((with_reducible refine wp_region_up (by kernel_rfl) (by kernel_rfl) ?_); (repeat (go_big_quiet_step (fail))); refine wpQuiet_nil ?_; intro _ hw'; obtain ⟨nq, hw''⟩ := hw'; subst hw''))
      go_ret
      exact ⟨ret_bool hm'.out.symm, UpOf.of (by repeat (first | exact Below.refl _ _ | refine bl_tr ?_ _ | refine bl_al ?_ _ | refine bl_dr ?_ | refine bl_up ?_ _ | refine Below.drew ?_ | refine bl_alloc ?_ _ | refine Below.setCell ?_ (by first | (simp; done) | (simp; omega)) _))⟩
end Go.Proofs.YtiagckbdofeecaaDoor
