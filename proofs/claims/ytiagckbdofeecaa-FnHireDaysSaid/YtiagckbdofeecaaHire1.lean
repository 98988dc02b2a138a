/-
  Valid hires: the program's and the reference's look at them; both are one plain test of the list. No condition but that the list has at most 100,000,000 elements.
-/
import Derived.Test.YtiagckbdofeecaaHire0
namespace Go.Proofs.Ytiagckbdofeecaa
open Go.RowKit
def btw (n lo hi : Int) : Bool := decide (lo ≤ n ∧ n ≤ hi)
theorem btw_true {n lo hi : Int} (h : btw n lo hi = true) : lo ≤ n ∧ n ≤ hi := by simpa [btw] using h
theorem between_any (n lo hi : Int) (w : World) :
    Calls Try.prog 50 #[i64 n, i64 lo, i64 hi] w fun e w' => e = .returned (.bool (btw n lo hi)) ∧ w = w' := by
  go_enter Try.func50, Try.ntmps50
  go_wp2
  all_goals go_ret
  all_goals exact ⟨ret_bool (by simp [btw]; omega), rfl⟩
theorem in_any (n lo hi : Int) (w : World) :
    Calls Try.prog 55 #[i64 n, i64 lo, i64 hi] w fun e w' => e = .returned (.bool (btw n lo hi)) ∧ w = w' := by
  go_enter Try.func55, Try.ntmps55
  go_wp2
  all_goals go_ret
  all_goals exact ⟨ret_bool (by simp [btw]; omega), rfl⟩
theorem max_any (a b : Int) (w : World) :
    Calls Try.prog 58 #[i64 a, i64 b] w fun e w' => e = .returned (i64 (max a b)) ∧ w = w' := by
  go_enter Try.func58, Try.ntmps58
  go_wp2
  all_goals go_ret
  all_goals exact ⟨ret_int (by omega), rfl⟩

def days (f t : Int) : Bool := decide (0 ≤ f ∧ f < t ∧ t ≤ 3650)
def vHire (h : Hire) : Bool := btw h.m 0 19 && days h.f h.t
def before (x y : Hire) : Bool := decide (x.f < y.f ∨ x.f = y.f ∧ x.m < y.m)
def ovl (x : Hire) (a b : Int) : Bool := decide (x.f < b ∧ a < x.t)
def meet (a b : Hire) : Bool := decide (a.m = b.m ∧ a.f < b.t ∧ b.f < a.t)

theorem areDays_any (f t : Int) (w : World) :
    Calls Try.prog 65 #[i64 f, i64 t] w fun e w' => e = .returned (.bool (days f t)) ∧ w = w' := by
  go_enter Try.func65, Try.ntmps65
  go_wp2
  all_goals go_ret
  all_goals exact ⟨ret_bool (by go_light; simp only [days]; rw [Bool.eq_iff_iff]; simp; try omega), rfl⟩
theorem validHire_any (h : Hire) (w : World) :
    Calls Try.prog 51 #[hv h] w fun e w' => e = .returned (.bool (vHire h)) ∧ UpOf w w' := by
  go_enter Try.func51, Try.ntmps51
  go_wp2_with (first | (go_at_call 50; refine (between_any _ _ _ _).mono ?_; rintro e w' ⟨rfl, rfl⟩) | (go_at_call 65; refine (areDays_any _ _ _).mono ?_; rintro e w' ⟨rfl, rfl⟩) | ((with_reducible refine wp_region_up (by kernel_rfl) (by kernel_rfl) ?_); (repeat (go_big_quiet_step (first | (go_at_call 50; first | exact upq_tr_same (between_any _ _ _ _) | exact upq_same (between_any _ _ _ _)) | (go_at_call 65; first | exact upq_tr_same (areDays_any _ _ _) | exact upq_same (areDays_any _ _ _))))); refine wpQuiet_nil ?_; intro _ hw'; obtain ⟨nq, hw''⟩ := hw'; subst hw''))
  all_goals go_ret
  all_goals exact ⟨ret_bool (by go_light; simp_all [vHire]), UpOf.of (by repeat (first | exact Below.refl _ _ | refine bl_tr ?_ _ | refine bl_al ?_ _ | refine bl_dr ?_ | refine bl_up ?_ _ | refine Below.drew ?_ | refine bl_alloc ?_ _ | refine Below.setCell ?_ (by first | (simp; done) | (simp; omega)) _))⟩
theorem before_any (x y : Hire) (w : World) :
    Calls Try.prog 52 #[hv x, hv y] w fun e w' => e = .returned (.bool (before x y)) ∧ UpOf w w' := by
  go_enter Try.func52, Try.ntmps52
  go_wp2_with (first | ((with_reducible refine wp_region_up (by kernel_rfl) (by kernel_rfl) ?_); (repeat (go_big_quiet_step (fail))); refine wpQuiet_nil ?_; intro _ hw'; obtain ⟨nq, hw''⟩ := hw'; subst hw''))
  all_goals go_ret
  all_goals exact ⟨ret_bool (by go_light; simp only [before]; rw [Bool.eq_iff_iff]; simp; try omega), UpOf.of (by repeat (first | exact Below.refl _ _ | refine bl_tr ?_ _ | refine bl_al ?_ _ | refine bl_dr ?_ | refine bl_up ?_ _ | refine Below.drew ?_ | refine bl_alloc ?_ _ | refine Below.setCell ?_ (by first | (simp; done) | (simp; omega)) _))⟩
theorem overlaps_any (x : Hire) (a b : Int) (w : World) :
    Calls Try.prog 53 #[hv x, i64 a, i64 b] w fun e w' => e = .returned (.bool (ovl x a b)) ∧ UpOf w w' := by
  go_enter Try.func53, Try.ntmps53
  go_wp2_with (first | ((with_reducible refine wp_region_up (by kernel_rfl) (by kernel_rfl) ?_); (repeat (go_big_quiet_step (fail))); refine wpQuiet_nil ?_; intro _ hw'; obtain ⟨nq, hw''⟩ := hw'; subst hw''))
  all_goals go_ret
  all_goals exact ⟨ret_bool (by go_light; simp only [ovl]; rw [Bool.eq_iff_iff]; simp; try omega), UpOf.of (by repeat (first | exact Below.refl _ _ | refine bl_tr ?_ _ | refine bl_al ?_ _ | refine bl_dr ?_ | refine bl_up ?_ _ | refine Below.drew ?_ | refine bl_alloc ?_ _ | refine Below.setCell ?_ (by first | (simp; done) | (simp; omega)) _))⟩
/-- a hire lies at an address -/
def At (w : World) (b o : Nat) (h : Hire) : Prop := b < w.heap.size ∧ w.cell? ⟨b, o, none⟩ = some (i64 h.m) ∧ w.cell? ⟨b, o + 1, none⟩ = some (i64 h.f) ∧ w.cell? ⟨b, o + 2, none⟩ = some (i64 h.t)
theorem At.up {w : World} {b o : Nat} {h : Hire} (a : At w b o h) (g : Up w) : At (up w g) b o h :=
  ⟨lt_up _ a.1, (cell_up _ a.1).trans a.2.1, (cell_up _ a.1).trans a.2.2.1, (cell_up _ a.1).trans a.2.2.2⟩
theorem l25Before_any (x y : Hire) (b o b' o' : Nat) (w : World) (hx : At w b o x) (hy : At w b' o' y) :
    Calls Try.prog 73 #[.pointer (some ⟨b, o, none⟩), .pointer (some ⟨b', o', none⟩)] w fun e w' => e = .returned (.bool (before x y)) ∧ UpOf w w' := by
  obtain ⟨hb, c0, c1, c2⟩ := hx
  obtain ⟨hb', d0, d1, d2⟩ := hy
  go_enter Try.func73, Try.ntmps73
  go_wp2_with (first | ((with_reducible refine wp_region_up (by kernel_rfl) (by kernel_rfl) ?_); (repeat (any_goals (first | go_big_quiet_step (fail) | quiet_step (fail) | (refine wpQuiet_step (fun K hK => ?_); go_simp; split <;> (refine hK _ ?_; clear hK K))))); all_goals (refine wpQuiet_nil ?_; intro _ hw'; obtain ⟨nq, hw''⟩ := hw'; subst hw'')))
  all_goals go_ret
  all_goals exact ⟨ret_bool (by go_light; simp only [before]; rw [Bool.eq_iff_iff]; simp; try omega), UpOf.of (by repeat (first | exact Below.refl _ _ | refine bl_tr ?_ _ | refine bl_al ?_ _ | refine bl_dr ?_ | refine bl_up ?_ _ | refine Below.drew ?_ | refine bl_alloc ?_ _ | refine Below.setCell ?_ (by first | (simp; done) | (simp; omega)) _))⟩
theorem l25Meet_any (x y : Hire) (b o b' o' : Nat) (w : World) (hx : At w b o x) (hy : At w b' o' y) :
    Calls Try.prog 74 #[.pointer (some ⟨b, o, none⟩), .pointer (some ⟨b', o', none⟩)] w fun e w' => e = .returned (.bool (meet x y)) ∧ UpOf w w' := by
  obtain ⟨hb, c0, c1, c2⟩ := hx
  obtain ⟨hb', d0, d1, d2⟩ := hy
  go_enter Try.func74, Try.ntmps74
  go_wp2_with (first | ((with_reducible refine wp_region_up (by kernel_rfl) (by kernel_rfl) ?_); (repeat (any_goals (first | go_big_quiet_step (fail) | quiet_step (fail) | (refine wpQuiet_step (fun K hK => ?_); go_simp; split <;> (refine hK _ ?_; clear hK K))))); all_goals (refine wpQuiet_nil ?_; intro _ hw'; obtain ⟨nq, hw''⟩ := hw'; subst hw'')))
  all_goals go_ret
  all_goals exact ⟨ret_bool (by go_light; simp only [meet]; rw [Bool.eq_iff_iff]; simp; try omega), UpOf.of (by repeat (first | exact Below.refl _ _ | refine bl_tr ?_ _ | refine bl_al ?_ _ | refine bl_dr ?_ | refine bl_up ?_ _ | refine Below.drew ?_ | refine bl_alloc ?_ _ | refine Below.setCell ?_ (by first | (simp; done) | (simp; omega)) _))⟩
theorem l25One_any (x : Hire) (b o : Nat) (w : World) (hx : At w b o x) :
    Calls Try.prog 61 #[.pointer (some ⟨b, o, none⟩)] w fun e w' => e = .returned (.bool (vHire x)) ∧ UpOf w w' := by
  obtain ⟨hb, c0, c1, c2⟩ := hx
  go_enter Try.func61, Try.ntmps61
  go_wp2_with (first | (go_at_call 55; refine (in_any _ _ _ _).mono ?_; rintro e w' ⟨rfl, rfl⟩) | ((with_reducible refine wp_region_up (by kernel_rfl) (by kernel_rfl) ?_); (repeat (any_goals (first | go_big_quiet_step (first | (go_at_call 55; first | exact upq_tr_same (in_any _ _ _ _) | exact upq_same (in_any _ _ _ _))) | quiet_step (first | (go_at_call 55; first | exact upq_tr_same (in_any _ _ _ _) | exact upq_same (in_any _ _ _ _))) | (refine wpQuiet_step (fun K hK => ?_); go_simp; split <;> (refine hK _ ?_; clear hK K))))); all_goals (refine wpQuiet_nil ?_; intro _ hw'; obtain ⟨nq, hw''⟩ := hw'; subst hw'')))
  all_goals go_ret
  all_goals exact ⟨ret_bool (by go_light; simp only [vHire, days, btw] at *; rw [Bool.eq_iff_iff]; simp at *; try omega), UpOf.of (by repeat (first | exact Below.refl _ _ | refine bl_tr ?_ _ | refine bl_al ?_ _ | refine bl_dr ?_ | refine bl_up ?_ _ | refine Below.drew ?_ | refine bl_alloc ?_ _ | refine Below.setCell ?_ (by first | (simp; done) | (simp; omega)) _))⟩
end Go.Proofs.Ytiagckbdofeecaa
