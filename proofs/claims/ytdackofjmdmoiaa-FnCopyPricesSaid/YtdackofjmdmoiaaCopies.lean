/-
  Contracts of the functions of copies, of the program and of the reference: each returns what a plain function of the numbers returns. No condition but the ones that stand at each.
-/
import Derived.Test.YtdackofjmdmoiaaRows
import Derived.Test.YtdackofjmdmoiaaUp
namespace Go.Proofs.Ytdackofjmdmoiaa
open Go.RowKit

def btw (n lo hi : Int) : Bool := decide (lo ≤ n ∧ n ≤ hi)
theorem btw_true {n lo hi : Int} (h : btw n lo hi = true) : lo ≤ n ∧ n ≤ hi := by simpa [btw] using h
theorem btw_false {n lo hi : Int} (h : btw n lo hi = false) : ¬ (lo ≤ n ∧ n ≤ hi) := by simpa [btw] using h
theorem ret_bool {a b : Bool} (h : a = b) : Ending.returned (.bool a) = .returned (.bool b) := by rw [h]
theorem ret_int {k : IntKind} {a b : Int} (h : a = b) : Ending.returned (.int k a) = .returned (.int k b) := by rw [h]
abbrev i64 (n : Int) : Value := .int .i64 n

theorem between_any (n lo hi : Int) (w : World) :
    Calls Try.prog 31 #[i64 n, i64 lo, i64 hi] w fun e w' => e = .returned (.bool (btw n lo hi)) ∧ w = w' := by
  go_enter Try.func31, Try.ntmps31
  go_wp2
  all_goals go_ret
  all_goals exact ⟨ret_bool (by simp [btw]; omega), rfl⟩
theorem in_any (n lo hi : Int) (w : World) :
    Calls Try.prog 42 #[i64 n, i64 lo, i64 hi] w fun e w' => e = .returned (.bool (btw n lo hi)) ∧ w = w' := by
  go_enter Try.func42, Try.ntmps42
  go_wp2
  all_goals go_ret
  all_goals exact ⟨ret_bool (by simp [btw]; omega), rfl⟩

def vC (f l le : Int) : Bool := btw f 1 1000 && btw l 1 1000 && btw le 1 f
def vW (t s st p : Int) : Bool := btw t 1 10000 && btw s 1 10000 && btw st 1 10000 && btw p 1 10000
abbrev car (f l le : Int) : Value := .agg #[i64 f, i64 l, i64 le]
abbrev way (t s st p : Int) : Value := .agg #[i64 t, i64 s, i64 st, i64 p]

theorem validCarbon_any (f l le : Int) (w : World) :
    Calls Try.prog 29 #[car f l le] w fun e w' => e = .returned (.bool (vC f l le)) ∧ UpOf w w' := by
  go_enter Try.func29, Try.ntmps29
  go_wp2_with (first | (go_at_call 31; refine (between_any _ _ _ _).mono ?_; rintro e w' ⟨rfl, rfl⟩) | (refine wp_region_up (by kernel_rfl) (by kernel_rfl) ?_; (repeat (go_big_quiet_step (first | (go_at_call 31; first | exact upq_tr_same (between_any _ _ _ _) | exact upq_same (between_any _ _ _ _))))); refine wpQuiet_nil ?_; intro _ hw'; obtain ⟨nq, hw''⟩ := hw'; subst hw''))
  all_goals go_ret
  all_goals (refine ⟨ret_bool ?_, UpOf.of (by repeat (first | exact Below.refl _ _ | refine bl_up ?_ _ | refine Below.drew ?_ | refine bl_alloc ?_ _ | refine Below.setCell ?_ (by simp) _))⟩)
  all_goals (simp only [vC, btw] at *; rw [Bool.eq_iff_iff]; simp at *; try omega)
theorem l13Ok_any (f l le : Int) (w : World) :
    Calls Try.prog 33 #[car f l le] w fun e w' => e = .returned (.bool (vC f l le)) ∧ UpOf w w' := by
  go_enter Try.func33, Try.ntmps33
  go_wp2_with (first | (go_at_call 42; refine (in_any _ _ _ _).mono ?_; rintro e w' ⟨rfl, rfl⟩) | (refine wp_region_up (by kernel_rfl) (by kernel_rfl) ?_; (repeat (go_big_quiet_step (first | (go_at_call 42; first | exact upq_tr_same (in_any _ _ _ _) | exact upq_same (in_any _ _ _ _))))); refine wpQuiet_nil ?_; intro _ hw'; obtain ⟨nq, hw''⟩ := hw'; subst hw''))
  all_goals go_ret
  all_goals (refine ⟨ret_bool ?_, UpOf.of (by repeat (first | exact Below.refl _ _ | refine bl_up ?_ _ | refine Below.drew ?_ | refine bl_alloc ?_ _ | refine Below.setCell ?_ (by simp) _))⟩)
  all_goals (simp only [vC, btw] at *; rw [Bool.eq_iff_iff]; simp at *; try omega)
theorem validWays_any (t s st p : Int) (w : World) :
    Calls Try.prog 30 #[way t s st p] w fun e w' => e = .returned (.bool (vW t s st p)) ∧ UpOf w w' := by
  go_enter Try.func30, Try.ntmps30
  go_wp2_with (first | (go_at_call 31; refine (between_any _ _ _ _).mono ?_; rintro e w' ⟨rfl, rfl⟩) | (refine wp_region_up (by kernel_rfl) (by kernel_rfl) ?_; (repeat (go_big_quiet_step (first | (go_at_call 31; first | exact upq_tr_same (between_any _ _ _ _) | exact upq_same (between_any _ _ _ _))))); refine wpQuiet_nil ?_; intro _ hw'; obtain ⟨nq, hw''⟩ := hw'; subst hw''))
  all_goals go_ret
  all_goals (refine ⟨ret_bool ?_, UpOf.of (by repeat (first | exact Below.refl _ _ | refine bl_up ?_ _ | refine Below.drew ?_ | refine bl_alloc ?_ _ | refine Below.setCell ?_ (by simp) _))⟩)
  all_goals (simp only [vW, btw] at *; rw [Bool.eq_iff_iff]; simp at *; try omega)
theorem l13Price_any (n : Int) (w : World) :
    Calls Try.prog 43 #[i64 n] w fun e w' => e = .returned (.bool (btw n 1 10000)) ∧ w = w' := by
  go_enter Try.func43, Try.ntmps43
  go_wp2_with (first | (go_at_call 42; refine (in_any _ _ _ _).mono ?_; rintro e w' ⟨rfl, rfl⟩) | (refine wp_region_up (by kernel_rfl) (by kernel_rfl) ?_; (repeat (go_big_quiet_step (first | (go_at_call 42; first | exact upq_tr_same (in_any _ _ _ _) | exact upq_same (in_any _ _ _ _))))); refine wpQuiet_nil ?_; intro _ hw'; obtain ⟨nq, hw''⟩ := hw'; subst hw''))
  go_ret
  exact ⟨rfl, rfl⟩
theorem l13Ways_any (t s st p : Int) (w : World) :
    Calls Try.prog 34 #[way t s st p] w fun e w' => e = .returned (.bool (vW t s st p)) ∧ UpOf w w' := by
  go_enter Try.func34, Try.ntmps34
  go_wp2_with (first | (go_at_call 43; refine (l13Price_any _ _).mono ?_; rintro e w' ⟨rfl, rfl⟩) | (refine wp_region_up (by kernel_rfl) (by kernel_rfl) ?_; (repeat (go_big_quiet_step (first | (go_at_call 43; first | exact upq_tr_same (l13Price_any _ _) | exact upq_same (l13Price_any _ _))))); refine wpQuiet_nil ?_; intro _ hw'; obtain ⟨nq, hw''⟩ := hw'; subst hw''))
  all_goals go_ret
  all_goals (refine ⟨ret_bool ?_, UpOf.of (by repeat (first | exact Below.refl _ _ | refine bl_up ?_ _ | refine Below.drew ?_ | refine bl_alloc ?_ _ | refine Below.setCell ?_ (by simp) _))⟩)
  all_goals (simp only [vW, btw] at *; rw [Bool.eq_iff_iff]; simp at *; try omega)

def good (f l le : Int) : Int := min ((f - le) / l + 1) 12
theorem vC_b {f l le : Int} (h : vC f l le = true) : 1 ≤ f ∧ f ≤ 1000 ∧ 1 ≤ l ∧ l ≤ 1000 ∧ 1 ≤ le ∧ le ≤ f := by simp [vC, btw] at h; omega
theorem vW_b {t s st p : Int} (h : vW t s st p = true) : 1 ≤ t ∧ t ≤ 10000 ∧ 1 ≤ s ∧ s ≤ 10000 ∧ 1 ≤ st ∧ st ≤ 10000 ∧ 1 ≤ p ∧ p ≤ 10000 := by simp [vW, btw] at h; omega
theorem good_bd {f l le : Int} (h : vC f l le = true) : 1 ≤ good f l le ∧ good f l le ≤ 12 ∧ 0 ≤ (f - le) / l ∧ (f - le) / l ≤ 1000 := by
  have hb := vC_b h
  have h0 : 0 ≤ (f - le) / l := Int.ediv_nonneg (by omega) (by omega)
  have h1 : (f - le) / l ≤ f - le := Int.ediv_le_self _ (by omega)
  unfold good
  omega

theorem good_any (f l le : Int) (w : World) (h : vC f l le = true) :
    Calls Try.prog 46 #[car f l le] w fun e w' => e = .returned (i64 (good f l le)) ∧ UpOf w w' := by
  obtain ⟨h0, h1, h2, h3, h4, h5⟩ := vC_b h
  obtain ⟨g0, g1, g2, g3⟩ := good_bd h
  clear h
  go_enter Try.func46, Try.ntmps46
  go_wp2_with (first | (refine wp_region_up (by kernel_rfl) (by kernel_rfl) ?_; (repeat (go_big_quiet_step (fail))); refine wpQuiet_nil ?_; intro _ hw'; obtain ⟨nq, hw''⟩ := hw'; subst hw''))
  all_goals go_ret
  all_goals exact ⟨ret_int (by unfold good; omega), UpOf.of (by repeat (first | exact Below.refl _ _ | refine bl_up ?_ _ | refine Below.drew ?_ | refine bl_alloc ?_ _ | refine Below.setCell ?_ (by simp) _))⟩
theorem min_any (a b : Int) (w : World) :
    Calls Try.prog 47 #[i64 a, i64 b] w fun e w' => e = .returned (i64 (min a b)) ∧ w = w' := by
  go_enter Try.func47, Try.ntmps47
  go_wp2
  all_goals go_ret
  all_goals exact ⟨ret_int (by omega), rfl⟩
theorem l13Good_any (f l le : Int) (w : World) (h : vC f l le = true) :
    Calls Try.prog 45 #[car f l le] w fun e w' => e = .returned (i64 (good f l le)) ∧ UpOf w w' := by
  obtain ⟨h0, h1, h2, h3, h4, h5⟩ := vC_b h
  obtain ⟨g0, g1, g2, g3⟩ := good_bd h
  clear h
  go_enter Try.func45, Try.ntmps45
  go_wp2_with (first | (go_at_call 47; refine (min_any _ _ _).mono ?_; rintro e w' ⟨rfl, rfl⟩) | (refine wp_region_up (by kernel_rfl) (by kernel_rfl) ?_; (repeat (go_big_quiet_step (first | (go_at_call 47; first | exact upq_tr_same (min_any _ _ _) | exact upq_same (min_any _ _ _))))); refine wpQuiet_nil ?_; intro _ hw'; obtain ⟨nq, hw''⟩ := hw'; subst hw''))
  all_goals go_ret
  all_goals exact ⟨ret_int (by unfold good; omega), UpOf.of (by repeat (first | exact Below.refl _ _ | refine bl_up ?_ _ | refine Below.drew ?_ | refine bl_alloc ?_ _ | refine Below.setCell ?_ (by simp) _))⟩

def typings (g n : Int) : Int := (n + g - 1) / g
theorem typings_bd {g n : Int} (h : 1 ≤ g) (h2 : 0 ≤ n) : 0 ≤ typings g n ∧ typings g n ≤ n := by
  unfold typings
  have h0 : 0 ≤ (n + g - 1) / g := Int.ediv_nonneg (by omega) (by omega)
  refine ⟨h0, ?_⟩
  have : (n + g - 1) / g < n + 1 := by
    apply Int.ediv_lt_of_lt_mul (by omega)
    have : (n + 1) * g = n * g + g := by rw [Int.add_mul]; omega
    have : n * 1 ≤ n * g := Int.mul_le_mul_of_nonneg_left h h2
    omega
  omega
theorem typings_any (f l le n : Int) (w : World) (h : vC f l le = true) (hn : 0 ≤ n) (hn' : n ≤ 500) :
    Calls Try.prog 41 #[car f l le, i64 n] w fun e w' => e = .returned (i64 (typings (good f l le) n)) ∧ UpOf w w' := by
  obtain ⟨g0, g1, g2, g3⟩ := good_bd h
  have H := Lib.hid h
  clear h
  go_enter Try.func41, Try.ntmps41
  go_wp2_with (first | (go_at_call 46; refine (good_any _ _ _ _ H.out).mono ?_; rintro e w' ⟨rfl, g, rfl⟩) | (refine wp_region_up (by kernel_rfl) (by kernel_rfl) ?_; (repeat (go_big_quiet_step (first | (go_at_call 46; first | exact upq_tr (good_any _ _ _ _ H.out) | exact upq (good_any _ _ _ _ H.out))))); refine wpQuiet_nil ?_; intro _ hw'; obtain ⟨nq, hw''⟩ := hw'; subst hw''))
  go_ret
  exact ⟨ret_int rfl, UpOf.of (by repeat (first | exact Below.refl _ _ | refine bl_up ?_ _ | refine Below.drew ?_ | refine bl_alloc ?_ _ | refine Below.setCell ?_ (by simp) _))⟩
theorem l13Typings_any (f l le n : Int) (w : World) (h : vC f l le = true) (hn : 0 ≤ n) (hn' : n ≤ 500) :
    Calls Try.prog 40 #[car f l le, i64 n] w fun e w' => e = .returned (i64 (typings (good f l le) n)) ∧ UpOf w w' := by
  obtain ⟨g0, g1, g2, g3⟩ := good_bd h
  have H := Lib.hid h
  clear h
  go_enter Try.func40, Try.ntmps40
  go_wp2_with (first | (go_at_call 45; refine (l13Good_any _ _ _ _ H.out).mono ?_; rintro e w' ⟨rfl, g, rfl⟩) | (refine wp_region_up (by kernel_rfl) (by kernel_rfl) ?_; (repeat (go_big_quiet_step (first | (go_at_call 45; first | exact upq_tr (l13Good_any _ _ _ _ H.out) | exact upq (l13Good_any _ _ _ _ H.out))))); refine wpQuiet_nil ?_; intro _ hw'; obtain ⟨nq, hw''⟩ := hw'; subst hw''))
  go_ret
  exact ⟨ret_int rfl, UpOf.of (by repeat (first | exact Below.refl _ _ | refine bl_up ?_ _ | refine Below.drew ?_ | refine bl_alloc ?_ _ | refine Below.setCell ?_ (by simp) _))⟩

def price (f l le t s n : Int) : Int := typings (good f l le) n * t + (n - typings (good f l le) n) * s
theorem mul_bd {a b A B : Int} (h0 : 0 ≤ a) (h1 : a ≤ A) (h2 : 0 ≤ b) (h3 : b ≤ B) : 0 ≤ a * b ∧ a * b ≤ A * B :=
  ⟨Int.mul_nonneg h0 h2, Int.mul_le_mul h1 h3 h2 (by omega)⟩
theorem price_any (f l le t s st p n : Int) (w : World) (h : vC f l le = true) (h' : vW t s st p = true) (hn : 0 ≤ n) (hn' : n ≤ 500) :
    Calls Try.prog 32 #[car f l le, way t s st p, i64 n] w fun e w' => e = .returned (i64 (price f l le t s n)) ∧ UpOf w w' := by
  obtain ⟨t0, t1⟩ := typings_bd (good_bd h).1 hn
  obtain ⟨v0, v1, v2, v3, v4, v5, v6, v7⟩ := vW_b h'
  obtain ⟨m0, m1⟩ := mul_bd t0 (B := 10000) (A := 500) (by omega) (b := t) (by omega) (by omega)
  obtain ⟨m2, m3⟩ := mul_bd (a := n - typings (good f l le) n) (B := 10000) (A := 500) (by omega) (by omega) (b := s) (by omega) (by omega)
  have H := Lib.hid h
  clear h h'
  go_enter Try.func32, Try.ntmps32
  go_wp2_with (first | (go_at_call 41; refine (typings_any _ _ _ _ _ H.out (by omega) (by omega)).mono ?_; rintro e w' ⟨rfl, g, rfl⟩) | (refine wp_region_up (by kernel_rfl) (by kernel_rfl) ?_; (repeat (go_big_quiet_step (first | (go_at_call 41; first | exact upq_tr (typings_any _ _ _ _ _ H.out (by omega) (by omega)) | exact upq (typings_any _ _ _ _ _ H.out (by omega) (by omega)))))); refine wpQuiet_nil ?_; intro _ hw'; obtain ⟨nq, hw''⟩ := hw'; subst hw''))
  go_ret
  exact ⟨ret_int rfl, UpOf.of (by repeat (first | exact Below.refl _ _ | refine bl_up ?_ _ | refine Below.drew ?_ | refine bl_alloc ?_ _ | refine Below.setCell ?_ (by simp) _))⟩
theorem l13Carbon_any (f l le t s st p n : Int) (w : World) (h : vC f l le = true) (h' : vW t s st p = true) (hn : 0 ≤ n) (hn' : n ≤ 500) :
    Calls Try.prog 28 #[car f l le, way t s st p, i64 n] w fun e w' => e = .returned (i64 (price f l le t s n)) ∧ UpOf w w' := by
  obtain ⟨t0, t1⟩ := typings_bd (good_bd h).1 hn
  obtain ⟨v0, v1, v2, v3, v4, v5, v6, v7⟩ := vW_b h'
  obtain ⟨m0, m1⟩ := mul_bd t0 (B := 10000) (A := 500) (by omega) (b := t) (by omega) (by omega)
  obtain ⟨m2, m3⟩ := mul_bd (a := n - typings (good f l le) n) (B := 10000) (A := 500) (by omega) (by omega) (b := s) (by omega) (by omega)
  have H := Lib.hid h
  clear h h'
  go_enter Try.func28, Try.ntmps28
  go_wp2_with (first | (go_at_call 40; refine (l13Typings_any _ _ _ _ _ H.out (by omega) (by omega)).mono ?_; rintro e w' ⟨rfl, g, rfl⟩) | (refine wp_region_up (by kernel_rfl) (by kernel_rfl) ?_; (repeat (go_big_quiet_step (first | (go_at_call 40; first | exact upq_tr (l13Typings_any _ _ _ _ _ H.out (by omega) (by omega)) | exact upq (l13Typings_any _ _ _ _ _ H.out (by omega) (by omega)))))); refine wpQuiet_nil ?_; intro _ hw'; obtain ⟨nq, hw''⟩ := hw'; subst hw''))
  go_ret
  exact ⟨ret_int rfl, UpOf.of (by repeat (first | exact Below.refl _ _ | refine bl_up ?_ _ | refine Below.drew ?_ | refine bl_alloc ?_ _ | refine Below.setCell ?_ (by simp) _))⟩
end Go.Proofs.Ytdackofjmdmoiaa
