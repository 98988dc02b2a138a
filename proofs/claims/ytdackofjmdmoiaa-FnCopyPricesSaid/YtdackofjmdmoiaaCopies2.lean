/-
  Contracts of CarbonPrice, StencilFrom and CheapestCopies, of the program and of the reference: both return what one plain function of the numbers returns.
-/
import Derived.Test.YtdackofjmdmoiaaCopies
namespace Go.Proofs.Ytdackofjmdmoiaa
open Go.RowKit

def cpCode (f l le t s st p n : Int) : Int := if vC f l le && vW t s st p then (if btw n 0 500 then 0 else 2) else 1
def cpPrice (f l le t s st p n : Int) : Int := if cpCode f l le t s st p n = 0 then price f l le t s n else 0
theorem ret_two {a b c d : Int} (h : a = b) (h' : c = d) : Ending.returned (.tuple #[i64 a, i64 c]) = .returned (.tuple #[i64 b, i64 d]) := by rw [h, h']

theorem carbonPrice_any (f l le t s st p n : Int) (w : World) :
    Calls Try.prog 16 #[car f l le, way t s st p, i64 n] w fun e w' => e = .returned (.tuple #[i64 (cpPrice f l le t s st p n), i64 (cpCode f l le t s st p n)]) ∧ UpOf w w' := by
  by_cases h1 : vC f l le = true
  · by_cases h2 : vW t s st p = true
    · by_cases h3 : btw n 0 500 = true
      · have H1 := Lib.hid h1
        have H2 := Lib.hid h2
        have hb := btw_true h3
        go_enter Try.func16, Try.ntmps16
        go_wp2_with (first | (go_at_call 29; refine (validCarbon_any _ _ _ _).mono ?_; rintro e w' ⟨rfl, g, rfl⟩) | (go_at_call 30; refine (validWays_any _ _ _ _ _).mono ?_; rintro e w' ⟨rfl, g, rfl⟩) | (go_at_call 31; refine (between_any _ _ _ _).mono ?_; rintro e w' ⟨rfl, rfl⟩) | (go_at_call 32; refine (price_any _ _ _ _ _ _ _ _ _ H1.out H2.out (by omega) (by omega)).mono ?_; rintro e w' ⟨rfl, g, rfl⟩) | (refine wp_region_up (by kernel_rfl) (by kernel_rfl) ?_; (repeat (go_big_quiet_step (first | (go_at_call 29; first | exact upq_tr (validCarbon_any _ _ _ _) | exact upq (validCarbon_any _ _ _ _)) | (go_at_call 30; first | exact upq_tr (validWays_any _ _ _ _ _) | exact upq (validWays_any _ _ _ _ _)) | (go_at_call 31; first | exact upq_tr_same (between_any _ _ _ _) | exact upq_same (between_any _ _ _ _)) | (go_at_call 32; first | exact upq_tr (price_any _ _ _ _ _ _ _ _ _ H1.out H2.out (by omega) (by omega)) | exact upq (price_any _ _ _ _ _ _ _ _ _ H1.out H2.out (by omega) (by omega)))))); refine wpQuiet_nil ?_; intro _ hw'; obtain ⟨nq, hw''⟩ := hw'; subst hw''))
        go_ret2
        exact ⟨ret_two (by simp [cpPrice, cpCode, *]) (by simp [cpCode, *]), UpOf.of (by repeat (first | exact Below.refl _ _ | refine bl_up ?_ _ | refine Below.drew ?_ | refine bl_alloc ?_ _ | refine Below.setCell ?_ (by simp) _))⟩
      · have h3' : btw n 0 500 = false := by simpa using h3
        clear h3
        go_enter Try.func16, Try.ntmps16
        go_wp2_with (first | (go_at_call 29; refine (validCarbon_any _ _ _ _).mono ?_; rintro e w' ⟨rfl, g, rfl⟩) | (go_at_call 30; refine (validWays_any _ _ _ _ _).mono ?_; rintro e w' ⟨rfl, g, rfl⟩) | (go_at_call 31; refine (between_any _ _ _ _).mono ?_; rintro e w' ⟨rfl, rfl⟩) | (refine wp_region_up (by kernel_rfl) (by kernel_rfl) ?_; (repeat (go_big_quiet_step (first | (go_at_call 29; first | exact upq_tr (validCarbon_any _ _ _ _) | exact upq (validCarbon_any _ _ _ _)) | (go_at_call 30; first | exact upq_tr (validWays_any _ _ _ _ _) | exact upq (validWays_any _ _ _ _ _)) | (go_at_call 31; first | exact upq_tr_same (between_any _ _ _ _) | exact upq_same (between_any _ _ _ _))))); refine wpQuiet_nil ?_; intro _ hw'; obtain ⟨nq, hw''⟩ := hw'; subst hw''))
        go_ret2
        exact ⟨ret_two (by simp [cpPrice, cpCode, *]) (by simp [cpCode, *]), UpOf.of (by repeat (first | exact Below.refl _ _ | refine bl_up ?_ _ | refine Below.drew ?_ | refine bl_alloc ?_ _ | refine Below.setCell ?_ (by simp) _))⟩
    · have h2' : vW t s st p = false := by simpa using h2
      clear h2
      go_enter Try.func16, Try.ntmps16
      go_wp2_with (first | (go_at_call 29; refine (validCarbon_any _ _ _ _).mono ?_; rintro e w' ⟨rfl, g, rfl⟩) | (go_at_call 30; refine (validWays_any _ _ _ _ _).mono ?_; rintro e w' ⟨rfl, g, rfl⟩) | (refine wp_region_up (by kernel_rfl) (by kernel_rfl) ?_; (repeat (go_big_quiet_step (first | (go_at_call 29; first | exact upq_tr (validCarbon_any _ _ _ _) | exact upq (validCarbon_any _ _ _ _)) | (go_at_call 30; first | exact upq_tr (validWays_any _ _ _ _ _) | exact upq (validWays_any _ _ _ _ _))))); refine wpQuiet_nil ?_; intro _ hw'; obtain ⟨nq, hw''⟩ := hw'; subst hw''))
      go_ret2
      exact ⟨ret_two (by simp [cpPrice, cpCode, *]) (by simp [cpCode, *]), UpOf.of (by repeat (first | exact Below.refl _ _ | refine bl_up ?_ _ | refine Below.drew ?_ | refine bl_alloc ?_ _ | refine Below.setCell ?_ (by simp) _))⟩
  · have h1' : vC f l le = false := by simpa using h1
    clear h1
    go_enter Try.func16, Try.ntmps16
    go_wp2_with (first | (go_at_call 29; refine (validCarbon_any _ _ _ _).mono ?_; rintro e w' ⟨rfl, g, rfl⟩) | (go_at_call 30; refine (validWays_any _ _ _ _ _).mono ?_; rintro e w' ⟨rfl, g, rfl⟩) | (refine wp_region_up (by kernel_rfl) (by kernel_rfl) ?_; (repeat (go_big_quiet_step (first | (go_at_call 29; first | exact upq_tr (validCarbon_any _ _ _ _) | exact upq (validCarbon_any _ _ _ _)) | (go_at_call 30; first | exact upq_tr (validWays_any _ _ _ _ _) | exact upq (validWays_any _ _ _ _ _))))); refine wpQuiet_nil ?_; intro _ hw'; obtain ⟨nq, hw''⟩ := hw'; subst hw''))
    go_ret2
    exact ⟨ret_two (by simp [cpPrice, cpCode, *]) (by simp [cpCode, *]), UpOf.of (by repeat (first | exact Below.refl _ _ | refine bl_up ?_ _ | refine Below.drew ?_ | refine bl_alloc ?_ _ | refine Below.setCell ?_ (by simp) _))⟩
theorem many_any (n : Int) (w : World) :
    Calls Try.prog 39 #[i64 n] w fun e w' => e = .returned (.bool (btw n 0 500)) ∧ w = w' := by
  go_enter Try.func39, Try.ntmps39
  go_wp2_with (first | (go_at_call 42; refine (in_any _ _ _ _).mono ?_; rintro e w' ⟨rfl, rfl⟩) | (refine wp_region_up (by kernel_rfl) (by kernel_rfl) ?_; (repeat (go_big_quiet_step (first | (go_at_call 42; first | exact upq_tr_same (in_any _ _ _ _) | exact upq_same (in_any _ _ _ _))))); refine wpQuiet_nil ?_; intro _ hw'; obtain ⟨nq, hw''⟩ := hw'; subst hw''))
  go_ret
  exact ⟨rfl, rfl⟩
theorem code_any (f l le t s st p n : Int) (w : World) :
    Calls Try.prog 27 #[car f l le, way t s st p, i64 n] w fun e w' => e = .returned (i64 (cpCode f l le t s st p n)) ∧ UpOf w w' := by
  go_enter Try.func27, Try.ntmps27
  go_wp2_with (first | (go_at_call 33; refine (l13Ok_any _ _ _ _).mono ?_; rintro e w' ⟨rfl, g, rfl⟩) | (go_at_call 34; refine (l13Ways_any _ _ _ _ _).mono ?_; rintro e w' ⟨rfl, g, rfl⟩) | (go_at_call 39; refine (many_any _ _).mono ?_; rintro e w' ⟨rfl, rfl⟩) | (refine wp_region_up (by kernel_rfl) (by kernel_rfl) ?_; (repeat (go_big_quiet_step (first | (go_at_call 33; first | exact upq_tr (l13Ok_any _ _ _ _) | exact upq (l13Ok_any _ _ _ _)) | (go_at_call 34; first | exact upq_tr (l13Ways_any _ _ _ _ _) | exact upq (l13Ways_any _ _ _ _ _)) | (go_at_call 39; first | exact upq_tr_same (many_any _ _) | exact upq_same (many_any _ _))))); refine wpQuiet_nil ?_; intro _ hw'; obtain ⟨nq, hw''⟩ := hw'; subst hw''))
  all_goals go_ret
  all_goals exact ⟨ret_int (by go_light; simp_all [cpCode]), UpOf.of (by repeat (first | exact Below.refl _ _ | refine bl_up ?_ _ | refine Below.drew ?_ | refine bl_alloc ?_ _ | refine Below.setCell ?_ (by simp) _))⟩
theorem code_0 {f l le t s st p n : Int} (h : cpCode f l le t s st p n = 0) : vC f l le = true ∧ vW t s st p = true ∧ 0 ≤ n ∧ n ≤ 500 := by
  unfold cpCode at h
  split at h
  · rename_i h1
    split at h
    · rename_i h2
      have := btw_true h2
      simp at h1
      exact ⟨h1.1, h1.2, this.1, this.2⟩
    · simp at h
  · simp at h
theorem carbonPrice_spec (f l le t s st p n : Int) (w : World) :
    Calls Try.prog 13 #[car f l le, way t s st p, i64 n] w fun e w' => e = .returned (.tuple #[i64 (cpPrice f l le t s st p n), i64 (cpCode f l le t s st p n)]) ∧ UpOf w w' := by
  by_cases hc : cpCode f l le t s st p n = 0
  · obtain ⟨h1, h2, h3, h4⟩ := code_0 hc
    have H1 := Lib.hid h1
    have H2 := Lib.hid h2
    clear h1 h2
    go_enter Try.func13, Try.ntmps13
    go_wp2_with (first | (go_at_call 27; refine (code_any _ _ _ _ _ _ _ _ _).mono ?_; rintro e w' ⟨rfl, g, rfl⟩) | (go_at_call 28; refine (l13Carbon_any _ _ _ _ _ _ _ _ _ H1.out H2.out (by omega) (by omega)).mono ?_; rintro e w' ⟨rfl, g, rfl⟩) | (refine wp_region_up (by kernel_rfl) (by kernel_rfl) ?_; (repeat (go_big_quiet_step (first | (go_at_call 27; first | exact upq_tr (code_any _ _ _ _ _ _ _ _ _) | exact upq (code_any _ _ _ _ _ _ _ _ _)) | (go_at_call 28; first | exact upq_tr (l13Carbon_any _ _ _ _ _ _ _ _ _ H1.out H2.out (by omega) (by omega)) | exact upq (l13Carbon_any _ _ _ _ _ _ _ _ _ H1.out H2.out (by omega) (by omega)))))); refine wpQuiet_nil ?_; intro _ hw'; obtain ⟨nq, hw''⟩ := hw'; subst hw''))
    go_ret2
    exact ⟨ret_two (by simp [cpPrice, *]) (by simp [*]), UpOf.of (by repeat (first | exact Below.refl _ _ | refine bl_up ?_ _ | refine Below.drew ?_ | refine bl_alloc ?_ _ | refine Below.setCell ?_ (by simp) _))⟩
  · go_enter Try.func13, Try.ntmps13
    go_wp2_with (first | (go_at_call 27; refine (code_any _ _ _ _ _ _ _ _ _).mono ?_; rintro e w' ⟨rfl, g, rfl⟩) | (refine wp_region_up (by kernel_rfl) (by kernel_rfl) ?_; (repeat (go_big_quiet_step (first | (go_at_call 27; first | exact upq_tr (code_any _ _ _ _ _ _ _ _ _) | exact upq (code_any _ _ _ _ _ _ _ _ _))))); refine wpQuiet_nil ?_; intro _ hw'; obtain ⟨nq, hw''⟩ := hw'; subst hw''))
    go_ret2
    exact ⟨ret_two (by simp [cpPrice, *]) (by simp), UpOf.of (by repeat (first | exact Below.refl _ _ | refine bl_up ?_ _ | refine Below.drew ?_ | refine bl_alloc ?_ _ | refine Below.setCell ?_ (by simp) _))⟩

theorem toCarbon_any (f l le : Int) (w : World) :
    Calls Try.prog 14 #[car f l le] w fun e w' => e = .returned (car f l le) ∧ UpOf w w' := by
  go_enter Try.func14, Try.ntmps14
  go_wp2_with (first | (refine wp_region_up (by kernel_rfl) (by kernel_rfl) ?_; (repeat (go_big_quiet_step (fail))); refine wpQuiet_nil ?_; intro _ hw'; obtain ⟨nq, hw''⟩ := hw'; subst hw''))
  exact bodyPost_ret (v := car f l le) (by simp [results, Try.results14, go_sem]) rfl ⟨rfl, UpOf.of (by repeat (first | exact Below.refl _ _ | refine bl_up ?_ _ | refine Below.drew ?_ | refine bl_alloc ?_ _ | refine Below.setCell ?_ (by simp) _))⟩
theorem toWays_any (t s st p : Int) (w : World) :
    Calls Try.prog 15 #[way t s st p] w fun e w' => e = .returned (way t s st p) ∧ UpOf w w' := by
  go_enter Try.func15, Try.ntmps15
  go_wp2_with (first | (refine wp_region_up (by kernel_rfl) (by kernel_rfl) ?_; (repeat (go_big_quiet_step (fail))); refine wpQuiet_nil ?_; intro _ hw'; obtain ⟨nq, hw''⟩ := hw'; subst hw''))
  exact bodyPost_ret (v := way t s st p) (by simp [results, Try.results15, go_sem]) rfl ⟨rfl, UpOf.of (by repeat (first | exact Below.refl _ _ | refine bl_up ?_ _ | refine Below.drew ?_ | refine bl_alloc ?_ _ | refine Below.setCell ?_ (by simp) _))⟩

theorem law_carbonPrice (f l le t s st p n : Int) (w : World) :
    Calls Try.prog 4 #[car f l le, way t s st p, i64 n] w fun e w' => e = .returned (.bool true) ∧ UpOf w w' := by
  go_enter Try.func4, Try.ntmps4
  go_wp2_with (first | (go_at_call 14; refine (toCarbon_any _ _ _ _).mono ?_; rintro e w' ⟨rfl, g, rfl⟩) | (go_at_call 15; refine (toWays_any _ _ _ _ _).mono ?_; rintro e w' ⟨rfl, g, rfl⟩) | (go_at_call 13; refine (carbonPrice_spec _ _ _ _ _ _ _ _ _).mono ?_; rintro e w' ⟨rfl, g, rfl⟩) | (go_at_call 16; refine (carbonPrice_any _ _ _ _ _ _ _ _ _).mono ?_; rintro e w' ⟨rfl, g, rfl⟩) | (refine wp_region_up (by kernel_rfl) (by kernel_rfl) ?_; (repeat (go_big_quiet_step (first | (go_at_call 14; first | exact upq_tr (toCarbon_any _ _ _ _) | exact upq (toCarbon_any _ _ _ _)) | (go_at_call 15; first | exact upq_tr (toWays_any _ _ _ _ _) | exact upq (toWays_any _ _ _ _ _)) | (go_at_call 13; first | exact upq_tr (carbonPrice_spec _ _ _ _ _ _ _ _ _) | exact upq (carbonPrice_spec _ _ _ _ _ _ _ _ _)) | (go_at_call 16; first | exact upq_tr (carbonPrice_any _ _ _ _ _ _ _ _ _) | exact upq (carbonPrice_any _ _ _ _ _ _ _ _ _))))); refine wpQuiet_nil ?_; intro _ hw'; obtain ⟨nq, hw''⟩ := hw'; subst hw''))
  go_ret
  exact ⟨rfl, UpOf.of (by repeat (first | exact Below.refl _ _ | refine bl_up ?_ _ | refine Below.drew ?_ | refine bl_alloc ?_ _ | refine Below.setCell ?_ (by simp) _))⟩
end Go.Proofs.Ytdackofjmdmoiaa
