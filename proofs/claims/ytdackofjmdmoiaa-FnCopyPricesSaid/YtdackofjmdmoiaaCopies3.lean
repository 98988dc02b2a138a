/-
  Contracts of StencilFrom, of the program and of the reference.
-/
import Derived.Test.YtdackofjmdmoiaaCopies2
namespace Go.Proofs.Ytdackofjmdmoiaa
open Go.RowKit

def firstFrom (P : Int → Bool) : Nat → Int → Option Int
  | 0, _ => none
  | k + 1, n => if P n then some n else firstFrom P k (n + 1)
def cheaper (f l le t s st p n : Int) : Bool := decide (st + n * p < price f l le t s n)
def sfAns (f l le t s st p : Int) : Int × Int :=
  if vC f l le && vW t s st p then (match firstFrom (cheaper f l le t s st p) 500 1 with | some n => (n, 0) | none => (0, 3)) else (0, 1)
theorem sf_yes {f l le t s st p n : Int} (h1 : vC f l le = true) (h2 : vW t s st p = true) (h : firstFrom (cheaper f l le t s st p) 500 1 = some n) : sfAns f l le t s st p = (n, 0) := by
  simp [sfAns, *]
theorem sf_no {f l le t s st p : Int} (h1 : vC f l le = true) (h2 : vW t s st p = true) (h : firstFrom (cheaper f l le t s st p) 500 1 = none) : sfAns f l le t s st p = (0, 3) := by
  simp [sfAns, *]
theorem sf_bad {f l le t s st p : Int} (h : (vC f l le && vW t s st p) = false) : sfAns f l le t s st p = (0, 1) := by
  simp [sfAns, *]
theorem ret_pair {a b c d : Int} (x : Int × Int) (h : x = (a, c)) (hb : b = x.1) (hd : d = x.2) : Ending.returned (.tuple #[i64 a, i64 c]) = .returned (.tuple #[i64 b, i64 d]) := by subst hb hd h; rfl
theorem first_step {P : Int → Bool} {k : Nat} {n : Int} {x : Option Int} (h : x = firstFrom P (k + 1) n) (hp : P n = false) : x = firstFrom P k (n + 1) := by
  rw [h, firstFrom, hp]; rfl
theorem first_hit {P : Int → Bool} {k : Nat} {n : Int} {x : Option Int} (h : x = firstFrom P (k + 1) n) (hp : P n = true) : x = some n := by
  rw [h, firstFrom, hp]; rfl

theorem stencil_any (t s st p n : Int) (w : World) (h : vW t s st p = true) (h1 : 1 ≤ n) (h2 : n ≤ 500) :
    Calls Try.prog 35 #[way t s st p, i64 n] w fun e w' => e = .returned (i64 (st + n * p)) ∧ UpOf w w' := by
  obtain ⟨v0, v1, v2, v3, v4, v5, v6, v7⟩ := vW_b h
  obtain ⟨m0, m1⟩ := mul_bd (a := n) (A := 500) (by omega) (by omega) (b := p) (B := 10000) (by omega) (by omega)
  have hn : (n == 0) = false := by simp; omega
  clear h
  go_enter Try.func35, Try.ntmps35
  go_wp2_with (first | (refine wp_region_up (by kernel_rfl) (by kernel_rfl) ?_; (repeat (go_big_quiet_step (fail))); refine wpQuiet_nil ?_; intro _ hw'; obtain ⟨nq, hw''⟩ := hw'; subst hw''))
  go_ret
  exact ⟨rfl, UpOf.of (by repeat (first | exact Below.refl _ _ | refine bl_up ?_ _ | refine Below.drew ?_ | refine bl_alloc ?_ _ | refine Below.setCell ?_ (by simp) _))⟩
theorem stencil_0 (t s st p : Int) (w : World) :
    Calls Try.prog 35 #[way t s st p, i64 0] w fun e w' => e = .returned (i64 0) ∧ UpOf w w' := by
  go_enter Try.func35, Try.ntmps35
  go_wp2_with (first | (refine wp_region_up (by kernel_rfl) (by kernel_rfl) ?_; (repeat (go_big_quiet_step (fail))); refine wpQuiet_nil ?_; intro _ hw'; obtain ⟨nq, hw''⟩ := hw'; subst hw''))
  go_ret
  exact ⟨rfl, UpOf.of (by repeat (first | exact Below.refl _ _ | refine bl_up ?_ _ | refine Below.drew ?_ | refine bl_alloc ?_ _ | refine Below.setCell ?_ (by simp) _))⟩
set_option maxRecDepth 10000 in
theorem stencilFrom_any (f l le t s st p : Int) (w : World) :
    Calls Try.prog 18 #[car f l le, way t s st p] w fun e w' => e = .returned (.tuple #[i64 (sfAns f l le t s st p).1, i64 (sfAns f l le t s st p).2]) ∧ UpOf w w' := by
  by_cases h1 : vC f l le = true
  · by_cases h2 : vW t s st p = true
    · have H1 := Lib.hid h1
      have H2 := Lib.hid h2
      obtain ⟨v0, v1, v2, v3, v4, v5, v6, v7⟩ := vW_b h2
      go_enter Try.func18, Try.ntmps18
      go_wp2_with (first | (go_at_call 29; refine (validCarbon_any _ _ _ _).mono ?_; rintro e w' ⟨rfl, g, rfl⟩) | (go_at_call 30; refine (validWays_any _ _ _ _ _).mono ?_; rintro e w' ⟨rfl, g, rfl⟩) | (refine wp_region_up (by kernel_rfl) (by kernel_rfl) ?_; (repeat (go_big_quiet_step (first | (go_at_call 29; first | exact upq_tr (validCarbon_any _ _ _ _) | exact upq (validCarbon_any _ _ _ _)) | (go_at_call 30; first | exact upq_tr (validWays_any _ _ _ _ _) | exact upq (validWays_any _ _ _ _ _))))); refine wpQuiet_nil ?_; intro _ hw'; obtain ⟨nq, hw''⟩ := hw'; subst hw''))
      go_loopw [6] (fun i wr => ∃ k : Nat, k ≤ 500 ∧ i = i64 (k + 1) ∧ Hid (firstFrom (cheaper f l le t s st p) 500 1 = firstFrom (cheaper f l le t s st p) (500 - k) (k + 1)) ∧
          ∃ g : Up ((w.alloc (.cells #[i64 f, i64 l, i64 le] 33)).alloc (.cells #[i64 t, i64 s, i64 st, i64 p] 35)), wr = up _ g) (fun i _ => 501 - (intOf i).toNat)
      case atStart => exact ⟨0, by omega, rfl, rfl, _, rfl⟩
      case round =>
        obtain ⟨k, hk, rfl, hfr, g', rfl⟩ := hrel
        by_cases hlt : k < 500
        · obtain ⟨m0, m1⟩ := mul_bd (a := (k : Int) + 1) (A := 500) (by omega) (by omega) (b := p) (B := 10000) (by omega) (by omega)
          go_wp2_with (first | (go_at_call 32; refine (price_any _ _ _ _ _ _ _ _ _ H1.out H2.out (by omega) (by omega)).mono ?_; rintro e w' ⟨rfl, g, rfl⟩) | (refine wp_region_up (by kernel_rfl) (by kernel_rfl) ?_; (repeat (go_big_quiet_step (first | (go_at_call 32; first | exact upq_tr (price_any _ _ _ _ _ _ _ _ _ H1.out H2.out (by omega) (by omega)) | exact upq (price_any _ _ _ _ _ _ _ _ _ H1.out H2.out (by omega) (by omega)))))); refine wpQuiet_nil ?_; intro _ hw'; obtain ⟨nq, hw''⟩ := hw'; subst hw''))
          · go_ret2
            refine ⟨ret_pair _ (sf_yes H1.out H2.out (first_hit (P := cheaper f l le t s st p) (k := 499 - k) (n := (k : Int) + 1) ?_ ?_)) rfl rfl, UpOf.of (by repeat (first | exact Below.refl _ _ | refine bl_up ?_ _ | refine Below.drew ?_ | refine bl_alloc ?_ _ | refine Below.setCell ?_ (by simp) _))⟩
            · rw [hfr.out, show 500 - k = (499 - k) + 1 from by omega]
            · simp only [cheaper]; rw [decide_eq_true_iff]; assumption
          · go_roundw
            case rel =>
              refine ⟨k + 1, by omega, by go_num, ?_, _, rfl⟩
              have hno : cheaper f l le t s st p ((k : Int) + 1) = false := by simp only [cheaper]; rw [decide_eq_false_iff_not]; go_light; omega
              have := first_step (k := 499 - k) (n := (k : Int) + 1) (x := firstFrom (cheaper f l le t s st p) 500 1) (by rw [hfr.out, show 500 - k = (499 - k) + 1 from by omega]) hno
              rw [show 499 - k = 500 - (k + 1) from by omega] at this
              rw [show (((k + 1 : Nat) : Int) + 1) = (k : Int) + 1 + 1 from by omega]
              exact this
            case measure => simp [intOf]; omega
        · obtain rfl : k = 500 := by omega
          go_wp2
          go_ret2
          exact ⟨ret_pair _ (sf_no H1.out H2.out hfr.out) rfl rfl, UpOf.of (by repeat (first | exact Below.refl _ _ | refine bl_up ?_ _ | refine Below.drew ?_ | refine bl_alloc ?_ _ | refine Below.setCell ?_ (by simp) _))⟩
    · have h2' : vW t s st p = false := by simpa using h2
      clear h2
      go_enter Try.func18, Try.ntmps18
      go_wp2_with (first | (go_at_call 29; refine (validCarbon_any _ _ _ _).mono ?_; rintro e w' ⟨rfl, g, rfl⟩) | (go_at_call 30; refine (validWays_any _ _ _ _ _).mono ?_; rintro e w' ⟨rfl, g, rfl⟩) | (refine wp_region_up (by kernel_rfl) (by kernel_rfl) ?_; (repeat (go_big_quiet_step (first | (go_at_call 29; first | exact upq_tr (validCarbon_any _ _ _ _) | exact upq (validCarbon_any _ _ _ _)) | (go_at_call 30; first | exact upq_tr (validWays_any _ _ _ _ _) | exact upq (validWays_any _ _ _ _ _))))); refine wpQuiet_nil ?_; intro _ hw'; obtain ⟨nq, hw''⟩ := hw'; subst hw''))
      go_ret2
      exact ⟨ret_pair _ (sf_bad (by simp [*])) rfl rfl, UpOf.of (by repeat (first | exact Below.refl _ _ | refine bl_up ?_ _ | refine Below.drew ?_ | refine bl_alloc ?_ _ | refine Below.setCell ?_ (by simp) _))⟩
  · have h1' : vC f l le = false := by simpa using h1
    clear h1
    go_enter Try.func18, Try.ntmps18
    go_wp2_with (first | (go_at_call 29; refine (validCarbon_any _ _ _ _).mono ?_; rintro e w' ⟨rfl, g, rfl⟩) | (go_at_call 30; refine (validWays_any _ _ _ _ _).mono ?_; rintro e w' ⟨rfl, g, rfl⟩) | (refine wp_region_up (by kernel_rfl) (by kernel_rfl) ?_; (repeat (go_big_quiet_step (first | (go_at_call 29; first | exact upq_tr (validCarbon_any _ _ _ _) | exact upq (validCarbon_any _ _ _ _)) | (go_at_call 30; first | exact upq_tr (validWays_any _ _ _ _ _) | exact upq (validWays_any _ _ _ _ _))))); refine wpQuiet_nil ?_; intro _ hw'; obtain ⟨nq, hw''⟩ := hw'; subst hw''))
    go_ret2
    exact ⟨ret_pair _ (sf_bad (by simp [*])) rfl rfl, UpOf.of (by repeat (first | exact Below.refl _ _ | refine bl_up ?_ _ | refine Below.drew ?_ | refine bl_alloc ?_ _ | refine Below.setCell ?_ (by simp) _))⟩
set_option maxRecDepth 10000 in
theorem stencilFrom_spec (f l le t s st p : Int) (w : World) :
    Calls Try.prog 17 #[car f l le, way t s st p] w fun e w' => e = .returned (.tuple #[i64 (sfAns f l le t s st p).1, i64 (sfAns f l le t s st p).2]) ∧ UpOf w w' := by
  by_cases h1 : vC f l le = true
  · by_cases h2 : vW t s st p = true
    · have H1 := Lib.hid h1
      have H2 := Lib.hid h2
      obtain ⟨v0, v1, v2, v3, v4, v5, v6, v7⟩ := vW_b h2
      go_enter Try.func17, Try.ntmps17
      go_wp2_with (first | (go_at_call 33; refine (l13Ok_any _ _ _ _).mono ?_; rintro e w' ⟨rfl, g, rfl⟩) | (go_at_call 34; refine (l13Ways_any _ _ _ _ _).mono ?_; rintro e w' ⟨rfl, g, rfl⟩) | (refine wp_region_up (by kernel_rfl) (by kernel_rfl) ?_; (repeat (go_big_quiet_step (first | (go_at_call 33; first | exact upq_tr (l13Ok_any _ _ _ _) | exact upq (l13Ok_any _ _ _ _)) | (go_at_call 34; first | exact upq_tr (l13Ways_any _ _ _ _ _) | exact upq (l13Ways_any _ _ _ _ _))))); refine wpQuiet_nil ?_; intro _ hw'; obtain ⟨nq, hw''⟩ := hw'; subst hw''))
      go_loopw [6] (fun i wr => ∃ k : Nat, k ≤ 500 ∧ i = i64 (k + 1) ∧ Hid (firstFrom (cheaper f l le t s st p) 500 1 = firstFrom (cheaper f l le t s st p) (500 - k) (k + 1)) ∧
          ∃ g : Up ((w.alloc (.cells #[i64 f, i64 l, i64 le] 33)).alloc (.cells #[i64 t, i64 s, i64 st, i64 p] 35)), wr = up _ g) (fun i _ => 501 - (intOf i).toNat)
      case atStart => exact ⟨0, by omega, rfl, rfl, _, rfl⟩
      case round =>
        obtain ⟨k, hk, rfl, hfr, g', rfl⟩ := hrel
        by_cases hlt : k < 500
        · obtain ⟨m0, m1⟩ := mul_bd (a := (k : Int) + 1) (A := 500) (by omega) (by omega) (b := p) (B := 10000) (by omega) (by omega)
          go_wp2_with (first | (go_at_call 35; refine (stencil_any _ _ _ _ _ _ H2.out (by omega) (by omega)).mono ?_; rintro e w' ⟨rfl, g, rfl⟩) | (go_at_call 28; refine (l13Carbon_any _ _ _ _ _ _ _ _ _ H1.out H2.out (by omega) (by omega)).mono ?_; rintro e w' ⟨rfl, g, rfl⟩) | (refine wp_region_up (by kernel_rfl) (by kernel_rfl) ?_; (repeat (go_big_quiet_step (first | (go_at_call 35; first | exact upq_tr (stencil_any _ _ _ _ _ _ H2.out (by omega) (by omega)) | exact upq (stencil_any _ _ _ _ _ _ H2.out (by omega) (by omega))) | (go_at_call 28; first | exact upq_tr (l13Carbon_any _ _ _ _ _ _ _ _ _ H1.out H2.out (by omega) (by omega)) | exact upq (l13Carbon_any _ _ _ _ _ _ _ _ _ H1.out H2.out (by omega) (by omega)))))); refine wpQuiet_nil ?_; intro _ hw'; obtain ⟨nq, hw''⟩ := hw'; subst hw''))
          · go_ret2
            refine ⟨ret_pair _ (sf_yes H1.out H2.out (first_hit (P := cheaper f l le t s st p) (k := 499 - k) (n := (k : Int) + 1) ?_ ?_)) rfl rfl, UpOf.of (by repeat (first | exact Below.refl _ _ | refine bl_up ?_ _ | refine Below.drew ?_ | refine bl_alloc ?_ _ | refine Below.setCell ?_ (by simp) _))⟩
            · rw [hfr.out, show 500 - k = (499 - k) + 1 from by omega]
            · simp only [cheaper]; rw [decide_eq_true_iff]; assumption
          · go_roundw
            case rel =>
              refine ⟨k + 1, by omega, by go_num, ?_, _, rfl⟩
              have hno : cheaper f l le t s st p ((k : Int) + 1) = false := by simp only [cheaper]; rw [decide_eq_false_iff_not]; go_light; omega
              have := first_step (k := 499 - k) (n := (k : Int) + 1) (x := firstFrom (cheaper f l le t s st p) 500 1) (by rw [hfr.out, show 500 - k = (499 - k) + 1 from by omega]) hno
              rw [show 499 - k = 500 - (k + 1) from by omega] at this
              rw [show (((k + 1 : Nat) : Int) + 1) = (k : Int) + 1 + 1 from by omega]
              exact this
            case measure => simp [intOf]; omega
        · obtain rfl : k = 500 := by omega
          go_wp2
          go_ret2
          exact ⟨ret_pair _ (sf_no H1.out H2.out hfr.out) rfl rfl, UpOf.of (by repeat (first | exact Below.refl _ _ | refine bl_up ?_ _ | refine Below.drew ?_ | refine bl_alloc ?_ _ | refine Below.setCell ?_ (by simp) _))⟩
    · have h2' : vW t s st p = false := by simpa using h2
      clear h2
      go_enter Try.func17, Try.ntmps17
      go_wp2_with (first | (go_at_call 33; refine (l13Ok_any _ _ _ _).mono ?_; rintro e w' ⟨rfl, g, rfl⟩) | (go_at_call 34; refine (l13Ways_any _ _ _ _ _).mono ?_; rintro e w' ⟨rfl, g, rfl⟩) | (refine wp_region_up (by kernel_rfl) (by kernel_rfl) ?_; (repeat (go_big_quiet_step (first | (go_at_call 33; first | exact upq_tr (l13Ok_any _ _ _ _) | exact upq (l13Ok_any _ _ _ _)) | (go_at_call 34; first | exact upq_tr (l13Ways_any _ _ _ _ _) | exact upq (l13Ways_any _ _ _ _ _))))); refine wpQuiet_nil ?_; intro _ hw'; obtain ⟨nq, hw''⟩ := hw'; subst hw''))
      go_ret2
      exact ⟨ret_pair _ (sf_bad (by simp [*])) rfl rfl, UpOf.of (by repeat (first | exact Below.refl _ _ | refine bl_up ?_ _ | refine Below.drew ?_ | refine bl_alloc ?_ _ | refine Below.setCell ?_ (by simp) _))⟩
  · have h1' : vC f l le = false := by simpa using h1
    clear h1
    go_enter Try.func17, Try.ntmps17
    go_wp2_with (first | (go_at_call 33; refine (l13Ok_any _ _ _ _).mono ?_; rintro e w' ⟨rfl, g, rfl⟩) | (go_at_call 34; refine (l13Ways_any _ _ _ _ _).mono ?_; rintro e w' ⟨rfl, g, rfl⟩) | (refine wp_region_up (by kernel_rfl) (by kernel_rfl) ?_; (repeat (go_big_quiet_step (first | (go_at_call 33; first | exact upq_tr (l13Ok_any _ _ _ _) | exact upq (l13Ok_any _ _ _ _)) | (go_at_call 34; first | exact upq_tr (l13Ways_any _ _ _ _ _) | exact upq (l13Ways_any _ _ _ _ _))))); refine wpQuiet_nil ?_; intro _ hw'; obtain ⟨nq, hw''⟩ := hw'; subst hw''))
    go_ret2
    exact ⟨ret_pair _ (sf_bad (by simp [*])) rfl rfl, UpOf.of (by repeat (first | exact Below.refl _ _ | refine bl_up ?_ _ | refine Below.drew ?_ | refine bl_alloc ?_ _ | refine Below.setCell ?_ (by simp) _))⟩
theorem law_stencilFrom (f l le t s st p : Int) (w : World) :
    Calls Try.prog 5 #[car f l le, way t s st p] w fun e w' => e = .returned (.bool true) ∧ UpOf w w' := by
  go_enter Try.func5, Try.ntmps5
  go_wp2_with (first | (go_at_call 14; refine (toCarbon_any _ _ _ _).mono ?_; rintro e w' ⟨rfl, g, rfl⟩) | (go_at_call 15; refine (toWays_any _ _ _ _ _).mono ?_; rintro e w' ⟨rfl, g, rfl⟩) | (go_at_call 17; refine (stencilFrom_spec _ _ _ _ _ _ _ _).mono ?_; rintro e w' ⟨rfl, g, rfl⟩) | (go_at_call 18; refine (stencilFrom_any _ _ _ _ _ _ _ _).mono ?_; rintro e w' ⟨rfl, g, rfl⟩) | (refine wp_region_up (by kernel_rfl) (by kernel_rfl) ?_; (repeat (go_big_quiet_step (first | (go_at_call 14; first | exact upq_tr (toCarbon_any _ _ _ _) | exact upq (toCarbon_any _ _ _ _)) | (go_at_call 15; first | exact upq_tr (toWays_any _ _ _ _ _) | exact upq (toWays_any _ _ _ _ _)) | (go_at_call 17; first | exact upq_tr (stencilFrom_spec _ _ _ _ _ _ _ _) | exact upq (stencilFrom_spec _ _ _ _ _ _ _ _)) | (go_at_call 18; first | exact upq_tr (stencilFrom_any _ _ _ _ _ _ _ _) | exact upq (stencilFrom_any _ _ _ _ _ _ _ _))))); refine wpQuiet_nil ?_; intro _ hw'; obtain ⟨nq, hw''⟩ := hw'; subst hw''))
  go_ret
  exact ⟨rfl, UpOf.of (by repeat (first | exact Below.refl _ _ | refine bl_up ?_ _ | refine Below.drew ?_ | refine bl_alloc ?_ _ | refine Below.setCell ?_ (by simp) _))⟩
end Go.Proofs.Ytdackofjmdmoiaa
