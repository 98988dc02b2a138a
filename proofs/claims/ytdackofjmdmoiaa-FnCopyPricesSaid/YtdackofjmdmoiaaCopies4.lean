/-
  Contracts of CheapestCopies, of the program and of the reference.
-/
import Derived.Test.YtdackofjmdmoiaaCopies3
namespace Go.Proofs.Ytdackofjmdmoiaa
open Go.RowKit

/-- the price of all copies, n of them typed -/
def tot (f l le t s st p m n : Int) : Int := price f l le t s n + (if n < m then st + (m - n) * p else 0)
def stI (T : Int → Int) : Nat → Int × Int
  | 0 => (0, -1)
  | k + 1 => if (stI T k).2 < 0 ∨ T k < (stI T k).2 then (k, T k) else stI T k
def stS (T : Int → Int) : Nat → Int × Int
  | 0 => (-1, 0)
  | k + 1 => if (stS T k).1 < 0 ∨ T k < (stS T k).2 then (k, T k) else stS T k
theorem stI_take {T : Int → Int} {k : Nat} {a b : Int} (h : stI T k = (a, b)) (hc : b < 0 ∨ T k < b) : stI T (k + 1) = ((k : Int), T k) := by
  rw [stI, if_pos (by rw [h]; exact hc)]
theorem stI_keep {T : Int → Int} {k : Nat} {a b : Int} (h : stI T k = (a, b)) (hc : ¬ (b < 0 ∨ T k < b)) : stI T (k + 1) = (a, b) := by
  rw [stI, if_neg (by rw [h]; exact hc), h]
theorem stS_take {T : Int → Int} {k : Nat} {a b : Int} (h : stS T k = (a, b)) (hc : a < 0 ∨ T k < b) : stS T (k + 1) = ((k : Int), T k) := by
  rw [stS, if_pos (by rw [h]; exact hc)]
theorem stS_keep {T : Int → Int} {k : Nat} {a b : Int} (h : stS T k = (a, b)) (hc : ¬ (a < 0 ∨ T k < b)) : stS T (k + 1) = (a, b) := by
  rw [stS, if_neg (by rw [h]; exact hc), h]
theorem st_upto {T : Int → Int} (k : Nat) (hT : ∀ n : Nat, n ≤ k → 0 ≤ T n) : stI T (k + 1) = stS T (k + 1) ∧ 0 ≤ (stI T (k + 1)).2 ∧ 0 ≤ (stI T (k + 1)).1 := by
  induction k with
  | zero => simp [stI, stS]; exact hT 0 (Nat.le_refl _)
  | succ k ih =>
    obtain ⟨h1, h2, h3⟩ := ih (fun n hn => hT n (by omega))
    have hk := hT (k + 1) (Nat.le_refl _)
    rw [stI, stS, ← h1]
    by_cases h : T (k + 1 : Nat) < (stI T (k + 1)).2
    · rw [if_pos (.inr h), if_pos (.inr h)]
      refine ⟨rfl, hk, ?_⟩
      show (0 : Int) ≤ ((k + 1 : Nat) : Int)
      omega
    · rw [if_neg (by omega), if_neg (by omega)]
      exact ⟨rfl, h2, h3⟩
theorem stI_bd {T : Int → Int} (k : Nat) : 0 ≤ (stI T k).1 ∧ (stI T k).1 ≤ k := by
  induction k with
  | zero => simp [stI]
  | succ k ih =>
    rw [stI]
    split
    · simp; omega
    · omega
theorem stS_bd {T : Int → Int} (k : Nat) : -1 ≤ (stS T k).1 ∧ (stS T k).1 ≤ k := by
  induction k with
  | zero => simp [stS]
  | succ k ih =>
    rw [stS]
    split
    · simp; omega
    · omega
def ccAns (f l le t s st p m : Int) : Int × Int × Int × Int :=
  if cpCode f l le t s st p m = 0 then ((stI (tot f l le t s st p m) (m.toNat + 1)).1, m - (stI (tot f l le t s st p m) (m.toNat + 1)).1, (stI (tot f l le t s st p m) (m.toNat + 1)).2, 0) else (0, 0, 0, cpCode f l le t s st p m)
theorem cc_ok {f l le t s st p m a b : Int} (h : cpCode f l le t s st p m = 0) (hs : stI (tot f l le t s st p m) (m.toNat + 1) = (a, b)) : ccAns f l le t s st p m = (a, m - a, b, 0) := by
  simp [ccAns, h, hs]
theorem cc_bad {f l le t s st p m c : Int} (h : cpCode f l le t s st p m = c) (hc : c ≠ 0) : ccAns f l le t s st p m = (0, 0, 0, c) := by
  simp [ccAns, h, hc]
abbrev four (x : Int × Int × Int × Int) : Value := .tuple #[i64 x.1, i64 x.2.1, i64 x.2.2.1, i64 x.2.2.2]
theorem cp_code0 {f l le t s st p n : Int} (h1 : vC f l le = true) (h2 : vW t s st p = true) (h3 : btw n 0 500 = true) : cpCode f l le t s st p n = 0 := by simp [cpCode, *]
theorem cp_code1 {f l le t s st p n : Int} (h1 : (vC f l le && vW t s st p) = false) : cpCode f l le t s st p n = 1 := by simp [cpCode, *]
theorem cp_code2 {f l le t s st p n : Int} (h1 : vC f l le = true) (h2 : vW t s st p = true) (h3 : btw n 0 500 = false) : cpCode f l le t s st p n = 2 := by simp [cpCode, *]
theorem price_bd {f l le t s st p n : Int} (h : vC f l le = true) (h' : vW t s st p = true) (hn : 0 ≤ n) (hn' : n ≤ 500) : 0 ≤ price f l le t s n ∧ price f l le t s n ≤ 10000000 := by
  obtain ⟨t0, t1⟩ := typings_bd (good_bd h).1 hn
  obtain ⟨v0, v1, v2, v3, v4, v5, v6, v7⟩ := vW_b h'
  obtain ⟨m0, m1⟩ := mul_bd t0 (B := 10000) (A := 500) (by omega) (b := t) (by omega) (by omega)
  obtain ⟨m2, m3⟩ := mul_bd (a := n - typings (good f l le) n) (B := 10000) (A := 500) (by omega) (by omega) (b := s) (by omega) (by omega)
  unfold price
  omega
theorem tot_bd {f l le t s st p m : Int} (h : vC f l le = true) (h' : vW t s st p = true) (hm : m ≤ 500) (n : Nat) (hn : n ≤ m) : 0 ≤ tot f l le t s st p m n := by
  have := price_bd h h' (n := n) (by omega) (by omega)
  obtain ⟨v0, v1, v2, v3, v4, v5, v6, v7⟩ := vW_b h'
  unfold tot
  split
  · have := Int.mul_nonneg (a := m - n) (b := p) (by omega) (by omega)
    omega
  · omega

theorem cc_stI {f l le t s st p a b : Int} {m : Nat} (h : cpCode f l le t s st p m = 0) (_ : vC f l le = true) (_ : vW t s st p = true) (_ : (m : Int) ≤ 500) (hs : stI (tot f l le t s st p m) (m + 1) = (a, b)) : ccAns f l le t s st p m = (a, m - a, b, 0) :=
  cc_ok h (by simpa using hs)
theorem cc_stS {f l le t s st p a b : Int} {m : Nat} (h : cpCode f l le t s st p m = 0) (h1 : vC f l le = true) (h2 : vW t s st p = true) (hm : (m : Int) ≤ 500) (hs : stS (tot f l le t s st p m) (m + 1) = (a, b)) : ccAns f l le t s st p m = (a, m - a, b, 0) := by
  refine cc_ok h ?_
  have := st_upto (T := tot f l le t s st p m) m (fun n hn => tot_bd h1 h2 hm n (by omega))
  rw [Int.toNat_natCast, this.1, hs]

set_option maxRecDepth 10000 in
theorem cheapest_any (f l le t s st p m : Int) (w : World) :
    Calls Try.prog 20 #[car f l le, way t s st p, i64 m] w fun e w' => e = .returned (four (ccAns f l le t s st p m)) ∧ UpOf w w' := by
  by_cases h1 : vC f l le = true
  · by_cases h2 : vW t s st p = true
    · by_cases h3 : btw m 0 500 = true
      · obtain ⟨hm0, hm1⟩ := btw_true h3
        have HC := Lib.hid (cp_code0 h1 h2 h3)
        have H1 := Lib.hid h1
        have H2 := Lib.hid h2
        obtain ⟨v0, v1, v2, v3, v4, v5, v6, v7⟩ := vW_b h2
        obtain ⟨m, rfl⟩ := Int.eq_ofNat_of_zero_le hm0
        skip
        go_enter Try.func20, Try.ntmps20
        go_wp2_with (first | (go_at_call 29; refine (validCarbon_any _ _ _ _).mono ?_; rintro e w' ⟨rfl, g, rfl⟩) | (go_at_call 30; refine (validWays_any _ _ _ _ _).mono ?_; rintro e w' ⟨rfl, g, rfl⟩) | (go_at_call 31; refine (between_any _ _ _ _).mono ?_; rintro e w' ⟨rfl, rfl⟩) | (refine wp_region_up (by kernel_rfl) (by kernel_rfl) ?_; (repeat (go_big_quiet_step (first | (go_at_call 29; first | exact upq_tr (validCarbon_any _ _ _ _) | exact upq (validCarbon_any _ _ _ _)) | (go_at_call 30; first | exact upq_tr (validWays_any _ _ _ _ _) | exact upq (validWays_any _ _ _ _ _)) | (go_at_call 31; first | exact upq_tr_same (between_any _ _ _ _) | exact upq_same (between_any _ _ _ _))))); refine wpQuiet_nil ?_; intro _ hw'; obtain ⟨nq, hw''⟩ := hw'; subst hw''))
        go_loopw [10, 11, 12] (fun ty lst i wr => ∃ k : Nat, k ≤ m + 1 ∧ i = i64 k ∧ (∃ a b : Int, ty = i64 a ∧ lst = i64 b ∧ Hid (stI (tot f l le t s st p m) k = (a, b))) ∧
            ∃ g : Up ((w.alloc (.cells #[i64 f, i64 l, i64 le] 33)).alloc (.cells #[i64 t, i64 s, i64 st, i64 p] 35)), wr = up _ g) (fun _ _ i _ => m + 1 - (intOf i).toNat)
        case atStart => exact ⟨0, by omega, rfl, ⟨0, -1, rfl, rfl, rfl⟩, _, rfl⟩
        case round =>
          obtain ⟨k, hk, rfl, ⟨a, b, rfl, rfl, hst⟩, g', rfl⟩ := hrel
          by_cases hlt : k ≤ m
          · obtain ⟨b0, b1⟩ := price_bd H1.out H2.out (n := k) (by omega) (by omega)
            obtain ⟨m0, m1⟩ := mul_bd (a := (m : Int) - k) (A := 500) (by omega) (by omega) (b := p) (B := 10000) (by omega) (by omega)
            by_cases hlt2 : k < m
            · have ht : Hid (tot f l le t s st p m k = price f l le t s k + (st + ((m : Int) - k) * p)) := by unfold tot; rw [if_pos (by omega)]; rfl
              go_wp2_with (first | (go_at_call 32; refine (price_any _ _ _ _ _ _ _ _ _ H1.out H2.out (by omega) (by omega)).mono ?_; rintro e w' ⟨rfl, g, rfl⟩) | (refine wp_region_up (by kernel_rfl) (by kernel_rfl) ?_; (repeat (go_big_quiet_step (first | (go_at_call 32; first | exact upq_tr (price_any _ _ _ _ _ _ _ _ _ H1.out H2.out (by omega) (by omega)) | exact upq (price_any _ _ _ _ _ _ _ _ _ H1.out H2.out (by omega) (by omega)))))); refine wpQuiet_nil ?_; intro _ hw'; obtain ⟨nq, hw''⟩ := hw'; subst hw''))
              all_goals
                go_roundw
                case rel =>
                  go_light
                  first
                    | (have hn := stI_take hst.out (by rw [ht.out]; omega)
                       rw [ht.out] at hn
                       exact ⟨k + 1, by omega, by go_num, ⟨_, _, rfl, rfl, hn⟩, _, rfl⟩)
                    | exact ⟨k + 1, by omega, by go_num, ⟨_, _, rfl, rfl, stI_keep hst.out (by rw [ht.out]; omega)⟩, _, rfl⟩
                case measure => (simp [intOf]; try omega)
            · obtain rfl : k = m := by omega
              have ht : Hid (tot f l le t s st p k k = price f l le t s k) := by unfold tot Hid; rw [if_neg (by omega)]; omega
              go_wp2_with (first | (go_at_call 32; refine (price_any _ _ _ _ _ _ _ _ _ H1.out H2.out (by omega) (by omega)).mono ?_; rintro e w' ⟨rfl, g, rfl⟩) | (refine wp_region_up (by kernel_rfl) (by kernel_rfl) ?_; (repeat (go_big_quiet_step (first | (go_at_call 32; first | exact upq_tr (price_any _ _ _ _ _ _ _ _ _ H1.out H2.out (by omega) (by omega)) | exact upq (price_any _ _ _ _ _ _ _ _ _ H1.out H2.out (by omega) (by omega)))))); refine wpQuiet_nil ?_; intro _ hw'; obtain ⟨nq, hw''⟩ := hw'; subst hw''))
              all_goals
                go_roundw
                case rel =>
                  go_light
                  first
                    | (have hn := stI_take hst.out (by rw [ht.out]; omega)
                       rw [ht.out] at hn
                       exact ⟨k + 1, by omega, by go_num, ⟨_, _, rfl, rfl, hn⟩, _, rfl⟩)
                    | exact ⟨k + 1, by omega, by go_num, ⟨_, _, rfl, rfl, stI_keep hst.out (by rw [ht.out]; omega)⟩, _, rfl⟩
                case measure => (simp [intOf]; try omega)
          · obtain rfl : k = m + 1 := by omega
            have hbd := stI_bd (T := tot f l le t s st p m) (m + 1)
            rw [hst.out] at hbd
            simp only at hbd
            go_wp2_with (first | (refine wp_region_up (by kernel_rfl) (by kernel_rfl) ?_; (repeat (go_big_quiet_step (fail))); refine wpQuiet_nil ?_; intro _ hw'; obtain ⟨nq, hw''⟩ := hw'; subst hw''))
            have ha := cc_stI HC.out H1.out H2.out hm1 hst.out
            exact bodyPost_ret (v := four _) (by rw [ha]; simp [results, Try.results20, go_sem]) rfl ⟨rfl, UpOf.of (by repeat (first | exact Below.refl _ _ | refine bl_up ?_ _ | refine Below.drew ?_ | refine bl_alloc ?_ _ | refine Below.setCell ?_ (by simp) _))⟩
      · have h3' : btw m 0 500 = false := by simpa using h3
        clear h3
        skip
        go_enter Try.func20, Try.ntmps20
        go_wp2_with (first | (go_at_call 29; refine (validCarbon_any _ _ _ _).mono ?_; rintro e w' ⟨rfl, g, rfl⟩) | (go_at_call 30; refine (validWays_any _ _ _ _ _).mono ?_; rintro e w' ⟨rfl, g, rfl⟩) | (go_at_call 31; refine (between_any _ _ _ _).mono ?_; rintro e w' ⟨rfl, rfl⟩) | (refine wp_region_up (by kernel_rfl) (by kernel_rfl) ?_; (repeat (go_big_quiet_step (first | (go_at_call 29; first | exact upq_tr (validCarbon_any _ _ _ _) | exact upq (validCarbon_any _ _ _ _)) | (go_at_call 30; first | exact upq_tr (validWays_any _ _ _ _ _) | exact upq (validWays_any _ _ _ _ _)) | (go_at_call 31; first | exact upq_tr_same (between_any _ _ _ _) | exact upq_same (between_any _ _ _ _))))); refine wpQuiet_nil ?_; intro _ hw'; obtain ⟨nq, hw''⟩ := hw'; subst hw''))
        have ha := cc_bad (cp_code2 h1 h2 h3') (by decide)
        exact bodyPost_ret (v := four _) (by rw [ha]; simp [results, Try.results20, go_sem]) rfl ⟨rfl, UpOf.of (by repeat (first | exact Below.refl _ _ | refine bl_up ?_ _ | refine Below.drew ?_ | refine bl_alloc ?_ _ | refine Below.setCell ?_ (by simp) _))⟩
    · have h2' : vW t s st p = false := by simpa using h2
      clear h2
      skip
      go_enter Try.func20, Try.ntmps20
      go_wp2_with (first | (go_at_call 29; refine (validCarbon_any _ _ _ _).mono ?_; rintro e w' ⟨rfl, g, rfl⟩) | (go_at_call 30; refine (validWays_any _ _ _ _ _).mono ?_; rintro e w' ⟨rfl, g, rfl⟩) | (go_at_call 31; refine (between_any _ _ _ _).mono ?_; rintro e w' ⟨rfl, rfl⟩) | (refine wp_region_up (by kernel_rfl) (by kernel_rfl) ?_; (repeat (go_big_quiet_step (first | (go_at_call 29; first | exact upq_tr (validCarbon_any _ _ _ _) | exact upq (validCarbon_any _ _ _ _)) | (go_at_call 30; first | exact upq_tr (validWays_any _ _ _ _ _) | exact upq (validWays_any _ _ _ _ _)) | (go_at_call 31; first | exact upq_tr_same (between_any _ _ _ _) | exact upq_same (between_any _ _ _ _))))); refine wpQuiet_nil ?_; intro _ hw'; obtain ⟨nq, hw''⟩ := hw'; subst hw''))
      have ha := cc_bad (cp_code1 (n := m) (by rw [h1, h2']; rfl : (vC f l le && vW t s st p) = false)) (by decide)
      exact bodyPost_ret (v := four _) (by rw [ha]; simp [results, Try.results20, go_sem]) rfl ⟨rfl, UpOf.of (by repeat (first | exact Below.refl _ _ | refine bl_up ?_ _ | refine Below.drew ?_ | refine bl_alloc ?_ _ | refine Below.setCell ?_ (by simp) _))⟩
  · have h1' : vC f l le = false := by simpa using h1
    clear h1
    skip
    go_enter Try.func20, Try.ntmps20
    go_wp2_with (first | (go_at_call 29; refine (validCarbon_any _ _ _ _).mono ?_; rintro e w' ⟨rfl, g, rfl⟩) | (go_at_call 30; refine (validWays_any _ _ _ _ _).mono ?_; rintro e w' ⟨rfl, g, rfl⟩) | (go_at_call 31; refine (between_any _ _ _ _).mono ?_; rintro e w' ⟨rfl, rfl⟩) | (refine wp_region_up (by kernel_rfl) (by kernel_rfl) ?_; (repeat (go_big_quiet_step (first | (go_at_call 29; first | exact upq_tr (validCarbon_any _ _ _ _) | exact upq (validCarbon_any _ _ _ _)) | (go_at_call 30; first | exact upq_tr (validWays_any _ _ _ _ _) | exact upq (validWays_any _ _ _ _ _)) | (go_at_call 31; first | exact upq_tr_same (between_any _ _ _ _) | exact upq_same (between_any _ _ _ _))))); refine wpQuiet_nil ?_; intro _ hw'; obtain ⟨nq, hw''⟩ := hw'; subst hw''))
    have ha := cc_bad (cp_code1 (n := m) (by rw [h1']; rfl : (vC f l le && vW t s st p) = false)) (by decide)
    exact bodyPost_ret (v := four _) (by rw [ha]; simp [results, Try.results20, go_sem]) rfl ⟨rfl, UpOf.of (by repeat (first | exact Below.refl _ _ | refine bl_up ?_ _ | refine Below.drew ?_ | refine bl_alloc ?_ _ | refine Below.setCell ?_ (by simp) _))⟩
set_option maxRecDepth 10000 in
theorem cheapest_spec (f l le t s st p m : Int) (w : World) :
    Calls Try.prog 19 #[car f l le, way t s st p, i64 m] w fun e w' => e = .returned (four (ccAns f l le t s st p m)) ∧ UpOf w w' := by
  by_cases h1 : vC f l le = true
  · by_cases h2 : vW t s st p = true
    · by_cases h3 : btw m 0 500 = true
      · obtain ⟨hm0, hm1⟩ := btw_true h3
        have HC := Lib.hid (cp_code0 h1 h2 h3)
        have H1 := Lib.hid h1
        have H2 := Lib.hid h2
        obtain ⟨v0, v1, v2, v3, v4, v5, v6, v7⟩ := vW_b h2
        obtain ⟨m, rfl⟩ := Int.eq_ofNat_of_zero_le hm0
        have hcode := HC.out
        go_enter Try.func19, Try.ntmps19
        go_wp2_with (first | (go_at_call 27; refine (code_any _ _ _ _ _ _ _ _ _).mono ?_; rintro e w' ⟨rfl, g, rfl⟩) | (refine wp_region_up (by kernel_rfl) (by kernel_rfl) ?_; (repeat (go_big_quiet_step (first | (go_at_call 27; first | exact upq_tr (code_any _ _ _ _ _ _ _ _ _) | exact upq (code_any _ _ _ _ _ _ _ _ _))))); refine wpQuiet_nil ?_; intro _ hw'; obtain ⟨nq, hw''⟩ := hw'; subst hw''))
        go_loopw [11, 12, 13] (fun ty lst i wr => ∃ k : Nat, k ≤ m + 1 ∧ i = i64 k ∧ (∃ a b : Int, ty = i64 a ∧ lst = i64 b ∧ Hid (stS (tot f l le t s st p m) k = (a, b))) ∧
            ∃ g : Up ((w.alloc (.cells #[i64 f, i64 l, i64 le] 33)).alloc (.cells #[i64 t, i64 s, i64 st, i64 p] 35)), wr = up _ g) (fun _ _ i _ => m + 1 - (intOf i).toNat)
        case atStart => exact ⟨0, by omega, rfl, ⟨-1, 0, rfl, rfl, rfl⟩, _, rfl⟩
        case round =>
          obtain ⟨k, hk, rfl, ⟨a, b, rfl, rfl, hst⟩, g', rfl⟩ := hrel
          by_cases hlt : k ≤ m
          · obtain ⟨b0, b1⟩ := price_bd H1.out H2.out (n := k) (by omega) (by omega)
            obtain ⟨m0, m1⟩ := mul_bd (a := (m : Int) - k) (A := 500) (by omega) (by omega) (b := p) (B := 10000) (by omega) (by omega)
            by_cases hlt2 : k < m
            · have ht : Hid (tot f l le t s st p m k = price f l le t s k + (st + ((m : Int) - k) * p)) := by unfold tot; rw [if_pos (by omega)]; rfl
              go_wp2_with (first | (go_at_call 35; refine (stencil_any _ _ _ _ _ _ H2.out (by omega) (by omega)).mono ?_; rintro e w' ⟨rfl, g, rfl⟩) | (go_at_call 28; refine (l13Carbon_any _ _ _ _ _ _ _ _ _ H1.out H2.out (by omega) (by omega)).mono ?_; rintro e w' ⟨rfl, g, rfl⟩) | (refine wp_region_up (by kernel_rfl) (by kernel_rfl) ?_; (repeat (go_big_quiet_step (first | (go_at_call 35; first | exact upq_tr (stencil_any _ _ _ _ _ _ H2.out (by omega) (by omega)) | exact upq (stencil_any _ _ _ _ _ _ H2.out (by omega) (by omega))) | (go_at_call 28; first | exact upq_tr (l13Carbon_any _ _ _ _ _ _ _ _ _ H1.out H2.out (by omega) (by omega)) | exact upq (l13Carbon_any _ _ _ _ _ _ _ _ _ H1.out H2.out (by omega) (by omega)))))); refine wpQuiet_nil ?_; intro _ hw'; obtain ⟨nq, hw''⟩ := hw'; subst hw''))
              all_goals
                go_roundw
                case rel =>
                  go_light
                  first
                    | (have hn := stS_take hst.out (by rw [ht.out]; omega)
                       rw [ht.out] at hn
                       exact ⟨k + 1, by omega, by go_num, ⟨_, _, rfl, rfl, hn⟩, _, rfl⟩)
                    | exact ⟨k + 1, by omega, by go_num, ⟨_, _, rfl, rfl, stS_keep hst.out (by rw [ht.out]; omega)⟩, _, rfl⟩
                case measure => (simp [intOf]; try omega)
            · obtain rfl : k = m := by omega
              have ht : Hid (tot f l le t s st p k k = price f l le t s k) := by unfold tot Hid; rw [if_neg (by omega)]; omega
              go_wp2_with (first | (go_at_call 35; refine (stencil_0 _ _ _ _ _).mono ?_; rintro e w' ⟨rfl, g, rfl⟩) | (go_at_call 28; refine (l13Carbon_any _ _ _ _ _ _ _ _ _ H1.out H2.out (by omega) (by omega)).mono ?_; rintro e w' ⟨rfl, g, rfl⟩) | (refine wp_region_up (by kernel_rfl) (by kernel_rfl) ?_; (repeat (go_big_quiet_step (first | (go_at_call 35; first | exact upq_tr (stencil_0 _ _ _ _ _) | exact upq (stencil_0 _ _ _ _ _)) | (go_at_call 28; first | exact upq_tr (l13Carbon_any _ _ _ _ _ _ _ _ _ H1.out H2.out (by omega) (by omega)) | exact upq (l13Carbon_any _ _ _ _ _ _ _ _ _ H1.out H2.out (by omega) (by omega)))))); refine wpQuiet_nil ?_; intro _ hw'; obtain ⟨nq, hw''⟩ := hw'; subst hw''))
              all_goals
                go_roundw
                case rel =>
                  go_light
                  first
                    | (have hn := stS_take hst.out (by rw [ht.out]; omega)
                       rw [ht.out] at hn
                       exact ⟨k + 1, by omega, by go_num, ⟨_, _, rfl, rfl, hn⟩, _, rfl⟩)
                    | exact ⟨k + 1, by omega, by go_num, ⟨_, _, rfl, rfl, stS_keep hst.out (by rw [ht.out]; omega)⟩, _, rfl⟩
                case measure => (simp [intOf]; try omega)
          · obtain rfl : k = m + 1 := by omega
            have hbd := stS_bd (T := tot f l le t s st p m) (m + 1)
            rw [hst.out] at hbd
            simp only at hbd
            go_wp2_with (first | (refine wp_region_up (by kernel_rfl) (by kernel_rfl) ?_; (repeat (go_big_quiet_step (fail))); refine wpQuiet_nil ?_; intro _ hw'; obtain ⟨nq, hw''⟩ := hw'; subst hw''))
            have ha := cc_stS HC.out H1.out H2.out hm1 hst.out
            exact bodyPost_ret (v := four _) (by rw [ha]; simp [results, Try.results19, go_sem]) rfl ⟨rfl, UpOf.of (by repeat (first | exact Below.refl _ _ | refine bl_up ?_ _ | refine Below.drew ?_ | refine bl_alloc ?_ _ | refine Below.setCell ?_ (by simp) _))⟩
      · have h3' : btw m 0 500 = false := by simpa using h3
        clear h3
        have hcode := cp_code2 h1 h2 h3'
        go_enter Try.func19, Try.ntmps19
        go_wp2_with (first | (go_at_call 27; refine (code_any _ _ _ _ _ _ _ _ _).mono ?_; rintro e w' ⟨rfl, g, rfl⟩) | (refine wp_region_up (by kernel_rfl) (by kernel_rfl) ?_; (repeat (go_big_quiet_step (first | (go_at_call 27; first | exact upq_tr (code_any _ _ _ _ _ _ _ _ _) | exact upq (code_any _ _ _ _ _ _ _ _ _))))); refine wpQuiet_nil ?_; intro _ hw'; obtain ⟨nq, hw''⟩ := hw'; subst hw''))
        have ha := cc_bad (cp_code2 h1 h2 h3') (by decide)
        exact bodyPost_ret (v := four _) (by rw [ha]; simp [results, Try.results19, go_sem]) rfl ⟨rfl, UpOf.of (by repeat (first | exact Below.refl _ _ | refine bl_up ?_ _ | refine Below.drew ?_ | refine bl_alloc ?_ _ | refine Below.setCell ?_ (by simp) _))⟩
    · have h2' : vW t s st p = false := by simpa using h2
      clear h2
      have hcode := cp_code1 (n := m) (by rw [h1, h2']; rfl : (vC f l le && vW t s st p) = false)
      go_enter Try.func19, Try.ntmps19
      go_wp2_with (first | (go_at_call 27; refine (code_any _ _ _ _ _ _ _ _ _).mono ?_; rintro e w' ⟨rfl, g, rfl⟩) | (refine wp_region_up (by kernel_rfl) (by kernel_rfl) ?_; (repeat (go_big_quiet_step (first | (go_at_call 27; first | exact upq_tr (code_any _ _ _ _ _ _ _ _ _) | exact upq (code_any _ _ _ _ _ _ _ _ _))))); refine wpQuiet_nil ?_; intro _ hw'; obtain ⟨nq, hw''⟩ := hw'; subst hw''))
      have ha := cc_bad (cp_code1 (n := m) (by rw [h1, h2']; rfl : (vC f l le && vW t s st p) = false)) (by decide)
      exact bodyPost_ret (v := four _) (by rw [ha]; simp [results, Try.results19, go_sem]) rfl ⟨rfl, UpOf.of (by repeat (first | exact Below.refl _ _ | refine bl_up ?_ _ | refine Below.drew ?_ | refine bl_alloc ?_ _ | refine Below.setCell ?_ (by simp) _))⟩
  · have h1' : vC f l le = false := by simpa using h1
    clear h1
    have hcode := cp_code1 (n := m) (by rw [h1']; rfl : (vC f l le && vW t s st p) = false)
    go_enter Try.func19, Try.ntmps19
    go_wp2_with (first | (go_at_call 27; refine (code_any _ _ _ _ _ _ _ _ _).mono ?_; rintro e w' ⟨rfl, g, rfl⟩) | (refine wp_region_up (by kernel_rfl) (by kernel_rfl) ?_; (repeat (go_big_quiet_step (first | (go_at_call 27; first | exact upq_tr (code_any _ _ _ _ _ _ _ _ _) | exact upq (code_any _ _ _ _ _ _ _ _ _))))); refine wpQuiet_nil ?_; intro _ hw'; obtain ⟨nq, hw''⟩ := hw'; subst hw''))
    have ha := cc_bad (cp_code1 (n := m) (by rw [h1']; rfl : (vC f l le && vW t s st p) = false)) (by decide)
    exact bodyPost_ret (v := four _) (by rw [ha]; simp [results, Try.results19, go_sem]) rfl ⟨rfl, UpOf.of (by repeat (first | exact Below.refl _ _ | refine bl_up ?_ _ | refine Below.drew ?_ | refine bl_alloc ?_ _ | refine Below.setCell ?_ (by simp) _))⟩
theorem law_cheapest (f l le t s st p m : Int) (w : World) :
    Calls Try.prog 6 #[car f l le, way t s st p, i64 m] w fun e w' => e = .returned (.bool true) ∧ UpOf w w' := by
  go_enter Try.func6, Try.ntmps6
  go_wp2_with (first | (go_at_call 14; refine (toCarbon_any _ _ _ _).mono ?_; rintro e w' ⟨rfl, g, rfl⟩) | (go_at_call 15; refine (toWays_any _ _ _ _ _).mono ?_; rintro e w' ⟨rfl, g, rfl⟩) | (go_at_call 19; refine (cheapest_spec _ _ _ _ _ _ _ _ _).mono ?_; rintro e w' ⟨rfl, g, rfl⟩) | (go_at_call 20; refine (cheapest_any _ _ _ _ _ _ _ _ _).mono ?_; rintro e w' ⟨rfl, g, rfl⟩) | (refine wp_region_up (by kernel_rfl) (by kernel_rfl) ?_; (repeat (go_big_quiet_step (first | (go_at_call 14; first | exact upq_tr (toCarbon_any _ _ _ _) | exact upq (toCarbon_any _ _ _ _)) | (go_at_call 15; first | exact upq_tr (toWays_any _ _ _ _ _) | exact upq (toWays_any _ _ _ _ _)) | (go_at_call 19; first | exact upq_tr (cheapest_spec _ _ _ _ _ _ _ _ _) | exact upq (cheapest_spec _ _ _ _ _ _ _ _ _)) | (go_at_call 20; first | exact upq_tr (cheapest_any _ _ _ _ _ _ _ _ _) | exact upq (cheapest_any _ _ _ _ _ _ _ _ _))))); refine wpQuiet_nil ?_; intro _ hw'; obtain ⟨nq, hw''⟩ := hw'; subst hw''))
  go_ret
  exact ⟨rfl, UpOf.of (by repeat (first | exact Below.refl _ _ | refine bl_up ?_ _ | refine Below.drew ?_ | refine bl_alloc ?_ _ | refine Below.setCell ?_ (by simp) _))⟩
end Go.Proofs.Ytdackofjmdmoiaa
