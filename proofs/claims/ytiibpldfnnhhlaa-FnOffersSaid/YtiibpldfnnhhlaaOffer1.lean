/-
  Offers: ValidOffers and OfferSaving, of the program and of the reference. The bounds stand at each.
-/
import Derived.Test.YtiibpldfnnhhlaaOffers
namespace Go.Proofs.Ytiibpldfnnhhlaa
open Go.RowKit
def sumN (many : List Int) : Nat → Int
  | 0 => 0
  | k + 1 => sumN many k + iat many k
def sumI (many : List Int) : Int := sumN many many.length
theorem sumN_bd {many : List Int} (hm : ∀ i, i < many.length → 0 ≤ iat many i ∧ iat many i ≤ 1000) (k : Nat) (hk : k ≤ many.length) : 0 ≤ sumN many k ∧ sumN many k ≤ 1000 * k := by
  induction k with
  | zero => simp [sumN]
  | succ k ih =>
    have h1 := ih (by omega)
    have h2 := hm k (by omega)
    rw [sumN]
    omega
set_option maxRecDepth 10000 in
theorem sumOf_any (B : Option Addr) (d : Nat) (many : List Int) (w : World) (h : Rds w 1 B many.length (ics many)) (hl : many.length ≤ 100000) (hm : ∀ i, i < many.length → 0 ≤ iat many i ∧ iat many i ≤ 1000) :
    Calls Try.prog 78 #[.slice B many.length d] w fun e w' => e = .returned (i64 (sumI many)) ∧ UpOf w w' := by
  have HM := Lib.hid hm
  have HS := Lib.hid (sumN_bd hm)
  clear hm
  go_enter Try.func78, Try.ntmps78
  go_wp2_with (first | ((with_reducible refine wp_region_up (by kernel_rfl) (by kernel_rfl) ?_); (repeat (go_big_quiet_step (fail))); refine wpQuiet_nil ?_; intro _ hw'; obtain ⟨nq, hw''⟩ := hw'; subst hw''))
  go_loopw [3, 8] (fun s i wr => ∃ k : Nat, k ≤ many.length ∧ i = i64 k ∧ s = i64 (sumN many k) ∧ ∃ g : Up w, wr = up w g) (fun _ i _ => many.length - (intOf i).toNat)
  case atStart => exact ⟨0, by omega, rfl, rfl, ex_up (by repeat (first | exact Below.refl _ _ | refine bl_tr ?_ _ | refine bl_al ?_ _ | refine bl_dr ?_ | refine bl_up ?_ _ | refine Below.drew ?_ | refine bl_alloc ?_ _ | refine Below.setCell ?_ (by first | (simp; done) | (simp; omega)) _))⟩
  case round =>
    obtain ⟨k, hk, rfl, rfl, g, rfl⟩ := hrel
    obtain ⟨s1, s2⟩ := HS.out k hk
    by_cases hlt : k < many.length
    · obtain ⟨b', off', rfl, hb', d0⟩ := ints_at h hlt
      obtain ⟨m1, m2⟩ := HM.out k hlt
      have hN := Lib.hid (show sumN many (k + 1) = sumN many k + iat many k from rfl)
      go_wp2_with (first | ((with_reducible refine wp_region_up (by kernel_rfl) (by kernel_rfl) ?_); (repeat (go_big_quiet_step (fail))); refine wpQuiet_nil ?_; intro _ hw'; obtain ⟨nq, hw''⟩ := hw'; subst hw''))
      go_roundw
      case rel => exact ⟨k + 1, by omega, by go_num, by rw [hN.out], ex_up (by repeat (first | exact Below.refl _ _ | refine bl_tr ?_ _ | refine bl_al ?_ _ | refine bl_dr ?_ | refine bl_up ?_ _ | refine Below.drew ?_ | refine bl_alloc ?_ _ | refine Below.setCell ?_ (by first | (simp; done) | (simp; omega)) _))⟩
      case measure => (simp [intOf]; try omega)
    · obtain rfl : k = many.length := by omega
      go_wp2_with (first | ((with_reducible refine wp_region_up (by kernel_rfl) (by kernel_rfl) ?_); (repeat (go_big_quiet_step (fail))); refine wpQuiet_nil ?_; intro _ hw'; obtain ⟨nq, hw''⟩ := hw'; subst hw''))
      go_ret
      exact ⟨rfl, UpOf.of (by repeat (first | exact Below.refl _ _ | refine bl_tr ?_ _ | refine bl_al ?_ _ | refine bl_dr ?_ | refine bl_up ?_ _ | refine Below.drew ?_ | refine bl_alloc ?_ _ | refine Below.setCell ?_ (by first | (simp; done) | (simp; omega)) _))⟩
set_option maxRecDepth 10000 in
theorem l00Sum_any (B : Option Addr) (d : Nat) (many : List Int) (w : World) (h : Rds w 1 B many.length (ics many)) (hl : many.length ≤ 100000) (hm : ∀ i, i < many.length → 0 ≤ iat many i ∧ iat many i ≤ 1000) :
    Calls Try.prog 80 #[.slice B many.length d] w fun e w' => e = .returned (i64 (sumI many)) ∧ UpOf w w' := by
  have HM := Lib.hid hm
  have HS := Lib.hid (sumN_bd hm)
  clear hm
  go_enter Try.func80, Try.ntmps80
  go_wp2_with (first | ((with_reducible refine wp_region_up (by kernel_rfl) (by kernel_rfl) ?_); (repeat (go_big_quiet_step (fail))); refine wpQuiet_nil ?_; intro _ hw'; obtain ⟨nq, hw''⟩ := hw'; subst hw''))
  go_loopw [3, 4] (fun s i wr => ∃ k : Nat, k ≤ many.length ∧ i = i64 k ∧ s = i64 (sumN many k) ∧ ∃ g : Up w, wr = up w g) (fun _ i _ => many.length - (intOf i).toNat)
  case atStart => exact ⟨0, by omega, rfl, rfl, ex_up (by repeat (first | exact Below.refl _ _ | refine bl_tr ?_ _ | refine bl_al ?_ _ | refine bl_dr ?_ | refine bl_up ?_ _ | refine Below.drew ?_ | refine bl_alloc ?_ _ | refine Below.setCell ?_ (by first | (simp; done) | (simp; omega)) _))⟩
  case round =>
    obtain ⟨k, hk, rfl, rfl, g, rfl⟩ := hrel
    obtain ⟨s1, s2⟩ := HS.out k hk
    by_cases hlt : k < many.length
    · obtain ⟨b', off', rfl, hb', d0⟩ := ints_at h hlt
      obtain ⟨m1, m2⟩ := HM.out k hlt
      have hN := Lib.hid (show sumN many (k + 1) = sumN many k + iat many k from rfl)
      go_wp2_with (first | ((with_reducible refine wp_region_up (by kernel_rfl) (by kernel_rfl) ?_); (repeat (go_big_quiet_step (fail))); refine wpQuiet_nil ?_; intro _ hw'; obtain ⟨nq, hw''⟩ := hw'; subst hw''))
      go_roundw
      case rel => exact ⟨k + 1, by omega, by go_num, by rw [hN.out], ex_up (by repeat (first | exact Below.refl _ _ | refine bl_tr ?_ _ | refine bl_al ?_ _ | refine bl_dr ?_ | refine bl_up ?_ _ | refine Below.drew ?_ | refine bl_alloc ?_ _ | refine Below.setCell ?_ (by first | (simp; done) | (simp; omega)) _))⟩
      case measure => (simp [intOf]; try omega)
    · obtain rfl : k = many.length := by omega
      go_wp2_with (first | ((with_reducible refine wp_region_up (by kernel_rfl) (by kernel_rfl) ?_); (repeat (go_big_quiet_step (fail))); refine wpQuiet_nil ?_; intro _ hw'; obtain ⟨nq, hw''⟩ := hw'; subst hw''))
      go_ret
      exact ⟨rfl, UpOf.of (by repeat (first | exact Below.refl _ _ | refine bl_tr ?_ _ | refine bl_al ?_ _ | refine bl_dr ?_ | refine bl_up ?_ _ | refine Below.drew ?_ | refine bl_alloc ?_ _ | refine Below.setCell ?_ (by first | (simp; done) | (simp; omega)) _))⟩
def offerOk (l : List Ware) (o : Offer) : Bool := isMany l o.many 20 && decide (1 ≤ sumI o.many) && btw o.price 0 1000000
def vOffers (l : List Ware) (os : List Offer) : Bool := vWares l && decide (os.length ≤ 8) && (List.range os.length).all fun i => offerOk l (oat os i)
theorem vOffers_w {l : List Ware} {os : List Offer} (h : vWares l = false) : vOffers l os = false := by simp [vOffers, h]
theorem vOffers_len {l : List Ware} {os : List Offer} (h : 8 < os.length) : vOffers l os = false := by
  rw [vOffers, decide_eq_false (by omega), Bool.and_false, Bool.false_and]
theorem vOffers_at {l : List Ware} {os : List Offer} {i : Nat} (hi : i < os.length) (h : offerOk l (oat os i) = false) : vOffers l os = false := by
  simp only [vOffers, Bool.and_eq_false_iff]
  refine .inr ?_
  rw [← Bool.not_eq_true]
  intro hc
  rw [List.all_eq_true] at hc
  have := hc i (List.mem_range.2 hi)
  simp [h] at this
theorem vOffers_true {l : List Ware} {os : List Offer} (h1 : vWares l = true) (h2 : os.length ≤ 8) (h : ∀ i, i < os.length → offerOk l (oat os i) = true) : vOffers l os = true := by
  have : ((List.range os.length).all fun i => offerOk l (oat os i)) = true := by
    simp only [List.all_eq_true, List.mem_range]
    exact h
  rw [vOffers, h1, decide_eq_true h2, this]; rfl
theorem vOffers_inv {l : List Ware} {os : List Offer} (h : vOffers l os = true) : vWares l = true ∧ os.length ≤ 8 ∧ ∀ i, i < os.length → offerOk l (oat os i) = true := by
  simp only [vOffers, Bool.and_eq_true, decide_eq_true_eq, List.all_eq_true, List.mem_range] at h
  exact ⟨h.1.1, h.1.2, h.2⟩
theorem offerOk_inv {l : List Ware} {o : Offer} (h : offerOk l o = true) : isMany l o.many 20 = true ∧ 1 ≤ sumI o.many ∧ 0 ≤ o.price ∧ o.price ≤ 1000000 := by
  simp only [offerOk, Bool.and_eq_true, decide_eq_true_eq] at h
  exact ⟨h.1.1, h.1.2, btw_true h.2⟩
theorem offerOk_1 {l : List Ware} {o : Offer} (h : isMany l o.many 20 = false) : offerOk l o = false := by simp [offerOk, h]
theorem offerOk_2 {l : List Ware} {o : Offer} (h : ¬ 1 ≤ sumI o.many) : offerOk l o = false := by rw [offerOk, decide_eq_false h, Bool.and_false, Bool.false_and]
theorem offerOk_3 {l : List Ware} {o : Offer} (h : btw o.price 0 1000000 = false) : offerOk l o = false := by simp [offerOk, h]
theorem offerOk_0 {l : List Ware} {o : Offer} (h1 : isMany l o.many 20 = true) (h2 : 1 ≤ sumI o.many) (h3 : btw o.price 0 1000000 = true) : offerOk l o = true := by
  rw [offerOk, h1, decide_eq_true h2, h3]; rfl
/-- numbers that fit are few and small -/
theorem many_bd {l : List Ware} {many : List Int} {most : Int} (hl : l.length ≤ 30) (hm : most ≤ 1000) (h : isMany l many most = true) : many.length ≤ 100000 ∧ ∀ i, i < many.length → 0 ≤ iat many i ∧ iat many i ≤ 1000 := by
  obtain ⟨h1, h2⟩ := isMany_inv h
  exact ⟨by omega, fun i hi => by have := h2 i hi; omega⟩
set_option maxRecDepth 10000 in
set_option maxHeartbeats 2000000 in
theorem validOffers_any (A O : Option Addr) (c d : Nat) (l : List Ware) (os : List Offer) (w : World) (hw : WSee w A l) (h : OSee w O os) (hl : l.length ≤ 100000000) (hn : os.length ≤ 100000000) (hf : WBd l) (ho : OBd os) :
    Calls Try.prog 43 #[.slice A l.length c, .slice O os.length d] w fun e w' => e = .returned (.bool (vOffers l os)) ∧ UpOf w w' := by
  have HO := Lib.hid ho
  clear ho
  cases h1 : vWares l
  · have hf' := Lib.hid (vOffers_w (os := os) h1)
    go_enter Try.func43, Try.ntmps43
    go_wp2_with (first | (go_at_call 21; refine (ret_as (validWares_any _ _ _ _ hw hl hf) h1).mono ?_; rintro e w' ⟨rfl, g, rfl⟩) | ((with_reducible refine wp_region_up (by kernel_rfl) (by kernel_rfl) ?_); (repeat (go_big_quiet_step (first | (go_at_call 21; first | exact upq_tr (ret_as (validWares_any _ _ _ _ hw hl hf) h1) | exact upq (ret_as (validWares_any _ _ _ _ hw hl hf) h1))))); refine wpQuiet_nil ?_; intro _ hw'; obtain ⟨nq, hw''⟩ := hw'; subst hw''))
    go_ret
    exact ⟨ret_bool hf'.out.symm, UpOf.of (by repeat (first | exact Below.refl _ _ | refine bl_tr ?_ _ | refine bl_al ?_ _ | refine bl_dr ?_ | refine bl_up ?_ _ | refine Below.drew ?_ | refine bl_alloc ?_ _ | refine Below.setCell ?_ (by first | (simp; done) | (simp; omega)) _))⟩
  by_cases h2 : os.length ≤ 8
  · have h2' : ¬ (8 : Int) < (os.length : Int) := by omega
    obtain ⟨hl30, hv⟩ := vWares_inv h1
    have H1 := Lib.hid h1
    go_enter Try.func43, Try.ntmps43
    go_wp2_with (first | (go_at_call 21; refine (ret_as (validWares_any _ _ _ _ hw hl hf) h1).mono ?_; rintro e w' ⟨rfl, g, rfl⟩) | ((with_reducible refine wp_region_up (by kernel_rfl) (by kernel_rfl) ?_); (repeat (go_big_quiet_step (first | (go_at_call 21; first | exact upq_tr (ret_as (validWares_any _ _ _ _ hw hl hf) h1) | exact upq (ret_as (validWares_any _ _ _ _ hw hl hf) h1))))); refine wpQuiet_nil ?_; intro _ hw'; obtain ⟨nq, hw''⟩ := hw'; subst hw''))
    clear h1 hw hv
    go_loopw [17] (fun i wr => ∃ k : Nat, k ≤ os.length ∧ i = i64 k ∧ Hid (∀ j, j < k → offerOk l (oat os j) = true) ∧ ∃ g : Up w, wr = up w g) (fun i _ => os.length - (intOf i).toNat)
    case atStart => exact ⟨0, by omega, rfl, fun i hi => by omega, ex_up (by repeat (first | exact Below.refl _ _ | refine bl_tr ?_ _ | refine bl_al ?_ _ | refine bl_dr ?_ | refine bl_up ?_ _ | refine Below.drew ?_ | refine bl_alloc ?_ _ | refine Below.setCell ?_ (by first | (simp; done) | (simp; omega)) _))⟩
    case round =>
      obtain ⟨k, hk, rfl, hok, g, rfl⟩ := hrel
      by_cases hlt : k < os.length
      · obtain ⟨b, off, Ai, ci, rfl, hb, c0, c1, r⟩ := offer_at h hlt
        cases p1 : isMany l (oat os k).many 20
        · have hf := Lib.hid (vOffers_at (l := l) hlt (offerOk_1 p1))
          go_wp2_with (first | (go_at_call 69; refine (ret_as (areMany_any _ _ _ _ _ _ _ _ (r.below (by repeat (first | exact Below.refl _ _ | refine bl_tr ?_ _ | refine bl_al ?_ _ | refine bl_dr ?_ | refine bl_up ?_ _ | refine Below.drew ?_ | refine bl_alloc ?_ _ | refine Below.setCell ?_ (by first | (simp; done) | (simp; omega)) _))) (HO.out k hlt) hl) p1).mono ?_; rintro e w' ⟨rfl, g, rfl⟩) | ((with_reducible refine wp_region_up (by kernel_rfl) (by kernel_rfl) ?_); (repeat (go_big_quiet_step (first | (go_at_call 69; first | exact upq_tr (ret_as (areMany_any _ _ _ _ _ _ _ _ (r.below (by repeat (first | exact Below.refl _ _ | refine bl_tr ?_ _ | refine bl_al ?_ _ | refine bl_dr ?_ | refine bl_up ?_ _ | refine Below.drew ?_ | refine bl_alloc ?_ _ | refine Below.setCell ?_ (by first | (simp; done) | (simp; omega)) _))) (HO.out k hlt) hl) p1) | exact upq (ret_as (areMany_any _ _ _ _ _ _ _ _ (r.below (by repeat (first | exact Below.refl _ _ | refine bl_tr ?_ _ | refine bl_al ?_ _ | refine bl_dr ?_ | refine bl_up ?_ _ | refine Below.drew ?_ | refine bl_alloc ?_ _ | refine Below.setCell ?_ (by first | (simp; done) | (simp; omega)) _))) (HO.out k hlt) hl) p1))))); refine wpQuiet_nil ?_; intro _ hw'; obtain ⟨nq, hw''⟩ := hw'; subst hw''))
          go_ret
          exact ⟨ret_bool hf.out.symm, UpOf.of (by repeat (first | exact Below.refl _ _ | refine bl_tr ?_ _ | refine bl_al ?_ _ | refine bl_dr ?_ | refine bl_up ?_ _ | refine Below.drew ?_ | refine bl_alloc ?_ _ | refine Below.setCell ?_ (by first | (simp; done) | (simp; omega)) _))⟩
        obtain ⟨mb1, mb2⟩ := many_bd hl30 (by omega) p1
        have MB := Lib.hid mb2
        obtain ⟨sb1, sb2⟩ := sumN_bd mb2 _ (Nat.le_refl _)
        clear mb2
        change 0 ≤ sumI (oat os k).many at sb1
        change sumI (oat os k).many ≤ _ at sb2
        cases p2 : (sumI (oat os k).many == 0)
        · have p2' : 1 ≤ sumI (oat os k).many := by rw [beq_eq_false_iff_ne] at p2; omega
          cases p3 : btw (oat os k).price 0 1000000
          · have hf := Lib.hid (vOffers_at (l := l) hlt (offerOk_3 p3))
            go_wp2_with (first | (go_at_call 69; refine (ret_as (areMany_any _ _ _ _ _ _ _ _ (r.below (by repeat (first | exact Below.refl _ _ | refine bl_tr ?_ _ | refine bl_al ?_ _ | refine bl_dr ?_ | refine bl_up ?_ _ | refine Below.drew ?_ | refine bl_alloc ?_ _ | refine Below.setCell ?_ (by first | (simp; done) | (simp; omega)) _))) (HO.out k hlt) hl) p1).mono ?_; rintro e w' ⟨rfl, g, rfl⟩) | (go_at_call 78; refine (sumOf_any _ _ _ _ (r.below (by repeat (first | exact Below.refl _ _ | refine bl_tr ?_ _ | refine bl_al ?_ _ | refine bl_dr ?_ | refine bl_up ?_ _ | refine Below.drew ?_ | refine bl_alloc ?_ _ | refine Below.setCell ?_ (by first | (simp; done) | (simp; omega)) _))) mb1 MB.out).mono ?_; rintro e w' ⟨rfl, g, rfl⟩) | (go_at_call 63; refine (ret_as (between_any _ _ _ _) p3).mono ?_; rintro e w' ⟨rfl, rfl⟩) | ((with_reducible refine wp_region_up (by kernel_rfl) (by kernel_rfl) ?_); (repeat (go_big_quiet_step (first | (go_at_call 69; first | exact upq_tr (ret_as (areMany_any _ _ _ _ _ _ _ _ (r.below (by repeat (first | exact Below.refl _ _ | refine bl_tr ?_ _ | refine bl_al ?_ _ | refine bl_dr ?_ | refine bl_up ?_ _ | refine Below.drew ?_ | refine bl_alloc ?_ _ | refine Below.setCell ?_ (by first | (simp; done) | (simp; omega)) _))) (HO.out k hlt) hl) p1) | exact upq (ret_as (areMany_any _ _ _ _ _ _ _ _ (r.below (by repeat (first | exact Below.refl _ _ | refine bl_tr ?_ _ | refine bl_al ?_ _ | refine bl_dr ?_ | refine bl_up ?_ _ | refine Below.drew ?_ | refine bl_alloc ?_ _ | refine Below.setCell ?_ (by first | (simp; done) | (simp; omega)) _))) (HO.out k hlt) hl) p1)) | (go_at_call 78; first | exact upq_tr (sumOf_any _ _ _ _ (r.below (by repeat (first | exact Below.refl _ _ | refine bl_tr ?_ _ | refine bl_al ?_ _ | refine bl_dr ?_ | refine bl_up ?_ _ | refine Below.drew ?_ | refine bl_alloc ?_ _ | refine Below.setCell ?_ (by first | (simp; done) | (simp; omega)) _))) mb1 MB.out) | exact upq (sumOf_any _ _ _ _ (r.below (by repeat (first | exact Below.refl _ _ | refine bl_tr ?_ _ | refine bl_al ?_ _ | refine bl_dr ?_ | refine bl_up ?_ _ | refine Below.drew ?_ | refine bl_alloc ?_ _ | refine Below.setCell ?_ (by first | (simp; done) | (simp; omega)) _))) mb1 MB.out)) | (go_at_call 63; first | exact upq_tr_same (ret_as (between_any _ _ _ _) p3) | exact upq_same (ret_as (between_any _ _ _ _) p3))))); refine wpQuiet_nil ?_; intro _ hw'; obtain ⟨nq, hw''⟩ := hw'; subst hw''))
            go_ret
            exact ⟨ret_bool hf.out.symm, UpOf.of (by repeat (first | exact Below.refl _ _ | refine bl_tr ?_ _ | refine bl_al ?_ _ | refine bl_dr ?_ | refine bl_up ?_ _ | refine Below.drew ?_ | refine bl_alloc ?_ _ | refine Below.setCell ?_ (by first | (simp; done) | (simp; omega)) _))⟩
          · have hq := Lib.hid (offerOk_0 p1 p2' p3)
            go_wp2_with (first | (go_at_call 69; refine (ret_as (areMany_any _ _ _ _ _ _ _ _ (r.below (by repeat (first | exact Below.refl _ _ | refine bl_tr ?_ _ | refine bl_al ?_ _ | refine bl_dr ?_ | refine bl_up ?_ _ | refine Below.drew ?_ | refine bl_alloc ?_ _ | refine Below.setCell ?_ (by first | (simp; done) | (simp; omega)) _))) (HO.out k hlt) hl) p1).mono ?_; rintro e w' ⟨rfl, g, rfl⟩) | (go_at_call 78; refine (sumOf_any _ _ _ _ (r.below (by repeat (first | exact Below.refl _ _ | refine bl_tr ?_ _ | refine bl_al ?_ _ | refine bl_dr ?_ | refine bl_up ?_ _ | refine Below.drew ?_ | refine bl_alloc ?_ _ | refine Below.setCell ?_ (by first | (simp; done) | (simp; omega)) _))) mb1 MB.out).mono ?_; rintro e w' ⟨rfl, g, rfl⟩) | (go_at_call 63; refine (ret_as (between_any _ _ _ _) p3).mono ?_; rintro e w' ⟨rfl, rfl⟩) | ((with_reducible refine wp_region_up (by kernel_rfl) (by kernel_rfl) ?_); (repeat (go_big_quiet_step (first | (go_at_call 69; first | exact upq_tr (ret_as (areMany_any _ _ _ _ _ _ _ _ (r.below (by repeat (first | exact Below.refl _ _ | refine bl_tr ?_ _ | refine bl_al ?_ _ | refine bl_dr ?_ | refine bl_up ?_ _ | refine Below.drew ?_ | refine bl_alloc ?_ _ | refine Below.setCell ?_ (by first | (simp; done) | (simp; omega)) _))) (HO.out k hlt) hl) p1) | exact upq (ret_as (areMany_any _ _ _ _ _ _ _ _ (r.below (by repeat (first | exact Below.refl _ _ | refine bl_tr ?_ _ | refine bl_al ?_ _ | refine bl_dr ?_ | refine bl_up ?_ _ | refine Below.drew ?_ | refine bl_alloc ?_ _ | refine Below.setCell ?_ (by first | (simp; done) | (simp; omega)) _))) (HO.out k hlt) hl) p1)) | (go_at_call 78; first | exact upq_tr (sumOf_any _ _ _ _ (r.below (by repeat (first | exact Below.refl _ _ | refine bl_tr ?_ _ | refine bl_al ?_ _ | refine bl_dr ?_ | refine bl_up ?_ _ | refine Below.drew ?_ | refine bl_alloc ?_ _ | refine Below.setCell ?_ (by first | (simp; done) | (simp; omega)) _))) mb1 MB.out) | exact upq (sumOf_any _ _ _ _ (r.below (by repeat (first | exact Below.refl _ _ | refine bl_tr ?_ _ | refine bl_al ?_ _ | refine bl_dr ?_ | refine bl_up ?_ _ | refine Below.drew ?_ | refine bl_alloc ?_ _ | refine Below.setCell ?_ (by first | (simp; done) | (simp; omega)) _))) mb1 MB.out)) | (go_at_call 63; first | exact upq_tr_same (ret_as (between_any _ _ _ _) p3) | exact upq_same (ret_as (between_any _ _ _ _) p3))))); refine wpQuiet_nil ?_; intro _ hw'; obtain ⟨nq, hw''⟩ := hw'; subst hw''))
            go_roundw
            case rel => have hx := lt_ext (P := fun j => offerOk l (oat os j) = true) hok.out hq.out; exact ⟨k + 1, by omega, by go_num, hx, ex_up (by repeat (first | exact Below.refl _ _ | refine bl_tr ?_ _ | refine bl_al ?_ _ | refine bl_dr ?_ | refine bl_up ?_ _ | refine Below.drew ?_ | refine bl_alloc ?_ _ | refine Below.setCell ?_ (by first | (simp; done) | (simp; omega)) _))⟩
            case measure => (simp [intOf]; try omega)
        · have hf := Lib.hid (vOffers_at (l := l) hlt (offerOk_2 (by rw [beq_iff_eq] at p2; omega)))
          go_wp2_with (first | (go_at_call 69; refine (ret_as (areMany_any _ _ _ _ _ _ _ _ (r.below (by repeat (first | exact Below.refl _ _ | refine bl_tr ?_ _ | refine bl_al ?_ _ | refine bl_dr ?_ | refine bl_up ?_ _ | refine Below.drew ?_ | refine bl_alloc ?_ _ | refine Below.setCell ?_ (by first | (simp; done) | (simp; omega)) _))) (HO.out k hlt) hl) p1).mono ?_; rintro e w' ⟨rfl, g, rfl⟩) | (go_at_call 78; refine (sumOf_any _ _ _ _ (r.below (by repeat (first | exact Below.refl _ _ | refine bl_tr ?_ _ | refine bl_al ?_ _ | refine bl_dr ?_ | refine bl_up ?_ _ | refine Below.drew ?_ | refine bl_alloc ?_ _ | refine Below.setCell ?_ (by first | (simp; done) | (simp; omega)) _))) mb1 MB.out).mono ?_; rintro e w' ⟨rfl, g, rfl⟩) | ((with_reducible refine wp_region_up (by kernel_rfl) (by kernel_rfl) ?_); (repeat (go_big_quiet_step (first | (go_at_call 69; first | exact upq_tr (ret_as (areMany_any _ _ _ _ _ _ _ _ (r.below (by repeat (first | exact Below.refl _ _ | refine bl_tr ?_ _ | refine bl_al ?_ _ | refine bl_dr ?_ | refine bl_up ?_ _ | refine Below.drew ?_ | refine bl_alloc ?_ _ | refine Below.setCell ?_ (by first | (simp; done) | (simp; omega)) _))) (HO.out k hlt) hl) p1) | exact upq (ret_as (areMany_any _ _ _ _ _ _ _ _ (r.below (by repeat (first | exact Below.refl _ _ | refine bl_tr ?_ _ | refine bl_al ?_ _ | refine bl_dr ?_ | refine bl_up ?_ _ | refine Below.drew ?_ | refine bl_alloc ?_ _ | refine Below.setCell ?_ (by first | (simp; done) | (simp; omega)) _))) (HO.out k hlt) hl) p1)) | (go_at_call 78; first | exact upq_tr (sumOf_any _ _ _ _ (r.below (by repeat (first | exact Below.refl _ _ | refine bl_tr ?_ _ | refine bl_al ?_ _ | refine bl_dr ?_ | refine bl_up ?_ _ | refine Below.drew ?_ | refine bl_alloc ?_ _ | refine Below.setCell ?_ (by first | (simp; done) | (simp; omega)) _))) mb1 MB.out) | exact upq (sumOf_any _ _ _ _ (r.below (by repeat (first | exact Below.refl _ _ | refine bl_tr ?_ _ | refine bl_al ?_ _ | refine bl_dr ?_ | refine bl_up ?_ _ | refine Below.drew ?_ | refine bl_alloc ?_ _ | refine Below.setCell ?_ (by first | (simp; done) | (simp; omega)) _))) mb1 MB.out))))); refine wpQuiet_nil ?_; intro _ hw'; obtain ⟨nq, hw''⟩ := hw'; subst hw''))
          go_ret
          exact ⟨ret_bool hf.out.symm, UpOf.of (by repeat (first | exact Below.refl _ _ | refine bl_tr ?_ _ | refine bl_al ?_ _ | refine bl_dr ?_ | refine bl_up ?_ _ | refine Below.drew ?_ | refine bl_alloc ?_ _ | refine Below.setCell ?_ (by first | (simp; done) | (simp; omega)) _))⟩
      · obtain rfl : k = os.length := by omega
        have hf := Lib.hid (vOffers_true H1.out h2 hok.out)
        go_wp2_with (first | ((with_reducible refine wp_region_up (by kernel_rfl) (by kernel_rfl) ?_); (repeat (go_big_quiet_step (fail))); refine wpQuiet_nil ?_; intro _ hw'; obtain ⟨nq, hw''⟩ := hw'; subst hw''))
        go_ret
        exact ⟨ret_bool hf.out.symm, UpOf.of (by repeat (first | exact Below.refl _ _ | refine bl_tr ?_ _ | refine bl_al ?_ _ | refine bl_dr ?_ | refine bl_up ?_ _ | refine Below.drew ?_ | refine bl_alloc ?_ _ | refine Below.setCell ?_ (by first | (simp; done) | (simp; omega)) _))⟩
  · have h2' : (8 : Int) < (os.length : Int) := by omega
    have hf' := Lib.hid (vOffers_len (l := l) (os := os) (by omega))
    go_enter Try.func43, Try.ntmps43
    go_wp2_with (first | (go_at_call 21; refine (ret_as (validWares_any _ _ _ _ hw hl hf) h1).mono ?_; rintro e w' ⟨rfl, g, rfl⟩) | ((with_reducible refine wp_region_up (by kernel_rfl) (by kernel_rfl) ?_); (repeat (go_big_quiet_step (first | (go_at_call 21; first | exact upq_tr (ret_as (validWares_any _ _ _ _ hw hl hf) h1) | exact upq (ret_as (validWares_any _ _ _ _ hw hl hf) h1))))); refine wpQuiet_nil ?_; intro _ hw'; obtain ⟨nq, hw''⟩ := hw'; subst hw''))
    go_ret
    exact ⟨ret_bool hf'.out.symm, UpOf.of (by repeat (first | exact Below.refl _ _ | refine bl_tr ?_ _ | refine bl_al ?_ _ | refine bl_dr ?_ | refine bl_up ?_ _ | refine Below.drew ?_ | refine bl_alloc ?_ _ | refine Below.setCell ?_ (by first | (simp; done) | (simp; omega)) _))⟩
set_option maxRecDepth 10000 in
set_option maxHeartbeats 2000000 in
theorem l26Offers_any (A O : Option Addr) (c d : Nat) (l : List Ware) (os : List Offer) (w : World) (hw : WSee w A l) (h : OSee w O os) (hl : l.length ≤ 100000000) (hn : os.length ≤ 100000000) (hf : WBd l) (ho : OBd os) :
    Calls Try.prog 76 #[.slice A l.length c, .slice O os.length d] w fun e w' => e = .returned (.bool (vOffers l os)) ∧ UpOf w w' := by
  have HO := Lib.hid ho
  have HW := Lib.hid hw
  clear ho hw
  cases h1 : vWares l
  · have hf' := Lib.hid (vOffers_w (os := os) h1)
    have hC := Lib.hid (fun many => show wantsC l many 20 = 1 by rw [wantsC, if_neg (by simp [h1])])
    go_enter Try.func76, Try.ntmps76
    go_wp2_with (first | ((with_reducible refine wp_region_up (by kernel_rfl) (by kernel_rfl) ?_); (repeat (go_big_quiet_step (fail))); refine wpQuiet_nil ?_; intro _ hw'; obtain ⟨nq, hw''⟩ := hw'; subst hw''))
    go_loopw [5] (fun i wr => i = i64 0 ∧ ∃ g : Up w, wr = up w g) (fun i _ => 0)
    case atStart => exact ⟨rfl, ex_up (by repeat (first | exact Below.refl _ _ | refine bl_tr ?_ _ | refine bl_al ?_ _ | refine bl_dr ?_ | refine bl_up ?_ _ | refine Below.drew ?_ | refine bl_alloc ?_ _ | refine Below.setCell ?_ (by first | (simp; done) | (simp; omega)) _))⟩
    case round =>
      obtain ⟨rfl, g, rfl⟩ := hrel
      by_cases hlt : 0 < os.length
      · obtain ⟨b, off, Ai, ci, rfl, hb, c0, c1, r⟩ := offer_at h hlt
        simp only [Nat.zero_mul, Nat.add_zero] at c0 c1
        have HOk := HO.out 0 hlt
        go_wp2_with (first | (go_at_call 67; refine (ret_num (l26Wants_any _ _ _ _ _ _ _ _ (HW.out.below (by repeat (first | exact Below.refl _ _ | refine bl_tr ?_ _ | refine bl_al ?_ _ | refine bl_dr ?_ | refine bl_up ?_ _ | refine Below.drew ?_ | refine bl_alloc ?_ _ | refine Below.setCell ?_ (by first | (simp; done) | (simp; omega)) _))) (r.below (by repeat (first | exact Below.refl _ _ | refine bl_tr ?_ _ | refine bl_al ?_ _ | refine bl_dr ?_ | refine bl_up ?_ _ | refine Below.drew ?_ | refine bl_alloc ?_ _ | refine Below.setCell ?_ (by first | (simp; done) | (simp; omega)) _))) HOk hl hf) (hC.out _)).mono ?_; rintro e w' ⟨rfl, g, rfl⟩) | ((with_reducible refine wp_region_up (by kernel_rfl) (by kernel_rfl) ?_); (repeat (go_big_quiet_step (first | (go_at_call 67; first | exact upq_tr (ret_num (l26Wants_any _ _ _ _ _ _ _ _ (HW.out.below (by repeat (first | exact Below.refl _ _ | refine bl_tr ?_ _ | refine bl_al ?_ _ | refine bl_dr ?_ | refine bl_up ?_ _ | refine Below.drew ?_ | refine bl_alloc ?_ _ | refine Below.setCell ?_ (by first | (simp; done) | (simp; omega)) _))) (r.below (by repeat (first | exact Below.refl _ _ | refine bl_tr ?_ _ | refine bl_al ?_ _ | refine bl_dr ?_ | refine bl_up ?_ _ | refine Below.drew ?_ | refine bl_alloc ?_ _ | refine Below.setCell ?_ (by first | (simp; done) | (simp; omega)) _))) HOk hl hf) (hC.out _)) | exact upq (ret_num (l26Wants_any _ _ _ _ _ _ _ _ (HW.out.below (by repeat (first | exact Below.refl _ _ | refine bl_tr ?_ _ | refine bl_al ?_ _ | refine bl_dr ?_ | refine bl_up ?_ _ | refine Below.drew ?_ | refine bl_alloc ?_ _ | refine Below.setCell ?_ (by first | (simp; done) | (simp; omega)) _))) (r.below (by repeat (first | exact Below.refl _ _ | refine bl_tr ?_ _ | refine bl_al ?_ _ | refine bl_dr ?_ | refine bl_up ?_ _ | refine Below.drew ?_ | refine bl_alloc ?_ _ | refine Below.setCell ?_ (by first | (simp; done) | (simp; omega)) _))) HOk hl hf) (hC.out _)))))); refine wpQuiet_nil ?_; intro _ hw'; obtain ⟨nq, hw''⟩ := hw'; subst hw''))
        go_ret
        exact ⟨ret_bool hf'.out.symm, UpOf.of (by repeat (first | exact Below.refl _ _ | refine bl_tr ?_ _ | refine bl_al ?_ _ | refine bl_dr ?_ | refine bl_up ?_ _ | refine Below.drew ?_ | refine bl_alloc ?_ _ | refine Below.setCell ?_ (by first | (simp; done) | (simp; omega)) _))⟩
      · have hlt' : ¬ (0 : Int) < (os.length : Int) := by omega
        go_wp2_with (first | (go_at_call 57; refine (ret_as (l26Ok_any _ _ _ _ (HW.out.below (by repeat (first | exact Below.refl _ _ | refine bl_tr ?_ _ | refine bl_al ?_ _ | refine bl_dr ?_ | refine bl_up ?_ _ | refine Below.drew ?_ | refine bl_alloc ?_ _ | refine Below.setCell ?_ (by first | (simp; done) | (simp; omega)) _))) hl hf) h1).mono ?_; rintro e w' ⟨rfl, g, rfl⟩) | ((with_reducible refine wp_region_up (by kernel_rfl) (by kernel_rfl) ?_); (repeat (go_big_quiet_step (first | (go_at_call 57; first | exact upq_tr (ret_as (l26Ok_any _ _ _ _ (HW.out.below (by repeat (first | exact Below.refl _ _ | refine bl_tr ?_ _ | refine bl_al ?_ _ | refine bl_dr ?_ | refine bl_up ?_ _ | refine Below.drew ?_ | refine bl_alloc ?_ _ | refine Below.setCell ?_ (by first | (simp; done) | (simp; omega)) _))) hl hf) h1) | exact upq (ret_as (l26Ok_any _ _ _ _ (HW.out.below (by repeat (first | exact Below.refl _ _ | refine bl_tr ?_ _ | refine bl_al ?_ _ | refine bl_dr ?_ | refine bl_up ?_ _ | refine Below.drew ?_ | refine bl_alloc ?_ _ | refine Below.setCell ?_ (by first | (simp; done) | (simp; omega)) _))) hl hf) h1))))); refine wpQuiet_nil ?_; intro _ hw'; obtain ⟨nq, hw''⟩ := hw'; subst hw''))
        go_ret
        exact ⟨ret_bool hf'.out.symm, UpOf.of (by repeat (first | exact Below.refl _ _ | refine bl_tr ?_ _ | refine bl_al ?_ _ | refine bl_dr ?_ | refine bl_up ?_ _ | refine Below.drew ?_ | refine bl_alloc ?_ _ | refine Below.setCell ?_ (by first | (simp; done) | (simp; omega)) _))⟩
  · obtain ⟨hl30, hv⟩ := vWares_inv h1
    have H1 := Lib.hid h1
    have hC0 := Lib.hid (fun many (hm : isMany l many 20 = false) => show wantsC l many 20 = 2 by rw [wantsC, if_pos h1, if_neg (by simp [hm])])
    have hC1 := Lib.hid (fun many (hm : isMany l many 20 = true) => show wantsC l many 20 = 0 by rw [wantsC, if_pos h1, if_pos hm])
    clear hv
    go_enter Try.func76, Try.ntmps76
    go_wp2_with (first | ((with_reducible refine wp_region_up (by kernel_rfl) (by kernel_rfl) ?_); (repeat (go_big_quiet_step (fail))); refine wpQuiet_nil ?_; intro _ hw'; obtain ⟨nq, hw''⟩ := hw'; subst hw''))
    go_loopw [5] (fun i wr => ∃ k : Nat, k ≤ os.length ∧ i = i64 k ∧ Hid (∀ j, j < k → offerOk l (oat os j) = true) ∧ ∃ g : Up w, wr = up w g) (fun i _ => os.length - (intOf i).toNat)
    case atStart => exact ⟨0, by omega, rfl, fun i hi => by omega, ex_up (by repeat (first | exact Below.refl _ _ | refine bl_tr ?_ _ | refine bl_al ?_ _ | refine bl_dr ?_ | refine bl_up ?_ _ | refine Below.drew ?_ | refine bl_alloc ?_ _ | refine Below.setCell ?_ (by first | (simp; done) | (simp; omega)) _))⟩
    case round =>
      obtain ⟨k, hk, rfl, hok, g, rfl⟩ := hrel
      by_cases hlt : k < os.length
      · obtain ⟨b, off, Ai, ci, rfl, hb, c0, c1, r⟩ := offer_at h hlt
        have HOk := HO.out k hlt
        cases p1 : isMany l (oat os k).many 20
        · have hf' := Lib.hid (vOffers_at (l := l) hlt (offerOk_1 p1))
          go_wp2_with (first | (go_at_call 67; refine (ret_num (l26Wants_any _ _ _ _ _ _ _ _ (HW.out.below (by repeat (first | exact Below.refl _ _ | refine bl_tr ?_ _ | refine bl_al ?_ _ | refine bl_dr ?_ | refine bl_up ?_ _ | refine Below.drew ?_ | refine bl_alloc ?_ _ | refine Below.setCell ?_ (by first | (simp; done) | (simp; omega)) _))) (r.below (by repeat (first | exact Below.refl _ _ | refine bl_tr ?_ _ | refine bl_al ?_ _ | refine bl_dr ?_ | refine bl_up ?_ _ | refine Below.drew ?_ | refine bl_alloc ?_ _ | refine Below.setCell ?_ (by first | (simp; done) | (simp; omega)) _))) HOk hl hf) (hC0.out _ p1)).mono ?_; rintro e w' ⟨rfl, g, rfl⟩) | ((with_reducible refine wp_region_up (by kernel_rfl) (by kernel_rfl) ?_); (repeat (go_big_quiet_step (first | (go_at_call 67; first | exact upq_tr (ret_num (l26Wants_any _ _ _ _ _ _ _ _ (HW.out.below (by repeat (first | exact Below.refl _ _ | refine bl_tr ?_ _ | refine bl_al ?_ _ | refine bl_dr ?_ | refine bl_up ?_ _ | refine Below.drew ?_ | refine bl_alloc ?_ _ | refine Below.setCell ?_ (by first | (simp; done) | (simp; omega)) _))) (r.below (by repeat (first | exact Below.refl _ _ | refine bl_tr ?_ _ | refine bl_al ?_ _ | refine bl_dr ?_ | refine bl_up ?_ _ | refine Below.drew ?_ | refine bl_alloc ?_ _ | refine Below.setCell ?_ (by first | (simp; done) | (simp; omega)) _))) HOk hl hf) (hC0.out _ p1)) | exact upq (ret_num (l26Wants_any _ _ _ _ _ _ _ _ (HW.out.below (by repeat (first | exact Below.refl _ _ | refine bl_tr ?_ _ | refine bl_al ?_ _ | refine bl_dr ?_ | refine bl_up ?_ _ | refine Below.drew ?_ | refine bl_alloc ?_ _ | refine Below.setCell ?_ (by first | (simp; done) | (simp; omega)) _))) (r.below (by repeat (first | exact Below.refl _ _ | refine bl_tr ?_ _ | refine bl_al ?_ _ | refine bl_dr ?_ | refine bl_up ?_ _ | refine Below.drew ?_ | refine bl_alloc ?_ _ | refine Below.setCell ?_ (by first | (simp; done) | (simp; omega)) _))) HOk hl hf) (hC0.out _ p1)))))); refine wpQuiet_nil ?_; intro _ hw'; obtain ⟨nq, hw''⟩ := hw'; subst hw''))
          go_ret
          exact ⟨ret_bool hf'.out.symm, UpOf.of (by repeat (first | exact Below.refl _ _ | refine bl_tr ?_ _ | refine bl_al ?_ _ | refine bl_dr ?_ | refine bl_up ?_ _ | refine Below.drew ?_ | refine bl_alloc ?_ _ | refine Below.setCell ?_ (by first | (simp; done) | (simp; omega)) _))⟩
        obtain ⟨mb1, mb2⟩ := many_bd hl30 (by omega) p1
        have MB := Lib.hid mb2
        clear mb2
        by_cases p2 : sumI (oat os k).many < 1
        · have hf' := Lib.hid (vOffers_at (l := l) hlt (offerOk_2 (by omega)))
          go_wp2_with (first | (go_at_call 67; refine (ret_num (l26Wants_any _ _ _ _ _ _ _ _ (HW.out.below (by repeat (first | exact Below.refl _ _ | refine bl_tr ?_ _ | refine bl_al ?_ _ | refine bl_dr ?_ | refine bl_up ?_ _ | refine Below.drew ?_ | refine bl_alloc ?_ _ | refine Below.setCell ?_ (by first | (simp; done) | (simp; omega)) _))) (r.below (by repeat (first | exact Below.refl _ _ | refine bl_tr ?_ _ | refine bl_al ?_ _ | refine bl_dr ?_ | refine bl_up ?_ _ | refine Below.drew ?_ | refine bl_alloc ?_ _ | refine Below.setCell ?_ (by first | (simp; done) | (simp; omega)) _))) HOk hl hf) (hC1.out _ p1)).mono ?_; rintro e w' ⟨rfl, g, rfl⟩) | (go_at_call 80; refine (l00Sum_any _ _ _ _ (r.below (by repeat (first | exact Below.refl _ _ | refine bl_tr ?_ _ | refine bl_al ?_ _ | refine bl_dr ?_ | refine bl_up ?_ _ | refine Below.drew ?_ | refine bl_alloc ?_ _ | refine Below.setCell ?_ (by first | (simp; done) | (simp; omega)) _))) mb1 MB.out).mono ?_; rintro e w' ⟨rfl, g, rfl⟩) | ((with_reducible refine wp_region_up (by kernel_rfl) (by kernel_rfl) ?_); (repeat (go_big_quiet_step (first | (go_at_call 67; first | exact upq_tr (ret_num (l26Wants_any _ _ _ _ _ _ _ _ (HW.out.below (by repeat (first | exact Below.refl _ _ | refine bl_tr ?_ _ | refine bl_al ?_ _ | refine bl_dr ?_ | refine bl_up ?_ _ | refine Below.drew ?_ | refine bl_alloc ?_ _ | refine Below.setCell ?_ (by first | (simp; done) | (simp; omega)) _))) (r.below (by repeat (first | exact Below.refl _ _ | refine bl_tr ?_ _ | refine bl_al ?_ _ | refine bl_dr ?_ | refine bl_up ?_ _ | refine Below.drew ?_ | refine bl_alloc ?_ _ | refine Below.setCell ?_ (by first | (simp; done) | (simp; omega)) _))) HOk hl hf) (hC1.out _ p1)) | exact upq (ret_num (l26Wants_any _ _ _ _ _ _ _ _ (HW.out.below (by repeat (first | exact Below.refl _ _ | refine bl_tr ?_ _ | refine bl_al ?_ _ | refine bl_dr ?_ | refine bl_up ?_ _ | refine Below.drew ?_ | refine bl_alloc ?_ _ | refine Below.setCell ?_ (by first | (simp; done) | (simp; omega)) _))) (r.below (by repeat (first | exact Below.refl _ _ | refine bl_tr ?_ _ | refine bl_al ?_ _ | refine bl_dr ?_ | refine bl_up ?_ _ | refine Below.drew ?_ | refine bl_alloc ?_ _ | refine Below.setCell ?_ (by first | (simp; done) | (simp; omega)) _))) HOk hl hf) (hC1.out _ p1))) | (go_at_call 80; first | exact upq_tr (l00Sum_any _ _ _ _ (r.below (by repeat (first | exact Below.refl _ _ | refine bl_tr ?_ _ | refine bl_al ?_ _ | refine bl_dr ?_ | refine bl_up ?_ _ | refine Below.drew ?_ | refine bl_alloc ?_ _ | refine Below.setCell ?_ (by first | (simp; done) | (simp; omega)) _))) mb1 MB.out) | exact upq (l00Sum_any _ _ _ _ (r.below (by repeat (first | exact Below.refl _ _ | refine bl_tr ?_ _ | refine bl_al ?_ _ | refine bl_dr ?_ | refine bl_up ?_ _ | refine Below.drew ?_ | refine bl_alloc ?_ _ | refine Below.setCell ?_ (by first | (simp; done) | (simp; omega)) _))) mb1 MB.out))))); refine wpQuiet_nil ?_; intro _ hw'; obtain ⟨nq, hw''⟩ := hw'; subst hw''))
          go_ret
          exact ⟨ret_bool hf'.out.symm, UpOf.of (by repeat (first | exact Below.refl _ _ | refine bl_tr ?_ _ | refine bl_al ?_ _ | refine bl_dr ?_ | refine bl_up ?_ _ | refine Below.drew ?_ | refine bl_alloc ?_ _ | refine Below.setCell ?_ (by first | (simp; done) | (simp; omega)) _))⟩
        · cases p3 : btw (oat os k).price 0 1000000
          · have hf' := Lib.hid (vOffers_at (l := l) hlt (offerOk_3 p3))
            go_wp2_with (first | (go_at_call 67; refine (ret_num (l26Wants_any _ _ _ _ _ _ _ _ (HW.out.below (by repeat (first | exact Below.refl _ _ | refine bl_tr ?_ _ | refine bl_al ?_ _ | refine bl_dr ?_ | refine bl_up ?_ _ | refine Below.drew ?_ | refine bl_alloc ?_ _ | refine Below.setCell ?_ (by first | (simp; done) | (simp; omega)) _))) (r.below (by repeat (first | exact Below.refl _ _ | refine bl_tr ?_ _ | refine bl_al ?_ _ | refine bl_dr ?_ | refine bl_up ?_ _ | refine Below.drew ?_ | refine bl_alloc ?_ _ | refine Below.setCell ?_ (by first | (simp; done) | (simp; omega)) _))) HOk hl hf) (hC1.out _ p1)).mono ?_; rintro e w' ⟨rfl, g, rfl⟩) | (go_at_call 80; refine (l00Sum_any _ _ _ _ (r.below (by repeat (first | exact Below.refl _ _ | refine bl_tr ?_ _ | refine bl_al ?_ _ | refine bl_dr ?_ | refine bl_up ?_ _ | refine Below.drew ?_ | refine bl_alloc ?_ _ | refine Below.setCell ?_ (by first | (simp; done) | (simp; omega)) _))) mb1 MB.out).mono ?_; rintro e w' ⟨rfl, g, rfl⟩) | (go_at_call 65; refine (ret_as (in_any _ _ _ _) p3).mono ?_; rintro e w' ⟨rfl, rfl⟩) | ((with_reducible refine wp_region_up (by kernel_rfl) (by kernel_rfl) ?_); (repeat (go_big_quiet_step (first | (go_at_call 67; first | exact upq_tr (ret_num (l26Wants_any _ _ _ _ _ _ _ _ (HW.out.below (by repeat (first | exact Below.refl _ _ | refine bl_tr ?_ _ | refine bl_al ?_ _ | refine bl_dr ?_ | refine bl_up ?_ _ | refine Below.drew ?_ | refine bl_alloc ?_ _ | refine Below.setCell ?_ (by first | (simp; done) | (simp; omega)) _))) (r.below (by repeat (first | exact Below.refl _ _ | refine bl_tr ?_ _ | refine bl_al ?_ _ | refine bl_dr ?_ | refine bl_up ?_ _ | refine Below.drew ?_ | refine bl_alloc ?_ _ | refine Below.setCell ?_ (by first | (simp; done) | (simp; omega)) _))) HOk hl hf) (hC1.out _ p1)) | exact upq (ret_num (l26Wants_any _ _ _ _ _ _ _ _ (HW.out.below (by repeat (first | exact Below.refl _ _ | refine bl_tr ?_ _ | refine bl_al ?_ _ | refine bl_dr ?_ | refine bl_up ?_ _ | refine Below.drew ?_ | refine bl_alloc ?_ _ | refine Below.setCell ?_ (by first | (simp; done) | (simp; omega)) _))) (r.below (by repeat (first | exact Below.refl _ _ | refine bl_tr ?_ _ | refine bl_al ?_ _ | refine bl_dr ?_ | refine bl_up ?_ _ | refine Below.drew ?_ | refine bl_alloc ?_ _ | refine Below.setCell ?_ (by first | (simp; done) | (simp; omega)) _))) HOk hl hf) (hC1.out _ p1))) | (go_at_call 80; first | exact upq_tr (l00Sum_any _ _ _ _ (r.below (by repeat (first | exact Below.refl _ _ | refine bl_tr ?_ _ | refine bl_al ?_ _ | refine bl_dr ?_ | refine bl_up ?_ _ | refine Below.drew ?_ | refine bl_alloc ?_ _ | refine Below.setCell ?_ (by first | (simp; done) | (simp; omega)) _))) mb1 MB.out) | exact upq (l00Sum_any _ _ _ _ (r.below (by repeat (first | exact Below.refl _ _ | refine bl_tr ?_ _ | refine bl_al ?_ _ | refine bl_dr ?_ | refine bl_up ?_ _ | refine Below.drew ?_ | refine bl_alloc ?_ _ | refine Below.setCell ?_ (by first | (simp; done) | (simp; omega)) _))) mb1 MB.out)) | (go_at_call 65; first | exact upq_tr_same (ret_as (in_any _ _ _ _) p3) | exact upq_same (ret_as (in_any _ _ _ _) p3))))); refine wpQuiet_nil ?_; intro _ hw'; obtain ⟨nq, hw''⟩ := hw'; subst hw''))
            go_ret
            exact ⟨ret_bool hf'.out.symm, UpOf.of (by repeat (first | exact Below.refl _ _ | refine bl_tr ?_ _ | refine bl_al ?_ _ | refine bl_dr ?_ | refine bl_up ?_ _ | refine Below.drew ?_ | refine bl_alloc ?_ _ | refine Below.setCell ?_ (by first | (simp; done) | (simp; omega)) _))⟩
          · have hq := Lib.hid (offerOk_0 p1 (by omega) p3)
            go_wp2_with (first | (go_at_call 67; refine (ret_num (l26Wants_any _ _ _ _ _ _ _ _ (HW.out.below (by repeat (first | exact Below.refl _ _ | refine bl_tr ?_ _ | refine bl_al ?_ _ | refine bl_dr ?_ | refine bl_up ?_ _ | refine Below.drew ?_ | refine bl_alloc ?_ _ | refine Below.setCell ?_ (by first | (simp; done) | (simp; omega)) _))) (r.below (by repeat (first | exact Below.refl _ _ | refine bl_tr ?_ _ | refine bl_al ?_ _ | refine bl_dr ?_ | refine bl_up ?_ _ | refine Below.drew ?_ | refine bl_alloc ?_ _ | refine Below.setCell ?_ (by first | (simp; done) | (simp; omega)) _))) HOk hl hf) (hC1.out _ p1)).mono ?_; rintro e w' ⟨rfl, g, rfl⟩) | (go_at_call 80; refine (l00Sum_any _ _ _ _ (r.below (by repeat (first | exact Below.refl _ _ | refine bl_tr ?_ _ | refine bl_al ?_ _ | refine bl_dr ?_ | refine bl_up ?_ _ | refine Below.drew ?_ | refine bl_alloc ?_ _ | refine Below.setCell ?_ (by first | (simp; done) | (simp; omega)) _))) mb1 MB.out).mono ?_; rintro e w' ⟨rfl, g, rfl⟩) | (go_at_call 65; refine (ret_as (in_any _ _ _ _) p3).mono ?_; rintro e w' ⟨rfl, rfl⟩) | ((with_reducible refine wp_region_up (by kernel_rfl) (by kernel_rfl) ?_); (repeat (go_big_quiet_step (first | (go_at_call 67; first | exact upq_tr (ret_num (l26Wants_any _ _ _ _ _ _ _ _ (HW.out.below (by repeat (first | exact Below.refl _ _ | refine bl_tr ?_ _ | refine bl_al ?_ _ | refine bl_dr ?_ | refine bl_up ?_ _ | refine Below.drew ?_ | refine bl_alloc ?_ _ | refine Below.setCell ?_ (by first | (simp; done) | (simp; omega)) _))) (r.below (by repeat (first | exact Below.refl _ _ | refine bl_tr ?_ _ | refine bl_al ?_ _ | refine bl_dr ?_ | refine bl_up ?_ _ | refine Below.drew ?_ | refine bl_alloc ?_ _ | refine Below.setCell ?_ (by first | (simp; done) | (simp; omega)) _))) HOk hl hf) (hC1.out _ p1)) | exact upq (ret_num (l26Wants_any _ _ _ _ _ _ _ _ (HW.out.below (by repeat (first | exact Below.refl _ _ | refine bl_tr ?_ _ | refine bl_al ?_ _ | refine bl_dr ?_ | refine bl_up ?_ _ | refine Below.drew ?_ | refine bl_alloc ?_ _ | refine Below.setCell ?_ (by first | (simp; done) | (simp; omega)) _))) (r.below (by repeat (first | exact Below.refl _ _ | refine bl_tr ?_ _ | refine bl_al ?_ _ | refine bl_dr ?_ | refine bl_up ?_ _ | refine Below.drew ?_ | refine bl_alloc ?_ _ | refine Below.setCell ?_ (by first | (simp; done) | (simp; omega)) _))) HOk hl hf) (hC1.out _ p1))) | (go_at_call 80; first | exact upq_tr (l00Sum_any _ _ _ _ (r.below (by repeat (first | exact Below.refl _ _ | refine bl_tr ?_ _ | refine bl_al ?_ _ | refine bl_dr ?_ | refine bl_up ?_ _ | refine Below.drew ?_ | refine bl_alloc ?_ _ | refine Below.setCell ?_ (by first | (simp; done) | (simp; omega)) _))) mb1 MB.out) | exact upq (l00Sum_any _ _ _ _ (r.below (by repeat (first | exact Below.refl _ _ | refine bl_tr ?_ _ | refine bl_al ?_ _ | refine bl_dr ?_ | refine bl_up ?_ _ | refine Below.drew ?_ | refine bl_alloc ?_ _ | refine Below.setCell ?_ (by first | (simp; done) | (simp; omega)) _))) mb1 MB.out)) | (go_at_call 65; first | exact upq_tr_same (ret_as (in_any _ _ _ _) p3) | exact upq_same (ret_as (in_any _ _ _ _) p3))))); refine wpQuiet_nil ?_; intro _ hw'; obtain ⟨nq, hw''⟩ := hw'; subst hw''))
            go_roundw
            case rel => have hx := lt_ext (P := fun j => offerOk l (oat os j) = true) hok.out hq.out; exact ⟨k + 1, by omega, by go_num, hx, ex_up (by repeat (first | exact Below.refl _ _ | refine bl_tr ?_ _ | refine bl_al ?_ _ | refine bl_dr ?_ | refine bl_up ?_ _ | refine Below.drew ?_ | refine bl_alloc ?_ _ | refine Below.setCell ?_ (by first | (simp; done) | (simp; omega)) _))⟩
            case measure => (simp [intOf]; try omega)
      · obtain rfl : k = os.length := by omega
        by_cases h2 : os.length ≤ 8
        · have hf' := Lib.hid (vOffers_true H1.out h2 hok.out)
          go_wp2_with (first | (go_at_call 57; refine (ret_as (l26Ok_any _ _ _ _ (HW.out.below (by repeat (first | exact Below.refl _ _ | refine bl_tr ?_ _ | refine bl_al ?_ _ | refine bl_dr ?_ | refine bl_up ?_ _ | refine Below.drew ?_ | refine bl_alloc ?_ _ | refine Below.setCell ?_ (by first | (simp; done) | (simp; omega)) _))) hl hf) h1).mono ?_; rintro e w' ⟨rfl, g, rfl⟩) | ((with_reducible refine wp_region_up (by kernel_rfl) (by kernel_rfl) ?_); (repeat (go_big_quiet_step (first | (go_at_call 57; first | exact upq_tr (ret_as (l26Ok_any _ _ _ _ (HW.out.below (by repeat (first | exact Below.refl _ _ | refine bl_tr ?_ _ | refine bl_al ?_ _ | refine bl_dr ?_ | refine bl_up ?_ _ | refine Below.drew ?_ | refine bl_alloc ?_ _ | refine Below.setCell ?_ (by first | (simp; done) | (simp; omega)) _))) hl hf) h1) | exact upq (ret_as (l26Ok_any _ _ _ _ (HW.out.below (by repeat (first | exact Below.refl _ _ | refine bl_tr ?_ _ | refine bl_al ?_ _ | refine bl_dr ?_ | refine bl_up ?_ _ | refine Below.drew ?_ | refine bl_alloc ?_ _ | refine Below.setCell ?_ (by first | (simp; done) | (simp; omega)) _))) hl hf) h1))))); refine wpQuiet_nil ?_; intro _ hw'; obtain ⟨nq, hw''⟩ := hw'; subst hw''))
          go_ret
          exact ⟨ret_bool (by rw [hf'.out]; first | rfl | exact decide_eq_true (by omega)), UpOf.of (by repeat (first | exact Below.refl _ _ | refine bl_tr ?_ _ | refine bl_al ?_ _ | refine bl_dr ?_ | refine bl_up ?_ _ | refine Below.drew ?_ | refine bl_alloc ?_ _ | refine Below.setCell ?_ (by first | (simp; done) | (simp; omega)) _))⟩
        · have hf' := Lib.hid (vOffers_len (l := l) (os := os) (by omega))
          go_wp2_with (first | (go_at_call 57; refine (ret_as (l26Ok_any _ _ _ _ (HW.out.below (by repeat (first | exact Below.refl _ _ | refine bl_tr ?_ _ | refine bl_al ?_ _ | refine bl_dr ?_ | refine bl_up ?_ _ | refine Below.drew ?_ | refine bl_alloc ?_ _ | refine Below.setCell ?_ (by first | (simp; done) | (simp; omega)) _))) hl hf) h1).mono ?_; rintro e w' ⟨rfl, g, rfl⟩) | ((with_reducible refine wp_region_up (by kernel_rfl) (by kernel_rfl) ?_); (repeat (go_big_quiet_step (first | (go_at_call 57; first | exact upq_tr (ret_as (l26Ok_any _ _ _ _ (HW.out.below (by repeat (first | exact Below.refl _ _ | refine bl_tr ?_ _ | refine bl_al ?_ _ | refine bl_dr ?_ | refine bl_up ?_ _ | refine Below.drew ?_ | refine bl_alloc ?_ _ | refine Below.setCell ?_ (by first | (simp; done) | (simp; omega)) _))) hl hf) h1) | exact upq (ret_as (l26Ok_any _ _ _ _ (HW.out.below (by repeat (first | exact Below.refl _ _ | refine bl_tr ?_ _ | refine bl_al ?_ _ | refine bl_dr ?_ | refine bl_up ?_ _ | refine Below.drew ?_ | refine bl_alloc ?_ _ | refine Below.setCell ?_ (by first | (simp; done) | (simp; omega)) _))) hl hf) h1))))); refine wpQuiet_nil ?_; intro _ hw'; obtain ⟨nq, hw''⟩ := hw'; subst hw''))
          go_ret
          exact ⟨ret_bool (by rw [hf'.out]; first | rfl | exact decide_eq_false (by omega)), UpOf.of (by repeat (first | exact Below.refl _ _ | refine bl_tr ?_ _ | refine bl_al ?_ _ | refine bl_dr ?_ | refine bl_up ?_ _ | refine Below.drew ?_ | refine bl_alloc ?_ _ | refine Below.setCell ?_ (by first | (simp; done) | (simp; omega)) _))⟩
end Go.Proofs.Ytiibpldfnnhhlaa
