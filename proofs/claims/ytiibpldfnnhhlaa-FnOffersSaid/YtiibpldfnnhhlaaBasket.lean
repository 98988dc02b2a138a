/-
  Baskets: numbers of wares, and what they cost together: BasketPrice of the program and of the reference. The bounds stand at each.
-/
import Derived.Test.YtiibpldfnnhhlaaPrice
import Derived.Test.YtiibpldfnnhhlaaInts
namespace Go.Proofs.Ytiibpldfnnhhlaa
open Go.RowKit
def iat (l : List Int) (i : Nat) : Int := l.getD i 0
theorem iat_eq {l : List Int} {i : Nat} (h : i < l.length) : l[i] = iat l i := by simp [iat, h]
theorem ints_at {w : World} {A : Option Addr} {l : List Int} (h : Rds w 1 A l.length (ics l)) {k : Nat} (hk : k < l.length) :
    ∃ b off, A = some ⟨b, off, none⟩ ∧ b < w.heap.size ∧ w.cell? ⟨b, off + k, none⟩ = some (i64 (iat l k)) := by
  have := int_at h rfl hk
  rwa [iat_eq hk] at this
/-- is there a number up to a greatest one for each ware -/
def isMany (l : List Ware) (many : List Int) (most : Int) : Bool := (List.range many.length).all (fun i => btw (iat many i) 0 most) && decide (many.length = l.length)
theorem isMany_at {l : List Ware} {many : List Int} {most : Int} {i : Nat} (hi : i < many.length) (h : btw (iat many i) 0 most = false) : isMany l many most = false := by
  simp only [isMany, Bool.and_eq_false_iff]
  refine .inl ?_
  rw [← Bool.not_eq_true]
  intro hc
  rw [List.all_eq_true] at hc
  have := hc i (List.mem_range.2 hi)
  simp [h] at this
theorem isMany_of {l : List Ware} {many : List Int} {most : Int} (h : ∀ i, i < many.length → btw (iat many i) 0 most = true) : isMany l many most = decide (many.length = l.length) := by
  have : (List.range many.length).all (fun i => btw (iat many i) 0 most) = true := by
    simp only [List.all_eq_true, List.mem_range]
    exact h
  rw [isMany, this, Bool.true_and]
theorem isMany_inv {l : List Ware} {many : List Int} {most : Int} (h : isMany l many most = true) : many.length = l.length ∧ ∀ i, i < many.length → 0 ≤ iat many i ∧ iat many i ≤ most := by
  simp only [isMany, Bool.and_eq_true, decide_eq_true_eq, List.all_eq_true, List.mem_range] at h
  exact ⟨h.2, fun i hi => btw_true (h.1 i hi)⟩
def bsk (l : List Ware) (many : List Int) : Nat → Int
  | 0 => 0
  | k + 1 => bsk l many k + prc (wat l k) (iat many k)
theorem bsk_bd {l : List Ware} {many : List Int} (hv : ∀ i, i < l.length → vWare (wat l i) = true) (hm : ∀ i, i < l.length → 0 ≤ iat many i ∧ iat many i ≤ 1000) (k : Nat) (hk : k ≤ l.length) : 0 ≤ bsk l many k ∧ bsk l many k ≤ 1000000000 * k := by
  induction k with
  | zero => simp [bsk]
  | succ k ih =>
    have h1 := ih (by omega)
    have h2 := hm k (by omega)
    have h3 := prc_bd (hv k (by omega)) h2.1 h2.2
    rw [bsk]
    omega
set_option maxRecDepth 10000 in
theorem areMany_any (A B : Option Addr) (c d : Nat) (l : List Ware) (many : List Int) (most : Int) (w : World) (h : Rds w 1 B many.length (ics many)) (hn : many.length ≤ 100000000) (_hl : l.length ≤ 100000000) :
    Calls Try.prog 69 #[.slice A l.length c, .slice B many.length d, i64 most] w fun e w' => e = .returned (.bool (isMany l many most)) ∧ UpOf w w' := by
  go_enter Try.func69, Try.ntmps69
  go_wp2_with (first | ((with_reducible refine wp_region_up (by kernel_rfl) (by kernel_rfl) ?_); (repeat (go_big_quiet_step (fail))); refine wpQuiet_nil ?_; intro _ hw'; obtain ⟨nq, hw''⟩ := hw'; subst hw''))
  go_loopw [11] (fun i wr => ∃ k : Nat, k ≤ many.length ∧ i = i64 k ∧ Hid (∀ j, j < k → btw (iat many j) 0 most = true) ∧ ∃ g : Up w, wr = up w g) (fun i _ => many.length - (intOf i).toNat)
  case atStart => exact ⟨0, by omega, rfl, fun i hi => by omega, ex_up (by repeat (first | exact Below.refl _ _ | refine bl_tr ?_ _ | refine bl_al ?_ _ | refine bl_dr ?_ | refine bl_up ?_ _ | refine Below.drew ?_ | refine bl_alloc ?_ _ | refine Below.setCell ?_ (by first | (simp; done) | (simp; omega)) _))⟩
  case round =>
    obtain ⟨k, hk, rfl, hok, g, rfl⟩ := hrel
    by_cases hlt : k < many.length
    · obtain ⟨b, off, rfl, hb, c0⟩ := ints_at h hlt
      cases q : btw (iat many k) 0 most
      · have hf := Lib.hid (isMany_at (l := l) hlt q)
        go_wp2_with (first | (go_at_call 63; refine (ret_as (between_any _ _ _ _) q).mono ?_; rintro e w' ⟨rfl, rfl⟩) | ((with_reducible refine wp_region_up (by kernel_rfl) (by kernel_rfl) ?_); (repeat (go_big_quiet_step (first | (go_at_call 63; first | exact upq_tr_same (ret_as (between_any _ _ _ _) q) | exact upq_same (ret_as (between_any _ _ _ _) q))))); refine wpQuiet_nil ?_; intro _ hw'; obtain ⟨nq, hw''⟩ := hw'; subst hw''))
        go_ret
        exact ⟨ret_bool hf.out.symm, UpOf.of (by repeat (first | exact Below.refl _ _ | refine bl_tr ?_ _ | refine bl_al ?_ _ | refine bl_dr ?_ | refine bl_up ?_ _ | refine Below.drew ?_ | refine bl_alloc ?_ _ | refine Below.setCell ?_ (by first | (simp; done) | (simp; omega)) _))⟩
      · have hq := Lib.hid q
        go_wp2_with (first | (go_at_call 63; refine (ret_as (between_any _ _ _ _) q).mono ?_; rintro e w' ⟨rfl, rfl⟩) | ((with_reducible refine wp_region_up (by kernel_rfl) (by kernel_rfl) ?_); (repeat (go_big_quiet_step (first | (go_at_call 63; first | exact upq_tr_same (ret_as (between_any _ _ _ _) q) | exact upq_same (ret_as (between_any _ _ _ _) q))))); refine wpQuiet_nil ?_; intro _ hw'; obtain ⟨nq, hw''⟩ := hw'; subst hw''))
        go_roundw
        case rel => have hx := lt_ext (P := fun j => btw (iat many j) 0 most = true) hok.out hq.out; exact ⟨k + 1, by omega, by go_num, hx, ex_up (by repeat (first | exact Below.refl _ _ | refine bl_tr ?_ _ | refine bl_al ?_ _ | refine bl_dr ?_ | refine bl_up ?_ _ | refine Below.drew ?_ | refine bl_alloc ?_ _ | refine Below.setCell ?_ (by first | (simp; done) | (simp; omega)) _))⟩
        case measure => (simp [intOf]; try omega)
    · obtain rfl : k = many.length := by omega
      have hf := Lib.hid (isMany_of (l := l) hok.out)
      cases q : ((many.length : Int) == (l.length : Int))
      · have hd := Lib.hid (show decide (many.length = l.length) = false from decide_eq_false (by rw [beq_eq_false_iff_ne] at q; omega))
        go_wp2_with (first | ((with_reducible refine wp_region_up (by kernel_rfl) (by kernel_rfl) ?_); (repeat (go_big_quiet_step (fail))); refine wpQuiet_nil ?_; intro _ hw'; obtain ⟨nq, hw''⟩ := hw'; subst hw''))
        go_ret
        exact ⟨ret_bool (by rw [hf.out, hd.out]), UpOf.of (by repeat (first | exact Below.refl _ _ | refine bl_tr ?_ _ | refine bl_al ?_ _ | refine bl_dr ?_ | refine bl_up ?_ _ | refine Below.drew ?_ | refine bl_alloc ?_ _ | refine Below.setCell ?_ (by first | (simp; done) | (simp; omega)) _))⟩
      · have hd := Lib.hid (show decide (many.length = l.length) = true from decide_eq_true (by rw [beq_iff_eq] at q; omega))
        go_wp2_with (first | ((with_reducible refine wp_region_up (by kernel_rfl) (by kernel_rfl) ?_); (repeat (go_big_quiet_step (fail))); refine wpQuiet_nil ?_; intro _ hw'; obtain ⟨nq, hw''⟩ := hw'; subst hw''))
        go_ret
        exact ⟨ret_bool (by rw [hf.out, hd.out]), UpOf.of (by repeat (first | exact Below.refl _ _ | refine bl_tr ?_ _ | refine bl_al ?_ _ | refine bl_dr ?_ | refine bl_up ?_ _ | refine Below.drew ?_ | refine bl_alloc ?_ _ | refine Below.setCell ?_ (by first | (simp; done) | (simp; omega)) _))⟩
/-- the code of a price list and numbers -/
def wantsC (l : List Ware) (many : List Int) (most : Int) : Int := if vWares l = true then if isMany l many most = true then 0 else 2 else 1
set_option maxRecDepth 10000 in
theorem l26Wants_any (A B : Option Addr) (c d : Nat) (l : List Ware) (many : List Int) (most : Int) (w : World) (hw : WSee w A l) (h : Rds w 1 B many.length (ics many)) (hn : many.length ≤ 100000000) (hl : l.length ≤ 100000000) (hf : WBd l) :
    Calls Try.prog 67 #[.slice A l.length c, .slice B many.length d, i64 most] w fun e w' => e = .returned (i64 (wantsC l many most)) ∧ UpOf w w' := by
  cases h1 : vWares l
  · have hC := Lib.hid (show wantsC l many most = 1 by rw [wantsC, if_neg (by simp [h1])])
    go_enter Try.func67, Try.ntmps67
    go_wp2_with (first | (go_at_call 57; refine (ret_as (l26Ok_any _ _ _ _ hw hl hf) h1).mono ?_; rintro e w' ⟨rfl, g, rfl⟩) | ((with_reducible refine wp_region_up (by kernel_rfl) (by kernel_rfl) ?_); (repeat (go_big_quiet_step (first | (go_at_call 57; first | exact upq_tr (ret_as (l26Ok_any _ _ _ _ hw hl hf) h1) | exact upq (ret_as (l26Ok_any _ _ _ _ hw hl hf) h1))))); refine wpQuiet_nil ?_; intro _ hw'; obtain ⟨nq, hw''⟩ := hw'; subst hw''))
    go_ret
    exact ⟨ret_int hC.out.symm, UpOf.of (by repeat (first | exact Below.refl _ _ | refine bl_tr ?_ _ | refine bl_al ?_ _ | refine bl_dr ?_ | refine bl_up ?_ _ | refine Below.drew ?_ | refine bl_alloc ?_ _ | refine Below.setCell ?_ (by first | (simp; done) | (simp; omega)) _))⟩
  · have hC := Lib.hid (show ∀ b, isMany l many most = b → wantsC l many most = if b = true then 0 else 2 from fun b hb => by rw [wantsC, if_pos h1, hb])
    go_enter Try.func67, Try.ntmps67
    go_wp2_with (first | (go_at_call 57; refine (ret_as (l26Ok_any _ _ _ _ hw hl hf) h1).mono ?_; rintro e w' ⟨rfl, g, rfl⟩) | ((with_reducible refine wp_region_up (by kernel_rfl) (by kernel_rfl) ?_); (repeat (go_big_quiet_step (first | (go_at_call 57; first | exact upq_tr (ret_as (l26Ok_any _ _ _ _ hw hl hf) h1) | exact upq (ret_as (l26Ok_any _ _ _ _ hw hl hf) h1))))); refine wpQuiet_nil ?_; intro _ hw'; obtain ⟨nq, hw''⟩ := hw'; subst hw''))
    clear hw h1
    go_loopw [7] (fun i wr => ∃ k : Nat, k ≤ many.length ∧ i = i64 k ∧ Hid (∀ j, j < k → btw (iat many j) 0 most = true) ∧ ∃ g : Up w, wr = up w g) (fun i _ => many.length - (intOf i).toNat)
    case atStart => exact ⟨0, by omega, rfl, fun i hi => by omega, ex_up (by repeat (first | exact Below.refl _ _ | refine bl_tr ?_ _ | refine bl_al ?_ _ | refine bl_dr ?_ | refine bl_up ?_ _ | refine Below.drew ?_ | refine bl_alloc ?_ _ | refine Below.setCell ?_ (by first | (simp; done) | (simp; omega)) _))⟩
    case round =>
      obtain ⟨k, hk, rfl, hok, g, rfl⟩ := hrel
      by_cases hlt : k < many.length
      · obtain ⟨b, off, rfl, hb, c0⟩ := ints_at h hlt
        cases q : btw (iat many k) 0 most
        · have hf := Lib.hid (hC.out _ (isMany_at (l := l) hlt q))
          go_wp2_with (first | (go_at_call 65; refine (ret_as (in_any _ _ _ _) q).mono ?_; rintro e w' ⟨rfl, rfl⟩) | ((with_reducible refine wp_region_up (by kernel_rfl) (by kernel_rfl) ?_); (repeat (go_big_quiet_step (first | (go_at_call 65; first | exact upq_tr_same (ret_as (in_any _ _ _ _) q) | exact upq_same (ret_as (in_any _ _ _ _) q))))); refine wpQuiet_nil ?_; intro _ hw'; obtain ⟨nq, hw''⟩ := hw'; subst hw''))
          go_ret
          exact ⟨ret_int hf.out.symm, UpOf.of (by repeat (first | exact Below.refl _ _ | refine bl_tr ?_ _ | refine bl_al ?_ _ | refine bl_dr ?_ | refine bl_up ?_ _ | refine Below.drew ?_ | refine bl_alloc ?_ _ | refine Below.setCell ?_ (by first | (simp; done) | (simp; omega)) _))⟩
        · have hq := Lib.hid q
          go_wp2_with (first | (go_at_call 65; refine (ret_as (in_any _ _ _ _) q).mono ?_; rintro e w' ⟨rfl, rfl⟩) | ((with_reducible refine wp_region_up (by kernel_rfl) (by kernel_rfl) ?_); (repeat (go_big_quiet_step (first | (go_at_call 65; first | exact upq_tr_same (ret_as (in_any _ _ _ _) q) | exact upq_same (ret_as (in_any _ _ _ _) q))))); refine wpQuiet_nil ?_; intro _ hw'; obtain ⟨nq, hw''⟩ := hw'; subst hw''))
          go_roundw
          case rel => have hx := lt_ext (P := fun j => btw (iat many j) 0 most = true) hok.out hq.out; exact ⟨k + 1, by omega, by go_num, hx, ex_up (by repeat (first | exact Below.refl _ _ | refine bl_tr ?_ _ | refine bl_al ?_ _ | refine bl_dr ?_ | refine bl_up ?_ _ | refine Below.drew ?_ | refine bl_alloc ?_ _ | refine Below.setCell ?_ (by first | (simp; done) | (simp; omega)) _))⟩
          case measure => (simp [intOf]; try omega)
      · obtain rfl : k = many.length := by omega
        have hf := Lib.hid (isMany_of (l := l) hok.out)
        cases q : ((many.length : Int) != (l.length : Int))
        · have hd := Lib.hid (hC.out true (by rw [hf.out]; exact decide_eq_true (by have h : ((many.length : Int) = l.length) := (by simpa using q); omega)))
          go_wp2_with (first | ((with_reducible refine wp_region_up (by kernel_rfl) (by kernel_rfl) ?_); (repeat (go_big_quiet_step (fail))); refine wpQuiet_nil ?_; intro _ hw'; obtain ⟨nq, hw''⟩ := hw'; subst hw''))
          go_ret
          exact ⟨ret_int hd.out.symm, UpOf.of (by repeat (first | exact Below.refl _ _ | refine bl_tr ?_ _ | refine bl_al ?_ _ | refine bl_dr ?_ | refine bl_up ?_ _ | refine Below.drew ?_ | refine bl_alloc ?_ _ | refine Below.setCell ?_ (by first | (simp; done) | (simp; omega)) _))⟩
        · have hd := Lib.hid (hC.out false (by rw [hf.out]; exact decide_eq_false (by have h : ¬ ((many.length : Int) = l.length) := (by simpa using q); omega)))
          go_wp2_with (first | ((with_reducible refine wp_region_up (by kernel_rfl) (by kernel_rfl) ?_); (repeat (go_big_quiet_step (fail))); refine wpQuiet_nil ?_; intro _ hw'; obtain ⟨nq, hw''⟩ := hw'; subst hw''))
          go_ret
          exact ⟨ret_int hd.out.symm, UpOf.of (by repeat (first | exact Below.refl _ _ | refine bl_tr ?_ _ | refine bl_al ?_ _ | refine bl_dr ?_ | refine bl_up ?_ _ | refine Below.drew ?_ | refine bl_alloc ?_ _ | refine Below.setCell ?_ (by first | (simp; done) | (simp; omega)) _))⟩
set_option maxRecDepth 10000 in
set_option maxHeartbeats 1000000 in
theorem basketPrice_any (A B : Option Addr) (c d : Nat) (l : List Ware) (many : List Int) (w : World) (hw : WSee w A l) (h : Rds w 1 B many.length (ics many)) (hl : l.length ≤ 30) (he : many.length = l.length)
    (hv : ∀ i, i < l.length → vWare (wat l i) = true) (hm : ∀ i, i < l.length → 0 ≤ iat many i ∧ iat many i ≤ 1000) :
    Calls Try.prog 70 #[.slice A l.length c, .slice B many.length d] w fun e w' => e = .returned (i64 (bsk l many l.length)) ∧ UpOf w w' := by
  have HV := Lib.hid hv
  have HM := Lib.hid hm
  have HB := Lib.hid (bsk_bd hv hm)
  have HE := Lib.hid he
  clear hv hm he
  go_enter Try.func70, Try.ntmps70
  go_wp2_with (first | ((with_reducible refine wp_region_up (by kernel_rfl) (by kernel_rfl) ?_); (repeat (go_big_quiet_step (fail))); refine wpQuiet_nil ?_; intro _ hw'; obtain ⟨nq, hw''⟩ := hw'; subst hw''))
  go_loopw [5, 10] (fun s i wr => ∃ k : Nat, k ≤ l.length ∧ i = i64 k ∧ s = i64 (bsk l many k) ∧ ∃ g : Up w, wr = up w g) (fun _ i _ => l.length - (intOf i).toNat)
  case atStart => exact ⟨0, by omega, rfl, rfl, ex_up (by repeat (first | exact Below.refl _ _ | refine bl_tr ?_ _ | refine bl_al ?_ _ | refine bl_dr ?_ | refine bl_up ?_ _ | refine Below.drew ?_ | refine bl_alloc ?_ _ | refine Below.setCell ?_ (by first | (simp; done) | (simp; omega)) _))⟩
  case round =>
    obtain ⟨k, hk, rfl, rfl, g, rfl⟩ := hrel
    obtain ⟨s1, s2⟩ := HB.out k hk
    by_cases hlt : k < l.length
    · obtain ⟨b, off, Ai, ci, rfl, hb, c0, c1, r⟩ := ware_at hw hlt
      have hlt2 : k < many.length := by have := HE.out; omega
      obtain ⟨b', off', rfl, hb', d0⟩ := ints_at h hlt2
      obtain ⟨m1, m2⟩ := HM.out k hlt
      obtain ⟨p1, p2⟩ := prc_bd (HV.out k hlt) m1 m2
      have hN := Lib.hid (show bsk l many (k + 1) = bsk l many k + prc (wat l k) (iat many k) from rfl)
      go_wp2_with (first | (go_at_call 64; refine (price_any _ _ _ _ _ (r.below (by repeat (first | exact Below.refl _ _ | refine bl_tr ?_ _ | refine bl_al ?_ _ | refine bl_dr ?_ | refine bl_up ?_ _ | refine Below.drew ?_ | refine bl_alloc ?_ _ | refine Below.setCell ?_ (by first | (simp; done) | (simp; omega)) _))) (HV.out k hlt) m1 m2).mono ?_; rintro e w' ⟨rfl, g, rfl⟩) | ((with_reducible refine wp_region_up (by kernel_rfl) (by kernel_rfl) ?_); (repeat (go_big_quiet_step (first | (go_at_call 64; first | exact upq_tr (price_any _ _ _ _ _ (r.below (by repeat (first | exact Below.refl _ _ | refine bl_tr ?_ _ | refine bl_al ?_ _ | refine bl_dr ?_ | refine bl_up ?_ _ | refine Below.drew ?_ | refine bl_alloc ?_ _ | refine Below.setCell ?_ (by first | (simp; done) | (simp; omega)) _))) (HV.out k hlt) m1 m2) | exact upq (price_any _ _ _ _ _ (r.below (by repeat (first | exact Below.refl _ _ | refine bl_tr ?_ _ | refine bl_al ?_ _ | refine bl_dr ?_ | refine bl_up ?_ _ | refine Below.drew ?_ | refine bl_alloc ?_ _ | refine Below.setCell ?_ (by first | (simp; done) | (simp; omega)) _))) (HV.out k hlt) m1 m2))))); refine wpQuiet_nil ?_; intro _ hw'; obtain ⟨nq, hw''⟩ := hw'; subst hw''))
      go_roundw
      case rel => exact ⟨k + 1, by omega, by go_num, by rw [hN.out], ex_up (by repeat (first | exact Below.refl _ _ | refine bl_tr ?_ _ | refine bl_al ?_ _ | refine bl_dr ?_ | refine bl_up ?_ _ | refine Below.drew ?_ | refine bl_alloc ?_ _ | refine Below.setCell ?_ (by first | (simp; done) | (simp; omega)) _))⟩
      case measure => (simp [intOf]; try omega)
    · obtain rfl : k = l.length := by omega
      go_wp2_with (first | ((with_reducible refine wp_region_up (by kernel_rfl) (by kernel_rfl) ?_); (repeat (go_big_quiet_step (fail))); refine wpQuiet_nil ?_; intro _ hw'; obtain ⟨nq, hw''⟩ := hw'; subst hw''))
      go_ret
      exact ⟨rfl, UpOf.of (by repeat (first | exact Below.refl _ _ | refine bl_tr ?_ _ | refine bl_al ?_ _ | refine bl_dr ?_ | refine bl_up ?_ _ | refine Below.drew ?_ | refine bl_alloc ?_ _ | refine Below.setCell ?_ (by first | (simp; done) | (simp; omega)) _))⟩
set_option maxRecDepth 10000 in
set_option maxHeartbeats 1000000 in
theorem l26Basket_any (A B : Option Addr) (c d : Nat) (l : List Ware) (many : List Int) (w : World) (hw : WSee w A l) (h : Rds w 1 B many.length (ics many)) (hl : l.length ≤ 30) (he : many.length = l.length)
    (hv : ∀ i, i < l.length → vWare (wat l i) = true) (hm : ∀ i, i < l.length → 0 ≤ iat many i ∧ iat many i ≤ 1000) :
    Calls Try.prog 68 #[.slice A l.length c, .slice B many.length d] w fun e w' => e = .returned (i64 (bsk l many l.length)) ∧ UpOf w w' := by
  have HV := Lib.hid hv
  have HM := Lib.hid hm
  have HB := Lib.hid (bsk_bd hv hm)
  have HE := Lib.hid he
  clear hv hm he
  go_enter Try.func68, Try.ntmps68
  go_wp2_with (first | ((with_reducible refine wp_region_up (by kernel_rfl) (by kernel_rfl) ?_); (repeat (go_big_quiet_step (fail))); refine wpQuiet_nil ?_; intro _ hw'; obtain ⟨nq, hw''⟩ := hw'; subst hw''))
  go_loopw [5, 6] (fun s i wr => ∃ k : Nat, k ≤ l.length ∧ i = i64 k ∧ s = i64 (bsk l many k) ∧ ∃ g : Up w, wr = up w g) (fun _ i _ => l.length - (intOf i).toNat)
  case atStart => exact ⟨0, by omega, rfl, rfl, ex_up (by repeat (first | exact Below.refl _ _ | refine bl_tr ?_ _ | refine bl_al ?_ _ | refine bl_dr ?_ | refine bl_up ?_ _ | refine Below.drew ?_ | refine bl_alloc ?_ _ | refine Below.setCell ?_ (by first | (simp; done) | (simp; omega)) _))⟩
  case round =>
    obtain ⟨k, hk, rfl, rfl, g, rfl⟩ := hrel
    obtain ⟨s1, s2⟩ := HB.out k hk
    by_cases hlt : k < l.length
    · obtain ⟨b, off, Ai, ci, rfl, hb, c0, c1, r⟩ := ware_at hw hlt
      have hlt2 : k < many.length := by have := HE.out; omega
      obtain ⟨b', off', rfl, hb', d0⟩ := ints_at h hlt2
      obtain ⟨m1, m2⟩ := HM.out k hlt
      obtain ⟨p1, p2⟩ := prc_bd (HV.out k hlt) m1 m2
      have hat : Hid (WAt w b (off + k * 2) (wat l k) Ai ci) := ⟨hb, c0, c1, r⟩
      have hN := Lib.hid (show bsk l many (k + 1) = bsk l many k + prc (wat l k) (iat many k) from rfl)
      go_wp2_with (first | (go_at_call 61; refine (l26Price_any _ _ _ _ _ _ _ (hat.out.below (by repeat (first | exact Below.refl _ _ | refine bl_tr ?_ _ | refine bl_al ?_ _ | refine bl_dr ?_ | refine bl_up ?_ _ | refine Below.drew ?_ | refine bl_alloc ?_ _ | refine Below.setCell ?_ (by first | (simp; done) | (simp; omega)) _))) (HV.out k hlt) m1 m2).mono ?_; rintro e w' ⟨rfl, g, rfl⟩) | ((with_reducible refine wp_region_up (by kernel_rfl) (by kernel_rfl) ?_); (repeat (go_big_quiet_step (first | (go_at_call 61; first | exact upq_tr (l26Price_any _ _ _ _ _ _ _ (hat.out.below (by repeat (first | exact Below.refl _ _ | refine bl_tr ?_ _ | refine bl_al ?_ _ | refine bl_dr ?_ | refine bl_up ?_ _ | refine Below.drew ?_ | refine bl_alloc ?_ _ | refine Below.setCell ?_ (by first | (simp; done) | (simp; omega)) _))) (HV.out k hlt) m1 m2) | exact upq (l26Price_any _ _ _ _ _ _ _ (hat.out.below (by repeat (first | exact Below.refl _ _ | refine bl_tr ?_ _ | refine bl_al ?_ _ | refine bl_dr ?_ | refine bl_up ?_ _ | refine Below.drew ?_ | refine bl_alloc ?_ _ | refine Below.setCell ?_ (by first | (simp; done) | (simp; omega)) _))) (HV.out k hlt) m1 m2))))); refine wpQuiet_nil ?_; intro _ hw'; obtain ⟨nq, hw''⟩ := hw'; subst hw''))
      go_roundw
      case rel => exact ⟨k + 1, by omega, by go_num, by rw [hN.out], ex_up (by repeat (first | exact Below.refl _ _ | refine bl_tr ?_ _ | refine bl_al ?_ _ | refine bl_dr ?_ | refine bl_up ?_ _ | refine Below.drew ?_ | refine bl_alloc ?_ _ | refine Below.setCell ?_ (by first | (simp; done) | (simp; omega)) _))⟩
      case measure => (simp [intOf]; try omega)
    · obtain rfl : k = l.length := by omega
      go_wp2_with (first | ((with_reducible refine wp_region_up (by kernel_rfl) (by kernel_rfl) ?_); (repeat (go_big_quiet_step (fail))); refine wpQuiet_nil ?_; intro _ hw'; obtain ⟨nq, hw''⟩ := hw'; subst hw''))
      go_ret
      exact ⟨rfl, UpOf.of (by repeat (first | exact Below.refl _ _ | refine bl_tr ?_ _ | refine bl_al ?_ _ | refine bl_dr ?_ | refine bl_up ?_ _ | refine Below.drew ?_ | refine bl_alloc ?_ _ | refine Below.setCell ?_ (by first | (simp; done) | (simp; omega)) _))⟩
def bskR (l : List Ware) (many : List Int) : Int × Int := if vWares l = true then if isMany l many 1000 = true then (bsk l many l.length, 0) else (0, 2) else (0, 1)
set_option maxRecDepth 10000 in
theorem basketI_any (A B : Option Addr) (c d : Nat) (l : List Ware) (many : List Int) (w : World) (hw : WSee w A l) (h : Rds w 1 B many.length (ics many)) (hn : many.length ≤ 100000000) (hl : l.length ≤ 100000000) (hf : WBd l) :
    Calls Try.prog 30 #[.slice A l.length c, .slice B many.length d] w fun e w' => e = .returned (.tuple #[i64 (bskR l many).1, i64 (bskR l many).2]) ∧ UpOf w w' := by
  cases h1 : vWares l
  · have hR := Lib.hid (show bskR l many = (0, 1) by rw [bskR, if_neg (by simp [h1])])
    go_enter Try.func30, Try.ntmps30
    go_wp2_with (first | (go_at_call 21; refine (ret_as (validWares_any _ _ _ _ hw hl hf) h1).mono ?_; rintro e w' ⟨rfl, g, rfl⟩) | ((with_reducible refine wp_region_up (by kernel_rfl) (by kernel_rfl) ?_); (repeat (go_big_quiet_step (first | (go_at_call 21; first | exact upq_tr (ret_as (validWares_any _ _ _ _ hw hl hf) h1) | exact upq (ret_as (validWares_any _ _ _ _ hw hl hf) h1))))); refine wpQuiet_nil ?_; intro _ hw'; obtain ⟨nq, hw''⟩ := hw'; subst hw''))
    go_ret2
    exact ⟨by rw [hR.out]; rfl, UpOf.of (by repeat (first | exact Below.refl _ _ | refine bl_tr ?_ _ | refine bl_al ?_ _ | refine bl_dr ?_ | refine bl_up ?_ _ | refine Below.drew ?_ | refine bl_alloc ?_ _ | refine Below.setCell ?_ (by first | (simp; done) | (simp; omega)) _))⟩
  cases h2 : isMany l many 1000
  · have hR := Lib.hid (show bskR l many = (0, 2) by rw [bskR, if_pos h1, if_neg (by simp [h2])])
    go_enter Try.func30, Try.ntmps30
    go_wp2_with (first | (go_at_call 21; refine (ret_as (validWares_any _ _ _ _ hw hl hf) h1).mono ?_; rintro e w' ⟨rfl, g, rfl⟩) | (go_at_call 69; refine (ret_as (areMany_any _ _ _ _ _ _ _ _ (h.below (by repeat (first | exact Below.refl _ _ | refine bl_tr ?_ _ | refine bl_al ?_ _ | refine bl_dr ?_ | refine bl_up ?_ _ | refine Below.drew ?_ | refine bl_alloc ?_ _ | refine Below.setCell ?_ (by first | (simp; done) | (simp; omega)) _))) hn hl) h2).mono ?_; rintro e w' ⟨rfl, g, rfl⟩) | ((with_reducible refine wp_region_up (by kernel_rfl) (by kernel_rfl) ?_); (repeat (go_big_quiet_step (first | (go_at_call 21; first | exact upq_tr (ret_as (validWares_any _ _ _ _ hw hl hf) h1) | exact upq (ret_as (validWares_any _ _ _ _ hw hl hf) h1)) | (go_at_call 69; first | exact upq_tr (ret_as (areMany_any _ _ _ _ _ _ _ _ (h.below (by repeat (first | exact Below.refl _ _ | refine bl_tr ?_ _ | refine bl_al ?_ _ | refine bl_dr ?_ | refine bl_up ?_ _ | refine Below.drew ?_ | refine bl_alloc ?_ _ | refine Below.setCell ?_ (by first | (simp; done) | (simp; omega)) _))) hn hl) h2) | exact upq (ret_as (areMany_any _ _ _ _ _ _ _ _ (h.below (by repeat (first | exact Below.refl _ _ | refine bl_tr ?_ _ | refine bl_al ?_ _ | refine bl_dr ?_ | refine bl_up ?_ _ | refine Below.drew ?_ | refine bl_alloc ?_ _ | refine Below.setCell ?_ (by first | (simp; done) | (simp; omega)) _))) hn hl) h2))))); refine wpQuiet_nil ?_; intro _ hw'; obtain ⟨nq, hw''⟩ := hw'; subst hw''))
    go_ret2
    exact ⟨by rw [hR.out]; rfl, UpOf.of (by repeat (first | exact Below.refl _ _ | refine bl_tr ?_ _ | refine bl_al ?_ _ | refine bl_dr ?_ | refine bl_up ?_ _ | refine Below.drew ?_ | refine bl_alloc ?_ _ | refine Below.setCell ?_ (by first | (simp; done) | (simp; omega)) _))⟩
  · have hR := Lib.hid (show bskR l many = (bsk l many l.length, 0) by rw [bskR, if_pos h1, if_pos h2])
    obtain ⟨he, hm⟩ := isMany_inv h2
    obtain ⟨hl30, hv⟩ := vWares_inv h1
    have HE := Lib.hid he
    have HM := Lib.hid (fun i (hi : i < l.length) => hm i (by omega))
    have HV := Lib.hid hv
    clear he hm hv
    go_enter Try.func30, Try.ntmps30
    go_wp2_with (first | (go_at_call 21; refine (ret_as (validWares_any _ _ _ _ hw hl hf) h1).mono ?_; rintro e w' ⟨rfl, g, rfl⟩) | (go_at_call 69; refine (ret_as (areMany_any _ _ _ _ _ _ _ _ (h.below (by repeat (first | exact Below.refl _ _ | refine bl_tr ?_ _ | refine bl_al ?_ _ | refine bl_dr ?_ | refine bl_up ?_ _ | refine Below.drew ?_ | refine bl_alloc ?_ _ | refine Below.setCell ?_ (by first | (simp; done) | (simp; omega)) _))) hn hl) h2).mono ?_; rintro e w' ⟨rfl, g, rfl⟩) | (go_at_call 70; refine (basketPrice_any _ _ _ _ _ _ _ (hw.below (by repeat (first | exact Below.refl _ _ | refine bl_tr ?_ _ | refine bl_al ?_ _ | refine bl_dr ?_ | refine bl_up ?_ _ | refine Below.drew ?_ | refine bl_alloc ?_ _ | refine Below.setCell ?_ (by first | (simp; done) | (simp; omega)) _))) (h.below (by repeat (first | exact Below.refl _ _ | refine bl_tr ?_ _ | refine bl_al ?_ _ | refine bl_dr ?_ | refine bl_up ?_ _ | refine Below.drew ?_ | refine bl_alloc ?_ _ | refine Below.setCell ?_ (by first | (simp; done) | (simp; omega)) _))) hl30 HE.out HV.out HM.out).mono ?_; rintro e w' ⟨rfl, g, rfl⟩) | ((with_reducible refine wp_region_up (by kernel_rfl) (by kernel_rfl) ?_); (repeat (go_big_quiet_step (first | (go_at_call 21; first | exact upq_tr (ret_as (validWares_any _ _ _ _ hw hl hf) h1) | exact upq (ret_as (validWares_any _ _ _ _ hw hl hf) h1)) | (go_at_call 69; first | exact upq_tr (ret_as (areMany_any _ _ _ _ _ _ _ _ (h.below (by repeat (first | exact Below.refl _ _ | refine bl_tr ?_ _ | refine bl_al ?_ _ | refine bl_dr ?_ | refine bl_up ?_ _ | refine Below.drew ?_ | refine bl_alloc ?_ _ | refine Below.setCell ?_ (by first | (simp; done) | (simp; omega)) _))) hn hl) h2) | exact upq (ret_as (areMany_any _ _ _ _ _ _ _ _ (h.below (by repeat (first | exact Below.refl _ _ | refine bl_tr ?_ _ | refine bl_al ?_ _ | refine bl_dr ?_ | refine bl_up ?_ _ | refine Below.drew ?_ | refine bl_alloc ?_ _ | refine Below.setCell ?_ (by first | (simp; done) | (simp; omega)) _))) hn hl) h2)) | (go_at_call 70; first | exact upq_tr (basketPrice_any _ _ _ _ _ _ _ (hw.below (by repeat (first | exact Below.refl _ _ | refine bl_tr ?_ _ | refine bl_al ?_ _ | refine bl_dr ?_ | refine bl_up ?_ _ | refine Below.drew ?_ | refine bl_alloc ?_ _ | refine Below.setCell ?_ (by first | (simp; done) | (simp; omega)) _))) (h.below (by repeat (first | exact Below.refl _ _ | refine bl_tr ?_ _ | refine bl_al ?_ _ | refine bl_dr ?_ | refine bl_up ?_ _ | refine Below.drew ?_ | refine bl_alloc ?_ _ | refine Below.setCell ?_ (by first | (simp; done) | (simp; omega)) _))) hl30 HE.out HV.out HM.out) | exact upq (basketPrice_any _ _ _ _ _ _ _ (hw.below (by repeat (first | exact Below.refl _ _ | refine bl_tr ?_ _ | refine bl_al ?_ _ | refine bl_dr ?_ | refine bl_up ?_ _ | refine Below.drew ?_ | refine bl_alloc ?_ _ | refine Below.setCell ?_ (by first | (simp; done) | (simp; omega)) _))) (h.below (by repeat (first | exact Below.refl _ _ | refine bl_tr ?_ _ | refine bl_al ?_ _ | refine bl_dr ?_ | refine bl_up ?_ _ | refine Below.drew ?_ | refine bl_alloc ?_ _ | refine Below.setCell ?_ (by first | (simp; done) | (simp; omega)) _))) hl30 HE.out HV.out HM.out))))); refine wpQuiet_nil ?_; intro _ hw'; obtain ⟨nq, hw''⟩ := hw'; subst hw''))
    go_ret2
    exact ⟨by rw [hR.out]; rfl, UpOf.of (by repeat (first | exact Below.refl _ _ | refine bl_tr ?_ _ | refine bl_al ?_ _ | refine bl_dr ?_ | refine bl_up ?_ _ | refine Below.drew ?_ | refine bl_alloc ?_ _ | refine Below.setCell ?_ (by first | (simp; done) | (simp; omega)) _))⟩
set_option maxRecDepth 10000 in
theorem basketS_any (A B : Option Addr) (c d : Nat) (l : List Ware) (many : List Int) (w : World) (hw : WSee w A l) (h : Rds w 1 B many.length (ics many)) (hn : many.length ≤ 100000000) (hl : l.length ≤ 100000000) (hf : WBd l) :
    Calls Try.prog 28 #[.slice A l.length c, .slice B many.length d] w fun e w' => e = .returned (.tuple #[i64 (bskR l many).1, i64 (bskR l many).2]) ∧ UpOf w w' := by
  cases h1 : vWares l
  · have hR := Lib.hid (show bskR l many = (0, 1) by rw [bskR, if_neg (by simp [h1])])
    have hC := Lib.hid (show wantsC l many 1000 = 1 by rw [wantsC, if_neg (by simp [h1])])
    go_enter Try.func28, Try.ntmps28
    go_wp2_with (first | (go_at_call 67; refine (ret_num (l26Wants_any _ _ _ _ _ _ _ _ hw h hn hl hf) hC.out).mono ?_; rintro e w' ⟨rfl, g, rfl⟩) | ((with_reducible refine wp_region_up (by kernel_rfl) (by kernel_rfl) ?_); (repeat (go_big_quiet_step (first | (go_at_call 67; first | exact upq_tr (ret_num (l26Wants_any _ _ _ _ _ _ _ _ hw h hn hl hf) hC.out) | exact upq (ret_num (l26Wants_any _ _ _ _ _ _ _ _ hw h hn hl hf) hC.out))))); refine wpQuiet_nil ?_; intro _ hw'; obtain ⟨nq, hw''⟩ := hw'; subst hw''))
    go_ret2
    exact ⟨by rw [hR.out]; rfl, UpOf.of (by repeat (first | exact Below.refl _ _ | refine bl_tr ?_ _ | refine bl_al ?_ _ | refine bl_dr ?_ | refine bl_up ?_ _ | refine Below.drew ?_ | refine bl_alloc ?_ _ | refine Below.setCell ?_ (by first | (simp; done) | (simp; omega)) _))⟩
  cases h2 : isMany l many 1000
  · have hR := Lib.hid (show bskR l many = (0, 2) by rw [bskR, if_pos h1, if_neg (by simp [h2])])
    have hC := Lib.hid (show wantsC l many 1000 = 2 by rw [wantsC, if_pos h1, if_neg (by simp [h2])])
    go_enter Try.func28, Try.ntmps28
    go_wp2_with (first | (go_at_call 67; refine (ret_num (l26Wants_any _ _ _ _ _ _ _ _ hw h hn hl hf) hC.out).mono ?_; rintro e w' ⟨rfl, g, rfl⟩) | ((with_reducible refine wp_region_up (by kernel_rfl) (by kernel_rfl) ?_); (repeat (go_big_quiet_step (first | (go_at_call 67; first | exact upq_tr (ret_num (l26Wants_any _ _ _ _ _ _ _ _ hw h hn hl hf) hC.out) | exact upq (ret_num (l26Wants_any _ _ _ _ _ _ _ _ hw h hn hl hf) hC.out))))); refine wpQuiet_nil ?_; intro _ hw'; obtain ⟨nq, hw''⟩ := hw'; subst hw''))
    go_ret2
    exact ⟨by rw [hR.out]; rfl, UpOf.of (by repeat (first | exact Below.refl _ _ | refine bl_tr ?_ _ | refine bl_al ?_ _ | refine bl_dr ?_ | refine bl_up ?_ _ | refine Below.drew ?_ | refine bl_alloc ?_ _ | refine Below.setCell ?_ (by first | (simp; done) | (simp; omega)) _))⟩
  · have hR := Lib.hid (show bskR l many = (bsk l many l.length, 0) by rw [bskR, if_pos h1, if_pos h2])
    have hC := Lib.hid (show wantsC l many 1000 = 0 by rw [wantsC, if_pos h1, if_pos h2])
    obtain ⟨he, hm⟩ := isMany_inv h2
    obtain ⟨hl30, hv⟩ := vWares_inv h1
    have HE := Lib.hid he
    have HM := Lib.hid (fun i (hi : i < l.length) => hm i (by omega))
    have HV := Lib.hid hv
    clear he hm hv
    go_enter Try.func28, Try.ntmps28
    go_wp2_with (first | (go_at_call 67; refine (ret_num (l26Wants_any _ _ _ _ _ _ _ _ hw h hn hl hf) hC.out).mono ?_; rintro e w' ⟨rfl, g, rfl⟩) | (go_at_call 68; refine (l26Basket_any _ _ _ _ _ _ _ (hw.below (by repeat (first | exact Below.refl _ _ | refine bl_tr ?_ _ | refine bl_al ?_ _ | refine bl_dr ?_ | refine bl_up ?_ _ | refine Below.drew ?_ | refine bl_alloc ?_ _ | refine Below.setCell ?_ (by first | (simp; done) | (simp; omega)) _))) (h.below (by repeat (first | exact Below.refl _ _ | refine bl_tr ?_ _ | refine bl_al ?_ _ | refine bl_dr ?_ | refine bl_up ?_ _ | refine Below.drew ?_ | refine bl_alloc ?_ _ | refine Below.setCell ?_ (by first | (simp; done) | (simp; omega)) _))) hl30 HE.out HV.out HM.out).mono ?_; rintro e w' ⟨rfl, g, rfl⟩) | ((with_reducible refine wp_region_up (by kernel_rfl) (by kernel_rfl) ?_); (repeat (go_big_quiet_step (first | (go_at_call 67; first | exact upq_tr (ret_num (l26Wants_any _ _ _ _ _ _ _ _ hw h hn hl hf) hC.out) | exact upq (ret_num (l26Wants_any _ _ _ _ _ _ _ _ hw h hn hl hf) hC.out)) | (go_at_call 68; first | exact upq_tr (l26Basket_any _ _ _ _ _ _ _ (hw.below (by repeat (first | exact Below.refl _ _ | refine bl_tr ?_ _ | refine bl_al ?_ _ | refine bl_dr ?_ | refine bl_up ?_ _ | refine Below.drew ?_ | refine bl_alloc ?_ _ | refine Below.setCell ?_ (by first | (simp; done) | (simp; omega)) _))) (h.below (by repeat (first | exact Below.refl _ _ | refine bl_tr ?_ _ | refine bl_al ?_ _ | refine bl_dr ?_ | refine bl_up ?_ _ | refine Below.drew ?_ | refine bl_alloc ?_ _ | refine Below.setCell ?_ (by first | (simp; done) | (simp; omega)) _))) hl30 HE.out HV.out HM.out) | exact upq (l26Basket_any _ _ _ _ _ _ _ (hw.below (by repeat (first | exact Below.refl _ _ | refine bl_tr ?_ _ | refine bl_al ?_ _ | refine bl_dr ?_ | refine bl_up ?_ _ | refine Below.drew ?_ | refine bl_alloc ?_ _ | refine Below.setCell ?_ (by first | (simp; done) | (simp; omega)) _))) (h.below (by repeat (first | exact Below.refl _ _ | refine bl_tr ?_ _ | refine bl_al ?_ _ | refine bl_dr ?_ | refine bl_up ?_ _ | refine Below.drew ?_ | refine bl_alloc ?_ _ | refine Below.setCell ?_ (by first | (simp; done) | (simp; omega)) _))) hl30 HE.out HV.out HM.out))))); refine wpQuiet_nil ?_; intro _ hw'; obtain ⟨nq, hw''⟩ := hw'; subst hw''))
    go_ret2
    exact ⟨by rw [hR.out]; rfl, UpOf.of (by repeat (first | exact Below.refl _ _ | refine bl_tr ?_ _ | refine bl_al ?_ _ | refine bl_dr ?_ | refine bl_up ?_ _ | refine Below.drew ?_ | refine bl_alloc ?_ _ | refine Below.setCell ?_ (by first | (simp; done) | (simp; omega)) _))⟩
end Go.Proofs.Ytiibpldfnnhhlaa
