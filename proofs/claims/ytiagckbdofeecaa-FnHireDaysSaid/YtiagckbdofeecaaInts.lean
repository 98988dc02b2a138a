/-
  Contracts of the laws' own functions on lists of numbers (equal, marked, held). No condition but the bounds that stand at each.
-/
import Derived.Test.YtiagckbdofeecaaRows
import Derived.Test.YtiagckbdofeecaaFlat
namespace Go.Proofs.Ytiagckbdofeecaa
open Go.RowKit
def ics (l : List Int) : List Value := l.map i64
theorem ics_len (l : List Int) : (ics l).length = l.length := by simp [ics]
theorem ics_get {l : List Int} {k : Nat} (h : k < l.length) : (ics l)[k]? = some (i64 l[k]) := by simp [ics, h]
theorem int_at {w : World} {A : Option Addr} {l : List Int} {n : Nat} (h : Rds w 1 A n (ics l)) (hn : n = l.length) {k : Nat} (hk : k < l.length) :
    ∃ b off, A = some ⟨b, off, none⟩ ∧ b < w.heap.size ∧ w.cell? ⟨b, off + k, none⟩ = some (i64 l[k]) := by
  obtain ⟨b, off, e, hb, hc⟩ := h.at (by omega)
  exact ⟨b, off, e, hb, hc k _ (ics_get hk)⟩
theorem ics_ext {ys : List Value} {l : List Int} (hl : ys.length = l.length) (h : ∀ i (hi : i < l.length), ys[i]? = some (i64 l[i])) : ys = ics l := by
  refine List.ext_getElem? fun i => ?_
  by_cases hi : i < l.length
  · rw [h i hi, ics_get hi]
  · rw [List.getElem?_eq_none (by omega), List.getElem?_eq_none (by rw [ics_len]; omega)]
set_option maxRecDepth 10000 in
theorem eqInt64S_any (A A' : Option Addr) (c c' : Nat) (l : List Int) (w : World) (h : Rds w 1 A l.length (ics l)) (h' : Rds w 1 A' l.length (ics l)) (hn : l.length ≤ 100000000) :
    Calls Try.prog 28 #[.slice A l.length c, .slice A' l.length c'] w fun e w' => e = .returned (.bool true) ∧ UpOf w w' := by
  go_enter Try.func28, Try.ntmps28
  go_wp2_with (first | ((with_reducible refine wp_region_up (by kernel_rfl) (by kernel_rfl) ?_); (repeat (go_big_quiet_step (fail))); refine wpQuiet_nil ?_; intro _ hw'; obtain ⟨nq, hw''⟩ := hw'; subst hw''))
  go_loopw [5] (fun i wr => ∃ k : Nat, k ≤ l.length ∧ i = i64 k ∧ ∃ g : Up w, wr = up w g) (fun i _ => l.length - (intOf i).toNat)
  case atStart => exact ⟨0, by omega, rfl, ex_up (by repeat (first | exact Below.refl _ _ | refine bl_tr ?_ _ | refine bl_al ?_ _ | refine bl_dr ?_ | refine bl_up ?_ _ | refine Below.drew ?_ | refine bl_alloc ?_ _ | refine Below.setCell ?_ (by first | (simp; done) | (simp; omega)) _))⟩
  case round =>
    obtain ⟨k, hk, rfl, g, rfl⟩ := hrel
    by_cases hlt : k < l.length
    · obtain ⟨b, off, rfl, hb, c0⟩ := int_at h rfl hlt
      obtain ⟨b', off', rfl, hb', d0⟩ := int_at h' rfl hlt
      clear h h'
      go_wp2_with (first | ((with_reducible refine wp_region_up (by kernel_rfl) (by kernel_rfl) ?_); (repeat (go_big_quiet_step (fail))); refine wpQuiet_nil ?_; intro _ hw'; obtain ⟨nq, hw''⟩ := hw'; subst hw''))
      go_roundw
      case rel => exact ⟨k + 1, by omega, by go_num, ex_up (by repeat (first | exact Below.refl _ _ | refine bl_tr ?_ _ | refine bl_al ?_ _ | refine bl_dr ?_ | refine bl_up ?_ _ | refine Below.drew ?_ | refine bl_alloc ?_ _ | refine Below.setCell ?_ (by first | (simp; done) | (simp; omega)) _))⟩
      case measure => (simp [intOf]; try omega)
    · go_wp2_with (first | ((with_reducible refine wp_region_up (by kernel_rfl) (by kernel_rfl) ?_); (repeat (go_big_quiet_step (fail))); refine wpQuiet_nil ?_; intro _ hw'; obtain ⟨nq, hw''⟩ := hw'; subst hw''))
      go_ret
      exact ⟨rfl, UpOf.of (by repeat (first | exact Below.refl _ _ | refine bl_tr ?_ _ | refine bl_al ?_ _ | refine bl_dr ?_ | refine bl_up ?_ _ | refine Below.drew ?_ | refine bl_alloc ?_ _ | refine Below.setCell ?_ (by first | (simp; done) | (simp; omega)) _))⟩
/-- the numbers that mark n places, from number k on -/
def mi (k n : Nat) : List Int := (List.range n).map fun (i : Nat) => (k : Int) + i
theorem mi_len (k n : Nat) : (mi k n).length = n := by simp [mi]
theorem mi_get {k n i : Nat} (h : i < (mi k n).length) : (mi k n)[i] = (k : Int) + i := by simp [mi]
set_option maxRecDepth 10000 in
theorem heldInt64S_any (A : Option Addr) (n c k0 : Nat) (w : World) (h : Rds w 1 A n (ics (mi k0 n))) (hk0 : 1 ≤ k0) (hn : k0 + n < 1000000000) :
    Calls Try.prog 30 #[.slice A n c, i64 k0] w fun e w' => e = .returned (i64 ((k0 + n : Nat) : Int)) ∧ UpOf w w' := by
  go_enter Try.func30, Try.ntmps30
  go_wp2_with (first | ((with_reducible refine wp_region_up (by kernel_rfl) (by kernel_rfl) ?_); (repeat (go_big_quiet_step (fail))); refine wpQuiet_nil ?_; intro _ hw'; obtain ⟨nq, hw''⟩ := hw'; subst hw''))
  go_loopw [1, 5] (fun kk i wr => ∃ k : Nat, k ≤ n ∧ i = i64 k ∧ kk = i64 ((k0 : Int) + k) ∧ ∃ g : Up w, wr = up w g) (fun _ i _ => n - (intOf i).toNat)
  case atStart => exact ⟨0, by omega, rfl, by go_num, ex_up (by repeat (first | exact Below.refl _ _ | refine bl_tr ?_ _ | refine bl_al ?_ _ | refine bl_dr ?_ | refine bl_up ?_ _ | refine Below.drew ?_ | refine bl_alloc ?_ _ | refine Below.setCell ?_ (by first | (simp; done) | (simp; omega)) _))⟩
  case round =>
    obtain ⟨k, hk, rfl, rfl, g, rfl⟩ := hrel
    by_cases hlt : k < n
    · obtain ⟨b, off, rfl, hb, c0⟩ := int_at h (by rw [mi_len]) (k := k) (by rw [mi_len]; exact hlt)
      rw [mi_get] at c0
      clear h
      go_wp2_with (first | ((with_reducible refine wp_region_up (by kernel_rfl) (by kernel_rfl) ?_); (repeat (go_big_quiet_step (fail))); refine wpQuiet_nil ?_; intro _ hw'; obtain ⟨nq, hw''⟩ := hw'; subst hw''))
      go_roundw
      case rel => exact ⟨k + 1, by omega, by go_num, by go_num, ex_up (by repeat (first | exact Below.refl _ _ | refine bl_tr ?_ _ | refine bl_al ?_ _ | refine bl_dr ?_ | refine bl_up ?_ _ | refine Below.drew ?_ | refine bl_alloc ?_ _ | refine Below.setCell ?_ (by first | (simp; done) | (simp; omega)) _))⟩
      case measure => (simp [intOf]; try omega)
    · go_wp2_with (first | ((with_reducible refine wp_region_up (by kernel_rfl) (by kernel_rfl) ?_); (repeat (go_big_quiet_step (fail))); refine wpQuiet_nil ?_; intro _ hw'; obtain ⟨nq, hw''⟩ := hw'; subst hw''))
      go_ret
      obtain rfl : k = n := by omega
      exact ⟨ret_int (by omega), UpOf.of (by repeat (first | exact Below.refl _ _ | refine bl_tr ?_ _ | refine bl_al ?_ _ | refine bl_dr ?_ | refine bl_up ?_ _ | refine Below.drew ?_ | refine bl_alloc ?_ _ | refine Below.setCell ?_ (by first | (simp; done) | (simp; omega)) _))⟩
theorem set1_get {l : List Int} {ys : List Value} {k i n : Nat} (hys : ∀ i (hi : i < l.length), i < k → ys[i]? = some (i64 l[i])) (hlen : ys.length = n) (hi : i < l.length) (hik : i < k + 1) (hk : k < n) {x : Int}
    (he : ∀ (hk : k < l.length), l[k] = x) : (ys.set k (i64 x))[i]? = some (i64 l[i]) := by
  by_cases hik' : i = k
  · subst hik'
    rw [he hi, List.getElem?_set_self (by omega)]
  · rw [List.getElem?_set_ne (by omega)]
    exact hys i hi (by omega)
set_option maxRecDepth 10000 in
theorem markInt64S_any (base : Nat) (A : Option Addr) (n c k0 : Nat) (xs : List Value) (w : World) (h : w.ownsRow base 2 1 (.slice A n c) n xs) (hk0 : 1 ≤ k0) (hn : k0 + n < 1000000000) :
    Calls Try.prog 29 #[.slice A n c, i64 k0] w fun e w' => e = .returned (i64 ((k0 + n : Nat) : Int)) ∧ w'.ownsRow base 2 1 (.slice A n c) n (ics (mi k0 n)) ∧ w.grownBy w' (Value.slice A n c).ownBlock := by
  go_enter Try.func29, Try.ntmps29
  go_wp2_with (first | ((with_reducible refine wp_region_up (by kernel_rfl) (by kernel_rfl) ?_); (repeat (go_big_quiet_step (fail))); refine wpQuiet_nil ?_; intro _ hw'; obtain ⟨nq, hw''⟩ := hw'; subst hw''))
  go_loopw [1, 5] (fun kk i wr => ∃ k : Nat, k ≤ n ∧ i = i64 k ∧ kk = i64 ((k0 : Int) + k) ∧ ∃ ys, wr.ownsRow base 2 1 (.slice A n c) n ys ∧
      (∀ i (hi : i < (mi k0 n).length), i < k → ys[i]? = some (i64 (mi k0 n)[i])) ∧ w.grownBy wr (Value.slice A n c).ownBlock) (fun _ i _ => n - (intOf i).toNat)
  case atStart => exact ⟨0, by omega, rfl, by go_num, xs, h, fun i hi h0 => by omega, grown_refl _ _⟩
  case round =>
    obtain ⟨k, hk, rfl, rfl, ys, hown, hys, hgr⟩ := hrel
    by_cases hlt : k < n
    · obtain ⟨b, off, rfl, hb, hc⟩ := (Rds.of_own hown).at (by omega)
      obtain ⟨hb0, hb1, rfl⟩ := own_block hown rfl
      have hlen := hown.1
      have d0 := hown.cellAt k (by omega)
      rw [List.getElem?_eq_getElem (by omega)] at d0
      have f0 := fun i => hown.frozenAt i
      have HY := Lib.hid hys
      clear hc h hys
      go_wp2_with (first | ((with_reducible refine wp_region_up (by kernel_rfl) (by kernel_rfl) ?_); (repeat (go_big_quiet_step (fail))); refine wpQuiet_nil ?_; intro _ hw'; obtain ⟨nq, hw''⟩ := hw'; subst hw''))
      go_roundw
      case rel =>
        go_light
        have s1 := hown.stored k (i64 ((k0 : Int) + k))
        refine ⟨k + 1, by omega, by go_num, by go_num, _, s1.1, fun i hi hik => set1_get HY.out (by omega) hi hik hlt (fun hk => mi_get hk), ?_⟩
        exact grown_trans hgr s1.2
      case measure => (simp [intOf]; try omega)
    · go_wp2_with (first | ((with_reducible refine wp_region_up (by kernel_rfl) (by kernel_rfl) ?_); (repeat (go_big_quiet_step (fail))); refine wpQuiet_nil ?_; intro _ hw'; obtain ⟨nq, hw''⟩ := hw'; subst hw''))
      go_ret
      obtain rfl : k = n := by omega
      have hy : ys = ics (mi k0 k) := ics_ext (by rw [mi_len]; have := hown.1; omega) (fun i hi => hys i hi (by rw [mi_len] at hi; exact hi))
      rw [hy] at hown
      exact ⟨ret_int (by omega), hown, hgr⟩
end Go.Proofs.Ytiagckbdofeecaa
