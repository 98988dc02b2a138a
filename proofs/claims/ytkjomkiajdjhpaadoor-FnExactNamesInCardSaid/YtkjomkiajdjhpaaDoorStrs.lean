/-
  Contracts of the laws' own functions on lists of texts (equal, marked, held). No condition but the bounds that stand at each.
-/
import Derived.Test.YtkjomkiajdjhpaaDoorRows
import Derived.Test.YtkjomkiajdjhpaaDoorMark
import Derived.Test.YtkjomkiajdjhpaaDoorStrs0
namespace Go.Proofs.YtkjomkiajdjhpaaDoor
open Go.RowKit

theorem ret_i {k : IntKind} {a b : Int} (h : a = b) : Ending.returned (.int k a) = .returned (.int k b) := by rw [h]

set_option maxRecDepth 10000 in
theorem eqStringS_any (A A' : Option Addr) (n c c' : Nat) (ss : List ByteArray) (w : World) (h : Rds w 1 A n (strs ss)) (h' : Rds w 1 A' n (strs ss)) (hn : n ≤ 100000000) :
    Calls Tryd.prog 41 #[.slice A n c, .slice A' n c'] w fun e w' => e = .returned (.bool true) ∧ UpOf w w' := by
  go_enter Tryd.func41, Tryd.ntmps41
  go_wp2_with (first | ((with_reducible refine wp_region_up (by kernel_rfl) (by kernel_rfl) ?_); (repeat (go_big_quiet_step (fail))); refine wpQuiet_nil ?_; intro _ hw'; obtain ⟨nq, hw''⟩ := hw'; subst hw''))
  go_loopw [5] (fun i wr => ∃ k : Nat, k ≤ n ∧ i = .int .i64 k ∧ ∃ g : Up w, wr = up w g) (fun i _ => n - (intOf i).toNat)
  case atStart => exact ⟨0, by omega, rfl, ⟨w, Below.refl _ _⟩, rfl⟩
  case round =>
    obtain ⟨k, hk, rfl, g, rfl⟩ := hrel
    by_cases hlt : k < n
    · obtain ⟨b, off, rfl, hb, hc⟩ := h.at (by omega)
      obtain ⟨b', off', rfl, hb', hc'⟩ := h'.at (by omega)
      have hl := h.1
      simp only [strs, List.length_map, Nat.mul_one] at hl
      have c0 : w.cell? ⟨b, off + k, none⟩ = some (.string ss[k]) := hc k _ (by simp [strs])
      have c1 : w.cell? ⟨b', off' + k, none⟩ = some (.string ss[k]) := hc' k _ (by simp [strs])
      clear hc hc' h h'
      go_wp2_with (first | ((with_reducible refine wp_region_up (by kernel_rfl) (by kernel_rfl) ?_); (repeat (go_big_quiet_step (fail))); refine wpQuiet_nil ?_; intro _ hw'; obtain ⟨nq, hw''⟩ := hw'; subst hw''))
      go_roundw
      case rel => exact ⟨k + 1, by omega, by go_num, _, rfl⟩
      case measure => simp [intOf]; omega
    · go_wp2_with (first | ((with_reducible refine wp_region_up (by kernel_rfl) (by kernel_rfl) ?_); (repeat (go_big_quiet_step (fail))); refine wpQuiet_nil ?_; intro _ hw'; obtain ⟨nq, hw''⟩ := hw'; subst hw''))
      go_ret
      exact ⟨rfl, UpOf.of (by repeat (first | exact Below.refl _ _ | refine bl_tr ?_ _ | refine bl_al ?_ _ | refine bl_dr ?_ | refine bl_up ?_ _ | refine Below.drew ?_ | refine bl_alloc ?_ _ | refine Below.setCell ?_ (by first | (simp; done) | (simp; omega)) _))⟩
/-- the texts that mark n places, from number k on -/
def marks (k n : Nat) : List ByteArray := (List.range n).map fun i => mt ((k + i : Nat) : Int)
theorem marks_get {k n i : Nat} (h : i < n) : (strs (marks k n))[i]? = some (.string (mt ((k : Int) + i))) := by
  simp [strs, marks, h]
theorem marks_len (k n : Nat) : (strs (marks k n)).length = n := by simp [strs, marks]

theorem marks_eq {k n : Nat} {ys : List Value} (hl : ys.length = n) (h : ∀ i, i < n → ys[i]? = some (.string (mt ((k : Int) + i)))) : ys = strs (marks k n) := by
  apply List.ext_getElem?
  intro i
  by_cases hi : i < n
  · rw [h i hi, marks_get hi]
  · rw [List.getElem?_eq_none (by omega), List.getElem?_eq_none (by rw [marks_len]; omega)]

set_option maxRecDepth 10000 in
theorem heldStringS_any (A : Option Addr) (n c k0 : Nat) (w : World) (h : Rds w 1 A n (strs (marks k0 n))) (hk0 : 1 ≤ k0) (hn : k0 + n < 1000000000) :
    Calls Tryd.prog 43 #[.slice A n c, .int .i64 k0] w fun e w' => e = .returned (.int .i64 ((k0 + n : Nat) : Int)) ∧ UpOf w w' := by
  go_enter Tryd.func43, Tryd.ntmps43
  go_wp2_with (first | ((with_reducible refine wp_region_up (by kernel_rfl) (by kernel_rfl) ?_); (repeat (go_big_quiet_step (fail))); refine wpQuiet_nil ?_; intro _ hw'; obtain ⟨nq, hw''⟩ := hw'; subst hw''))
  go_loopw [1, 5] (fun kk i wr => ∃ k : Nat, k ≤ n ∧ i = .int .i64 k ∧ kk = .int .i64 ((k0 : Int) + k) ∧ ∃ g : Up w, wr = up w g) (fun _ i _ => n - (intOf i).toNat)
  case atStart => exact ⟨0, by omega, rfl, by go_num, ⟨w, Below.refl _ _⟩, rfl⟩
  case round =>
    obtain ⟨k, hk, rfl, rfl, g, rfl⟩ := hrel
    by_cases hlt : k < n
    · obtain ⟨b, off, rfl, hb, hc⟩ := h.at (by omega)
      have c0 : w.cell? ⟨b, off + k, none⟩ = some (.string (mt ((k0 : Int) + k))) := hc k _ (marks_get hlt)
      clear hc h
      go_wp2_with (first | (go_at_call 70; refine (markText_any _ _ (by omega) (by omega)).mono ?_; rintro e w' ⟨rfl, g, rfl⟩) | ((with_reducible refine wp_region_up (by kernel_rfl) (by kernel_rfl) ?_); (repeat (go_big_quiet_step (first | (go_at_call 70; first | exact upq_tr (markText_any _ _ (by omega) (by omega)) | exact upq (markText_any _ _ (by omega) (by omega)))))); refine wpQuiet_nil ?_; intro _ hw'; obtain ⟨nq, hw''⟩ := hw'; subst hw''))
      go_roundw
      case rel => exact ⟨k + 1, by omega, by go_num, by go_num, _, rfl⟩
      case measure => simp [intOf]; omega
    · go_wp2_with (first | ((with_reducible refine wp_region_up (by kernel_rfl) (by kernel_rfl) ?_); (repeat (go_big_quiet_step (fail))); refine wpQuiet_nil ?_; intro _ hw'; obtain ⟨nq, hw''⟩ := hw'; subst hw''))
      go_ret
      obtain rfl : k = n := by omega
      exact ⟨ret_i (by omega), UpOf.of (by repeat (first | exact Below.refl _ _ | refine bl_tr ?_ _ | refine bl_al ?_ _ | refine bl_dr ?_ | refine bl_up ?_ _ | refine Below.drew ?_ | refine bl_alloc ?_ _ | refine Below.setCell ?_ (by first | (simp; done) | (simp; omega)) _))⟩

set_option maxRecDepth 10000 in
theorem markStringS_any (base : Nat) (A : Option Addr) (n c k0 : Nat) (xs : List Value) (w : World) (h : w.ownsRow base 9 1 (.slice A n c) n xs) (hk0 : 1 ≤ k0) (hn : k0 + n < 1000000000) :
    Calls Tryd.prog 42 #[.slice A n c, .int .i64 k0] w fun e w' => e = .returned (.int .i64 ((k0 + n : Nat) : Int)) ∧ w'.ownsRow base 9 1 (.slice A n c) n (strs (marks k0 n)) ∧ w.grownBy w' (Value.slice A n c).ownBlock := by
  go_enter Tryd.func42, Tryd.ntmps42
  go_wp2_with (first | ((with_reducible refine wp_region_up (by kernel_rfl) (by kernel_rfl) ?_); (repeat (go_big_quiet_step (fail))); refine wpQuiet_nil ?_; intro _ hw'; obtain ⟨nq, hw''⟩ := hw'; subst hw''))
  go_loopw [1, 5] (fun kk i wr => ∃ k : Nat, k ≤ n ∧ i = .int .i64 k ∧ kk = .int .i64 ((k0 : Int) + k) ∧ ∃ ys, wr.ownsRow base 9 1 (.slice A n c) n ys ∧ (∀ i, i < k → ys[i]? = some (.string (mt ((k0 : Int) + i)))) ∧ w.grownBy wr (Value.slice A n c).ownBlock) (fun _ i _ => n - (intOf i).toNat)
  case atStart => exact ⟨0, by omega, rfl, by go_num, xs, h, fun i hi => by omega, grown_refl _ _⟩
  case round =>
    obtain ⟨k, hk, rfl, rfl, ys, hown, hys, hgr⟩ := hrel
    by_cases hlt : k < n
    · obtain ⟨b, off, rfl, hb, hc⟩ := (Rds.of_own hown).at (by omega)
      obtain ⟨hb0, hb1, rfl⟩ := own_block hown rfl
      have c0 := hown.cellAt k (by omega)
      have f0 := hown.frozenAt k
      obtain ⟨u, hu⟩ : ∃ u, ys[k]? = some u := ⟨_, List.getElem?_eq_getElem (by have := hown.1; omega)⟩
      rw [hu] at c0
      have HY := Lib.hid hys
      clear hc h hys
      go_wp2_with (first | (go_at_call 70; refine (markText_any _ _ (by omega) (by omega)).mono ?_; rintro e w' ⟨rfl, g, rfl⟩) | ((with_reducible refine wp_region_up (by kernel_rfl) (by kernel_rfl) ?_); (repeat (go_big_quiet_step (first | (go_at_call 70; first | exact upq_tr (markText_any _ _ (by omega) (by omega)) | exact upq (markText_any _ _ (by omega) (by omega)))))); refine wpQuiet_nil ?_; intro _ hw'; obtain ⟨nq, hw''⟩ := hw'; subst hw''))
      go_roundw
      case rel =>
        go_light
        have hst := (own_up hown g).stored k (.string (mt ((k0 : Int) + k)))
        refine ⟨k + 1, by omega, by go_num, by go_num, _, hst.1, fun i hi => ?_, grown_trans hgr (grown_trans (grown_up g _) hst.2)⟩
        rw [List.getElem?_set]
        by_cases he : k = i
        · subst he
          rw [if_pos rfl, if_pos (by have := hown.1; omega)]
        · rw [if_neg he]
          exact HY.out i (by omega)
      case measure => simp [intOf]; omega
    · go_wp2_with (first | ((with_reducible refine wp_region_up (by kernel_rfl) (by kernel_rfl) ?_); (repeat (go_big_quiet_step (fail))); refine wpQuiet_nil ?_; intro _ hw'; obtain ⟨nq, hw''⟩ := hw'; subst hw''))
      go_ret
      obtain rfl : k = n := by omega
      have hy : ys = strs (marks k0 k) := marks_eq (by have := hown.1; omega) hys
      rw [hy] at hown
      exact ⟨ret_i (by omega), hown, hgr⟩

end Go.Proofs.YtkjomkiajdjhpaaDoor
