/-
  The laws' small helpers over lists of numbers: a2Has, a2Rises. No condition but what stands at each.
-/
import Derived.Test.YtfggbcmpgkhlaaaSrc
import Derived.Test.YtfggbcmpgkhlaaaInts
namespace Go.Proofs.Ytfggbcmpgkhlaaa
open Go.RowKit
set_option maxRecDepth 10000 in
theorem a2Has_any (A : Option Addr) (c : Nat) (l : List Int) (v : Int) (w : World) (h : Rds w 1 A l.length (ics l)) (hn : l.length ≤ 1000000) :
    Calls Try.prog 16 #[.slice A l.length c, i64 v] w fun e w' => e = .returned (.bool (l.contains v)) ∧ UpOf w w' := by
  have HR := Lib.hid h
  clear h
  go_enter Try.func16, Try.ntmps16
  go_wp2_with (first | ((with_reducible refine wp_region_up (by kernel_rfl) (by kernel_rfl) ?_); (repeat (go_big_quiet_step (fail))); refine wpQuiet_nil ?_; intro _ hw'; obtain ⟨nq, hw''⟩ := hw'; subst hw''))
  go_loopw [5] (fun i wr => ∃ (k : Nat), k ≤ l.length ∧ i = i64 k ∧ Hid (¬ v ∈ l.take k) ∧ ∃ g : Up w, wr = up w g) (fun i _ => l.length - (intOf i).toNat)
  case atStart => exact ⟨0, by omega, rfl, by simp [Hid], ex_up (by repeat (first | exact Below.refl _ _ | refine bl_tr ?_ _ | refine bl_al ?_ _ | refine bl_dr ?_ | refine bl_up ?_ _ | refine Below.drew ?_ | refine bl_alloc ?_ _ | refine Below.setCell ?_ (by first | (simp; done) | (simp; omega)) _))⟩
  case round =>
    obtain ⟨k, hk, rfl, hv, g, rfl⟩ := hrel
    by_cases hlt : k < l.length
    · obtain ⟨b, off, rfl, hbb, hcc⟩ := HR.out.at (by omega)
      have c0 := hcc k _ (ics_get hlt)
      by_cases he : l[k] = v
      · have hF := Lib.hid (show l.contains v = true by rw [List.contains_iff_mem, ← he]; exact List.getElem_mem hlt)
        clear hcc hv
        go_wp2_with (first | ((with_reducible refine wp_region_up (by kernel_rfl) (by kernel_rfl) ?_); (repeat (go_big_quiet_step (fail))); refine wpQuiet_nil ?_; intro _ hw'; obtain ⟨nq, hw''⟩ := hw'; subst hw''))
        go_ret
        exact ⟨ret_bool hF.out.symm, UpOf.of (by repeat (first | exact Below.refl _ _ | refine bl_tr ?_ _ | refine bl_al ?_ _ | refine bl_dr ?_ | refine bl_up ?_ _ | refine Below.drew ?_ | refine bl_alloc ?_ _ | refine Below.setCell ?_ (by first | (simp; done) | (simp; omega)) _))⟩
      · have hN := Lib.hid (show ¬ v ∈ l.take (k + 1) by
          rw [List.take_succ_eq_append_getElem hlt, List.mem_append, List.mem_singleton]
          rintro (h9 | h9)
          · exact hv.out h9
          · exact he h9.symm)
        clear hcc
        go_wp2_with (first | ((with_reducible refine wp_region_up (by kernel_rfl) (by kernel_rfl) ?_); (repeat (go_big_quiet_step (fail))); refine wpQuiet_nil ?_; intro _ hw'; obtain ⟨nq, hw''⟩ := hw'; subst hw''))
        go_roundw
        case rel => exact ⟨k + 1, by omega, by go_num, hN, ex_up (by repeat (first | exact Below.refl _ _ | refine bl_tr ?_ _ | refine bl_al ?_ _ | refine bl_dr ?_ | refine bl_up ?_ _ | refine Below.drew ?_ | refine bl_alloc ?_ _ | refine Below.setCell ?_ (by first | (simp; done) | (simp; omega)) _))⟩
        case measure => (simp [intOf]; try omega)
    · obtain rfl : k = l.length := by omega
      have hF := Lib.hid (show l.contains v = false by
        have := hv.out
        rw [List.take_length] at this
        rw [← Bool.not_eq_true, List.contains_iff_mem]
        exact this)
      clear hv
      go_wp2_with (first | ((with_reducible refine wp_region_up (by kernel_rfl) (by kernel_rfl) ?_); (repeat (go_big_quiet_step (fail))); refine wpQuiet_nil ?_; intro _ hw'; obtain ⟨nq, hw''⟩ := hw'; subst hw''))
      go_ret
      exact ⟨ret_bool hF.out.symm, UpOf.of (by repeat (first | exact Below.refl _ _ | refine bl_tr ?_ _ | refine bl_al ?_ _ | refine bl_dr ?_ | refine bl_up ?_ _ | refine Below.drew ?_ | refine bl_alloc ?_ _ | refine Below.setCell ?_ (by first | (simp; done) | (simp; omega)) _))⟩
def risesN (m : Int) (l : List Int) : Prop := (∀ i (h : i < l.length), 0 ≤ l[i] ∧ l[i] < m) ∧ ∀ i (h : i + 1 < l.length), l[i] < l[i + 1]
set_option maxRecDepth 10000 in
theorem a2Rises_any (A : Option Addr) (c : Nat) (l : List Int) (m : Int) (w : World) (h : Rds w 1 A l.length (ics l)) (hn : l.length ≤ 1000000) (hr : risesN m l) :
    Calls Try.prog 17 #[.slice A l.length c, i64 m] w fun e w' => e = .returned (.bool true) ∧ UpOf w w' := by
  have HR := Lib.hid h
  have HN := Lib.hid hr
  clear h hr
  go_enter Try.func17, Try.ntmps17
  go_wp2_with (first | ((with_reducible refine wp_region_up (by kernel_rfl) (by kernel_rfl) ?_); (repeat (go_big_quiet_step (fail))); refine wpQuiet_nil ?_; intro _ hw'; obtain ⟨nq, hw''⟩ := hw'; subst hw''))
  go_loopw [5] (fun i wr => ∃ (k : Nat), k ≤ l.length ∧ i = i64 k ∧ ∃ g : Up w, wr = up w g) (fun i _ => l.length - (intOf i).toNat)
  case atStart => exact ⟨0, by omega, rfl, ex_up (by repeat (first | exact Below.refl _ _ | refine bl_tr ?_ _ | refine bl_al ?_ _ | refine bl_dr ?_ | refine bl_up ?_ _ | refine Below.drew ?_ | refine bl_alloc ?_ _ | refine Below.setCell ?_ (by first | (simp; done) | (simp; omega)) _))⟩
  case round =>
    obtain ⟨k, hk, rfl, g, rfl⟩ := hrel
    by_cases hlt : k < l.length
    · obtain ⟨b, off, rfl, hbb, hcc⟩ := HR.out.at (by omega)
      have c0 := hcc k _ (ics_get hlt)
      have h1 := HN.out.1 k hlt
      have z1 : decide (l[k] < 0) = false := decide_eq_false (by omega)
      have z2 : decide (l[k] ≥ m) = false := decide_eq_false (by omega)
      rcases Nat.eq_zero_or_pos k with hk0 | hp
      · have z3 : decide (0 < k) = false := decide_eq_false (by omega)
        clear hcc hk0
        go_wp2_with (first | ((with_reducible refine wp_region_up (by kernel_rfl) (by kernel_rfl) ?_); (repeat (go_big_quiet_step (fail))); refine wpQuiet_nil ?_; intro _ hw'; obtain ⟨nq, hw''⟩ := hw'; subst hw''))
        go_roundw
        case rel => exact ⟨k + 1, by omega, by go_num, ex_up (by repeat (first | exact Below.refl _ _ | refine bl_tr ?_ _ | refine bl_al ?_ _ | refine bl_dr ?_ | refine bl_up ?_ _ | refine Below.drew ?_ | refine bl_alloc ?_ _ | refine Below.setCell ?_ (by first | (simp; done) | (simp; omega)) _))⟩
        case measure => (simp [intOf]; try omega)
      · obtain ⟨j, rfl⟩ : ∃ j, k = j + 1 := ⟨k - 1, by omega⟩
        have c1 := hcc j _ (ics_get (show j < l.length by omega))
        have h2 := HN.out.2 j hlt
        have z3 : decide (l[j] ≥ l[j + 1]) = false := decide_eq_false (by omega)
        clear hcc
        go_wp2_with (first | ((with_reducible refine wp_region_up (by kernel_rfl) (by kernel_rfl) ?_); (repeat (go_big_quiet_step (fail))); refine wpQuiet_nil ?_; intro _ hw'; obtain ⟨nq, hw''⟩ := hw'; subst hw''))
        go_roundw
        case rel => exact ⟨j + 1 + 1, by omega, by go_num, ex_up (by repeat (first | exact Below.refl _ _ | refine bl_tr ?_ _ | refine bl_al ?_ _ | refine bl_dr ?_ | refine bl_up ?_ _ | refine Below.drew ?_ | refine bl_alloc ?_ _ | refine Below.setCell ?_ (by first | (simp; done) | (simp; omega)) _))⟩
        case measure => (simp [intOf]; try omega)
    · obtain rfl : k = l.length := by omega
      go_wp2_with (first | ((with_reducible refine wp_region_up (by kernel_rfl) (by kernel_rfl) ?_); (repeat (go_big_quiet_step (fail))); refine wpQuiet_nil ?_; intro _ hw'; obtain ⟨nq, hw''⟩ := hw'; subst hw''))
      go_ret
      exact ⟨rfl, UpOf.of (by repeat (first | exact Below.refl _ _ | refine bl_tr ?_ _ | refine bl_al ?_ _ | refine bl_dr ?_ | refine bl_up ?_ _ | refine Below.drew ?_ | refine bl_alloc ?_ _ | refine Below.setCell ?_ (by first | (simp; done) | (simp; omega)) _))⟩
def longB (n m : Nat) : Bool := decide (3000 < n ∨ 3000 < m)
set_option maxRecDepth 10000 in
theorem a2Long_any (A B : Option Addr) (n m c d : Nat) (w : World) (hn : n ≤ 9223372036854775807) (hm : m ≤ 9223372036854775807) :
    Calls Try.prog 9 #[.slice A n c, .slice B m d] w fun e w' => e = .returned (.bool (longB n m)) ∧ UpOf w w' := by
  by_cases h1 : (3000 : Int) < n
  · have hd := Lib.hid (show longB n m = true from decide_eq_true (by omega))
    go_enter Try.func9, Try.ntmps9
    go_wp2_with (first | ((with_reducible refine wp_region_up (by kernel_rfl) (by kernel_rfl) ?_); (repeat (go_big_quiet_step (fail))); refine wpQuiet_nil ?_; intro _ hw'; obtain ⟨nq, hw''⟩ := hw'; subst hw''))
    go_ret
    exact ⟨ret_bool hd.out.symm, UpOf.of (by repeat (first | exact Below.refl _ _ | refine bl_tr ?_ _ | refine bl_al ?_ _ | refine bl_dr ?_ | refine bl_up ?_ _ | refine Below.drew ?_ | refine bl_alloc ?_ _ | refine Below.setCell ?_ (by first | (simp; done) | (simp; omega)) _))⟩
  · by_cases h2 : (3000 : Int) < m
    · have hd := Lib.hid (show longB n m = true from decide_eq_true (by omega))
      go_enter Try.func9, Try.ntmps9
      go_wp2_with (first | ((with_reducible refine wp_region_up (by kernel_rfl) (by kernel_rfl) ?_); (repeat (go_big_quiet_step (fail))); refine wpQuiet_nil ?_; intro _ hw'; obtain ⟨nq, hw''⟩ := hw'; subst hw''))
      go_ret
      exact ⟨ret_bool hd.out.symm, UpOf.of (by repeat (first | exact Below.refl _ _ | refine bl_tr ?_ _ | refine bl_al ?_ _ | refine bl_dr ?_ | refine bl_up ?_ _ | refine Below.drew ?_ | refine bl_alloc ?_ _ | refine Below.setCell ?_ (by first | (simp; done) | (simp; omega)) _))⟩
    · have hd := Lib.hid (show longB n m = false from decide_eq_false (by omega))
      go_enter Try.func9, Try.ntmps9
      go_wp2_with (first | ((with_reducible refine wp_region_up (by kernel_rfl) (by kernel_rfl) ?_); (repeat (go_big_quiet_step (fail))); refine wpQuiet_nil ?_; intro _ hw'; obtain ⟨nq, hw''⟩ := hw'; subst hw''))
      go_ret
      exact ⟨ret_bool hd.out.symm, UpOf.of (by repeat (first | exact Below.refl _ _ | refine bl_tr ?_ _ | refine bl_al ?_ _ | refine bl_dr ?_ | refine bl_up ?_ _ | refine Below.drew ?_ | refine bl_alloc ?_ _ | refine Below.setCell ?_ (by first | (simp; done) | (simp; omega)) _))⟩
end Go.Proofs.Ytfggbcmpgkhlaaa
