/-
  One ware: the laws' own functions on it (size, copy, equal). The bounds stand at each.
-/
import Derived.Test.YtiibpldfnnhhlaaWareP
import Derived.Test.YtiibpldfnnhhlaaApp
namespace Go.Proofs.Ytiibpldfnnhhlaa
open Go.RowKit
def wTot1 (x : Ware) : Nat := x.name.size + x.brs.length
theorem szWare_any (x : Ware) (A : Option Addr) (c : Nat) (k : Int) (w : World) (hk : 0 ≤ k) (hk1 : k ≤ 1048576) (h1 : x.name.size ≤ 9223372036854775807) (h2 : x.brs.length ≤ 9223372036854775807) :
    Calls Try.prog 54 #[.agg #[.string x.name, .slice A x.brs.length c], i64 k] w fun e w' => e = .returned (i64 (szR k (wTot1 x))) ∧ UpOf w w' := by
  have ht : Hid ((wTot1 x : Int) = x.name.size + x.brs.length) := by show (wTot1 x : Int) = _; simp [wTot1]
  by_cases q : k < x.name.size
  · go_enter Try.func54, Try.ntmps54
    go_wp2_with (first | ((with_reducible refine wp_region_up (by kernel_rfl) (by kernel_rfl) ?_); (repeat (go_big_quiet_step (fail))); refine wpQuiet_nil ?_; intro _ hw'; obtain ⟨nq, hw''⟩ := hw'; subst hw''))
    go_ret
    exact ⟨ret_int (by rw [szR_no (by have := ht.out; omega)]), UpOf.of (by repeat (first | exact Below.refl _ _ | refine bl_tr ?_ _ | refine bl_al ?_ _ | refine bl_dr ?_ | refine bl_up ?_ _ | refine Below.drew ?_ | refine bl_alloc ?_ _ | refine Below.setCell ?_ (by first | (simp; done) | (simp; omega)) _))⟩
  · by_cases q2 : k - x.name.size < x.brs.length
    · have hs : szR (k - (x.name.size : Int)) x.brs.length = -1 := szR_no q2
      go_enter Try.func54, Try.ntmps54
      go_wp2_with (first | (go_at_call 88; refine (szBreakS_any _ _ _ _ _ (by omega) (by omega) h2).mono ?_; rintro e w' ⟨rfl, g, rfl⟩) | ((with_reducible refine wp_region_up (by kernel_rfl) (by kernel_rfl) ?_); (repeat (go_big_quiet_step (first | (go_at_call 88; first | exact upq_tr (szBreakS_any _ _ _ _ _ (by omega) (by omega) h2) | exact upq (szBreakS_any _ _ _ _ _ (by omega) (by omega) h2))))); refine wpQuiet_nil ?_; intro _ hw'; obtain ⟨nq, hw''⟩ := hw'; subst hw''))
      go_ret
      exact ⟨ret_int (by rw [szR_no (by have := ht.out; omega)]), UpOf.of (by repeat (first | exact Below.refl _ _ | refine bl_tr ?_ _ | refine bl_al ?_ _ | refine bl_dr ?_ | refine bl_up ?_ _ | refine Below.drew ?_ | refine bl_alloc ?_ _ | refine Below.setCell ?_ (by first | (simp; done) | (simp; omega)) _))⟩
    · have hs : szR (k - (x.name.size : Int)) x.brs.length = k - (x.name.size : Int) - (x.brs.length : Int) := szR_ok q2
      go_enter Try.func54, Try.ntmps54
      go_wp2_with (first | (go_at_call 88; refine (szBreakS_any _ _ _ _ _ (by omega) (by omega) h2).mono ?_; rintro e w' ⟨rfl, g, rfl⟩) | ((with_reducible refine wp_region_up (by kernel_rfl) (by kernel_rfl) ?_); (repeat (go_big_quiet_step (first | (go_at_call 88; first | exact upq_tr (szBreakS_any _ _ _ _ _ (by omega) (by omega) h2) | exact upq (szBreakS_any _ _ _ _ _ (by omega) (by omega) h2))))); refine wpQuiet_nil ?_; intro _ hw'; obtain ⟨nq, hw''⟩ := hw'; subst hw''))
      go_ret
      exact ⟨ret_int (by have := ht.out; rw [szR_ok (by omega)]; omega), UpOf.of (by repeat (first | exact Below.refl _ _ | refine bl_tr ?_ _ | refine bl_al ?_ _ | refine bl_dr ?_ | refine bl_up ?_ _ | refine Below.drew ?_ | refine bl_alloc ?_ _ | refine Below.setCell ?_ (by first | (simp; done) | (simp; omega)) _))⟩
theorem own_setOld {w : World} {base : Nat} {e : TypeId} {size : Nat} {v : Value} {n : Nat} {xs : List Value} (h : w.ownsRow base e size v n xs) {p : Addr} (hp : p.block < base) (u : Value) : (w.setCell p u).ownsRow base e size v n xs := by
  refine h.kept (row := some p.block) ⟨rfl, rfl, rfl, by simp [World.setCell], fun k _ hne => Below.heap_setCell w p u k (fun e => hne (by rw [e]))⟩ ?_
  cases hv : v.ownBlock with
  | none => exact .inl rfl
  | some k =>
    refine .inr fun he => ?_
    injection he with he
    have := (h.lt k hv).1
    omega
theorem own_from {w : World} {base : Nat} {e : TypeId} {size : Nat} {v : Value} {n : Nat} {xs : List Value} (h : w.ownsRow base e size v n xs) {B : Nat} (hB : B ≤ base) : ∃ B', B ≤ B' ∧ w.ownsRow B' e size v n xs := ⟨base, hB, h⟩
theorem toWare_any (x : Ware) (A : Option Addr) (c : Nat) (w : World) (h : Rds w 2 A x.brs.length (bkcs x.brs)) (hn : x.brs.length ≤ 100000000) :
    Calls Try.prog 55 #[.agg #[.string x.name, .slice A x.brs.length c]] w fun e w' => ∃ b : Nat, e = .returned (.agg #[.string x.name, .slice (some ⟨b, 0, none⟩) x.brs.length x.brs.length]) ∧ w'.ownsRow w.heap.size 76 2 (.slice (some ⟨b, 0, none⟩) x.brs.length x.brs.length) x.brs.length (bkcs x.brs) ∧ UpOf w w' := by
  go_enter Try.func55, Try.ntmps55
  go_wp2_with fail
  refine (toBreakS_any _ _ x.brs _ (h.below (by repeat (first | exact Below.refl _ _ | refine bl_tr ?_ _ | refine bl_al ?_ _ | refine bl_dr ?_ | refine bl_up ?_ _ | refine Below.drew ?_ | refine bl_alloc ?_ _ | refine Below.setCell ?_ (by first | (simp; done) | (simp; omega)) _))) hn).mono ?_
  rintro e w' ⟨b, rfl, o, g, rfl⟩
  have o' := own_from o (B := w.heap.size + 3) (by simp)
  clear o
  obtain ⟨B, hB, o'⟩ := o'
  go_wp2_with fail
  refine bodyPost_ret (v := .agg #[.string x.name, .slice (some ⟨b, 0, none⟩) x.brs.length x.brs.length]) (by simp [results, Try.results55, go_sem]) rfl ⟨b, rfl, ?_, UpOf.of (by repeat (first | exact Below.refl _ _ | refine bl_tr ?_ _ | refine bl_al ?_ _ | refine bl_dr ?_ | refine bl_up ?_ _ | refine Below.drew ?_ | refine bl_alloc ?_ _ | refine Below.setCell ?_ (by first | (simp; done) | (simp; omega)) _))⟩
  exact own_mono (by repeat (first | exact o' | refine own_setOld ?_ (by show _ < B; simp; omega) _)) (show w.heap.size ≤ B by omega)
theorem eqWare_any (x : Ware) (A A' : Option Addr) (c c' : Nat) (w : World) (h : Rds w 2 A x.brs.length (bkcs x.brs)) (h' : Rds w 2 A' x.brs.length (bkcs x.brs)) (hn : x.brs.length ≤ 100000000) :
    Calls Try.prog 56 #[.agg #[.string x.name, .slice A x.brs.length c], .agg #[.string x.name, .slice A' x.brs.length c']] w fun e w' => e = .returned (.bool true) ∧ UpOf w w' := by
  go_enter Try.func56, Try.ntmps56
  go_wp2_with (first | (go_at_call 90; refine (eqBreakS_any _ _ _ _ x.brs _ (h.below (by repeat (first | exact Below.refl _ _ | refine bl_tr ?_ _ | refine bl_al ?_ _ | refine bl_dr ?_ | refine bl_up ?_ _ | refine Below.drew ?_ | refine bl_alloc ?_ _ | refine Below.setCell ?_ (by first | (simp; done) | (simp; omega)) _))) (h'.below (by repeat (first | exact Below.refl _ _ | refine bl_tr ?_ _ | refine bl_al ?_ _ | refine bl_dr ?_ | refine bl_up ?_ _ | refine Below.drew ?_ | refine bl_alloc ?_ _ | refine Below.setCell ?_ (by first | (simp; done) | (simp; omega)) _))) hn).mono ?_; rintro e w' ⟨rfl, g, rfl⟩) | ((with_reducible refine wp_region_up (by kernel_rfl) (by kernel_rfl) ?_); (repeat (go_big_quiet_step (first | (go_at_call 90; first | exact upq_tr (eqBreakS_any _ _ _ _ x.brs _ (h.below (by repeat (first | exact Below.refl _ _ | refine bl_tr ?_ _ | refine bl_al ?_ _ | refine bl_dr ?_ | refine bl_up ?_ _ | refine Below.drew ?_ | refine bl_alloc ?_ _ | refine Below.setCell ?_ (by first | (simp; done) | (simp; omega)) _))) (h'.below (by repeat (first | exact Below.refl _ _ | refine bl_tr ?_ _ | refine bl_al ?_ _ | refine bl_dr ?_ | refine bl_up ?_ _ | refine Below.drew ?_ | refine bl_alloc ?_ _ | refine Below.setCell ?_ (by first | (simp; done) | (simp; omega)) _))) hn) | exact upq (eqBreakS_any _ _ _ _ x.brs _ (h.below (by repeat (first | exact Below.refl _ _ | refine bl_tr ?_ _ | refine bl_al ?_ _ | refine bl_dr ?_ | refine bl_up ?_ _ | refine Below.drew ?_ | refine bl_alloc ?_ _ | refine Below.setCell ?_ (by first | (simp; done) | (simp; omega)) _))) (h'.below (by repeat (first | exact Below.refl _ _ | refine bl_tr ?_ _ | refine bl_al ?_ _ | refine bl_dr ?_ | refine bl_up ?_ _ | refine Below.drew ?_ | refine bl_alloc ?_ _ | refine Below.setCell ?_ (by first | (simp; done) | (simp; omega)) _))) hn))))); refine wpQuiet_nil ?_; intro _ hw'; obtain ⟨nq, hw''⟩ := hw'; subst hw''))
  go_ret
  exact ⟨rfl, UpOf.of (by repeat (first | exact Below.refl _ _ | refine bl_tr ?_ _ | refine bl_al ?_ _ | refine bl_dr ?_ | refine bl_up ?_ _ | refine Below.drew ?_ | refine bl_alloc ?_ _ | refine Below.setCell ?_ (by first | (simp; done) | (simp; omega)) _))⟩
end Go.Proofs.Ytiibpldfnnhhlaa
