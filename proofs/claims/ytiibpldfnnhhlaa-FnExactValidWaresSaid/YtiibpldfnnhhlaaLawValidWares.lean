/-
  The law on ValidWares: its walk.
-/
import Derived.Test.YtiibpldfnnhhlaaWare2
namespace Go.Proofs.Ytiibpldfnnhhlaa
open Go.RowKit
theorem bI {l : List Ware} {r : Bool} (hL : Hid (vWares l = r)) (w : World) {A : Option Addr} {c : Nat} (h : WSee w A l) (hb : WBd l) (hn : l.length ≤ 100000000) :
    Calls Try.prog 21 #[.slice A l.length c] w fun e w' => e = .returned (.bool r) ∧ UpOf w w' := by
  have := validWares_any A c l w h hn hb
  rwa [hL.out] at this
theorem bS {l : List Ware} {r : Bool} (hL : Hid (vWares l = r)) (w : World) {A : Option Addr} {c : Nat} (h : WSee w A l) (hb : WBd l) (hn : l.length ≤ 100000000) :
    Calls Try.prog 20 #[.slice A l.length c] w fun e w' => e = .returned (.bool r) ∧ UpOf w w' := by
  have hS := l26Ok_any A c l
  go_enter Try.func20, Try.ntmps20
  go_wp2_with (first | (go_at_call 57; refine (hS _ h hn hb).mono ?_; rintro e w' ⟨rfl, g, rfl⟩) | ((with_reducible refine wp_region_up (by kernel_rfl) (by kernel_rfl) ?_); (repeat (go_big_quiet_step (first | (go_at_call 57; first | exact upq_tr (hS _ h hn hb) | exact upq (hS _ h hn hb))))); refine wpQuiet_nil ?_; intro _ hw'; obtain ⟨nq, hw''⟩ := hw'; subst hw''))
  go_ret
  exact ⟨ret_bool hL.out, UpOf.of (by repeat (first | exact Below.refl _ _ | refine bl_tr ?_ _ | refine bl_al ?_ _ | refine bl_dr ?_ | refine bl_up ?_ _ | refine Below.drew ?_ | refine bl_alloc ?_ _ | refine Below.setCell ?_ (by first | (simp; done) | (simp; omega)) _))⟩

set_option maxRecDepth 10000 in
set_option maxHeartbeats 2000000 in
theorem law_validWares (Al : Option Addr) (cl : Nat) (l : List Ware) (w : World) (hl : WSee w Al l) (hnl : l.length ≤ 9223372036854775807) (hfl : WFit l) :
    Calls Try.prog 4 #[.slice Al l.length cl] w fun e w' => e = .returned (.bool true) ∧ UpOf w w' := by
  obtain ⟨r0, hL⟩ : ∃ r0, vWares l = r0 := ⟨_, rfl⟩
  have HL := Lib.hid hL
  clear hL
  go_enter Try.func4, Try.ntmps4
  by_cases ql : (1048576 : Int) < ((wTot l : Nat) : Int)
  · have hs0 : szR (1048576) (wTot l) = -1 := szR_no ql
    go_wp2_with fail
    refine (szWareS_any _ _ _ (1048576) _ (hl.below (by repeat (first | exact Below.refl _ _ | refine bl_tr ?_ _ | refine bl_al ?_ _ | refine bl_dr ?_ | refine bl_up ?_ _ | refine Below.drew ?_ | refine bl_alloc ?_ _ | refine Below.setCell ?_ (by first | (simp; done) | (simp; omega)) _))) (by omega) (by omega) hnl hfl).mono ?_
    rintro e w' ⟨rfl, g1, rfl⟩
    go_wp2_with fail
    go_ret
    exact ⟨rfl, UpOf.of (by repeat (first | exact Below.refl _ _ | refine bl_tr ?_ _ | refine bl_al ?_ _ | refine bl_dr ?_ | refine bl_up ?_ _ | refine Below.drew ?_ | refine bl_alloc ?_ _ | refine Below.setCell ?_ (by first | (simp; done) | (simp; omega)) _))⟩
  have hsl0 : szR (1048576) (wTot l) = 1048576 - ((wTot l : Nat) : Int) := szR_ok ql
  have hzl : ((wTot l : Nat) : Int) ≤ 1048576 := by omega
  have hll : l.length ≤ 1048576 := by have := wTot_len l; omega
  have hbl := Lib.hid (wTot_bd (l := l) (by omega))
  go_wp2_with fail
  refine (szWareS_any _ _ _ (1048576) _ (hl.below (by repeat (first | exact Below.refl _ _ | refine bl_tr ?_ _ | refine bl_al ?_ _ | refine bl_dr ?_ | refine bl_up ?_ _ | refine Below.drew ?_ | refine bl_alloc ?_ _ | refine Below.setCell ?_ (by first | (simp; done) | (simp; omega)) _))) (by omega) (by omega) hnl hfl).mono ?_
  rintro e w' ⟨rfl, g2, rfl⟩
  go_wp2_with fail
  refine (toWareS_any _ _ l _ (hl.below (by repeat (first | exact Below.refl _ _ | refine bl_tr ?_ _ | refine bl_al ?_ _ | refine bl_dr ?_ | refine bl_up ?_ _ | refine Below.drew ?_ | refine bl_alloc ?_ _ | refine Below.setCell ?_ (by first | (simp; done) | (simp; omega)) _))) (by omega) (wTot_in hbl.out)).mono ?_
  rintro e w' ⟨b1, ps1, rfl, o1, g3, rfl⟩
  go_wp2_with fail
  refine (bS HL _ (o1.see.below (by repeat (first | exact Below.refl _ _ | refine bl_tr ?_ _ | refine bl_al ?_ _ | refine bl_dr ?_ | refine bl_up ?_ _ | refine Below.drew ?_ | refine bl_alloc ?_ _ | refine Below.setCell ?_ (by first | (simp; done) | (simp; omega)) _))) hbl.out (by omega)).mono ?_
  rintro e w' ⟨rfl, g4, rfl⟩
  go_wp2_with fail
  refine (toWareS_any _ _ l _ (hl.below (by repeat (first | exact Below.refl _ _ | refine bl_tr ?_ _ | refine bl_al ?_ _ | refine bl_dr ?_ | refine bl_up ?_ _ | refine Below.drew ?_ | refine bl_alloc ?_ _ | refine Below.setCell ?_ (by first | (simp; done) | (simp; omega)) _))) (by omega) (wTot_in hbl.out)).mono ?_
  rintro e w' ⟨b2, ps2, rfl, o2, g5, rfl⟩
  go_wp2_with fail
  refine (bI HL _ (o2.see.below (by repeat (first | exact Below.refl _ _ | refine bl_tr ?_ _ | refine bl_al ?_ _ | refine bl_dr ?_ | refine bl_up ?_ _ | refine Below.drew ?_ | refine bl_alloc ?_ _ | refine Below.setCell ?_ (by first | (simp; done) | (simp; omega)) _))) hbl.out (by omega)).mono ?_
  rintro e w' ⟨rfl, g6, rfl⟩
  go_wp2_with fail
  refine (toWareS_any _ _ l _ (hl.below (by repeat (first | exact Below.refl _ _ | refine bl_tr ?_ _ | refine bl_al ?_ _ | refine bl_dr ?_ | refine bl_up ?_ _ | refine Below.drew ?_ | refine bl_alloc ?_ _ | refine Below.setCell ?_ (by first | (simp; done) | (simp; omega)) _))) (by omega) (wTot_in hbl.out)).mono ?_
  rintro e w' ⟨b3, ps3, rfl, o3, g7, rfl⟩
  go_wp2_with fail
  refine (eqWareS_any _ _ _ _ l _ (o2.see.below (by repeat (first | exact Below.refl _ _ | refine bl_tr ?_ _ | refine bl_al ?_ _ | refine bl_dr ?_ | refine bl_up ?_ _ | refine Below.drew ?_ | refine bl_alloc ?_ _ | refine Below.setCell ?_ (by first | (simp; done) | (simp; omega)) _))) (o3.see.below (by repeat (first | exact Below.refl _ _ | refine bl_tr ?_ _ | refine bl_al ?_ _ | refine bl_dr ?_ | refine bl_up ?_ _ | refine Below.drew ?_ | refine bl_alloc ?_ _ | refine Below.setCell ?_ (by first | (simp; done) | (simp; omega)) _))) (by omega) (wTot_in hbl.out)).mono ?_
  rintro e w' ⟨rfl, g8, rfl⟩
  go_wp2_with fail
  go_ret
  exact ⟨rfl, UpOf.of (by repeat (first | exact Below.refl _ _ | refine bl_tr ?_ _ | refine bl_al ?_ _ | refine bl_dr ?_ | refine bl_up ?_ _ | refine Below.drew ?_ | refine bl_alloc ?_ _ | refine Below.setCell ?_ (by first | (simp; done) | (simp; omega)) _))⟩
end Go.Proofs.Ytiibpldfnnhhlaa
