/-
  The law on BasketPrice: its walk.
-/
import Derived.Test.YtiibpldfnnhhlaaBasket
import Derived.Test.YtiibpldfnnhhlaaIntsTo
namespace Go.Proofs.Ytiibpldfnnhhlaa
open Go.RowKit
theorem basketI' {l : List Ware} {many : List Int} {r0 : Int} {r1 : Int} (hL : Hid (bskR l many = (r0, r1))) (w : World) {A B : Option Addr} {c d : Nat} (hw : WSee w A l) (h : Rds w 1 B many.length (ics many)) (hb : WBd l) (hn : many.length ≤ 100000000) (hl : l.length ≤ 100000000) :
    Calls Try.prog 30 #[.slice A l.length c, .slice B many.length d] w fun e w' => e = .returned (.tuple #[i64 r0, i64 r1]) ∧ UpOf w w' := by
  have := basketI_any A B c d l many w hw h hn hl hb
  rw [hL.out] at this
  exact this
theorem basketS' {l : List Ware} {many : List Int} {r0 : Int} {r1 : Int} (hL : Hid (bskR l many = (r0, r1))) (w : World) {A B : Option Addr} {c d : Nat} (hw : WSee w A l) (h : Rds w 1 B many.length (ics many)) (hb : WBd l) (hn : many.length ≤ 100000000) (hl : l.length ≤ 100000000) :
    Calls Try.prog 28 #[.slice A l.length c, .slice B many.length d] w fun e w' => e = .returned (.tuple #[i64 r0, i64 r1]) ∧ UpOf w w' := by
  have := basketS_any A B c d l many w hw h hn hl hb
  rw [hL.out] at this
  exact this
set_option maxRecDepth 10000 in
set_option maxHeartbeats 2000000 in
theorem law_basketPrice (Al : Option Addr) (cl : Nat) (l : List Ware) (Amany : Option Addr) (cmany : Nat) (many : List Int) (w : World) (hl : WSee w Al l) (hnl : l.length ≤ 9223372036854775807) (hfl : WFit l) (hmany : Rds w 1 Amany many.length (ics many)) (hnmany : many.length ≤ 9223372036854775807) :
    Calls Try.prog 8 #[.slice Al l.length cl, .slice Amany many.length cmany] w fun e w' => e = .returned (.bool true) ∧ UpOf w w' := by
  obtain ⟨r0, r1, hL⟩ : ∃ r0 r1, bskR l many = (r0, r1) := ⟨_, _, rfl⟩
  have HL := Lib.hid hL
  clear hL
  go_enter Try.func8, Try.ntmps8
  by_cases qmany : (1048576 : Int) < (many.length : Int)
  · go_wp2_with fail
    go_ret
    exact ⟨rfl, UpOf.of (by repeat (first | exact Below.refl _ _ | refine bl_tr ?_ _ | refine bl_al ?_ _ | refine bl_dr ?_ | refine bl_up ?_ _ | refine Below.drew ?_ | refine bl_alloc ?_ _ | refine Below.setCell ?_ (by first | (simp; done) | (simp; omega)) _))⟩
  have hlmany : many.length ≤ 1048576 := by omega
  by_cases ql : (1048576 : Int) < ((wTot l : Nat) : Int)
  · have hs0 : szR (1048576) (wTot l) = -1 := szR_no ql
    go_wp2_with fail
    refine (szWareS_any _ _ _ (1048576) _ (hl.below (by repeat (first | exact Below.refl _ _ | refine bl_tr ?_ _ | refine bl_al ?_ _ | refine bl_dr ?_ | refine bl_up ?_ _ | refine Below.drew ?_ | refine bl_alloc ?_ _ | refine Below.setCell ?_ (by first | (simp; done) | (simp; omega)) _))) (by omega) (by omega) hnl hfl).mono ?_
    rintro e w' ⟨rfl, g1, rfl⟩
    go_wp2_with fail
    go_ret
    exact ⟨rfl, UpOf.of (by repeat (first | exact Below.refl _ _ | refine bl_tr ?_ _ | refine bl_al ?_ _ | refine bl_dr ?_ | refine bl_up ?_ _ | refine Below.drew ?_ | refine bl_alloc ?_ _ | refine Below.setCell ?_ (by first | (simp; done) | (simp; omega)) _))⟩
  have hsl0 : szR (1048576) (wTot l) = 1048576 - ((wTot l : Nat) : Int) := szR_ok ql
  have hzl : ((wTot l : Nat) : Int) ≤ 1048576 := by omega
  have hll : l.length ≤ 1048576 := by have := wTot_len l; omega
  have hbl := Lib.hid (wTot_bd (l := l) (by omega))
  go_wp2_with fail
  refine (szWareS_any _ _ _ (1048576) _ (hl.below (by repeat (first | exact Below.refl _ _ | refine bl_tr ?_ _ | refine bl_al ?_ _ | refine bl_dr ?_ | refine bl_up ?_ _ | refine Below.drew ?_ | refine bl_alloc ?_ _ | refine Below.setCell ?_ (by first | (simp; done) | (simp; omega)) _))) (by omega) (by omega) hnl hfl).mono ?_
  rintro e w' ⟨rfl, g2, rfl⟩
  go_wp2_with fail
  refine (toWareS_any _ _ l _ (hl.below (by repeat (first | exact Below.refl _ _ | refine bl_tr ?_ _ | refine bl_al ?_ _ | refine bl_dr ?_ | refine bl_up ?_ _ | refine Below.drew ?_ | refine bl_alloc ?_ _ | refine Below.setCell ?_ (by first | (simp; done) | (simp; omega)) _))) (by omega) (wTot_in hbl.out)).mono ?_
  rintro e w' ⟨b1, ps1, rfl, o1, g3, rfl⟩
  go_wp2_with fail
  refine (toInt64S_any _ _ many _ (hmany.below (by repeat (first | exact Below.refl _ _ | refine bl_tr ?_ _ | refine bl_al ?_ _ | refine bl_dr ?_ | refine bl_up ?_ _ | refine Below.drew ?_ | refine bl_alloc ?_ _ | refine Below.setCell ?_ (by first | (simp; done) | (simp; omega)) _))) (by omega)).mono ?_
  rintro e w' ⟨b2, rfl, o2, g4, rfl⟩
  go_wp2_with fail
  refine (basketS' HL _ (o1.see.below (by repeat (first | exact Below.refl _ _ | refine bl_tr ?_ _ | refine bl_al ?_ _ | refine bl_dr ?_ | refine bl_up ?_ _ | refine Below.drew ?_ | refine bl_alloc ?_ _ | refine Below.setCell ?_ (by first | (simp; done) | (simp; omega)) _))) ((Rds.of_own o2).below (by repeat (first | exact Below.refl _ _ | refine bl_tr ?_ _ | refine bl_al ?_ _ | refine bl_dr ?_ | refine bl_up ?_ _ | refine Below.drew ?_ | refine bl_alloc ?_ _ | refine Below.setCell ?_ (by first | (simp; done) | (simp; omega)) _))) hbl.out (by omega) (by omega)).mono ?_
  rintro e w' ⟨rfl, g5, rfl⟩
  go_wp2_with fail
  refine (toWareS_any _ _ l _ (hl.below (by repeat (first | exact Below.refl _ _ | refine bl_tr ?_ _ | refine bl_al ?_ _ | refine bl_dr ?_ | refine bl_up ?_ _ | refine Below.drew ?_ | refine bl_alloc ?_ _ | refine Below.setCell ?_ (by first | (simp; done) | (simp; omega)) _))) (by omega) (wTot_in hbl.out)).mono ?_
  rintro e w' ⟨b3, ps3, rfl, o3, g6, rfl⟩
  go_wp2_with fail
  refine (toInt64S_any _ _ many _ (hmany.below (by repeat (first | exact Below.refl _ _ | refine bl_tr ?_ _ | refine bl_al ?_ _ | refine bl_dr ?_ | refine bl_up ?_ _ | refine Below.drew ?_ | refine bl_alloc ?_ _ | refine Below.setCell ?_ (by first | (simp; done) | (simp; omega)) _))) (by omega)).mono ?_
  rintro e w' ⟨b4, rfl, o4, g7, rfl⟩
  go_wp2_with fail
  refine (basketI' HL _ (o3.see.below (by repeat (first | exact Below.refl _ _ | refine bl_tr ?_ _ | refine bl_al ?_ _ | refine bl_dr ?_ | refine bl_up ?_ _ | refine Below.drew ?_ | refine bl_alloc ?_ _ | refine Below.setCell ?_ (by first | (simp; done) | (simp; omega)) _))) ((Rds.of_own o4).below (by repeat (first | exact Below.refl _ _ | refine bl_tr ?_ _ | refine bl_al ?_ _ | refine bl_dr ?_ | refine bl_up ?_ _ | refine Below.drew ?_ | refine bl_alloc ?_ _ | refine Below.setCell ?_ (by first | (simp; done) | (simp; omega)) _))) hbl.out (by omega) (by omega)).mono ?_
  rintro e w' ⟨rfl, g8, rfl⟩
  go_wp2_with fail
  refine (toWareS_any _ _ l _ (hl.below (by repeat (first | exact Below.refl _ _ | refine bl_tr ?_ _ | refine bl_al ?_ _ | refine bl_dr ?_ | refine bl_up ?_ _ | refine Below.drew ?_ | refine bl_alloc ?_ _ | refine Below.setCell ?_ (by first | (simp; done) | (simp; omega)) _))) (by omega) (wTot_in hbl.out)).mono ?_
  rintro e w' ⟨b5, ps5, rfl, o5, g9, rfl⟩
  go_wp2_with fail
  refine (eqWareS_any _ _ _ _ l _ (o3.see.below (by repeat (first | exact Below.refl _ _ | refine bl_tr ?_ _ | refine bl_al ?_ _ | refine bl_dr ?_ | refine bl_up ?_ _ | refine Below.drew ?_ | refine bl_alloc ?_ _ | refine Below.setCell ?_ (by first | (simp; done) | (simp; omega)) _))) (o5.see.below (by repeat (first | exact Below.refl _ _ | refine bl_tr ?_ _ | refine bl_al ?_ _ | refine bl_dr ?_ | refine bl_up ?_ _ | refine Below.drew ?_ | refine bl_alloc ?_ _ | refine Below.setCell ?_ (by first | (simp; done) | (simp; omega)) _))) (by omega) (wTot_in hbl.out)).mono ?_
  rintro e w' ⟨rfl, g10, rfl⟩
  go_wp2_with fail
  refine (toInt64S_any _ _ many _ (hmany.below (by repeat (first | exact Below.refl _ _ | refine bl_tr ?_ _ | refine bl_al ?_ _ | refine bl_dr ?_ | refine bl_up ?_ _ | refine Below.drew ?_ | refine bl_alloc ?_ _ | refine Below.setCell ?_ (by first | (simp; done) | (simp; omega)) _))) (by omega)).mono ?_
  rintro e w' ⟨b6, rfl, o6, g11, rfl⟩
  go_wp2_with fail
  refine (eqInt64S_any _ _ _ _ many _ ((Rds.of_own o4).below (by repeat (first | exact Below.refl _ _ | refine bl_tr ?_ _ | refine bl_al ?_ _ | refine bl_dr ?_ | refine bl_up ?_ _ | refine Below.drew ?_ | refine bl_alloc ?_ _ | refine Below.setCell ?_ (by first | (simp; done) | (simp; omega)) _))) ((Rds.of_own o6).below (by repeat (first | exact Below.refl _ _ | refine bl_tr ?_ _ | refine bl_al ?_ _ | refine bl_dr ?_ | refine bl_up ?_ _ | refine Below.drew ?_ | refine bl_alloc ?_ _ | refine Below.setCell ?_ (by first | (simp; done) | (simp; omega)) _))) (by omega)).mono ?_
  rintro e w' ⟨rfl, g12, rfl⟩
  go_wp2_with fail
  go_ret
  exact ⟨rfl, UpOf.of (by repeat (first | exact Below.refl _ _ | refine bl_tr ?_ _ | refine bl_al ?_ _ | refine bl_dr ?_ | refine bl_up ?_ _ | refine Below.drew ?_ | refine bl_alloc ?_ _ | refine Below.setCell ?_ (by first | (simp; done) | (simp; omega)) _))⟩
end Go.Proofs.Ytiibpldfnnhhlaa
