/-
  The law on SameWares: its walk.
-/
import Derived.Test.YtiibpldfnnhhlaaSame
namespace Go.Proofs.Ytiibpldfnnhhlaa
open Go.RowKit
theorem sameI' {x y : List Ware} {r0 : Bool} (hL : Hid (sameR x y = r0)) (w : World) {A B : Option Addr} {c d : Nat} (ha : WSee w A x) (hb : WSee w B y) (hfa : WBd x) (hfb : WBd y) (hn : x.length ≤ 100000000) (hm : y.length ≤ 100000000) :
    Calls Try.prog 18 #[.slice A x.length c, .slice B y.length d] w fun e w' => e = .returned (.bool r0) ∧ UpOf w w' := by
  have := sameI_any A B c d x y w ha hb hn hm hfa hfb
  rw [hL.out] at this
  exact this
theorem sameS' {x y : List Ware} {r0 : Bool} (hL : Hid (sameR x y = r0)) (w : World) {A B : Option Addr} {c d : Nat} (ha : WSee w A x) (hb : WSee w B y) (hfa : WBd x) (hfb : WBd y) (hn : x.length ≤ 100000000) (hm : y.length ≤ 100000000) :
    Calls Try.prog 16 #[.slice A x.length c, .slice B y.length d] w fun e w' => e = .returned (.bool r0) ∧ UpOf w w' := by
  have := sameS_any A B c d x y w ha hb hn hm hfa hfb
  rw [hL.out] at this
  exact this
set_option maxRecDepth 10000 in
set_option maxHeartbeats 2000000 in
theorem law_sameWares (Ax : Option Addr) (cx : Nat) (x : List Ware) (Ay : Option Addr) (cy : Nat) (y : List Ware) (w : World) (hx : WSee w Ax x) (hnx : x.length ≤ 9223372036854775807) (hfx : WFit x) (hy : WSee w Ay y) (hny : y.length ≤ 9223372036854775807) (hfy : WFit y) :
    Calls Try.prog 3 #[.slice Ax x.length cx, .slice Ay y.length cy] w fun e w' => e = .returned (.bool true) ∧ UpOf w w' := by
  obtain ⟨r0, hL⟩ : ∃ r0, sameR x y = r0 := ⟨_, rfl⟩
  have HL := Lib.hid hL
  clear hL
  go_enter Try.func3, Try.ntmps3
  by_cases qx : (1048576 : Int) < ((wTot x : Nat) : Int)
  · have hs0 : szR (1048576) (wTot x) = -1 := szR_no qx
    go_wp2_with fail
    refine (szWareS_any _ _ _ (1048576) _ (hx.below (by repeat (first | exact Below.refl _ _ | refine bl_tr ?_ _ | refine bl_al ?_ _ | refine bl_dr ?_ | refine bl_up ?_ _ | refine Below.drew ?_ | refine bl_alloc ?_ _ | refine Below.setCell ?_ (by first | (simp; done) | (simp; omega)) _))) (by omega) (by omega) hnx hfx).mono ?_
    rintro e w' ⟨rfl, g1, rfl⟩
    go_wp2_with fail
    go_ret
    exact ⟨rfl, UpOf.of (by repeat (first | exact Below.refl _ _ | refine bl_tr ?_ _ | refine bl_al ?_ _ | refine bl_dr ?_ | refine bl_up ?_ _ | refine Below.drew ?_ | refine bl_alloc ?_ _ | refine Below.setCell ?_ (by first | (simp; done) | (simp; omega)) _))⟩
  have hsx0 : szR (1048576) (wTot x) = 1048576 - ((wTot x : Nat) : Int) := szR_ok qx
  have hzx : ((wTot x : Nat) : Int) ≤ 1048576 := by omega
  have hlx : x.length ≤ 1048576 := by have := wTot_len x; omega
  have hbx := Lib.hid (wTot_bd (l := x) (by omega))
  go_wp2_with fail
  refine (szWareS_any _ _ _ (1048576) _ (hx.below (by repeat (first | exact Below.refl _ _ | refine bl_tr ?_ _ | refine bl_al ?_ _ | refine bl_dr ?_ | refine bl_up ?_ _ | refine Below.drew ?_ | refine bl_alloc ?_ _ | refine Below.setCell ?_ (by first | (simp; done) | (simp; omega)) _))) (by omega) (by omega) hnx hfx).mono ?_
  rintro e w' ⟨rfl, g2, rfl⟩
  by_cases qy : (1048576 - ((wTot x : Nat) : Int) : Int) < ((wTot y : Nat) : Int)
  · have hs0 : szR (1048576 - ((wTot x : Nat) : Int)) (wTot y) = -1 := szR_no qy
    go_wp2_with fail
    refine (szWareS_any _ _ _ (1048576 - ((wTot x : Nat) : Int)) _ (hy.below (by repeat (first | exact Below.refl _ _ | refine bl_tr ?_ _ | refine bl_al ?_ _ | refine bl_dr ?_ | refine bl_up ?_ _ | refine Below.drew ?_ | refine bl_alloc ?_ _ | refine Below.setCell ?_ (by first | (simp; done) | (simp; omega)) _))) (by omega) (by omega) hny hfy).mono ?_
    rintro e w' ⟨rfl, g3, rfl⟩
    go_wp2_with fail
    go_ret
    exact ⟨rfl, UpOf.of (by repeat (first | exact Below.refl _ _ | refine bl_tr ?_ _ | refine bl_al ?_ _ | refine bl_dr ?_ | refine bl_up ?_ _ | refine Below.drew ?_ | refine bl_alloc ?_ _ | refine Below.setCell ?_ (by first | (simp; done) | (simp; omega)) _))⟩
  have hsy0 : szR (1048576 - ((wTot x : Nat) : Int)) (wTot y) = 1048576 - ((wTot x : Nat) : Int) - ((wTot y : Nat) : Int) := szR_ok qy
  have hzy : ((wTot y : Nat) : Int) ≤ 1048576 - ((wTot x : Nat) : Int) := by omega
  have hly : y.length ≤ 1048576 := by have := wTot_len y; omega
  have hby := Lib.hid (wTot_bd (l := y) (by omega))
  go_wp2_with fail
  refine (szWareS_any _ _ _ (1048576 - ((wTot x : Nat) : Int)) _ (hy.below (by repeat (first | exact Below.refl _ _ | refine bl_tr ?_ _ | refine bl_al ?_ _ | refine bl_dr ?_ | refine bl_up ?_ _ | refine Below.drew ?_ | refine bl_alloc ?_ _ | refine Below.setCell ?_ (by first | (simp; done) | (simp; omega)) _))) (by omega) (by omega) hny hfy).mono ?_
  rintro e w' ⟨rfl, g4, rfl⟩
  go_wp2_with fail
  refine (toWareS_any _ _ x _ (hx.below (by repeat (first | exact Below.refl _ _ | refine bl_tr ?_ _ | refine bl_al ?_ _ | refine bl_dr ?_ | refine bl_up ?_ _ | refine Below.drew ?_ | refine bl_alloc ?_ _ | refine Below.setCell ?_ (by first | (simp; done) | (simp; omega)) _))) (by omega) (wTot_in hbx.out)).mono ?_
  rintro e w' ⟨b1, ps1, rfl, o1, g5, rfl⟩
  go_wp2_with fail
  refine (toWareS_any _ _ y _ (hy.below (by repeat (first | exact Below.refl _ _ | refine bl_tr ?_ _ | refine bl_al ?_ _ | refine bl_dr ?_ | refine bl_up ?_ _ | refine Below.drew ?_ | refine bl_alloc ?_ _ | refine Below.setCell ?_ (by first | (simp; done) | (simp; omega)) _))) (by omega) (wTot_in hby.out)).mono ?_
  rintro e w' ⟨b2, ps2, rfl, o2, g6, rfl⟩
  go_wp2_with fail
  refine (sameS' HL _ (o1.see.below (by repeat (first | exact Below.refl _ _ | refine bl_tr ?_ _ | refine bl_al ?_ _ | refine bl_dr ?_ | refine bl_up ?_ _ | refine Below.drew ?_ | refine bl_alloc ?_ _ | refine Below.setCell ?_ (by first | (simp; done) | (simp; omega)) _))) (o2.see.below (by repeat (first | exact Below.refl _ _ | refine bl_tr ?_ _ | refine bl_al ?_ _ | refine bl_dr ?_ | refine bl_up ?_ _ | refine Below.drew ?_ | refine bl_alloc ?_ _ | refine Below.setCell ?_ (by first | (simp; done) | (simp; omega)) _))) hbx.out hby.out (by omega) (by omega)).mono ?_
  rintro e w' ⟨rfl, g7, rfl⟩
  go_wp2_with fail
  refine (toWareS_any _ _ x _ (hx.below (by repeat (first | exact Below.refl _ _ | refine bl_tr ?_ _ | refine bl_al ?_ _ | refine bl_dr ?_ | refine bl_up ?_ _ | refine Below.drew ?_ | refine bl_alloc ?_ _ | refine Below.setCell ?_ (by first | (simp; done) | (simp; omega)) _))) (by omega) (wTot_in hbx.out)).mono ?_
  rintro e w' ⟨b3, ps3, rfl, o3, g8, rfl⟩
  go_wp2_with fail
  refine (toWareS_any _ _ y _ (hy.below (by repeat (first | exact Below.refl _ _ | refine bl_tr ?_ _ | refine bl_al ?_ _ | refine bl_dr ?_ | refine bl_up ?_ _ | refine Below.drew ?_ | refine bl_alloc ?_ _ | refine Below.setCell ?_ (by first | (simp; done) | (simp; omega)) _))) (by omega) (wTot_in hby.out)).mono ?_
  rintro e w' ⟨b4, ps4, rfl, o4, g9, rfl⟩
  go_wp2_with fail
  refine (sameI' HL _ (o3.see.below (by repeat (first | exact Below.refl _ _ | refine bl_tr ?_ _ | refine bl_al ?_ _ | refine bl_dr ?_ | refine bl_up ?_ _ | refine Below.drew ?_ | refine bl_alloc ?_ _ | refine Below.setCell ?_ (by first | (simp; done) | (simp; omega)) _))) (o4.see.below (by repeat (first | exact Below.refl _ _ | refine bl_tr ?_ _ | refine bl_al ?_ _ | refine bl_dr ?_ | refine bl_up ?_ _ | refine Below.drew ?_ | refine bl_alloc ?_ _ | refine Below.setCell ?_ (by first | (simp; done) | (simp; omega)) _))) hbx.out hby.out (by omega) (by omega)).mono ?_
  rintro e w' ⟨rfl, g10, rfl⟩
  go_wp2_with fail
  refine (toWareS_any _ _ x _ (hx.below (by repeat (first | exact Below.refl _ _ | refine bl_tr ?_ _ | refine bl_al ?_ _ | refine bl_dr ?_ | refine bl_up ?_ _ | refine Below.drew ?_ | refine bl_alloc ?_ _ | refine Below.setCell ?_ (by first | (simp; done) | (simp; omega)) _))) (by omega) (wTot_in hbx.out)).mono ?_
  rintro e w' ⟨b5, ps5, rfl, o5, g11, rfl⟩
  go_wp2_with fail
  refine (eqWareS_any _ _ _ _ x _ (o3.see.below (by repeat (first | exact Below.refl _ _ | refine bl_tr ?_ _ | refine bl_al ?_ _ | refine bl_dr ?_ | refine bl_up ?_ _ | refine Below.drew ?_ | refine bl_alloc ?_ _ | refine Below.setCell ?_ (by first | (simp; done) | (simp; omega)) _))) (o5.see.below (by repeat (first | exact Below.refl _ _ | refine bl_tr ?_ _ | refine bl_al ?_ _ | refine bl_dr ?_ | refine bl_up ?_ _ | refine Below.drew ?_ | refine bl_alloc ?_ _ | refine Below.setCell ?_ (by first | (simp; done) | (simp; omega)) _))) (by omega) (wTot_in hbx.out)).mono ?_
  rintro e w' ⟨rfl, g12, rfl⟩
  go_wp2_with fail
  refine (toWareS_any _ _ y _ (hy.below (by repeat (first | exact Below.refl _ _ | refine bl_tr ?_ _ | refine bl_al ?_ _ | refine bl_dr ?_ | refine bl_up ?_ _ | refine Below.drew ?_ | refine bl_alloc ?_ _ | refine Below.setCell ?_ (by first | (simp; done) | (simp; omega)) _))) (by omega) (wTot_in hby.out)).mono ?_
  rintro e w' ⟨b6, ps6, rfl, o6, g13, rfl⟩
  go_wp2_with fail
  refine (eqWareS_any _ _ _ _ y _ (o4.see.below (by repeat (first | exact Below.refl _ _ | refine bl_tr ?_ _ | refine bl_al ?_ _ | refine bl_dr ?_ | refine bl_up ?_ _ | refine Below.drew ?_ | refine bl_alloc ?_ _ | refine Below.setCell ?_ (by first | (simp; done) | (simp; omega)) _))) (o6.see.below (by repeat (first | exact Below.refl _ _ | refine bl_tr ?_ _ | refine bl_al ?_ _ | refine bl_dr ?_ | refine bl_up ?_ _ | refine Below.drew ?_ | refine bl_alloc ?_ _ | refine Below.setCell ?_ (by first | (simp; done) | (simp; omega)) _))) (by omega) (wTot_in hby.out)).mono ?_
  rintro e w' ⟨rfl, g14, rfl⟩
  go_wp2_with fail
  go_ret
  exact ⟨rfl, UpOf.of (by repeat (first | exact Below.refl _ _ | refine bl_tr ?_ _ | refine bl_al ?_ _ | refine bl_dr ?_ | refine bl_up ?_ _ | refine Below.drew ?_ | refine bl_alloc ?_ _ | refine Below.setCell ?_ (by first | (simp; done) | (simp; omega)) _))⟩
end Go.Proofs.Ytiibpldfnnhhlaa
