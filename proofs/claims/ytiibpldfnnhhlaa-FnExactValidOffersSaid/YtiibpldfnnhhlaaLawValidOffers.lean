/-
  The law on ValidOffers: its walk.
-/
import Derived.Test.YtiibpldfnnhhlaaOffer2
namespace Go.Proofs.Ytiibpldfnnhhlaa
open Go.RowKit
theorem vOI' {l : List Ware} {os : List Offer} {r0 : Bool} (hL : Hid (vOffers l os = r0)) (w : World) {A O : Option Addr} {c d : Nat} (hw : WSee w A l) (h : OSee w O os) (hb : WBd l) (ho : OBd os) (hn : os.length ≤ 100000000) (hl : l.length ≤ 100000000) :
    Calls Try.prog 43 #[.slice A l.length c, .slice O os.length d] w fun e w' => e = .returned (.bool r0) ∧ UpOf w w' := by
  have := validOffers_any A O c d l os w hw h hl hn hb ho
  rw [hL.out] at this
  exact this
theorem vOS' {l : List Ware} {os : List Offer} {r0 : Bool} (hL : Hid (vOffers l os = r0)) (w : World) {A O : Option Addr} {c d : Nat} (hw : WSee w A l) (h : OSee w O os) (hb : WBd l) (ho : OBd os) (hn : os.length ≤ 100000000) (hl : l.length ≤ 100000000) :
    Calls Try.prog 41 #[.slice A l.length c, .slice O os.length d] w fun e w' => e = .returned (.bool r0) ∧ UpOf w w' := by
  have := specValidOffers_any A O c d l os w hw h hl hn hb ho
  rw [hL.out] at this
  exact this
set_option maxRecDepth 10000 in
set_option maxHeartbeats 2000000 in
theorem law_validOffers (Al : Option Addr) (cl : Nat) (l : List Ware) (Aos : Option Addr) (cos : Nat) (os : List Offer) (w : World) (hl : WSee w Al l) (hnl : l.length ≤ 9223372036854775807) (hfl : WFit l) (hos : OSee w Aos os) (hnos : os.length ≤ 9223372036854775807) (hfos : OFit os) :
    Calls Try.prog 11 #[.slice Al l.length cl, .slice Aos os.length cos] w fun e w' => e = .returned (.bool true) ∧ UpOf w w' := by
  obtain ⟨r0, hL⟩ : ∃ r0, vOffers l os = r0 := ⟨_, rfl⟩
  have HL := Lib.hid hL
  clear hL
  go_enter Try.func11, Try.ntmps11
  by_cases ql : (1048576 : Int) < ((wTot l : Nat) : Int)
  · have hs0 : szR (1048576) (wTot l) = -1 := szR_no ql
    go_wp2_with fail
    refine (szWareS_any _ _ _ (1048576) _ (hl.below (by repeat (first | exact Below.refl _ _ | refine bl_tr ?_ _ | refine bl_al ?_ _ | refine bl_dr ?_ | refine bl_up ?_ _ | refine Below.drew ?_ | refine bl_alloc ?_ _ | refine Below.setCell ?_ (by first | (simp; done) | (simp; omega)) _))) (by omega) (by omega) hnl hfl).mono ?_
    rintro e w' ⟨rfl, g1, rfl⟩
    go_wp2_with fail
    go_ret
    exact ⟨rfl, UpOf.of (by repeat (first | exact Below.refl _ _ | refine bl_tr ?_ _ | refine bl_al ?_ _ | refine bl_dr ?_ | refine bl_up ?_ _ | refine Below.drew ?_ | refine bl_alloc ?_ _ | refine Below.setCell ?_ (by first | (simp; done) | (simp; omega)) _))⟩
  have hsl0 : szR (1048576) (wTot l) = 1048576 - ((wTot l : Nat) : Int) := szR_ok ql
  have hzl : ((wTot l : Nat) : Int) ≤ 1048576 := by omega
  have hll : l.length ≤ 1048576 := by have := wTot_len l; omega
  have hbl := Lib.hid (wTot_bd (l := l) (by omega))
  go_wp2_with fail
  refine (szWareS_any _ _ _ (1048576) _ (hl.below (by repeat (first | exact Below.refl _ _ | refine bl_tr ?_ _ | refine bl_al ?_ _ | refine bl_dr ?_ | refine bl_up ?_ _ | refine Below.drew ?_ | refine bl_alloc ?_ _ | refine Below.setCell ?_ (by first | (simp; done) | (simp; omega)) _))) (by omega) (by omega) hnl hfl).mono ?_
  rintro e w' ⟨rfl, g2, rfl⟩
  by_cases qos : (1048576 - ((wTot l : Nat) : Int) : Int) < ((oTot os : Nat) : Int)
  · have hs0 : szR (1048576 - ((wTot l : Nat) : Int)) (oTot os) = -1 := szR_no qos
    go_wp2_with fail
    refine (szOfferS_any _ _ _ (1048576 - ((wTot l : Nat) : Int)) _ (hos.below (by repeat (first | exact Below.refl _ _ | refine bl_tr ?_ _ | refine bl_al ?_ _ | refine bl_dr ?_ | refine bl_up ?_ _ | refine Below.drew ?_ | refine bl_alloc ?_ _ | refine Below.setCell ?_ (by first | (simp; done) | (simp; omega)) _))) (by omega) (by omega) hnos hfos).mono ?_
    rintro e w' ⟨rfl, g3, rfl⟩
    go_wp2_with fail
    go_ret
    exact ⟨rfl, UpOf.of (by repeat (first | exact Below.refl _ _ | refine bl_tr ?_ _ | refine bl_al ?_ _ | refine bl_dr ?_ | refine bl_up ?_ _ | refine Below.drew ?_ | refine bl_alloc ?_ _ | refine Below.setCell ?_ (by first | (simp; done) | (simp; omega)) _))⟩
  have hsos0 : szR (1048576 - ((wTot l : Nat) : Int)) (oTot os) = 1048576 - ((wTot l : Nat) : Int) - ((oTot os : Nat) : Int) := szR_ok qos
  have hzos : ((oTot os : Nat) : Int) ≤ 1048576 - ((wTot l : Nat) : Int) := by omega
  have hlos : os.length ≤ 1048576 := by have := oTot_len os; omega
  have hbos := Lib.hid (oTot_bd (l := os) (by omega))
  go_wp2_with fail
  refine (szOfferS_any _ _ _ (1048576 - ((wTot l : Nat) : Int)) _ (hos.below (by repeat (first | exact Below.refl _ _ | refine bl_tr ?_ _ | refine bl_al ?_ _ | refine bl_dr ?_ | refine bl_up ?_ _ | refine Below.drew ?_ | refine bl_alloc ?_ _ | refine Below.setCell ?_ (by first | (simp; done) | (simp; omega)) _))) (by omega) (by omega) hnos hfos).mono ?_
  rintro e w' ⟨rfl, g4, rfl⟩
  go_wp2_with fail
  refine (toWareS_any _ _ l _ (hl.below (by repeat (first | exact Below.refl _ _ | refine bl_tr ?_ _ | refine bl_al ?_ _ | refine bl_dr ?_ | refine bl_up ?_ _ | refine Below.drew ?_ | refine bl_alloc ?_ _ | refine Below.setCell ?_ (by first | (simp; done) | (simp; omega)) _))) (by omega) (wTot_in hbl.out)).mono ?_
  rintro e w' ⟨b1, ps1, rfl, o1, g5, rfl⟩
  go_wp2_with fail
  refine (toOfferS_any _ _ os _ (hos.below (by repeat (first | exact Below.refl _ _ | refine bl_tr ?_ _ | refine bl_al ?_ _ | refine bl_dr ?_ | refine bl_up ?_ _ | refine Below.drew ?_ | refine bl_alloc ?_ _ | refine Below.setCell ?_ (by first | (simp; done) | (simp; omega)) _))) (by omega) (oTot_in hbos.out)).mono ?_
  rintro e w' ⟨b2, ps2, rfl, o2, g6, rfl⟩
  go_wp2_with fail
  refine (vOS' HL _ (o1.see.below (by repeat (first | exact Below.refl _ _ | refine bl_tr ?_ _ | refine bl_al ?_ _ | refine bl_dr ?_ | refine bl_up ?_ _ | refine Below.drew ?_ | refine bl_alloc ?_ _ | refine Below.setCell ?_ (by first | (simp; done) | (simp; omega)) _))) (o2.see.below (by repeat (first | exact Below.refl _ _ | refine bl_tr ?_ _ | refine bl_al ?_ _ | refine bl_dr ?_ | refine bl_up ?_ _ | refine Below.drew ?_ | refine bl_alloc ?_ _ | refine Below.setCell ?_ (by first | (simp; done) | (simp; omega)) _))) hbl.out hbos.out (by omega) (by omega)).mono ?_
  rintro e w' ⟨rfl, g7, rfl⟩
  go_wp2_with fail
  refine (toWareS_any _ _ l _ (hl.below (by repeat (first | exact Below.refl _ _ | refine bl_tr ?_ _ | refine bl_al ?_ _ | refine bl_dr ?_ | refine bl_up ?_ _ | refine Below.drew ?_ | refine bl_alloc ?_ _ | refine Below.setCell ?_ (by first | (simp; done) | (simp; omega)) _))) (by omega) (wTot_in hbl.out)).mono ?_
  rintro e w' ⟨b3, ps3, rfl, o3, g8, rfl⟩
  go_wp2_with fail
  refine (toOfferS_any _ _ os _ (hos.below (by repeat (first | exact Below.refl _ _ | refine bl_tr ?_ _ | refine bl_al ?_ _ | refine bl_dr ?_ | refine bl_up ?_ _ | refine Below.drew ?_ | refine bl_alloc ?_ _ | refine Below.setCell ?_ (by first | (simp; done) | (simp; omega)) _))) (by omega) (oTot_in hbos.out)).mono ?_
  rintro e w' ⟨b4, ps4, rfl, o4, g9, rfl⟩
  go_wp2_with fail
  refine (vOI' HL _ (o3.see.below (by repeat (first | exact Below.refl _ _ | refine bl_tr ?_ _ | refine bl_al ?_ _ | refine bl_dr ?_ | refine bl_up ?_ _ | refine Below.drew ?_ | refine bl_alloc ?_ _ | refine Below.setCell ?_ (by first | (simp; done) | (simp; omega)) _))) (o4.see.below (by repeat (first | exact Below.refl _ _ | refine bl_tr ?_ _ | refine bl_al ?_ _ | refine bl_dr ?_ | refine bl_up ?_ _ | refine Below.drew ?_ | refine bl_alloc ?_ _ | refine Below.setCell ?_ (by first | (simp; done) | (simp; omega)) _))) hbl.out hbos.out (by omega) (by omega)).mono ?_
  rintro e w' ⟨rfl, g10, rfl⟩
  go_wp2_with fail
  refine (toWareS_any _ _ l _ (hl.below (by repeat (first | exact Below.refl _ _ | refine bl_tr ?_ _ | refine bl_al ?_ _ | refine bl_dr ?_ | refine bl_up ?_ _ | refine Below.drew ?_ | refine bl_alloc ?_ _ | refine Below.setCell ?_ (by first | (simp; done) | (simp; omega)) _))) (by omega) (wTot_in hbl.out)).mono ?_
  rintro e w' ⟨b5, ps5, rfl, o5, g11, rfl⟩
  go_wp2_with fail
  refine (eqWareS_any _ _ _ _ l _ (o3.see.below (by repeat (first | exact Below.refl _ _ | refine bl_tr ?_ _ | refine bl_al ?_ _ | refine bl_dr ?_ | refine bl_up ?_ _ | refine Below.drew ?_ | refine bl_alloc ?_ _ | refine Below.setCell ?_ (by first | (simp; done) | (simp; omega)) _))) (o5.see.below (by repeat (first | exact Below.refl _ _ | refine bl_tr ?_ _ | refine bl_al ?_ _ | refine bl_dr ?_ | refine bl_up ?_ _ | refine Below.drew ?_ | refine bl_alloc ?_ _ | refine Below.setCell ?_ (by first | (simp; done) | (simp; omega)) _))) (by omega) (wTot_in hbl.out)).mono ?_
  rintro e w' ⟨rfl, g12, rfl⟩
  go_wp2_with fail
  refine (toOfferS_any _ _ os _ (hos.below (by repeat (first | exact Below.refl _ _ | refine bl_tr ?_ _ | refine bl_al ?_ _ | refine bl_dr ?_ | refine bl_up ?_ _ | refine Below.drew ?_ | refine bl_alloc ?_ _ | refine Below.setCell ?_ (by first | (simp; done) | (simp; omega)) _))) (by omega) (oTot_in hbos.out)).mono ?_
  rintro e w' ⟨b6, ps6, rfl, o6, g13, rfl⟩
  go_wp2_with fail
  refine (eqOfferS_any _ _ _ _ os _ (o4.see.below (by repeat (first | exact Below.refl _ _ | refine bl_tr ?_ _ | refine bl_al ?_ _ | refine bl_dr ?_ | refine bl_up ?_ _ | refine Below.drew ?_ | refine bl_alloc ?_ _ | refine Below.setCell ?_ (by first | (simp; done) | (simp; omega)) _))) (o6.see.below (by repeat (first | exact Below.refl _ _ | refine bl_tr ?_ _ | refine bl_al ?_ _ | refine bl_dr ?_ | refine bl_up ?_ _ | refine Below.drew ?_ | refine bl_alloc ?_ _ | refine Below.setCell ?_ (by first | (simp; done) | (simp; omega)) _))) (by omega) (oTot_in hbos.out)).mono ?_
  rintro e w' ⟨rfl, g14, rfl⟩
  go_wp2_with fail
  go_ret
  exact ⟨rfl, UpOf.of (by repeat (first | exact Below.refl _ _ | refine bl_tr ?_ _ | refine bl_al ?_ _ | refine bl_dr ?_ | refine bl_up ?_ _ | refine Below.drew ?_ | refine bl_alloc ?_ _ | refine Below.setCell ?_ (by first | (simp; done) | (simp; omega)) _))⟩
end Go.Proofs.Ytiibpldfnnhhlaa
