/-
  The law on OddBreaks: its walk.
-/
import Derived.Test.YtiibpldfnnhhlaaOdd
import Derived.Test.YtiibpldfnnhhlaaWMark
namespace Go.Proofs.Ytiibpldfnnhhlaa
open Go.RowKit
theorem oddR_len {l : List Ware} {k : Int} {L : List Int} {cd : Int} (h : oddR l k = (L, cd)) : L.length ≤ 6 := by
  have h0 : (oddR l k).1.length ≤ 6 := by
    unfold oddR
    split
    · rename_i h1
      split
      · rename_i h2
        have h3 := oddN_len (wat l k.toNat) ((wat l k.toNat).brs.length - 1)
        have h4 := btw_true h2
        have h5 := vWare_inv ((vWares_inv h1).2 k.toNat (by omega))
        show (oddN (wat l k.toNat) ((wat l k.toNat).brs.length - 1)).length ≤ 6
        omega
      · simp
    · simp
  rw [h] at h0
  exact h0
theorem oddI' {l : List Ware} {k : Int} {L0 : List Int} {r1 : Int} (hL : Hid (oddR l k = (L0, r1))) (w : World) {A : Option Addr} {c : Nat} (h : WSee w A l) (hb : WBd l) (hn : l.length ≤ 100000000) :
    Calls Try.prog 37 #[.slice A l.length c, i64 k] w fun e w' => ∃ A' c', e = .returned (.tuple #[.slice A' L0.length c', i64 r1]) ∧ w'.ownsRow w.heap.size 2 1 (.slice A' L0.length c') L0.length (ics L0) ∧ UpOf w w' := by
  have := oddI_any A c l k w h hn hb
  rw [hL.out] at this
  exact this
theorem oddS' {l : List Ware} {k : Int} {L0 : List Int} {r1 : Int} (hL : Hid (oddR l k = (L0, r1))) (w : World) {A : Option Addr} {c : Nat} (h : WSee w A l) (hb : WBd l) (hn : l.length ≤ 100000000) :
    Calls Try.prog 36 #[.slice A l.length c, i64 k] w fun e w' => ∃ A' c', e = .returned (.tuple #[.slice A' L0.length c', i64 r1]) ∧ w'.ownsRow w.heap.size 2 1 (.slice A' L0.length c') L0.length (ics L0) ∧ UpOf w w' := by
  have := oddS_any A c l k w h hn hb
  rw [hL.out] at this
  exact this
set_option maxRecDepth 10000 in
set_option maxHeartbeats 2000000 in
theorem law_oddBreaks (Al : Option Addr) (cl : Nat) (l : List Ware) (k : Int) (w : World) (hl : WSee w Al l) (hnl : l.length ≤ 9223372036854775807) (hfl : WFit l) :
    Calls Try.prog 10 #[.slice Al l.length cl, i64 k] w fun e w' => e = .returned (.bool true) ∧ UpOf w w' := by
  obtain ⟨L0, r1, hL⟩ : ∃ L0 r1, oddR l k = (L0, r1) := ⟨_, _, rfl⟩
  have hLn := oddR_len hL
  have HL := Lib.hid hL
  clear hL
  go_enter Try.func10, Try.ntmps10
  by_cases ql : (1048576 : Int) < ((wTot l : Nat) : Int)
  · have hs0 : szR (1048576) (wTot l) = -1 := szR_no ql
    go_wp2_with fail
    refine (szWareS_any _ _ _ (1048576) _ (hl.below (by repeat (first | exact Below.refl _ _ | refine bl_tr ?_ _ | refine bl_al ?_ _ | refine bl_dr ?_ | refine bl_up ?_ _ | refine Below.drew ?_ | refine bl_alloc ?_ _ | refine Below.setCell ?_ (by first | (simp; done) | (simp; omega)) _))) (by omega) (by omega) hnl hfl).mono ?_
    rintro e w' ⟨rfl, g1, rfl⟩
    go_wp2_with fail
    go_ret
    exact ⟨rfl, UpOf.of (by repeat (first | exact Below.refl _ _ | refine bl_tr ?_ _ | refine bl_al ?_ _ | refine bl_dr ?_ | refine bl_up ?_ _ | refine Below.drew ?_ | refine bl_alloc ?_ _ | refine Below.setCell ?_ (by first | (simp; done) | (simp; omega)) _))⟩
  have hsl0 : szR (1048576) (wTot l) = 1048576 - ((wTot l : Nat) : Int) := szR_ok ql
  have hzl : ((wTot l : Nat) : Int) ≤ 1048576 := by omega
  have hll : l.length ≤ 1048576 := by have := wTot_len l; omega
  have hbl := Lib.hid (wTot_bd (l := l) (by omega))
  go_wp2_with fail
  refine (szWareS_any _ _ _ (1048576) _ (hl.below (by repeat (first | exact Below.refl _ _ | refine bl_tr ?_ _ | refine bl_al ?_ _ | refine bl_dr ?_ | refine bl_up ?_ _ | refine Below.drew ?_ | refine bl_alloc ?_ _ | refine Below.setCell ?_ (by first | (simp; done) | (simp; omega)) _))) (by omega) (by omega) hnl hfl).mono ?_
  rintro e w' ⟨rfl, g2, rfl⟩
  go_wp2_with fail
  refine (toWareS_any _ _ l _ (hl.below (by repeat (first | exact Below.refl _ _ | refine bl_tr ?_ _ | refine bl_al ?_ _ | refine bl_dr ?_ | refine bl_up ?_ _ | refine Below.drew ?_ | refine bl_alloc ?_ _ | refine Below.setCell ?_ (by first | (simp; done) | (simp; omega)) _))) (by omega) (wTot_in hbl.out)).mono ?_
  rintro e w' ⟨b1, ps1, rfl, o1, g3, rfl⟩
  go_wp2_with fail
  refine (oddS' HL _ (o1.see.below (by repeat (first | exact Below.refl _ _ | refine bl_tr ?_ _ | refine bl_al ?_ _ | refine bl_dr ?_ | refine bl_up ?_ _ | refine Below.drew ?_ | refine bl_alloc ?_ _ | refine Below.setCell ?_ (by first | (simp; done) | (simp; omega)) _))) hbl.out (by omega)).mono ?_
  rintro e w' ⟨Aw0, cw0, rfl, ow0, g4, rfl⟩
  go_wp2_with fail
  refine (toWareS_any _ _ l _ (hl.below (by repeat (first | exact Below.refl _ _ | refine bl_tr ?_ _ | refine bl_al ?_ _ | refine bl_dr ?_ | refine bl_up ?_ _ | refine Below.drew ?_ | refine bl_alloc ?_ _ | refine Below.setCell ?_ (by first | (simp; done) | (simp; omega)) _))) (by omega) (wTot_in hbl.out)).mono ?_
  rintro e w' ⟨b2, ps2, rfl, o2, g5, rfl⟩
  go_wp2_with fail
  refine (oddI' HL _ (o2.see.below (by repeat (first | exact Below.refl _ _ | refine bl_tr ?_ _ | refine bl_al ?_ _ | refine bl_dr ?_ | refine bl_up ?_ _ | refine Below.drew ?_ | refine bl_alloc ?_ _ | refine Below.setCell ?_ (by first | (simp; done) | (simp; omega)) _))) hbl.out (by omega)).mono ?_
  rintro e w' ⟨Ag0, cg0, rfl, og0, g6, rfl⟩
  go_wp2_with fail
  refine (eqInt64S_any _ _ _ _ L0 _ ((Rds.of_own og0).below (by repeat (first | exact Below.refl _ _ | refine bl_tr ?_ _ | refine bl_al ?_ _ | refine bl_dr ?_ | refine bl_up ?_ _ | refine Below.drew ?_ | refine bl_alloc ?_ _ | refine Below.setCell ?_ (by first | (simp; done) | (simp; omega)) _))) ((Rds.of_own ow0).below (by repeat (first | exact Below.refl _ _ | refine bl_tr ?_ _ | refine bl_al ?_ _ | refine bl_dr ?_ | refine bl_up ?_ _ | refine Below.drew ?_ | refine bl_alloc ?_ _ | refine Below.setCell ?_ (by first | (simp; done) | (simp; omega)) _))) (by omega)).mono ?_
  rintro e w' ⟨rfl, g7, rfl⟩
  go_wp2_with fail
  refine (toWareS_any _ _ l _ (hl.below (by repeat (first | exact Below.refl _ _ | refine bl_tr ?_ _ | refine bl_al ?_ _ | refine bl_dr ?_ | refine bl_up ?_ _ | refine Below.drew ?_ | refine bl_alloc ?_ _ | refine Below.setCell ?_ (by first | (simp; done) | (simp; omega)) _))) (by omega) (wTot_in hbl.out)).mono ?_
  rintro e w' ⟨b3, ps3, rfl, o3, g8, rfl⟩
  go_wp2_with fail
  refine (eqWareS_any _ _ _ _ l _ (o2.see.below (by repeat (first | exact Below.refl _ _ | refine bl_tr ?_ _ | refine bl_al ?_ _ | refine bl_dr ?_ | refine bl_up ?_ _ | refine Below.drew ?_ | refine bl_alloc ?_ _ | refine Below.setCell ?_ (by first | (simp; done) | (simp; omega)) _))) (o3.see.below (by repeat (first | exact Below.refl _ _ | refine bl_tr ?_ _ | refine bl_al ?_ _ | refine bl_dr ?_ | refine bl_up ?_ _ | refine Below.drew ?_ | refine bl_alloc ?_ _ | refine Below.setCell ?_ (by first | (simp; done) | (simp; omega)) _))) (by omega) (wTot_in hbl.out)).mono ?_
  rintro e w' ⟨rfl, g9, rfl⟩
  have hmkl := Lib.hid (wMk_bd1 (l := l) (by omega))
  go_wp2_with fail
  refine (markWareS_any _ _ _ 1 l _ _ ((o2.shape).below (by repeat (first | exact Below.refl _ _ | refine bl_tr ?_ _ | refine bl_al ?_ _ | refine bl_dr ?_ | refine bl_up ?_ _ | refine Below.drew ?_ | refine bl_alloc ?_ _ | refine Below.setCell ?_ (by first | (simp; done) | (simp; omega)) _))) (by omega) (by have := hmkl.out; omega) (by omega)).mono ?_
  rintro e w' ⟨rfl, shl, hgk⟩
  have rw0_l := hgk.rds ((Rds.of_own ow0).below (by repeat (first | exact Below.refl _ _ | refine bl_tr ?_ _ | refine bl_al ?_ _ | refine bl_dr ?_ | refine bl_up ?_ _ | refine Below.drew ?_ | refine bl_alloc ?_ _ | refine Below.setCell ?_ (by first | (simp; done) | (simp; omega)) _))) (fun _ b off e => .inl (Nat.lt_of_lt_of_le (own_block ow0 e).2.1 (by first | exact Nat.le_refl _ | exact (up_below _ _).size | exact Nat.le_trans (up_below _ _).size (up_below _ _).size | simp)))
  have og0_l := hgk.own (own_below og0 (by repeat (first | exact Below.refl _ _ | refine bl_tr ?_ _ | refine bl_al ?_ _ | refine bl_dr ?_ | refine bl_up ?_ _ | refine Below.drew ?_ | refine bl_alloc ?_ _ | refine Below.setCell ?_ (by first | (simp; done) | (simp; omega)) _))) (.inl (by first | exact Nat.le_refl _ | exact (up_below _ _).size | exact Nat.le_trans (up_below _ _).size (up_below _ _).size | simp))
  obtain ⟨g10, rfl⟩ := hgk.upOf (W := w) (by repeat (first | exact Below.refl _ _ | refine bl_tr ?_ _ | refine bl_al ?_ _ | refine bl_dr ?_ | refine bl_up ?_ _ | refine Below.drew ?_ | refine bl_alloc ?_ _ | refine Below.setCell ?_ (by first | (simp; done) | (simp; omega)) _)) (by first | exact Nat.le_refl _ | exact (up_below _ _).size | exact Nat.le_trans (up_below _ _).size (up_below _ _).size | simp)
  clear hgk
  go_wp2_with fail
  refine (eqInt64S_any _ _ _ _ L0 _ ((Rds.of_own og0_l).below (by repeat (first | exact Below.refl _ _ | refine bl_tr ?_ _ | refine bl_al ?_ _ | refine bl_dr ?_ | refine bl_up ?_ _ | refine Below.drew ?_ | refine bl_alloc ?_ _ | refine Below.setCell ?_ (by first | (simp; done) | (simp; omega)) _))) (rw0_l.below (by repeat (first | exact Below.refl _ _ | refine bl_tr ?_ _ | refine bl_al ?_ _ | refine bl_dr ?_ | refine bl_up ?_ _ | refine Below.drew ?_ | refine bl_alloc ?_ _ | refine Below.setCell ?_ (by first | (simp; done) | (simp; omega)) _))) (by omega)).mono ?_
  rintro e w' ⟨rfl, g11, rfl⟩
  go_wp2_with fail
  refine (markInt64S_any _ _ _ _ 1 _ _ (own_below og0_l (by repeat (first | exact Below.refl _ _ | refine bl_tr ?_ _ | refine bl_al ?_ _ | refine bl_dr ?_ | refine bl_up ?_ _ | refine Below.drew ?_ | refine bl_alloc ?_ _ | refine Below.setCell ?_ (by first | (simp; done) | (simp; omega)) _))) (by omega) (by omega)).mono ?_
  rintro e w' ⟨rfl, m0, hgm⟩
  have rm0_0 := (rw0_l.below (by repeat (first | exact Below.refl _ _ | refine bl_tr ?_ _ | refine bl_al ?_ _ | refine bl_dr ?_ | refine bl_up ?_ _ | refine Below.drew ?_ | refine bl_alloc ?_ _ | refine Below.setCell ?_ (by first | (simp; done) | (simp; omega)) _))).grown hgm (fun _ => own_apart ow0 og0 (by first | exact Nat.le_refl _ | exact (up_below _ _).size | exact Nat.le_trans (up_below _ _).size (up_below _ _).size | simp))
  obtain ⟨g12, rfl⟩ := up_of_mark (W := w) (by repeat (first | exact Below.refl _ _ | refine bl_tr ?_ _ | refine bl_al ?_ _ | refine bl_dr ?_ | refine bl_up ?_ _ | refine Below.drew ?_ | refine bl_alloc ?_ _ | refine Below.setCell ?_ (by first | (simp; done) | (simp; omega)) _)) (own_below og0_l (by repeat (first | exact Below.refl _ _ | refine bl_tr ?_ _ | refine bl_al ?_ _ | refine bl_dr ?_ | refine bl_up ?_ _ | refine Below.drew ?_ | refine bl_alloc ?_ _ | refine Below.setCell ?_ (by first | (simp; done) | (simp; omega)) _))) (by first | exact Nat.le_refl _ | exact (up_below _ _).size | exact Nat.le_trans (up_below _ _).size (up_below _ _).size | simp) hgm
  clear hgm
  go_wp2_with fail
  refine (heldInt64S_any _ _ _ 1 _ ((Rds.of_own m0).below (by repeat (first | exact Below.refl _ _ | refine bl_tr ?_ _ | refine bl_al ?_ _ | refine bl_dr ?_ | refine bl_up ?_ _ | refine Below.drew ?_ | refine bl_alloc ?_ _ | refine Below.setCell ?_ (by first | (simp; done) | (simp; omega)) _))) (by omega) (by omega)).mono ?_
  rintro e w' ⟨rfl, g13, rfl⟩
  go_wp2_with fail
  refine (toWareS_any _ _ l _ (hl.below (by repeat (first | exact Below.refl _ _ | refine bl_tr ?_ _ | refine bl_al ?_ _ | refine bl_dr ?_ | refine bl_up ?_ _ | refine Below.drew ?_ | refine bl_alloc ?_ _ | refine Below.setCell ?_ (by first | (simp; done) | (simp; omega)) _))) (by omega) (wTot_in hbl.out)).mono ?_
  rintro e w' ⟨b4, ps4, rfl, o4, g14, rfl⟩
  go_wp2_with fail
  refine (oddI' HL _ (o4.see.below (by repeat (first | exact Below.refl _ _ | refine bl_tr ?_ _ | refine bl_al ?_ _ | refine bl_dr ?_ | refine bl_up ?_ _ | refine Below.drew ?_ | refine bl_alloc ?_ _ | refine Below.setCell ?_ (by first | (simp; done) | (simp; omega)) _))) hbl.out (by omega)).mono ?_
  rintro e w' ⟨Ah0, ch0, rfl, oh0, g15, rfl⟩
  go_wp2_with fail
  refine (eqInt64S_any _ _ _ _ L0 _ ((Rds.of_own oh0).below (by repeat (first | exact Below.refl _ _ | refine bl_tr ?_ _ | refine bl_al ?_ _ | refine bl_dr ?_ | refine bl_up ?_ _ | refine Below.drew ?_ | refine bl_alloc ?_ _ | refine Below.setCell ?_ (by first | (simp; done) | (simp; omega)) _))) (rm0_0.below (by repeat (first | exact Below.refl _ _ | refine bl_tr ?_ _ | refine bl_al ?_ _ | refine bl_dr ?_ | refine bl_up ?_ _ | refine Below.drew ?_ | refine bl_alloc ?_ _ | refine Below.setCell ?_ (by first | (simp; done) | (simp; omega)) _))) (by omega)).mono ?_
  rintro e w' ⟨rfl, g16, rfl⟩
  go_wp2_with fail
  refine (heldInt64S_any _ _ _ 1 _ ((Rds.of_own m0).below (by repeat (first | exact Below.refl _ _ | refine bl_tr ?_ _ | refine bl_al ?_ _ | refine bl_dr ?_ | refine bl_up ?_ _ | refine Below.drew ?_ | refine bl_alloc ?_ _ | refine Below.setCell ?_ (by first | (simp; done) | (simp; omega)) _))) (by omega) (by omega)).mono ?_
  rintro e w' ⟨rfl, g17, rfl⟩
  go_wp2_with fail
  go_ret
  exact ⟨rfl, UpOf.of (by repeat (first | exact Below.refl _ _ | refine bl_tr ?_ _ | refine bl_al ?_ _ | refine bl_dr ?_ | refine bl_up ?_ _ | refine Below.drew ?_ | refine bl_alloc ?_ _ | refine Below.setCell ?_ (by first | (simp; done) | (simp; omega)) _))⟩
end Go.Proofs.Ytiibpldfnnhhlaa
