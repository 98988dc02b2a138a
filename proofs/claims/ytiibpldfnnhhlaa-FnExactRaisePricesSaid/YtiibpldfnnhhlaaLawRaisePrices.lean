/-
  The law on RaisePrices: its walk.
-/
import Derived.Test.YtiibpldfnnhhlaaRaiseS
namespace Go.Proofs.Ytiibpldfnnhhlaa
open Go.RowKit
theorem raiseI' {l : List Ware} {m : Int} {L : List Ware} {cd : Int} (hL : Hid (raisR l m = (L, cd))) (w : World) {A : Option Addr} {c : Nat} (h : WSee w A l) (hb : WBd l) (hn : l.length ≤ 100000000) :
    Calls Try.prog 33 #[.slice A l.length c, i64 m] w fun e w' => ∃ A' c' ps, e = .returned (.tuple #[.slice A' L.length c', i64 cd]) ∧ WGot w.heap.size w' A' c' L ps ∧ UpOf w w' := by
  have := raiseI_any A c l m w h hn hb
  rw [hL.out] at this
  exact this
theorem raiseS' {l : List Ware} {m : Int} {L : List Ware} {cd : Int} (hL : Hid (raisR l m = (L, cd))) (w : World) {A : Option Addr} {c : Nat} (h : WSee w A l) (hb : WBd l) (hn : l.length ≤ 100000000) :
    Calls Try.prog 32 #[.slice A l.length c, i64 m] w fun e w' => ∃ A' c' ps, e = .returned (.tuple #[.slice A' L.length c', i64 cd]) ∧ WGot w.heap.size w' A' c' L ps ∧ UpOf w w' := by
  have := raiseS_any A c l m w h hn hb
  rw [hL.out] at this
  exact this
theorem wMk_6 {l : List Ware} (h : ∀ i, i < l.length → (wat l i).brs.length ≤ 6) : ∀ k, k ≤ l.length → wMk l k ≤ 13 * k := by
  intro k
  induction k with
  | zero => intro _; simp [wMk]
  | succ k ih =>
    intro hk
    have h1 := ih (by omega)
    have h2 := h k (by omega)
    rw [wMk]
    omega
set_option maxRecDepth 10000 in
set_option maxHeartbeats 4000000 in
theorem law_raisePrices (Al : Option Addr) (cl : Nat) (l : List Ware) (m : Int) (w : World) (hl : WSee w Al l) (hnl : l.length ≤ 9223372036854775807) (hfl : WFit l) :
    Calls Try.prog 9 #[.slice Al l.length cl, i64 m] w fun e w' => e = .returned (.bool true) ∧ UpOf w w' := by
  obtain ⟨L0, r1, hL⟩ : ∃ L0 r1, raisR l m = (L0, r1) := ⟨_, _, rfl⟩
  obtain ⟨hLn, hLb⟩ := raisR_len hL
  have hmk := Lib.hid (wMk_6 hLb L0.length (Nat.le_refl _))
  have HLB := Lib.hid (show ∀ i, i < L0.length → (wat L0 i).brs.length ≤ 100000000 from fun i hi => by have := hLb i hi; omega)
  have HL := Lib.hid hL
  clear hL hLb
  go_enter Try.func9, Try.ntmps9
  by_cases ql : (1048576 : Int) < ((wTot l : Nat) : Int)
  · have hs0 : szR (1048576) (wTot l) = -1 := szR_no ql
    go_wp2_with fail
    refine (szWareS_any _ _ _ (1048576) _ (hl.below (by repeat (first | exact Below.refl _ _ | refine bl_tr ?_ _ | refine bl_al ?_ _ | refine bl_dr ?_ | refine bl_up ?_ _ | refine Below.drew ?_ | refine bl_alloc ?_ _ | refine Below.setCell ?_ (by first | (simp; done) | (simp; omega)) _))) (by omega) (by omega) hnl hfl).mono ?_
    rintro e w' ⟨rfl, g1, rfl⟩
    go_wp2_with fail
    go_ret
    exact ⟨rfl, UpOf.of (by repeat (first | exact Below.refl _ _ | refine bl_tr ?_ _ | refine bl_al ?_ _ | refine bl_dr ?_ | refine bl_up ?_ _ | refine Below.drew ?_ | refine bl_alloc ?_ _ | refine Below.setCell ?_ (by first | (simp; done) | (simp; omega)) _))⟩
  have hsl0 : szR (1048576) (wTot l) = 1048576 - ((wTot l : Nat) : Int) := szR_ok ql
  have hzl : ((wTot l : Nat) : Int) ≤ 1048576 := by omega
  have hll : l.length ≤ 1048576 := by have := wTot_len l; omega
  have hbl := Lib.hid (wTot_bd (l := l) (by omega))
  go_wp2_with fail
  refine (szWareS_any _ _ _ (1048576) _ (hl.below (by repeat (first | exact Below.refl _ _ | refine bl_tr ?_ _ | refine bl_al ?_ _ | refine bl_dr ?_ | refine bl_up ?_ _ | refine Below.drew ?_ | refine bl_alloc ?_ _ | refine Below.setCell ?_ (by first | (simp; done) | (simp; omega)) _))) (by omega) (by omega) hnl hfl).mono ?_
  rintro e w' ⟨rfl, g2, rfl⟩
  go_wp2_with fail
  refine (toWareS_any _ _ l _ (hl.below (by repeat (first | exact Below.refl _ _ | refine bl_tr ?_ _ | refine bl_al ?_ _ | refine bl_dr ?_ | refine bl_up ?_ _ | refine Below.drew ?_ | refine bl_alloc ?_ _ | refine Below.setCell ?_ (by first | (simp; done) | (simp; omega)) _))) (by omega) (wTot_in hbl.out)).mono ?_
  rintro e w' ⟨b1, ps1, rfl, o1, g3, rfl⟩
  go_wp2_with fail
  refine (raiseS' HL _ (o1.see.below (by repeat (first | exact Below.refl _ _ | refine bl_tr ?_ _ | refine bl_al ?_ _ | refine bl_dr ?_ | refine bl_up ?_ _ | refine Below.drew ?_ | refine bl_alloc ?_ _ | refine Below.setCell ?_ (by first | (simp; done) | (simp; omega)) _))) hbl.out (by omega)).mono ?_
  rintro e w' ⟨Aw0, cw0, pw0, rfl, ow0, g4, rfl⟩
  have hW : Below w.heap.size w (up _ g4) := (by repeat (first | exact Below.refl _ _ | refine bl_tr ?_ _ | refine bl_al ?_ _ | refine bl_dr ?_ | refine bl_up ?_ _ | refine Below.drew ?_ | refine bl_alloc ?_ _ | refine Below.setCell ?_ (by first | (simp; done) | (simp; omega)) _))
  have HW := Lib.hid hW
  replace hl := hl.below hW
  have hw0 := Lib.hid ow0.see
  clear hW ow0 o1
  revert HW hl hw0
  generalize up _ g4 = W
  intro HW hl hw0
  go_wp2_with fail
  refine (toWareS_any _ _ l _ (hl.below (by repeat (first | exact Below.refl _ _ | refine bl_tr ?_ _ | refine bl_al ?_ _ | refine bl_dr ?_ | refine bl_up ?_ _ | refine Below.drew ?_ | refine bl_alloc ?_ _ | refine Below.setCell ?_ (by first | (simp; done) | (simp; omega)) _))) (by omega) (wTot_in hbl.out)).mono ?_
  rintro e w' ⟨b2, ps2, rfl, o2, g5, rfl⟩
  go_wp2_with fail
  refine (raiseI' HL _ (o2.see.below (by repeat (first | exact Below.refl _ _ | refine bl_tr ?_ _ | refine bl_al ?_ _ | refine bl_dr ?_ | refine bl_up ?_ _ | refine Below.drew ?_ | refine bl_alloc ?_ _ | refine Below.setCell ?_ (by first | (simp; done) | (simp; omega)) _))) hbl.out (by omega)).mono ?_
  rintro e w' ⟨Ag0, cg0, pg0, rfl, og0, g6, rfl⟩
  go_wp2_with fail
  refine (eqWareS_any _ _ _ _ L0 _ (og0.see.below (by repeat (first | exact Below.refl _ _ | refine bl_tr ?_ _ | refine bl_al ?_ _ | refine bl_dr ?_ | refine bl_up ?_ _ | refine Below.drew ?_ | refine bl_alloc ?_ _ | refine Below.setCell ?_ (by first | (simp; done) | (simp; omega)) _))) (hw0.out.below (by repeat (first | exact Below.refl _ _ | refine bl_tr ?_ _ | refine bl_al ?_ _ | refine bl_dr ?_ | refine bl_up ?_ _ | refine Below.drew ?_ | refine bl_alloc ?_ _ | refine Below.setCell ?_ (by first | (simp; done) | (simp; omega)) _))) (by omega) HLB.out).mono ?_
  rintro e w' ⟨rfl, g7, rfl⟩
  go_wp2_with fail
  refine (toWareS_any _ _ l _ (hl.below (by repeat (first | exact Below.refl _ _ | refine bl_tr ?_ _ | refine bl_al ?_ _ | refine bl_dr ?_ | refine bl_up ?_ _ | refine Below.drew ?_ | refine bl_alloc ?_ _ | refine Below.setCell ?_ (by first | (simp; done) | (simp; omega)) _))) (by omega) (wTot_in hbl.out)).mono ?_
  rintro e w' ⟨b3, ps3, rfl, o3, g8, rfl⟩
  go_wp2_with fail
  refine (eqWareS_any _ _ _ _ l _ (o2.see.below (by repeat (first | exact Below.refl _ _ | refine bl_tr ?_ _ | refine bl_al ?_ _ | refine bl_dr ?_ | refine bl_up ?_ _ | refine Below.drew ?_ | refine bl_alloc ?_ _ | refine Below.setCell ?_ (by first | (simp; done) | (simp; omega)) _))) (o3.see.below (by repeat (first | exact Below.refl _ _ | refine bl_tr ?_ _ | refine bl_al ?_ _ | refine bl_dr ?_ | refine bl_up ?_ _ | refine Below.drew ?_ | refine bl_alloc ?_ _ | refine Below.setCell ?_ (by first | (simp; done) | (simp; omega)) _))) (by omega) (wTot_in hbl.out)).mono ?_
  rintro e w' ⟨rfl, g9, rfl⟩
  have hmkl := Lib.hid (wMk_bd1 (l := l) (by omega))
  go_wp2_with fail
  refine (markWareS_any _ _ _ 1 l _ _ ((o2.shape).below (by repeat (first | exact Below.refl _ _ | refine bl_tr ?_ _ | refine bl_al ?_ _ | refine bl_dr ?_ | refine bl_up ?_ _ | refine Below.drew ?_ | refine bl_alloc ?_ _ | refine Below.setCell ?_ (by first | (simp; done) | (simp; omega)) _))) (by omega) (by have := hmkl.out; omega) (by omega)).mono ?_
  rintro e w' ⟨rfl, shl, hgk⟩
  have og1 := (og0.below (w' := up W _) (by repeat (first | exact Below.refl _ _ | refine bl_tr ?_ _ | refine bl_al ?_ _ | refine bl_dr ?_ | refine bl_up ?_ _ | refine Below.drew ?_ | refine bl_alloc ?_ _ | refine Below.setCell ?_ (by first | (simp; done) | (simp; omega)) _))).only hgk (by first | exact Nat.le_refl _ | exact (up_below _ _).size | exact Nat.le_trans (up_below _ _).size (up_below _ _).size | (simp; done) | (repeat (first | exact Nat.le_refl _ | refine Nat.le_trans ?_ (le_tr_self _))))
  obtain ⟨g10, rfl⟩ := hgk.upOf (W := W) (by repeat (first | exact Below.refl _ _ | refine bl_tr ?_ _ | refine bl_al ?_ _ | refine bl_dr ?_ | refine bl_up ?_ _ | refine Below.drew ?_ | refine bl_alloc ?_ _ | refine Below.setCell ?_ (by first | (simp; done) | (simp; omega)) _)) (by first | exact Nat.le_refl _ | exact (up_below _ _).size | exact Nat.le_trans (up_below _ _).size (up_below _ _).size | (simp; done) | (repeat (first | exact Nat.le_refl _ | refine Nat.le_trans ?_ (le_tr_self _))))
  clear hgk
  go_wp2_with fail
  refine (eqWareS_any _ _ _ _ L0 _ (og1.see.below (by repeat (first | exact Below.refl _ _ | refine bl_tr ?_ _ | refine bl_al ?_ _ | refine bl_dr ?_ | refine bl_up ?_ _ | refine Below.drew ?_ | refine bl_alloc ?_ _ | refine Below.setCell ?_ (by first | (simp; done) | (simp; omega)) _))) (hw0.out.below (by repeat (first | exact Below.refl _ _ | refine bl_tr ?_ _ | refine bl_al ?_ _ | refine bl_dr ?_ | refine bl_up ?_ _ | refine Below.drew ?_ | refine bl_alloc ?_ _ | refine Below.setCell ?_ (by first | (simp; done) | (simp; omega)) _))) (by omega) HLB.out).mono ?_
  rintro e w' ⟨rfl, g11, rfl⟩
  go_wp2_with fail
  refine (markWareS_in W _ _ _ 1 L0 _ _ (og1.below (by repeat (first | exact Below.refl _ _ | refine bl_tr ?_ _ | refine bl_al ?_ _ | refine bl_dr ?_ | refine bl_up ?_ _ | refine Below.drew ?_ | refine bl_alloc ?_ _ | refine Below.setCell ?_ (by first | (simp; done) | (simp; omega)) _))) (by repeat (first | exact Below.refl _ _ | refine bl_tr ?_ _ | refine bl_al ?_ _ | refine bl_dr ?_ | refine bl_up ?_ _ | refine Below.drew ?_ | refine bl_alloc ?_ _ | refine Below.setCell ?_ (by first | (simp; done) | (simp; omega)) _)) (by first | exact Nat.le_refl _ | exact (up_below _ _).size | exact Nat.le_trans (up_below _ _).size (up_below _ _).size | (simp; done) | (repeat (first | exact Nat.le_refl _ | refine Nat.le_trans ?_ (le_tr_self _)))) (by omega) (by have := hmk.out; omega) (by omega)).mono ?_
  rintro e w' ⟨rfl, mk0, g12, rfl⟩
  go_wp2_with fail
  refine (heldWareS_any _ _ 1 L0 _ (mk0.below (by repeat (first | exact Below.refl _ _ | refine bl_tr ?_ _ | refine bl_al ?_ _ | refine bl_dr ?_ | refine bl_up ?_ _ | refine Below.drew ?_ | refine bl_alloc ?_ _ | refine Below.setCell ?_ (by first | (simp; done) | (simp; omega)) _))) (by omega) (by have := hmk.out; omega) (by omega)).mono ?_
  rintro e w' ⟨rfl, g13, rfl⟩
  go_wp2_with fail
  refine (toWareS_any _ _ l _ (hl.below (by repeat (first | exact Below.refl _ _ | refine bl_tr ?_ _ | refine bl_al ?_ _ | refine bl_dr ?_ | refine bl_up ?_ _ | refine Below.drew ?_ | refine bl_alloc ?_ _ | refine Below.setCell ?_ (by first | (simp; done) | (simp; omega)) _))) (by omega) (wTot_in hbl.out)).mono ?_
  rintro e w' ⟨b4, ps4, rfl, o4, g14, rfl⟩
  go_wp2_with fail
  refine (raiseI' HL _ (o4.see.below (by repeat (first | exact Below.refl _ _ | refine bl_tr ?_ _ | refine bl_al ?_ _ | refine bl_dr ?_ | refine bl_up ?_ _ | refine Below.drew ?_ | refine bl_alloc ?_ _ | refine Below.setCell ?_ (by first | (simp; done) | (simp; omega)) _))) hbl.out (by omega)).mono ?_
  rintro e w' ⟨Ah0, ch0, ph0, rfl, oh0, g15, rfl⟩
  go_wp2_with fail
  refine (eqWareS_any _ _ _ _ L0 _ (oh0.see.below (by repeat (first | exact Below.refl _ _ | refine bl_tr ?_ _ | refine bl_al ?_ _ | refine bl_dr ?_ | refine bl_up ?_ _ | refine Below.drew ?_ | refine bl_alloc ?_ _ | refine Below.setCell ?_ (by first | (simp; done) | (simp; omega)) _))) (hw0.out.below (by repeat (first | exact Below.refl _ _ | refine bl_tr ?_ _ | refine bl_al ?_ _ | refine bl_dr ?_ | refine bl_up ?_ _ | refine Below.drew ?_ | refine bl_alloc ?_ _ | refine Below.setCell ?_ (by first | (simp; done) | (simp; omega)) _))) (by omega) HLB.out).mono ?_
  rintro e w' ⟨rfl, g16, rfl⟩
  go_wp2_with fail
  refine (heldWareS_any _ _ 1 L0 _ (mk0.below (by repeat (first | exact Below.refl _ _ | refine bl_tr ?_ _ | refine bl_al ?_ _ | refine bl_dr ?_ | refine bl_up ?_ _ | refine Below.drew ?_ | refine bl_alloc ?_ _ | refine Below.setCell ?_ (by first | (simp; done) | (simp; omega)) _))) (by omega) (by have := hmk.out; omega) (by omega)).mono ?_
  rintro e w' ⟨rfl, g17, rfl⟩
  go_wp2_with fail
  go_ret
  exact ⟨rfl, UpOf.of (HW.out.trans (Below.mono (by repeat (first | exact Below.refl _ _ | refine bl_tr ?_ _ | refine bl_al ?_ _ | refine bl_dr ?_ | refine bl_up ?_ _ | refine Below.drew ?_ | refine bl_alloc ?_ _ | refine Below.setCell ?_ (by first | (simp; done) | (simp; omega)) _)) HW.out.size))⟩
end Go.Proofs.Ytiibpldfnnhhlaa
