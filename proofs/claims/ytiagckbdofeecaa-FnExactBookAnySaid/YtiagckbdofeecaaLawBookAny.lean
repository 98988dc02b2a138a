/-
  The law on BookAny: its walk.
-/
import Derived.Test.YtiagckbdofeecaaBookAny2
import Derived.Test.YtiagckbdofeecaaLawDaysOut
namespace Go.Proofs.Ytiagckbdofeecaa
open Go.RowKit
theorem anyR_len {l : List Hire} {n f t : Int} {L : List Hire} {a cd : Int} (h : anyR l n f t = (L, a, cd)) : L.length ≤ 60 := by
  have h0 : (anyR l n f t).1.length ≤ 60 := by
    have := (List.takeWhile_prefix (l := l) fun y => before y (anyX l n f t)).length_le
    unfold anyR
    split
    · split
      · split
        · simp
        · split
          · show (insAt l (insN l (anyX l n f t)) (anyX l n f t)).length ≤ 60
            rw [insAt_len l (insN l (anyX l n f t)) (anyX l n f t) this]; omega
          · simp
      · simp
    · simp
  rw [h] at h0
  exact h0
theorem anyI' {l : List Hire} {n f t : Int} {L0 : List Hire} {r1 : Int} {r2 : Int} (hL : Hid (anyR l n f t = (L0, r1, r2))) (w : World) (b off c : Nat) (h : Rds w 3 (some ⟨b, off, none⟩) l.length (hcs l)) (hn : l.length ≤ 100000000) (hcap : l.length ≤ c) :
    Calls Try.prog 39 #[.slice (some ⟨b, off, none⟩) l.length c, i64 n, i64 f, i64 t] w fun e w' => ∃ A' c', e = .returned (.tuple #[.slice A' L0.length c', i64 r1, i64 r2]) ∧ w'.ownsRow w.heap.size 47 3 (.slice A' L0.length c') L0.length (hcs L0) ∧ UpOf w w' := by
  have := anyI_any b off c l n f t w h hn hcap
  rw [hL.out] at this
  exact this
theorem anyS' {l : List Hire} {n f t : Int} {L0 : List Hire} {r1 : Int} {r2 : Int} (hL : Hid (anyR l n f t = (L0, r1, r2))) (w : World) (b off c : Nat) (h : Rds w 3 (some ⟨b, off, none⟩) l.length (hcs l)) (hn : l.length ≤ 100000000) (hcap : l.length ≤ c) :
    Calls Try.prog 38 #[.slice (some ⟨b, off, none⟩) l.length c, i64 n, i64 f, i64 t] w fun e w' => ∃ A' c', e = .returned (.tuple #[.slice A' L0.length c', i64 r1, i64 r2]) ∧ w'.ownsRow w.heap.size 47 3 (.slice A' L0.length c') L0.length (hcs L0) ∧ UpOf w w' := by
  have := anyS_any b off c l n f t w h hn hcap
  rw [hL.out] at this
  exact this
set_option maxRecDepth 10000 in
set_option maxHeartbeats 2000000 in
theorem law_bookAny (Al : Option Addr) (cl : Nat) (l : List Hire) (n : Int) (f : Int) (t : Int) (w : World) (hl : Rds w 3 Al l.length (hcs l)) (hnl : l.length ≤ 9223372036854775807) :
    Calls Try.prog 11 #[.slice Al l.length cl, i64 n, i64 f, i64 t] w fun e w' => e = .returned (.bool true) ∧ UpOf w w' := by
  obtain ⟨L0, r1, r2, hL⟩ : ∃ L0 r1 r2, anyR l n f t = (L0, r1, r2) := ⟨_, _, _, rfl⟩
  have hLn := anyR_len hL
  have HL := Lib.hid hL
  clear hL
  go_enter Try.func11, Try.ntmps11
  by_cases ql : (1048576 : Int) < ((l.length : Nat) : Int)
  · have hs0 : (if (1048576 : Int) < ((l.length : Nat) : Int) then -1 else 1048576 - ((l.length : Nat) : Int)) = -1 := if_pos ql
    go_wp2_with fail
    refine (szHireS_any _ _ _ (1048576) _ (by omega) (by omega) hnl).mono ?_
    rintro e w' ⟨rfl, g1, rfl⟩
    go_wp2_with fail
    go_ret
    exact ⟨rfl, UpOf.of (by repeat (first | exact Below.refl _ _ | refine bl_tr ?_ _ | refine bl_al ?_ _ | refine bl_dr ?_ | refine bl_up ?_ _ | refine Below.drew ?_ | refine bl_alloc ?_ _ | refine Below.setCell ?_ (by simp) _))⟩
  have hsl0 : (if (1048576 : Int) < ((l.length : Nat) : Int) then -1 else 1048576 - ((l.length : Nat) : Int)) = 1048576 - ((l.length : Nat) : Int) := if_neg ql
  have hzl : ((l.length : Nat) : Int) ≤ 1048576 := by omega
  have hll : l.length ≤ 1048576 := by omega
  go_wp2_with fail
  refine (szHireS_any _ _ _ (1048576) _ (by omega) (by omega) hnl).mono ?_
  rintro e w' ⟨rfl, g2, rfl⟩
  go_wp2_with fail
  refine (toHireS_any _ _ l _ (hl.below (by repeat (first | exact Below.refl _ _ | refine bl_tr ?_ _ | refine bl_al ?_ _ | refine bl_dr ?_ | refine bl_up ?_ _ | refine Below.drew ?_ | refine bl_alloc ?_ _ | refine Below.setCell ?_ (by simp) _))) (by omega)).mono ?_
  rintro e w' ⟨b1, rfl, o1, g3, rfl⟩
  go_wp2_with fail
  refine (anyS' HL _ _ _ _ ((Rds.of_own o1).below (by repeat (first | exact Below.refl _ _ | refine bl_tr ?_ _ | refine bl_al ?_ _ | refine bl_dr ?_ | refine bl_up ?_ _ | refine Below.drew ?_ | refine bl_alloc ?_ _ | refine Below.setCell ?_ (by simp) _))) (by omega) (by omega)).mono ?_
  rintro e w' ⟨Aw0, cw0, rfl, ow0, g4, rfl⟩
  go_wp2_with fail
  refine (toHireS_any _ _ l _ (hl.below (by repeat (first | exact Below.refl _ _ | refine bl_tr ?_ _ | refine bl_al ?_ _ | refine bl_dr ?_ | refine bl_up ?_ _ | refine Below.drew ?_ | refine bl_alloc ?_ _ | refine Below.setCell ?_ (by simp) _))) (by omega)).mono ?_
  rintro e w' ⟨b2, rfl, o2, g5, rfl⟩
  go_wp2_with fail
  refine (anyI' HL _ _ _ _ ((Rds.of_own o2).below (by repeat (first | exact Below.refl _ _ | refine bl_tr ?_ _ | refine bl_al ?_ _ | refine bl_dr ?_ | refine bl_up ?_ _ | refine Below.drew ?_ | refine bl_alloc ?_ _ | refine Below.setCell ?_ (by simp) _))) (by omega) (by omega)).mono ?_
  rintro e w' ⟨Ag0, cg0, rfl, og0, g6, rfl⟩
  go_wp2_with fail
  refine (eqHireS_any _ _ _ _ L0 _ ((Rds.of_own og0).below (by repeat (first | exact Below.refl _ _ | refine bl_tr ?_ _ | refine bl_al ?_ _ | refine bl_dr ?_ | refine bl_up ?_ _ | refine Below.drew ?_ | refine bl_alloc ?_ _ | refine Below.setCell ?_ (by simp) _))) ((Rds.of_own ow0).below (by repeat (first | exact Below.refl _ _ | refine bl_tr ?_ _ | refine bl_al ?_ _ | refine bl_dr ?_ | refine bl_up ?_ _ | refine Below.drew ?_ | refine bl_alloc ?_ _ | refine Below.setCell ?_ (by simp) _))) (by omega)).mono ?_
  rintro e w' ⟨rfl, g7, rfl⟩
  go_wp2_with fail
  refine (toHireS_any _ _ l _ (hl.below (by repeat (first | exact Below.refl _ _ | refine bl_tr ?_ _ | refine bl_al ?_ _ | refine bl_dr ?_ | refine bl_up ?_ _ | refine Below.drew ?_ | refine bl_alloc ?_ _ | refine Below.setCell ?_ (by simp) _))) (by omega)).mono ?_
  rintro e w' ⟨b3, rfl, o3, g8, rfl⟩
  go_wp2_with fail
  refine (eqHireS_any _ _ _ _ l _ ((Rds.of_own o2).below (by repeat (first | exact Below.refl _ _ | refine bl_tr ?_ _ | refine bl_al ?_ _ | refine bl_dr ?_ | refine bl_up ?_ _ | refine Below.drew ?_ | refine bl_alloc ?_ _ | refine Below.setCell ?_ (by simp) _))) (Rds.of_own o3) (by omega)).mono ?_
  rintro e w' ⟨rfl, g9, rfl⟩
  go_wp2_with fail
  refine (markHireS_any _ _ _ _ 1 _ _ (own_below o2 (by repeat (first | exact Below.refl _ _ | refine bl_tr ?_ _ | refine bl_al ?_ _ | refine bl_dr ?_ | refine bl_up ?_ _ | refine Below.drew ?_ | refine bl_alloc ?_ _ | refine Below.setCell ?_ (by simp) _))) (by omega) (by omega)).mono ?_
  rintro e w' ⟨rfl, mkl, hgk⟩
  have rw0_l := ((Rds.of_own ow0).below (by repeat (first | exact Below.refl _ _ | refine bl_tr ?_ _ | refine bl_al ?_ _ | refine bl_dr ?_ | refine bl_up ?_ _ | refine Below.drew ?_ | refine bl_alloc ?_ _ | refine Below.setCell ?_ (by simp) _))).grown hgk (fun _ => own_apart ow0 o2 (Nat.le_refl _))
  have og0_l := (own_below og0 (by repeat (first | exact Below.refl _ _ | refine bl_tr ?_ _ | refine bl_al ?_ _ | refine bl_dr ?_ | refine bl_up ?_ _ | refine Below.drew ?_ | refine bl_alloc ?_ _ | refine Below.setCell ?_ (by simp) _))).kept hgk (own_far o2 og0 (Nat.le_refl _))
  obtain ⟨g10, rfl⟩ := up_of_mark (W := w) (by repeat (first | exact Below.refl _ _ | refine bl_tr ?_ _ | refine bl_al ?_ _ | refine bl_dr ?_ | refine bl_up ?_ _ | refine Below.drew ?_ | refine bl_alloc ?_ _ | refine Below.setCell ?_ (by simp) _)) (own_below o2 (by repeat (first | exact Below.refl _ _ | refine bl_tr ?_ _ | refine bl_al ?_ _ | refine bl_dr ?_ | refine bl_up ?_ _ | refine Below.drew ?_ | refine bl_alloc ?_ _ | refine Below.setCell ?_ (by simp) _))) (by first | exact Nat.le_refl _ | exact (up_below _ _).size | exact Nat.le_trans (up_below _ _).size (up_below _ _).size | simp) hgk
  clear hgk
  go_wp2_with fail
  refine (eqHireS_any _ _ _ _ L0 _ ((Rds.of_own og0_l).below (by repeat (first | exact Below.refl _ _ | refine bl_tr ?_ _ | refine bl_al ?_ _ | refine bl_dr ?_ | refine bl_up ?_ _ | refine Below.drew ?_ | refine bl_alloc ?_ _ | refine Below.setCell ?_ (by simp) _))) (rw0_l.below (by repeat (first | exact Below.refl _ _ | refine bl_tr ?_ _ | refine bl_al ?_ _ | refine bl_dr ?_ | refine bl_up ?_ _ | refine Below.drew ?_ | refine bl_alloc ?_ _ | refine Below.setCell ?_ (by simp) _))) (by omega)).mono ?_
  rintro e w' ⟨rfl, g11, rfl⟩
  go_wp2_with fail
  refine (markHireS_any _ _ _ _ 1 _ _ (own_below og0_l (by repeat (first | exact Below.refl _ _ | refine bl_tr ?_ _ | refine bl_al ?_ _ | refine bl_dr ?_ | refine bl_up ?_ _ | refine Below.drew ?_ | refine bl_alloc ?_ _ | refine Below.setCell ?_ (by simp) _))) (by omega) (by omega)).mono ?_
  rintro e w' ⟨rfl, m0, hgm⟩
  have rm0_0 := (rw0_l.below (by repeat (first | exact Below.refl _ _ | refine bl_tr ?_ _ | refine bl_al ?_ _ | refine bl_dr ?_ | refine bl_up ?_ _ | refine Below.drew ?_ | refine bl_alloc ?_ _ | refine Below.setCell ?_ (by simp) _))).grown hgm (fun _ => own_apart ow0 og0 (by first | exact Nat.le_refl _ | exact (up_below _ _).size | exact Nat.le_trans (up_below _ _).size (up_below _ _).size | simp))
  obtain ⟨g12, rfl⟩ := up_of_mark (W := w) (by repeat (first | exact Below.refl _ _ | refine bl_tr ?_ _ | refine bl_al ?_ _ | refine bl_dr ?_ | refine bl_up ?_ _ | refine Below.drew ?_ | refine bl_alloc ?_ _ | refine Below.setCell ?_ (by simp) _)) (own_below og0_l (by repeat (first | exact Below.refl _ _ | refine bl_tr ?_ _ | refine bl_al ?_ _ | refine bl_dr ?_ | refine bl_up ?_ _ | refine Below.drew ?_ | refine bl_alloc ?_ _ | refine Below.setCell ?_ (by simp) _))) (by first | exact Nat.le_refl _ | exact (up_below _ _).size | exact Nat.le_trans (up_below _ _).size (up_below _ _).size | simp) hgm
  clear hgm
  go_wp2_with fail
  refine (heldHireS_any _ _ _ 1 _ ((Rds.of_own m0).below (by repeat (first | exact Below.refl _ _ | refine bl_tr ?_ _ | refine bl_al ?_ _ | refine bl_dr ?_ | refine bl_up ?_ _ | refine Below.drew ?_ | refine bl_alloc ?_ _ | refine Below.setCell ?_ (by simp) _))) (by omega) (by omega)).mono ?_
  rintro e w' ⟨rfl, g13, rfl⟩
  go_wp2_with fail
  refine (toHireS_any _ _ l _ (hl.below (by repeat (first | exact Below.refl _ _ | refine bl_tr ?_ _ | refine bl_al ?_ _ | refine bl_dr ?_ | refine bl_up ?_ _ | refine Below.drew ?_ | refine bl_alloc ?_ _ | refine Below.setCell ?_ (by simp) _))) (by omega)).mono ?_
  rintro e w' ⟨b4, rfl, o4, g14, rfl⟩
  go_wp2_with fail
  refine (anyI' HL _ _ _ _ ((Rds.of_own o4).below (by repeat (first | exact Below.refl _ _ | refine bl_tr ?_ _ | refine bl_al ?_ _ | refine bl_dr ?_ | refine bl_up ?_ _ | refine Below.drew ?_ | refine bl_alloc ?_ _ | refine Below.setCell ?_ (by simp) _))) (by omega) (by omega)).mono ?_
  rintro e w' ⟨Ah0, ch0, rfl, oh0, g15, rfl⟩
  go_wp2_with fail
  refine (eqHireS_any _ _ _ _ L0 _ ((Rds.of_own oh0).below (by repeat (first | exact Below.refl _ _ | refine bl_tr ?_ _ | refine bl_al ?_ _ | refine bl_dr ?_ | refine bl_up ?_ _ | refine Below.drew ?_ | refine bl_alloc ?_ _ | refine Below.setCell ?_ (by simp) _))) (rm0_0.below (by repeat (first | exact Below.refl _ _ | refine bl_tr ?_ _ | refine bl_al ?_ _ | refine bl_dr ?_ | refine bl_up ?_ _ | refine Below.drew ?_ | refine bl_alloc ?_ _ | refine Below.setCell ?_ (by simp) _))) (by omega)).mono ?_
  rintro e w' ⟨rfl, g16, rfl⟩
  go_wp2_with fail
  refine (heldHireS_any _ _ _ 1 _ ((Rds.of_own m0).below (by repeat (first | exact Below.refl _ _ | refine bl_tr ?_ _ | refine bl_al ?_ _ | refine bl_dr ?_ | refine bl_up ?_ _ | refine Below.drew ?_ | refine bl_alloc ?_ _ | refine Below.setCell ?_ (by simp) _))) (by omega) (by omega)).mono ?_
  rintro e w' ⟨rfl, g17, rfl⟩
  go_wp2_with fail
  go_ret
  exact ⟨rfl, UpOf.of (by repeat (first | exact Below.refl _ _ | refine bl_tr ?_ _ | refine bl_al ?_ _ | refine bl_dr ?_ | refine bl_up ?_ _ | refine Below.drew ?_ | refine bl_alloc ?_ _ | refine Below.setCell ?_ (by simp) _))⟩
end Go.Proofs.Ytiagckbdofeecaa
