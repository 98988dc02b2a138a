/-
  The law on BookHire: its walk.
-/
import Derived.Test.YtiagckbdofeecaaBook2
import Derived.Test.YtiagckbdofeecaaLawDaysOut
namespace Go.Proofs.Ytiagckbdofeecaa
open Go.RowKit
theorem bookR_len {l : List Hire} {n : Int} {x : Hire} {L : List Hire} {cd : Int} (h : bookR l n x = (L, cd)) : L.length ≤ 60 := by
  have h0 : (bookR l n x).1.length ≤ 60 := by
    have := (List.takeWhile_prefix (l := l) fun y => before y x).length_le
    unfold bookR
    split
    · split
      · split
        · split
          · show (insAt l (insN l x) x).length ≤ 60
            rw [insAt_len l (insN l x) x this]; omega
          · simp
        · simp
      · simp
    · simp
  rw [h] at h0
  exact h0
theorem bookI' {l : List Hire} {n : Int} {x : Hire} {L0 : List Hire} {r1 : Int} (hL : Hid (bookR l n x = (L0, r1))) (w : World) (b off c : Nat) (h : Rds w 3 (some ⟨b, off, none⟩) l.length (hcs l)) (hn : l.length ≤ 100000000) (hcap : l.length ≤ c) :
    Calls Try.prog 35 #[.slice (some ⟨b, off, none⟩) l.length c, i64 n, hv x] w fun e w' => ∃ A' c', e = .returned (.tuple #[.slice A' L0.length c', i64 r1]) ∧ w'.ownsRow w.heap.size 47 3 (.slice A' L0.length c') L0.length (hcs L0) ∧ UpOf w w' := by
  have := bookI_any b off c l n x w h hn hcap
  rw [hL.out] at this
  exact this
theorem bookS' {l : List Hire} {n : Int} {x : Hire} {L0 : List Hire} {r1 : Int} (hL : Hid (bookR l n x = (L0, r1))) (w : World) (b off c : Nat) (h : Rds w 3 (some ⟨b, off, none⟩) l.length (hcs l)) (hn : l.length ≤ 100000000) (hcap : l.length ≤ c) :
    Calls Try.prog 33 #[.slice (some ⟨b, off, none⟩) l.length c, i64 n, hv x] w fun e w' => ∃ A' c', e = .returned (.tuple #[.slice A' L0.length c', i64 r1]) ∧ w'.ownsRow w.heap.size 47 3 (.slice A' L0.length c') L0.length (hcs L0) ∧ UpOf w w' := by
  have := bookS_any b off c l n x w h hn hcap
  rw [hL.out] at this
  exact this
set_option maxRecDepth 10000 in
set_option maxHeartbeats 2000000 in
theorem law_bookHire (Al : Option Addr) (cl : Nat) (l : List Hire) (n : Int) (x : Hire) (w : World) (hl : Rds w 3 Al l.length (hcs l)) (hnl : l.length ≤ 9223372036854775807)  :
    Calls Try.prog 9 #[.slice Al l.length cl, i64 n, hv x] w fun e w' => e = .returned (.bool true) ∧ UpOf w w' := by
  obtain ⟨L0, r1, hL⟩ : ∃ L0 r1, bookR l n x = (L0, r1) := ⟨_, _, rfl⟩
  have hLn := bookR_len hL
  have HL := Lib.hid hL
  clear hL
  go_enter Try.func9, Try.ntmps9
  go_wp2_with fail
  generalize hW : w.alloc (.cells #[i64 x.m, i64 x.f, i64 x.t] 45) = W
  have hB : Below w.heap.size w W := by rw [← hW]; exact (Below.refl _ _).alloc (Nat.le_refl _) _
  have hxx : w.heap.size < W.heap.size ∧ W.cell? ⟨w.heap.size, 0, none⟩ = some (i64 x.m) ∧ W.cell? ⟨w.heap.size, 1, none⟩ = some (i64 x.f) ∧ W.cell? ⟨w.heap.size, 2, none⟩ = some (i64 x.t) := by rw [← hW]; exact ⟨by simp, World.cell?_alloc_new _ _ _ _, World.cell?_alloc_new _ _ _ _, World.cell?_alloc_new _ _ _ _⟩
  obtain ⟨x0, x1, x2, x3⟩ := hxx
  have hl' := hl.below hB
  clear hl
  have hl := hl'
  clear hl'
  have HB := Lib.hid hB
  clear hB hW
  by_cases ql : (1048576 : Int) < ((l.length : Nat) : Int)
  · have hs0 : (if (1048576 : Int) < ((l.length : Nat) : Int) then -1 else 1048576 - ((l.length : Nat) : Int)) = -1 := if_pos ql
    go_wp2_with fail
    refine (szHireS_any _ _ _ (1048576) _ (by omega) (by omega) hnl).mono ?_
    rintro e w' ⟨rfl, g1, rfl⟩
    go_wp2_with fail
    go_ret
    exact ⟨rfl, UpOf.of (HB.out.trans ((up_below W _).mono HB.out.size))⟩
  have hsl0 : (if (1048576 : Int) < ((l.length : Nat) : Int) then -1 else 1048576 - ((l.length : Nat) : Int)) = 1048576 - ((l.length : Nat) : Int) := if_neg ql
  have hzl : ((l.length : Nat) : Int) ≤ 1048576 := by omega
  have hll : l.length ≤ 1048576 := by omega
  go_wp2_with fail
  refine (szHireS_any _ _ _ (1048576) _ (by omega) (by omega) hnl).mono ?_
  rintro e w' ⟨rfl, g2, rfl⟩
  go_wp2_with fail
  go_region_held3 (fun w' => (W).heap.size ≤ w'.heap.size ∧ ∀ b o, b < (W).heap.size → w'.cell? ⟨b, o, none⟩ = (W).cell? ⟨b, o, none⟩) (exact sm_of (by repeat (first | exact Below.refl _ _ | refine bl_tr ?_ _ | refine bl_al ?_ _ | refine bl_dr ?_ | refine bl_up ?_ _ | refine Below.drew ?_ | refine bl_alloc ?_ _ | refine Below.setCell ?_ (by simp) _))) (first | (go_at_call 33; refine (bookS' HL _ _ _ _ ((Rds.of_own o1).below (by repeat (first | exact Below.refl _ _ | refine bl_tr ?_ _ | refine bl_al ?_ _ | refine bl_dr ?_ | refine bl_up ?_ _ | refine Below.drew ?_ | refine bl_alloc ?_ _ | refine Below.setCell ?_ (by simp) _))) (by omega) (by omega)).mono ?_; rintro e w' ⟨Aw0, cw0, rfl, ow0, g5, rfl⟩) | (go_at_call 34; refine (toHire_any _ _).mono ?_; rintro e w' ⟨rfl, g4, rfl⟩) | (go_at_call 15; refine (toHireS_any _ _ l _ (hl.below (by repeat (first | exact Below.refl _ _ | refine bl_tr ?_ _ | refine bl_al ?_ _ | refine bl_dr ?_ | refine bl_up ?_ _ | refine Below.drew ?_ | refine bl_alloc ?_ _ | refine Below.setCell ?_ (by simp) _))) (by omega)).mono ?_; rintro e w' ⟨b1, rfl, o1, g3, rfl⟩))
  go_wp2_with fail
  refine (toHireS_any _ _ l _ (hl.below (by repeat (first | exact Below.refl _ _ | refine bl_tr ?_ _ | refine bl_al ?_ _ | refine bl_dr ?_ | refine bl_up ?_ _ | refine Below.drew ?_ | refine bl_alloc ?_ _ | refine Below.setCell ?_ (by simp) _))) (by omega)).mono ?_
  rintro e w' ⟨b2, rfl, o2, g6, rfl⟩
  go_wp2_with fail
  refine (toHire_any _ _).mono ?_
  rintro e w' ⟨rfl, g7, rfl⟩
  go_wp2_with fail
  refine (bookI' HL _ _ _ _ ((Rds.of_own o2).below (by repeat (first | exact Below.refl _ _ | refine bl_tr ?_ _ | refine bl_al ?_ _ | refine bl_dr ?_ | refine bl_up ?_ _ | refine Below.drew ?_ | refine bl_alloc ?_ _ | refine Below.setCell ?_ (by simp) _))) (by omega) (by omega)).mono ?_
  rintro e w' ⟨Ag0, cg0, rfl, og0, g8, rfl⟩
  go_wp2_with fail
  refine (eqHireS_any _ _ _ _ L0 _ ((Rds.of_own og0).below (by repeat (first | exact Below.refl _ _ | refine bl_tr ?_ _ | refine bl_al ?_ _ | refine bl_dr ?_ | refine bl_up ?_ _ | refine Below.drew ?_ | refine bl_alloc ?_ _ | refine Below.setCell ?_ (by simp) _))) ((Rds.of_own ow0).below (by repeat (first | exact Below.refl _ _ | refine bl_tr ?_ _ | refine bl_al ?_ _ | refine bl_dr ?_ | refine bl_up ?_ _ | refine Below.drew ?_ | refine bl_alloc ?_ _ | refine Below.setCell ?_ (by simp) _))) (by omega)).mono ?_
  rintro e w' ⟨rfl, g9, rfl⟩
  go_wp2_with fail
  refine (toHireS_any _ _ l _ (hl.below (by repeat (first | exact Below.refl _ _ | refine bl_tr ?_ _ | refine bl_al ?_ _ | refine bl_dr ?_ | refine bl_up ?_ _ | refine Below.drew ?_ | refine bl_alloc ?_ _ | refine Below.setCell ?_ (by simp) _))) (by omega)).mono ?_
  rintro e w' ⟨b3, rfl, o3, g10, rfl⟩
  go_wp2_with fail
  refine (eqHireS_any _ _ _ _ l _ ((Rds.of_own o2).below (by repeat (first | exact Below.refl _ _ | refine bl_tr ?_ _ | refine bl_al ?_ _ | refine bl_dr ?_ | refine bl_up ?_ _ | refine Below.drew ?_ | refine bl_alloc ?_ _ | refine Below.setCell ?_ (by simp) _))) (Rds.of_own o3) (by omega)).mono ?_
  rintro e w' ⟨rfl, g11, rfl⟩
  go_wp2_with fail
  refine (markHireS_any _ _ _ _ 1 _ _ (own_below o2 (by repeat (first | exact Below.refl _ _ | refine bl_tr ?_ _ | refine bl_al ?_ _ | refine bl_dr ?_ | refine bl_up ?_ _ | refine Below.drew ?_ | refine bl_alloc ?_ _ | refine Below.setCell ?_ (by simp) _))) (by omega) (by omega)).mono ?_
  rintro e w' ⟨rfl, mkl, hgk⟩
  have rw0_l := ((Rds.of_own ow0).below (by repeat (first | exact Below.refl _ _ | refine bl_tr ?_ _ | refine bl_al ?_ _ | refine bl_dr ?_ | refine bl_up ?_ _ | refine Below.drew ?_ | refine bl_alloc ?_ _ | refine Below.setCell ?_ (by simp) _))).grown hgk (fun _ => own_apart ow0 o2 (Nat.le_refl _))
  have og0_l := (own_below og0 (by repeat (first | exact Below.refl _ _ | refine bl_tr ?_ _ | refine bl_al ?_ _ | refine bl_dr ?_ | refine bl_up ?_ _ | refine Below.drew ?_ | refine bl_alloc ?_ _ | refine Below.setCell ?_ (by simp) _))).kept hgk (own_far o2 og0 (by first | exact Nat.le_refl _ | exact (up_below _ _).size | exact Nat.le_trans (up_below _ _).size (up_below _ _).size | simp))
  obtain ⟨g12, rfl⟩ := up_of_mark (W := W) (by repeat (first | exact Below.refl _ _ | refine bl_tr ?_ _ | refine bl_al ?_ _ | refine bl_dr ?_ | refine bl_up ?_ _ | refine Below.drew ?_ | refine bl_alloc ?_ _ | refine Below.setCell ?_ (by simp) _)) (own_below o2 (by repeat (first | exact Below.refl _ _ | refine bl_tr ?_ _ | refine bl_al ?_ _ | refine bl_dr ?_ | refine bl_up ?_ _ | refine Below.drew ?_ | refine bl_alloc ?_ _ | refine Below.setCell ?_ (by simp) _))) (by first | exact Nat.le_refl _ | exact (up_below _ _).size | exact Nat.le_trans (up_below _ _).size (up_below _ _).size | simp) hgk
  clear hgk
  go_wp2_with fail
  refine (eqHireS_any _ _ _ _ L0 _ ((Rds.of_own og0_l).below (by repeat (first | exact Below.refl _ _ | refine bl_tr ?_ _ | refine bl_al ?_ _ | refine bl_dr ?_ | refine bl_up ?_ _ | refine Below.drew ?_ | refine bl_alloc ?_ _ | refine Below.setCell ?_ (by simp) _))) (rw0_l.below (by repeat (first | exact Below.refl _ _ | refine bl_tr ?_ _ | refine bl_al ?_ _ | refine bl_dr ?_ | refine bl_up ?_ _ | refine Below.drew ?_ | refine bl_alloc ?_ _ | refine Below.setCell ?_ (by simp) _))) (by omega)).mono ?_
  rintro e w' ⟨rfl, g13, rfl⟩
  go_wp2_with fail
  refine (markHireS_any _ _ _ _ 1 _ _ (own_below og0_l (by repeat (first | exact Below.refl _ _ | refine bl_tr ?_ _ | refine bl_al ?_ _ | refine bl_dr ?_ | refine bl_up ?_ _ | refine Below.drew ?_ | refine bl_alloc ?_ _ | refine Below.setCell ?_ (by simp) _))) (by omega) (by omega)).mono ?_
  rintro e w' ⟨rfl, m0, hgm⟩
  have rm0_0 := (rw0_l.below (by repeat (first | exact Below.refl _ _ | refine bl_tr ?_ _ | refine bl_al ?_ _ | refine bl_dr ?_ | refine bl_up ?_ _ | refine Below.drew ?_ | refine bl_alloc ?_ _ | refine Below.setCell ?_ (by simp) _))).grown hgm (fun _ => own_apart ow0 og0 (by first | exact Nat.le_refl _ | exact (up_below _ _).size | exact Nat.le_trans (up_below _ _).size (up_below _ _).size | simp))
  obtain ⟨g14, rfl⟩ := up_of_mark (W := W) (by repeat (first | exact Below.refl _ _ | refine bl_tr ?_ _ | refine bl_al ?_ _ | refine bl_dr ?_ | refine bl_up ?_ _ | refine Below.drew ?_ | refine bl_alloc ?_ _ | refine Below.setCell ?_ (by simp) _)) (own_below og0_l (by repeat (first | exact Below.refl _ _ | refine bl_tr ?_ _ | refine bl_al ?_ _ | refine bl_dr ?_ | refine bl_up ?_ _ | refine Below.drew ?_ | refine bl_alloc ?_ _ | refine Below.setCell ?_ (by simp) _))) (by first | exact Nat.le_refl _ | exact (up_below _ _).size | exact Nat.le_trans (up_below _ _).size (up_below _ _).size | simp) hgm
  clear hgm
  go_wp2_with fail
  refine (heldHireS_any _ _ _ 1 _ ((Rds.of_own m0).below (by repeat (first | exact Below.refl _ _ | refine bl_tr ?_ _ | refine bl_al ?_ _ | refine bl_dr ?_ | refine bl_up ?_ _ | refine Below.drew ?_ | refine bl_alloc ?_ _ | refine Below.setCell ?_ (by simp) _))) (by omega) (by omega)).mono ?_
  rintro e w' ⟨rfl, g15, rfl⟩
  go_wp2_with fail
  go_region_held3 (fun w' => (W).heap.size ≤ w'.heap.size ∧ ∀ b o, b < (W).heap.size → w'.cell? ⟨b, o, none⟩ = (W).cell? ⟨b, o, none⟩) (exact sm_of (by repeat (first | exact Below.refl _ _ | refine bl_tr ?_ _ | refine bl_al ?_ _ | refine bl_dr ?_ | refine bl_up ?_ _ | refine Below.drew ?_ | refine bl_alloc ?_ _ | refine Below.setCell ?_ (by simp) _))) (first | (go_at_call 35; refine (bookI' HL _ _ _ _ ((Rds.of_own o4).below (by repeat (first | exact Below.refl _ _ | refine bl_tr ?_ _ | refine bl_al ?_ _ | refine bl_dr ?_ | refine bl_up ?_ _ | refine Below.drew ?_ | refine bl_alloc ?_ _ | refine Below.setCell ?_ (by simp) _))) (by omega) (by omega)).mono ?_; rintro e w' ⟨Ah0, ch0, rfl, oh0, g18, rfl⟩) | (go_at_call 34; refine (toHire_any _ _).mono ?_; rintro e w' ⟨rfl, g17, rfl⟩) | (go_at_call 15; refine (toHireS_any _ _ l _ (hl.below (by repeat (first | exact Below.refl _ _ | refine bl_tr ?_ _ | refine bl_al ?_ _ | refine bl_dr ?_ | refine bl_up ?_ _ | refine Below.drew ?_ | refine bl_alloc ?_ _ | refine Below.setCell ?_ (by simp) _))) (by omega)).mono ?_; rintro e w' ⟨b4, rfl, o4, g16, rfl⟩))
  go_wp2_with fail
  refine (eqHireS_any _ _ _ _ L0 _ ((Rds.of_own oh0).below (by repeat (first | exact Below.refl _ _ | refine bl_tr ?_ _ | refine bl_al ?_ _ | refine bl_dr ?_ | refine bl_up ?_ _ | refine Below.drew ?_ | refine bl_alloc ?_ _ | refine Below.setCell ?_ (by simp) _))) (rm0_0.below (by repeat (first | exact Below.refl _ _ | refine bl_tr ?_ _ | refine bl_al ?_ _ | refine bl_dr ?_ | refine bl_up ?_ _ | refine Below.drew ?_ | refine bl_alloc ?_ _ | refine Below.setCell ?_ (by simp) _))) (by omega)).mono ?_
  rintro e w' ⟨rfl, g19, rfl⟩
  go_wp2_with fail
  refine (heldHireS_any _ _ _ 1 _ ((Rds.of_own m0).below (by repeat (first | exact Below.refl _ _ | refine bl_tr ?_ _ | refine bl_al ?_ _ | refine bl_dr ?_ | refine bl_up ?_ _ | refine Below.drew ?_ | refine bl_alloc ?_ _ | refine Below.setCell ?_ (by simp) _))) (by omega) (by omega)).mono ?_
  rintro e w' ⟨rfl, g20, rfl⟩
  go_wp2_with fail
  go_ret
  exact ⟨rfl, UpOf.of (HB.out.trans ((up_below W _).mono HB.out.size))⟩
end Go.Proofs.Ytiagckbdofeecaa
