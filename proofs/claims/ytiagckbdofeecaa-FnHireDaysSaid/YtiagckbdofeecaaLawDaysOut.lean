/-
  The law on DaysOut: its walk.
-/
import Derived.Test.YtiagckbdofeecaaDaysOut
namespace Go.Proofs.Ytiagckbdofeecaa
open Go.RowKit
theorem dOutR_len {l : List Hire} {n : Int} {L : List Int} {cd : Int} (h : dOutR l n = (L, cd)) : L.length ≤ 20 := by
  unfold dOutR at h
  split at h
  · rename_i h1
    have := vHires_nn h1
    injection h with h _
    rw [← h, dL_len]
    omega
  · injection h with h _
    rw [← h]
    simp
theorem daysOutI' {l : List Hire} {n : Int} {L : List Int} {cd : Int} (hL : dOutR l n = (L, cd)) (A : Option Addr) (c : Nat) (w : World) (h : Rds w 3 A l.length (hcs l)) (hn : l.length ≤ 100000000) (hcap : l.length ≤ c) :
    Calls Try.prog 27 #[.slice A l.length c, i64 n] w fun e w' => ∃ A' c', e = .returned (.tuple #[.slice A' L.length c', i64 cd]) ∧ w'.ownsRow w.heap.size 2 1 (.slice A' L.length c') L.length (ics L) ∧ UpOf w w' := by
  have := daysOutI_any A c l n w h hn hcap
  rw [hL] at this
  exact this
theorem daysOutS' {l : List Hire} {n : Int} {L : List Int} {cd : Int} (hL : dOutR l n = (L, cd)) (A : Option Addr) (c : Nat) (w : World) (h : Rds w 3 A l.length (hcs l)) (hn : l.length ≤ 100000000) :
    Calls Try.prog 26 #[.slice A l.length c, i64 n] w fun e w' => ∃ A' c', e = .returned (.tuple #[.slice A' L.length c', i64 cd]) ∧ w'.ownsRow w.heap.size 2 1 (.slice A' L.length c') L.length (ics L) ∧ UpOf w w' := by
  have := daysOutS_any A c l n w h hn
  rw [hL] at this
  exact this
set_option maxRecDepth 10000 in
set_option maxHeartbeats 1000000 in
theorem law_daysOut (A : Option Addr) (c : Nat) (l : List Hire) (n : Int) (w : World) (h : Rds w 3 A l.length (hcs l)) (hn : l.length ≤ 9223372036854775807) :
    Calls Try.prog 7 #[.slice A l.length c, i64 n] w fun e w' => e = .returned (.bool true) ∧ UpOf w w' := by
  obtain ⟨L, cd, hL⟩ : ∃ L cd, dOutR l n = (L, cd) := ⟨_, _, rfl⟩
  have hLn := dOutR_len hL
  by_cases hl : (1048576 : Int) < l.length
  · have hs : (if (1048576 : Int) < l.length then -1 else 1048576 - (l.length : Int)) = -1 := if_pos hl
    go_enter Try.func7, Try.ntmps7
    go_wp2_with (first | (go_at_call 13; refine (szHireS_any _ _ _ _ _ (by omega) (by omega) hn).mono ?_; rintro e w' ⟨rfl, g, rfl⟩) | ((with_reducible refine wp_region_up (by kernel_rfl) (by kernel_rfl) ?_); (repeat (go_big_quiet_step (first | (go_at_call 13; first | exact upq_tr (szHireS_any _ _ _ _ _ (by omega) (by omega) hn) | exact upq (szHireS_any _ _ _ _ _ (by omega) (by omega) hn))))); refine wpQuiet_nil ?_; intro _ hw'; obtain ⟨nq, hw''⟩ := hw'; subst hw''))
    go_ret
    exact ⟨rfl, UpOf.of (by repeat (first | exact Below.refl _ _ | refine bl_tr ?_ _ | refine bl_al ?_ _ | refine bl_dr ?_ | refine bl_up ?_ _ | refine Below.drew ?_ | refine bl_alloc ?_ _ | refine Below.setCell ?_ (by first | (simp; done) | (simp; omega)) _))⟩
  · have hs : (if (1048576 : Int) < l.length then -1 else 1048576 - (l.length : Int)) = 1048576 - (l.length : Int) := if_neg hl
    have hl' : l.length ≤ 1048576 := by omega
    go_enter Try.func7, Try.ntmps7
    go_wp2_with (first | (go_at_call 13; refine (szHireS_any _ _ _ _ _ (by omega) (by omega) hn).mono ?_; rintro e w' ⟨rfl, g, rfl⟩) | ((with_reducible refine wp_region_up (by kernel_rfl) (by kernel_rfl) ?_); (repeat (go_big_quiet_step (first | (go_at_call 13; first | exact upq_tr (szHireS_any _ _ _ _ _ (by omega) (by omega) hn) | exact upq (szHireS_any _ _ _ _ _ (by omega) (by omega) hn))))); refine wpQuiet_nil ?_; intro _ hw'; obtain ⟨nq, hw''⟩ := hw'; subst hw''))
    refine (toHireS_any _ _ l _ (h.below (by repeat (first | exact Below.refl _ _ | refine bl_tr ?_ _ | refine bl_al ?_ _ | refine bl_dr ?_ | refine bl_up ?_ _ | refine Below.drew ?_ | refine bl_alloc ?_ _ | refine Below.setCell ?_ (by first | (simp; done) | (simp; omega)) _))) (by omega)).mono ?_
    rintro e w' ⟨A1, rfl, o1, g1, rfl⟩
    go_wp2_with fail
    refine (daysOutS' hL _ _ _ (Rds.of_own o1) (by omega)).mono ?_
    rintro e w' ⟨Aw, cw, rfl, ow, g2, rfl⟩
    go_wp2_with fail
    refine (toHireS_any _ _ l _ (h.below (by repeat (first | exact Below.refl _ _ | refine bl_tr ?_ _ | refine bl_al ?_ _ | refine bl_dr ?_ | refine bl_up ?_ _ | refine Below.drew ?_ | refine bl_alloc ?_ _ | refine Below.setCell ?_ (by first | (simp; done) | (simp; omega)) _))) (by omega)).mono ?_
    rintro e w' ⟨A2, rfl, o2, g3, rfl⟩
    go_wp2_with fail
    refine (daysOutI' hL _ _ _ (Rds.of_own o2) (by omega) (by omega)).mono ?_
    rintro e w' ⟨Ag, cg, rfl, og, g4, rfl⟩
    go_wp2_with fail
    refine (eqInt64S_any _ _ _ _ L _ (Rds.of_own og) ((Rds.of_own ow).below (by repeat (first | exact Below.refl _ _ | refine bl_tr ?_ _ | refine bl_al ?_ _ | refine bl_dr ?_ | refine bl_up ?_ _ | refine Below.drew ?_ | refine bl_alloc ?_ _ | refine Below.setCell ?_ (by first | (simp; done) | (simp; omega)) _))) (by omega)).mono ?_
    rintro e w' ⟨rfl, g5, rfl⟩
    go_wp2_with fail
    refine (toHireS_any _ _ l _ (h.below (by repeat (first | exact Below.refl _ _ | refine bl_tr ?_ _ | refine bl_al ?_ _ | refine bl_dr ?_ | refine bl_up ?_ _ | refine Below.drew ?_ | refine bl_alloc ?_ _ | refine Below.setCell ?_ (by first | (simp; done) | (simp; omega)) _))) (by omega)).mono ?_
    rintro e w' ⟨A3, rfl, o3, g6, rfl⟩
    go_wp2_with fail
    refine (eqHireS_any _ _ _ _ l _ ((Rds.of_own o2).below (by repeat (first | exact Below.refl _ _ | refine bl_tr ?_ _ | refine bl_al ?_ _ | refine bl_dr ?_ | refine bl_up ?_ _ | refine Below.drew ?_ | refine bl_alloc ?_ _ | refine Below.setCell ?_ (by first | (simp; done) | (simp; omega)) _))) (Rds.of_own o3) (by omega)).mono ?_
    rintro e w' ⟨rfl, g7, rfl⟩
    go_wp2_with fail
    refine (markHireS_any _ _ _ _ 1 _ _ (own_below o2 (by repeat (first | exact Below.refl _ _ | refine bl_tr ?_ _ | refine bl_al ?_ _ | refine bl_dr ?_ | refine bl_up ?_ _ | refine Below.drew ?_ | refine bl_alloc ?_ _ | refine Below.setCell ?_ (by first | (simp; done) | (simp; omega)) _))) (by omega) (by omega)).mono ?_
    rintro e w' ⟨rfl, m1, hg8⟩
    have rw8 := ((Rds.of_own ow).below (by repeat (first | exact Below.refl _ _ | refine bl_tr ?_ _ | refine bl_al ?_ _ | refine bl_dr ?_ | refine bl_up ?_ _ | refine Below.drew ?_ | refine bl_alloc ?_ _ | refine Below.setCell ?_ (by first | (simp; done) | (simp; omega)) _))).grown hg8 (fun _ => own_apart ow o2 (Nat.le_refl _))
    have og8 := (own_below og (by repeat (first | exact Below.refl _ _ | refine bl_tr ?_ _ | refine bl_al ?_ _ | refine bl_dr ?_ | refine bl_up ?_ _ | refine Below.drew ?_ | refine bl_alloc ?_ _ | refine Below.setCell ?_ (by first | (simp; done) | (simp; omega)) _))).kept hg8 (own_far o2 og (Nat.le_refl _))
    obtain ⟨g8, rfl⟩ := up_of_mark (W := w) (by repeat (first | exact Below.refl _ _ | refine bl_tr ?_ _ | refine bl_al ?_ _ | refine bl_dr ?_ | refine bl_up ?_ _ | refine Below.drew ?_ | refine bl_alloc ?_ _ | refine Below.setCell ?_ (by first | (simp; done) | (simp; omega)) _)) (own_below o2 (by repeat (first | exact Below.refl _ _ | refine bl_tr ?_ _ | refine bl_al ?_ _ | refine bl_dr ?_ | refine bl_up ?_ _ | refine Below.drew ?_ | refine bl_alloc ?_ _ | refine Below.setCell ?_ (by first | (simp; done) | (simp; omega)) _))) (by repeat (first | exact Nat.le_refl _ | exact le_up_self _ | refine Nat.le_trans ?_ (le_up_self _))) hg8
    clear hg8
    go_wp2_with fail
    refine (eqInt64S_any _ _ _ _ L _ (Rds.of_own og8) rw8 (by omega)).mono ?_
    rintro e w' ⟨rfl, g9, rfl⟩
    go_wp2_with fail
    refine (markInt64S_any _ _ _ _ 1 _ _ (own_up og8 g9) (by omega) (by omega)).mono ?_
    rintro e w' ⟨rfl, m2, hg10⟩
    have rw10 := (rw8.up g9).grown hg10 (fun _ => own_apart ow og (by repeat (first | exact Nat.le_refl _ | exact le_up_self _ | refine Nat.le_trans ?_ (le_up_self _))))
    obtain ⟨g10, rfl⟩ := up_of_mark (W := w) (by repeat (first | exact Below.refl _ _ | refine bl_tr ?_ _ | refine bl_al ?_ _ | refine bl_dr ?_ | refine bl_up ?_ _ | refine Below.drew ?_ | refine bl_alloc ?_ _ | refine Below.setCell ?_ (by first | (simp; done) | (simp; omega)) _)) (own_up og8 g9) (by repeat (first | exact Nat.le_refl _ | exact le_up_self _ | refine Nat.le_trans ?_ (le_up_self _))) hg10
    clear hg10
    go_wp2_with fail
    refine (heldInt64S_any _ _ _ 1 _ (Rds.of_own m2) (by omega) (by omega)).mono ?_
    rintro e w' ⟨rfl, g11, rfl⟩
    go_wp2_with fail
    refine (toHireS_any _ _ l _ (h.below (by repeat (first | exact Below.refl _ _ | refine bl_tr ?_ _ | refine bl_al ?_ _ | refine bl_dr ?_ | refine bl_up ?_ _ | refine Below.drew ?_ | refine bl_alloc ?_ _ | refine Below.setCell ?_ (by first | (simp; done) | (simp; omega)) _))) (by omega)).mono ?_
    rintro e w' ⟨A4, rfl, o4, g12, rfl⟩
    go_wp2_with fail
    refine (daysOutI' hL _ _ _ (Rds.of_own o4) (by omega) (by omega)).mono ?_
    rintro e w' ⟨Ah, ch, rfl, oh, g13, rfl⟩
    go_wp2_with fail
    refine (eqInt64S_any _ _ _ _ L _ (Rds.of_own oh) (rw10.below (by repeat (first | exact Below.refl _ _ | refine bl_tr ?_ _ | refine bl_al ?_ _ | refine bl_dr ?_ | refine bl_up ?_ _ | refine Below.drew ?_ | refine bl_alloc ?_ _ | refine Below.setCell ?_ (by first | (simp; done) | (simp; omega)) _))) (by omega)).mono ?_
    rintro e w' ⟨rfl, g14, rfl⟩
    go_wp2_with fail
    refine (heldInt64S_any _ _ _ 1 _ ((Rds.of_own m2).below (by repeat (first | exact Below.refl _ _ | refine bl_tr ?_ _ | refine bl_al ?_ _ | refine bl_dr ?_ | refine bl_up ?_ _ | refine Below.drew ?_ | refine bl_alloc ?_ _ | refine Below.setCell ?_ (by first | (simp; done) | (simp; omega)) _))) (by omega) (by omega)).mono ?_
    rintro e w' ⟨rfl, g15, rfl⟩
    go_wp2_with fail
    go_ret
    exact ⟨rfl, UpOf.of (by repeat (first | exact Below.refl _ _ | refine bl_tr ?_ _ | refine bl_al ?_ _ | refine bl_dr ?_ | refine bl_up ?_ _ | refine Below.drew ?_ | refine bl_alloc ?_ _ | refine Below.setCell ?_ (by first | (simp; done) | (simp; omega)) _))⟩
end Go.Proofs.Ytiagckbdofeecaa
