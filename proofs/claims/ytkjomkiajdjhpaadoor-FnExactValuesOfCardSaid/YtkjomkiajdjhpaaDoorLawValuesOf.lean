/-
  The law on ValuesOf: its walk.
-/
import Derived.Test.YtkjomkiajdjhpaaDoorVals2
namespace Go.Proofs.YtkjomkiajdjhpaaDoor
open Go.RowKit
theorem vaR_len {s what : ByteArray} {L : List Int} {cd : Int} (h : vaR s what = (L, cd)) : L.length ≤ 4000 := by
  by_cases h1 : codeL s = 0
  · cases h2 : nameB what
    · rw [vaR_2 h1 h2] at h
      injection h with h _
      rw [← h]; simp
    · rw [vaR_0 h1 h2] at h
      injection h with h _
      rw [← h]; exact Nat.le_trans (vals_len _ _) (entsL_len h1)
  · rw [vaR_1 h1] at h
    injection h with h _
    rw [← h]; simp
theorem voI' {s what : ByteArray} {L0 : List Int} {r1 : Int} (hL : Hid (vaR s what = (L0, r1))) (w : World) (hs : s.size ≤ 1048576) (hs2 : what.size ≤ 9223372036854775807) (ht : Tab w) :
    Calls Tryd.prog 32 #[.string s, .string what] w fun e w' => ∃ A' c', e = .returned (.tuple #[.slice A' L0.length c', i64 r1]) ∧ w'.ownsRow w.heap.size 2 1 (.slice A' L0.length c') L0.length (ics L0) ∧ UpOf w w' := by
  have := valuesOfI_any s what w hs hs2 ht
  rw [hL.out] at this
  exact this
theorem voS' {s what : ByteArray} {L0 : List Int} {r1 : Int} (hL : Hid (vaR s what = (L0, r1))) (w : World) (hs : s.size ≤ 1048576) (hs2 : what.size ≤ 9223372036854775807) :
    Calls Tryd.prog 36 #[.string s, .string what] w fun e w' => ∃ A' c', e = .returned (.tuple #[.slice A' L0.length c', i64 r1]) ∧ w'.ownsRow w.heap.size 2 1 (.slice A' L0.length c') L0.length (ics L0) ∧ UpOf w w' := by
  have := valuesOfS_any s what w hs hs2
  rw [hL.out] at this
  exact this
set_option maxRecDepth 10000 in
set_option maxHeartbeats 2000000 in
theorem law_valuesOf (s : ByteArray) (what : ByteArray) (w : World) (hns : s.size ≤ 9223372036854775807) (hnwhat : what.size ≤ 9223372036854775807) (ht : Tab w) :
    Calls Tryd.prog 10 #[.string s, .string what] w fun e w' => e = .returned (.bool true) ∧ UpOf w w' := by
  obtain ⟨L0, r1, hL⟩ : ∃ L0 r1, vaR s what = (L0, r1) := ⟨_, _, rfl⟩
  have hLn := vaR_len hL
  have HL := Lib.hid hL
  clear hL
  have HT := Lib.hid ht
  clear ht
  go_enter Tryd.func10, Tryd.ntmps10
  by_cases qs : (1048576 : Int) < (s.size : Int)
  · go_wp2_with fail
    go_ret
    exact ⟨rfl, UpOf.of (by repeat (first | exact Below.refl _ _ | refine bl_tr ?_ _ | refine bl_al ?_ _ | refine bl_dr ?_ | refine bl_up ?_ _ | refine Below.drew ?_ | refine bl_alloc ?_ _ | refine Below.setCell ?_ (by first | (simp; done) | (simp; omega)) _))⟩
  have hls : s.size ≤ 1048576 := by omega
  by_cases qwhat : (1048576 : Int) < (what.size : Int)
  · go_wp2_with fail
    go_ret
    exact ⟨rfl, UpOf.of (by repeat (first | exact Below.refl _ _ | refine bl_tr ?_ _ | refine bl_al ?_ _ | refine bl_dr ?_ | refine bl_up ?_ _ | refine Below.drew ?_ | refine bl_alloc ?_ _ | refine Below.setCell ?_ (by first | (simp; done) | (simp; omega)) _))⟩
  have hlwhat : what.size ≤ 1048576 := by omega
  go_wp2_with fail
  refine (voS' HL _ (by omega) (by omega)).mono ?_
  rintro e w' ⟨Aw0, cw0, rfl, ow0, g1, rfl⟩
  go_wp2_with fail
  refine (voI' HL _ (by omega) (by omega) (HT.out.below (by repeat (first | exact Below.refl _ _ | refine bl_tr ?_ _ | refine bl_al ?_ _ | refine bl_dr ?_ | refine bl_up ?_ _ | refine Below.drew ?_ | refine bl_alloc ?_ _ | refine Below.setCell ?_ (by first | (simp; done) | (simp; omega)) _)))).mono ?_
  rintro e w' ⟨Ag0, cg0, rfl, og0, g2, rfl⟩
  go_wp2_with fail
  refine (eqInt64S_any _ _ _ _ L0 _ ((Rds.of_own og0).below (by repeat (first | exact Below.refl _ _ | refine bl_tr ?_ _ | refine bl_al ?_ _ | refine bl_dr ?_ | refine bl_up ?_ _ | refine Below.drew ?_ | refine bl_alloc ?_ _ | refine Below.setCell ?_ (by first | (simp; done) | (simp; omega)) _))) ((Rds.of_own ow0).below (by repeat (first | exact Below.refl _ _ | refine bl_tr ?_ _ | refine bl_al ?_ _ | refine bl_dr ?_ | refine bl_up ?_ _ | refine Below.drew ?_ | refine bl_alloc ?_ _ | refine Below.setCell ?_ (by first | (simp; done) | (simp; omega)) _))) (by omega)).mono ?_
  rintro e w' ⟨rfl, g3, rfl⟩
  go_wp2_with fail
  refine (markInt64S_any _ _ _ _ 1 _ _ (own_below og0 (by repeat (first | exact Below.refl _ _ | refine bl_tr ?_ _ | refine bl_al ?_ _ | refine bl_dr ?_ | refine bl_up ?_ _ | refine Below.drew ?_ | refine bl_alloc ?_ _ | refine Below.setCell ?_ (by first | (simp; done) | (simp; omega)) _))) (by omega) (by omega)).mono ?_
  rintro e w' ⟨rfl, m0, hgm⟩
  have rm0_0 := ((Rds.of_own ow0).below (by repeat (first | exact Below.refl _ _ | refine bl_tr ?_ _ | refine bl_al ?_ _ | refine bl_dr ?_ | refine bl_up ?_ _ | refine Below.drew ?_ | refine bl_alloc ?_ _ | refine Below.setCell ?_ (by first | (simp; done) | (simp; omega)) _))).grown hgm (fun _ => own_apart ow0 og0 (by first | exact Nat.le_refl _ | exact (up_below _ _).size | exact Nat.le_trans (up_below _ _).size (up_below _ _).size | (simp; done) | (repeat (first | exact Nat.le_refl _ | refine Nat.le_trans ?_ (le_tr_self _)))))
  obtain ⟨g4, rfl⟩ := up_of_mark (W := w) (by repeat (first | exact Below.refl _ _ | refine bl_tr ?_ _ | refine bl_al ?_ _ | refine bl_dr ?_ | refine bl_up ?_ _ | refine Below.drew ?_ | refine bl_alloc ?_ _ | refine Below.setCell ?_ (by first | (simp; done) | (simp; omega)) _)) (own_below og0 (by repeat (first | exact Below.refl _ _ | refine bl_tr ?_ _ | refine bl_al ?_ _ | refine bl_dr ?_ | refine bl_up ?_ _ | refine Below.drew ?_ | refine bl_alloc ?_ _ | refine Below.setCell ?_ (by first | (simp; done) | (simp; omega)) _))) (by first | exact Nat.le_refl _ | exact (up_below _ _).size | exact Nat.le_trans (up_below _ _).size (up_below _ _).size | (simp; done) | (repeat (first | exact Nat.le_refl _ | refine Nat.le_trans ?_ (le_tr_self _)))) hgm
  clear hgm
  go_wp2_with fail
  refine (heldInt64S_any _ _ _ 1 _ ((Rds.of_own m0).below (by repeat (first | exact Below.refl _ _ | refine bl_tr ?_ _ | refine bl_al ?_ _ | refine bl_dr ?_ | refine bl_up ?_ _ | refine Below.drew ?_ | refine bl_alloc ?_ _ | refine Below.setCell ?_ (by first | (simp; done) | (simp; omega)) _))) (by omega) (by omega)).mono ?_
  rintro e w' ⟨rfl, g5, rfl⟩
  go_wp2_with fail
  refine (voI' HL _ (by omega) (by omega) (HT.out.below (by repeat (first | exact Below.refl _ _ | refine bl_tr ?_ _ | refine bl_al ?_ _ | refine bl_dr ?_ | refine bl_up ?_ _ | refine Below.drew ?_ | refine bl_alloc ?_ _ | refine Below.setCell ?_ (by first | (simp; done) | (simp; omega)) _)))).mono ?_
  rintro e w' ⟨Ah0, ch0, rfl, oh0, g6, rfl⟩
  go_wp2_with fail
  refine (eqInt64S_any _ _ _ _ L0 _ ((Rds.of_own oh0).below (by repeat (first | exact Below.refl _ _ | refine bl_tr ?_ _ | refine bl_al ?_ _ | refine bl_dr ?_ | refine bl_up ?_ _ | refine Below.drew ?_ | refine bl_alloc ?_ _ | refine Below.setCell ?_ (by first | (simp; done) | (simp; omega)) _))) (rm0_0.below (by repeat (first | exact Below.refl _ _ | refine bl_tr ?_ _ | refine bl_al ?_ _ | refine bl_dr ?_ | refine bl_up ?_ _ | refine Below.drew ?_ | refine bl_alloc ?_ _ | refine Below.setCell ?_ (by first | (simp; done) | (simp; omega)) _))) (by omega)).mono ?_
  rintro e w' ⟨rfl, g7, rfl⟩
  go_wp2_with fail
  refine (heldInt64S_any _ _ _ 1 _ ((Rds.of_own m0).below (by repeat (first | exact Below.refl _ _ | refine bl_tr ?_ _ | refine bl_al ?_ _ | refine bl_dr ?_ | refine bl_up ?_ _ | refine Below.drew ?_ | refine bl_alloc ?_ _ | refine Below.setCell ?_ (by first | (simp; done) | (simp; omega)) _))) (by omega) (by omega)).mono ?_
  rintro e w' ⟨rfl, g8, rfl⟩
  go_wp2_with fail
  go_ret
  exact ⟨rfl, UpOf.of (by repeat (first | exact Below.refl _ _ | refine bl_tr ?_ _ | refine bl_al ?_ _ | refine bl_dr ?_ | refine bl_up ?_ _ | refine Below.drew ?_ | refine bl_alloc ?_ _ | refine Below.setCell ?_ (by first | (simp; done) | (simp; omega)) _))⟩
end Go.Proofs.YtkjomkiajdjhpaaDoor
