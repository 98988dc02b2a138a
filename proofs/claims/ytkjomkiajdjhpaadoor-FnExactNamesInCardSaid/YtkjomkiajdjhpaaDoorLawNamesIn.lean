/-
  The law on NamesIn: its walk.
-/
import Derived.Test.YtkjomkiajdjhpaaDoorNamesIn
import Derived.Test.YtkjomkiajdjhpaaDoorStrs
namespace Go.Proofs.YtkjomkiajdjhpaaDoor
open Go.RowKit
theorem naR_len {s : ByteArray} {L : List ByteArray} {cd : Int} (h : naR s = (L, cd)) : L.length ≤ 4000 := by
  by_cases h1 : codeL s = 0
  · rw [naR_ok h1] at h
    injection h with h _
    rw [← h]; exact Nat.le_trans (names_len _) (entsL_len h1)
  · rw [naR_no h1] at h
    injection h with h _
    rw [← h]; simp
theorem niI' {s : ByteArray} {L0 : List ByteArray} {r1 : Int} (hL : Hid (naR s = (L0, r1))) (w : World) (hs : s.size ≤ 1048576) (ht : Tab w) :
    Calls Tryd.prog 31 #[.string s] w fun e w' => ∃ A' c', e = .returned (.tuple #[.slice A' L0.length c', i64 r1]) ∧ w'.ownsRow w.heap.size 9 1 (.slice A' L0.length c') L0.length (strs L0) ∧ UpOf w w' := by
  have := namesInI_any s w hs ht
  rw [hL.out] at this
  exact this
theorem niS' {s : ByteArray} {L0 : List ByteArray} {r1 : Int} (hL : Hid (naR s = (L0, r1))) (w : World) (hs : s.size ≤ 1048576) :
    Calls Tryd.prog 40 #[.string s] w fun e w' => ∃ A' c', e = .returned (.tuple #[.slice A' L0.length c', i64 r1]) ∧ w'.ownsRow w.heap.size 9 1 (.slice A' L0.length c') L0.length (strs L0) ∧ UpOf w w' := by
  have := namesInS_any s w hs
  rw [hL.out] at this
  exact this
set_option maxRecDepth 10000 in
set_option maxHeartbeats 2000000 in
theorem law_namesIn (s : ByteArray) (w : World) (hns : s.size ≤ 9223372036854775807) (ht : Tab w) :
    Calls Tryd.prog 11 #[.string s] w fun e w' => e = .returned (.bool true) ∧ UpOf w w' := by
  obtain ⟨L0, r1, hL⟩ : ∃ L0 r1, naR s = (L0, r1) := ⟨_, _, rfl⟩
  have hLn := naR_len hL
  have HL := Lib.hid hL
  clear hL
  have HT := Lib.hid ht
  clear ht
  go_enter Tryd.func11, Tryd.ntmps11
  by_cases qs : (1048576 : Int) < (s.size : Int)
  · go_wp2_with fail
    go_ret
    exact ⟨rfl, UpOf.of (by repeat (first | exact Below.refl _ _ | refine bl_tr ?_ _ | refine bl_al ?_ _ | refine bl_dr ?_ | refine bl_up ?_ _ | refine Below.drew ?_ | refine bl_alloc ?_ _ | refine Below.setCell ?_ (by first | (simp; done) | (simp; omega)) _))⟩
  have hls : s.size ≤ 1048576 := by omega
  go_wp2_with fail
  refine (niS' HL _ (by omega)).mono ?_
  rintro e w' ⟨Aw0, cw0, rfl, ow0, g1, rfl⟩
  go_wp2_with fail
  refine (niI' HL _ (by omega) (HT.out.below (by repeat (first | exact Below.refl _ _ | refine bl_tr ?_ _ | refine bl_al ?_ _ | refine bl_dr ?_ | refine bl_up ?_ _ | refine Below.drew ?_ | refine bl_alloc ?_ _ | refine Below.setCell ?_ (by first | (simp; done) | (simp; omega)) _)))).mono ?_
  rintro e w' ⟨Ag0, cg0, rfl, og0, g2, rfl⟩
  go_wp2_with fail
  refine (eqStringS_any _ _ _ _ _ L0 _ ((Rds.of_own og0).below (by repeat (first | exact Below.refl _ _ | refine bl_tr ?_ _ | refine bl_al ?_ _ | refine bl_dr ?_ | refine bl_up ?_ _ | refine Below.drew ?_ | refine bl_alloc ?_ _ | refine Below.setCell ?_ (by first | (simp; done) | (simp; omega)) _))) ((Rds.of_own ow0).below (by repeat (first | exact Below.refl _ _ | refine bl_tr ?_ _ | refine bl_al ?_ _ | refine bl_dr ?_ | refine bl_up ?_ _ | refine Below.drew ?_ | refine bl_alloc ?_ _ | refine Below.setCell ?_ (by first | (simp; done) | (simp; omega)) _))) (by omega)).mono ?_
  rintro e w' ⟨rfl, g3, rfl⟩
  go_wp2_with fail
  refine (markStringS_any _ _ _ _ 1 _ _ (own_below og0 (by repeat (first | exact Below.refl _ _ | refine bl_tr ?_ _ | refine bl_al ?_ _ | refine bl_dr ?_ | refine bl_up ?_ _ | refine Below.drew ?_ | refine bl_alloc ?_ _ | refine Below.setCell ?_ (by first | (simp; done) | (simp; omega)) _))) (by omega) (by omega)).mono ?_
  rintro e w' ⟨rfl, m0, hgm⟩
  have rm0_0 := ((Rds.of_own ow0).below (by repeat (first | exact Below.refl _ _ | refine bl_tr ?_ _ | refine bl_al ?_ _ | refine bl_dr ?_ | refine bl_up ?_ _ | refine Below.drew ?_ | refine bl_alloc ?_ _ | refine Below.setCell ?_ (by first | (simp; done) | (simp; omega)) _))).grown hgm (fun _ => own_apart ow0 og0 (by first | exact Nat.le_refl _ | exact (up_below _ _).size | exact Nat.le_trans (up_below _ _).size (up_below _ _).size | (simp; done) | (repeat (first | exact Nat.le_refl _ | refine Nat.le_trans ?_ (le_tr_self _)))))
  obtain ⟨g4, rfl⟩ := up_of_mark (W := w) (by repeat (first | exact Below.refl _ _ | refine bl_tr ?_ _ | refine bl_al ?_ _ | refine bl_dr ?_ | refine bl_up ?_ _ | refine Below.drew ?_ | refine bl_alloc ?_ _ | refine Below.setCell ?_ (by first | (simp; done) | (simp; omega)) _)) (own_below og0 (by repeat (first | exact Below.refl _ _ | refine bl_tr ?_ _ | refine bl_al ?_ _ | refine bl_dr ?_ | refine bl_up ?_ _ | refine Below.drew ?_ | refine bl_alloc ?_ _ | refine Below.setCell ?_ (by first | (simp; done) | (simp; omega)) _))) (by first | exact Nat.le_refl _ | exact (up_below _ _).size | exact Nat.le_trans (up_below _ _).size (up_below _ _).size | (simp; done) | (repeat (first | exact Nat.le_refl _ | refine Nat.le_trans ?_ (le_tr_self _)))) hgm
  clear hgm
  go_wp2_with fail
  refine (heldStringS_any _ _ _ 1 _ ((Rds.of_own m0).below (by repeat (first | exact Below.refl _ _ | refine bl_tr ?_ _ | refine bl_al ?_ _ | refine bl_dr ?_ | refine bl_up ?_ _ | refine Below.drew ?_ | refine bl_alloc ?_ _ | refine Below.setCell ?_ (by first | (simp; done) | (simp; omega)) _))) (by omega) (by omega)).mono ?_
  rintro e w' ⟨rfl, g5, rfl⟩
  go_wp2_with fail
  refine (niI' HL _ (by omega) (HT.out.below (by repeat (first | exact Below.refl _ _ | refine bl_tr ?_ _ | refine bl_al ?_ _ | refine bl_dr ?_ | refine bl_up ?_ _ | refine Below.drew ?_ | refine bl_alloc ?_ _ | refine Below.setCell ?_ (by first | (simp; done) | (simp; omega)) _)))).mono ?_
  rintro e w' ⟨Ah0, ch0, rfl, oh0, g6, rfl⟩
  go_wp2_with fail
  refine (eqStringS_any _ _ _ _ _ L0 _ ((Rds.of_own oh0).below (by repeat (first | exact Below.refl _ _ | refine bl_tr ?_ _ | refine bl_al ?_ _ | refine bl_dr ?_ | refine bl_up ?_ _ | refine Below.drew ?_ | refine bl_alloc ?_ _ | refine Below.setCell ?_ (by first | (simp; done) | (simp; omega)) _))) (rm0_0.below (by repeat (first | exact Below.refl _ _ | refine bl_tr ?_ _ | refine bl_al ?_ _ | refine bl_dr ?_ | refine bl_up ?_ _ | refine Below.drew ?_ | refine bl_alloc ?_ _ | refine Below.setCell ?_ (by first | (simp; done) | (simp; omega)) _))) (by omega)).mono ?_
  rintro e w' ⟨rfl, g7, rfl⟩
  go_wp2_with fail
  refine (heldStringS_any _ _ _ 1 _ ((Rds.of_own m0).below (by repeat (first | exact Below.refl _ _ | refine bl_tr ?_ _ | refine bl_al ?_ _ | refine bl_dr ?_ | refine bl_up ?_ _ | refine Below.drew ?_ | refine bl_alloc ?_ _ | refine Below.setCell ?_ (by first | (simp; done) | (simp; omega)) _))) (by omega) (by omega)).mono ?_
  rintro e w' ⟨rfl, g8, rfl⟩
  go_wp2_with fail
  go_ret
  exact ⟨rfl, UpOf.of (by repeat (first | exact Below.refl _ _ | refine bl_tr ?_ _ | refine bl_al ?_ _ | refine bl_dr ?_ | refine bl_up ?_ _ | refine Below.drew ?_ | refine bl_alloc ?_ _ | refine Below.setCell ?_ (by first | (simp; done) | (simp; omega)) _))⟩
end Go.Proofs.YtkjomkiajdjhpaaDoor
