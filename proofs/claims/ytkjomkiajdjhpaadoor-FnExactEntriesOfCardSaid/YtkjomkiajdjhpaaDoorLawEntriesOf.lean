/-
  The law on EntriesOf: its walk.
-/
import Derived.Test.YtkjomkiajdjhpaaDoorVals
import Derived.Test.YtkjomkiajdjhpaaDoorEntries
namespace Go.Proofs.YtkjomkiajdjhpaaDoor
open Go.RowKit
theorem enR_len {s : ByteArray} {L : List Entry} {cd : Int} (h : enR s = (L, cd)) : L.length ≤ 4000 := by
  by_cases h1 : codeL s = 0
  · rw [enR_ok h1] at h
    injection h with h _
    rw [← h]; exact entsL_len h1
  · rw [enR_no h1] at h
    injection h with h _
    rw [← h]; simp
theorem eoI' {s : ByteArray} {L0 : List Entry} {r1 : Int} (hL : Hid (enR s = (L0, r1))) (w : World) (hs : s.size ≤ 1048576) (ht : Tab w) :
    Calls Tryd.prog 45 #[.string s] w fun e w' => ∃ A' c', e = .returned (.tuple #[.slice A' L0.length c', i64 r1]) ∧ w'.ownsRow w.heap.size 27 3 (.slice A' L0.length c') L0.length (encs L0) ∧ UpOf w w' := by
  have := entriesOfI_any s w hs ht
  rw [hL.out] at this
  exact this
theorem eoS' {s : ByteArray} {L0 : List Entry} {r1 : Int} (hL : Hid (enR s = (L0, r1))) (w : World) (hs : s.size ≤ 1048576) :
    Calls Tryd.prog 44 #[.string s] w fun e w' => ∃ A' c', e = .returned (.tuple #[.slice A' L0.length c', i64 r1]) ∧ w'.ownsRow w.heap.size 27 3 (.slice A' L0.length c') L0.length (encs L0) ∧ UpOf w w' := by
  have := entriesOfS_any s w hs
  rw [hL.out] at this
  exact this
set_option maxRecDepth 10000 in
set_option maxHeartbeats 2000000 in
theorem law_entriesOf (s : ByteArray) (w : World) (hns : s.size ≤ 9223372036854775807) (ht : Tab w) :
    Calls Tryd.prog 12 #[.string s] w fun e w' => e = .returned (.bool true) ∧ UpOf w w' := by
  obtain ⟨L0, r1, hL⟩ : ∃ L0 r1, enR s = (L0, r1) := ⟨_, _, rfl⟩
  have hLn := enR_len hL
  have HL := Lib.hid hL
  clear hL
  have HT := Lib.hid ht
  clear ht
  go_enter Tryd.func12, Tryd.ntmps12
  by_cases qs : (1048576 : Int) < (s.size : Int)
  · go_wp2_with fail
    go_ret
    exact ⟨rfl, UpOf.of (by repeat (first | exact Below.refl _ _ | refine bl_tr ?_ _ | refine bl_al ?_ _ | refine bl_dr ?_ | refine bl_up ?_ _ | refine Below.drew ?_ | refine bl_alloc ?_ _ | refine Below.setCell ?_ (by first | (simp; done) | (simp; omega)) _))⟩
  have hls : s.size ≤ 1048576 := by omega
  go_wp2_with fail
  refine (eoS' HL _ (by omega)).mono ?_
  rintro e w' ⟨Aw0, cw0, rfl, ow0, g1, rfl⟩
  go_wp2_with fail
  refine (eoI' HL _ (by omega) (HT.out.below (by repeat (first | exact Below.refl _ _ | refine bl_tr ?_ _ | refine bl_al ?_ _ | refine bl_dr ?_ | refine bl_up ?_ _ | refine Below.drew ?_ | refine bl_alloc ?_ _ | refine Below.setCell ?_ (by first | (simp; done) | (simp; omega)) _)))).mono ?_
  rintro e w' ⟨Ag0, cg0, rfl, og0, g2, rfl⟩
  go_wp2_with fail
  refine (eqEntryS_any _ _ _ _ L0 _ ((Rds.of_own og0).below (by repeat (first | exact Below.refl _ _ | refine bl_tr ?_ _ | refine bl_al ?_ _ | refine bl_dr ?_ | refine bl_up ?_ _ | refine Below.drew ?_ | refine bl_alloc ?_ _ | refine Below.setCell ?_ (by first | (simp; done) | (simp; omega)) _))) ((Rds.of_own ow0).below (by repeat (first | exact Below.refl _ _ | refine bl_tr ?_ _ | refine bl_al ?_ _ | refine bl_dr ?_ | refine bl_up ?_ _ | refine Below.drew ?_ | refine bl_alloc ?_ _ | refine Below.setCell ?_ (by first | (simp; done) | (simp; omega)) _))) (by omega)).mono ?_
  rintro e w' ⟨rfl, g3, rfl⟩
  go_wp2_with fail
  refine (markEntryS_any _ _ _ _ 1 _ _ (own_below og0 (by repeat (first | exact Below.refl _ _ | refine bl_tr ?_ _ | refine bl_al ?_ _ | refine bl_dr ?_ | refine bl_up ?_ _ | refine Below.drew ?_ | refine bl_alloc ?_ _ | refine Below.setCell ?_ (by first | (simp; done) | (simp; omega)) _))) (by omega) (by omega)).mono ?_
  rintro e w' ⟨rfl, m0, hgm⟩
  have rm0_0 := ((Rds.of_own ow0).below (by repeat (first | exact Below.refl _ _ | refine bl_tr ?_ _ | refine bl_al ?_ _ | refine bl_dr ?_ | refine bl_up ?_ _ | refine Below.drew ?_ | refine bl_alloc ?_ _ | refine Below.setCell ?_ (by first | (simp; done) | (simp; omega)) _))).grown hgm (fun _ => own_apart ow0 og0 (by first | exact Nat.le_refl _ | exact (up_below _ _).size | exact Nat.le_trans (up_below _ _).size (up_below _ _).size | (simp; done) | (repeat (first | exact Nat.le_refl _ | refine Nat.le_trans ?_ (le_tr_self _)))))
  obtain ⟨g4, rfl⟩ := up_of_mark (W := w) (by repeat (first | exact Below.refl _ _ | refine bl_tr ?_ _ | refine bl_al ?_ _ | refine bl_dr ?_ | refine bl_up ?_ _ | refine Below.drew ?_ | refine bl_alloc ?_ _ | refine Below.setCell ?_ (by first | (simp; done) | (simp; omega)) _)) (own_below og0 (by repeat (first | exact Below.refl _ _ | refine bl_tr ?_ _ | refine bl_al ?_ _ | refine bl_dr ?_ | refine bl_up ?_ _ | refine Below.drew ?_ | refine bl_alloc ?_ _ | refine Below.setCell ?_ (by first | (simp; done) | (simp; omega)) _))) (by first | exact Nat.le_refl _ | exact (up_below _ _).size | exact Nat.le_trans (up_below _ _).size (up_below _ _).size | (simp; done) | (repeat (first | exact Nat.le_refl _ | refine Nat.le_trans ?_ (le_tr_self _)))) hgm
  clear hgm
  go_wp2_with fail
  refine (heldEntryS_any _ _ _ 1 _ ((Rds.of_own m0).below (by repeat (first | exact Below.refl _ _ | refine bl_tr ?_ _ | refine bl_al ?_ _ | refine bl_dr ?_ | refine bl_up ?_ _ | refine Below.drew ?_ | refine bl_alloc ?_ _ | refine Below.setCell ?_ (by first | (simp; done) | (simp; omega)) _))) (by omega) (by omega)).mono ?_
  rintro e w' ⟨rfl, g5, rfl⟩
  go_wp2_with fail
  refine (eoI' HL _ (by omega) (HT.out.below (by repeat (first | exact Below.refl _ _ | refine bl_tr ?_ _ | refine bl_al ?_ _ | refine bl_dr ?_ | refine bl_up ?_ _ | refine Below.drew ?_ | refine bl_alloc ?_ _ | refine Below.setCell ?_ (by first | (simp; done) | (simp; omega)) _)))).mono ?_
  rintro e w' ⟨Ah0, ch0, rfl, oh0, g6, rfl⟩
  go_wp2_with fail
  refine (eqEntryS_any _ _ _ _ L0 _ ((Rds.of_own oh0).below (by repeat (first | exact Below.refl _ _ | refine bl_tr ?_ _ | refine bl_al ?_ _ | refine bl_dr ?_ | refine bl_up ?_ _ | refine Below.drew ?_ | refine bl_alloc ?_ _ | refine Below.setCell ?_ (by first | (simp; done) | (simp; omega)) _))) (rm0_0.below (by repeat (first | exact Below.refl _ _ | refine bl_tr ?_ _ | refine bl_al ?_ _ | refine bl_dr ?_ | refine bl_up ?_ _ | refine Below.drew ?_ | refine bl_alloc ?_ _ | refine Below.setCell ?_ (by first | (simp; done) | (simp; omega)) _))) (by omega)).mono ?_
  rintro e w' ⟨rfl, g7, rfl⟩
  go_wp2_with fail
  refine (heldEntryS_any _ _ _ 1 _ ((Rds.of_own m0).below (by repeat (first | exact Below.refl _ _ | refine bl_tr ?_ _ | refine bl_al ?_ _ | refine bl_dr ?_ | refine bl_up ?_ _ | refine Below.drew ?_ | refine bl_alloc ?_ _ | refine Below.setCell ?_ (by first | (simp; done) | (simp; omega)) _))) (by omega) (by omega)).mono ?_
  rintro e w' ⟨rfl, g8, rfl⟩
  go_wp2_with fail
  go_ret
  exact ⟨rfl, UpOf.of (by repeat (first | exact Below.refl _ _ | refine bl_tr ?_ _ | refine bl_al ?_ _ | refine bl_dr ?_ | refine bl_up ?_ _ | refine Below.drew ?_ | refine bl_alloc ?_ _ | refine Below.setCell ?_ (by first | (simp; done) | (simp; omega)) _))⟩
end Go.Proofs.YtkjomkiajdjhpaaDoor
