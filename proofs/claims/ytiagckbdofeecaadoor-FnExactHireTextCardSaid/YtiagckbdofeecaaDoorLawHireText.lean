/-
  The law on HireText: its walk.
-/
import Derived.Test.YtiagckbdofeecaaDoorHireText
namespace Go.Proofs.YtiagckbdofeecaaDoor
open Go.RowKit
theorem htI' {x : Hire} {r0 : ByteArray} (hL : Hid (hText x = r0)) (w : World) (ht : Tab w) :
    Calls Tryd.prog 8 #[hv x] w fun e w' => e = .returned (.string r0) ∧ UpOf w w' := by
  have := hireTextI_any x w ht
  rw [hL.out] at this
  exact this
theorem htS' {x : Hire} {r0 : ByteArray} (hL : Hid (hText x = r0)) (w : World)  :
    Calls Tryd.prog 6 #[hv x] w fun e w' => e = .returned (.string r0) ∧ UpOf w w' := by
  have := hireTextS_any x w
  rw [hL.out] at this
  exact this
set_option maxRecDepth 10000 in
set_option maxHeartbeats 2000000 in
theorem law_hireText (x : Hire) (w : World)  (ht : Tab w) :
    Calls Tryd.prog 3 #[hv x] w fun e w' => e = .returned (.bool true) ∧ UpOf w w' := by
  obtain ⟨r0, hL⟩ : ∃ r0, hText x = r0 := ⟨_, rfl⟩
  have HL := Lib.hid hL
  clear hL
  go_enter Tryd.func3, Tryd.ntmps3
  go_wp2_with fail
  generalize hW : w.alloc (.cells #[i64 x.m, i64 x.f, i64 x.t] 23) = W
  have hB : Below w.heap.size w W := by rw [← hW]; exact (Below.refl _ _).alloc (Nat.le_refl _) _
  have hxx : w.heap.size < W.heap.size ∧ W.cell? ⟨w.heap.size, 0, none⟩ = some (i64 x.m) ∧ W.cell? ⟨w.heap.size, 1, none⟩ = some (i64 x.f) ∧ W.cell? ⟨w.heap.size, 2, none⟩ = some (i64 x.t) := by rw [← hW]; exact ⟨by simp, World.cell?_alloc_new _ _ _ _, World.cell?_alloc_new _ _ _ _, World.cell?_alloc_new _ _ _ _⟩
  obtain ⟨x0, x1, x2, x3⟩ := hxx
  have HT := Lib.hid (ht.below hB)
  clear ht
  have HB := Lib.hid hB
  clear hB hW
  go_wp2_with fail
  refine (toHire_any _ _).mono ?_
  rintro e w' ⟨rfl, g1, rfl⟩
  go_wp2_with fail
  refine (htS' HL _).mono ?_
  rintro e w' ⟨rfl, g2, rfl⟩
  go_wp2_with fail
  refine (toHire_any _ _).mono ?_
  rintro e w' ⟨rfl, g3, rfl⟩
  go_wp2_with fail
  refine (htI' HL _ (HT.out.below (by repeat (first | exact Below.refl _ _ | refine bl_tr ?_ _ | refine bl_al ?_ _ | refine bl_dr ?_ | refine bl_up ?_ _ | refine Below.drew ?_ | refine bl_alloc ?_ _ | refine Below.setCell ?_ (by first | (simp; done) | (simp; omega)) _)))).mono ?_
  rintro e w' ⟨rfl, g4, rfl⟩
  go_wp2_with fail
  go_ret
  exact ⟨rfl, UpOf.of (HB.out.trans ((up_below W _).mono HB.out.size))⟩
end Go.Proofs.YtiagckbdofeecaaDoor
