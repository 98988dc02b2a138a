/-
  The law on RecoverLog: its walk.
-/
import Derived.Test.YtkjomkiajdjhpaaDoorCheckLog
namespace Go.Proofs.YtkjomkiajdjhpaaDoor
open Go.RowKit
theorem rcI' {s : ByteArray} {r0 : ByteArray} {r1 : Int} {r2 : Int} (hL : Hid (rcR s = (r0, r1, r2))) (w : World) (hs : s.size ≤ 1048576) (ht : Tab w) :
    Calls Tryd.prog 26 #[.string s] w fun e w' => e = .returned (.tuple #[.string r0, i64 r1, i64 r2]) ∧ UpOf w w' := by
  have := recoverLogI_any s w hs ht
  rw [hL.out] at this
  exact this
theorem rcS' {s : ByteArray} {r0 : ByteArray} {r1 : Int} {r2 : Int} (hL : Hid (rcR s = (r0, r1, r2))) (w : World) (hs : s.size ≤ 1048576) :
    Calls Tryd.prog 25 #[.string s] w fun e w' => e = .returned (.tuple #[.string r0, i64 r1, i64 r2]) ∧ UpOf w w' := by
  have := recoverLogS_any s w hs
  rw [hL.out] at this
  exact this
set_option maxRecDepth 10000 in
set_option maxHeartbeats 2000000 in
theorem law_recoverLog (s : ByteArray) (w : World) (hns : s.size ≤ 9223372036854775807) (ht : Tab w) :
    Calls Tryd.prog 6 #[.string s] w fun e w' => e = .returned (.bool true) ∧ UpOf w w' := by
  obtain ⟨r0, r1, r2, hL⟩ : ∃ r0 r1 r2, rcR s = (r0, r1, r2) := ⟨_, _, _, rfl⟩
  have HL := Lib.hid hL
  clear hL
  have HT := Lib.hid ht
  clear ht
  go_enter Tryd.func6, Tryd.ntmps6
  by_cases qs : (1048576 : Int) < (s.size : Int)
  · go_wp2_with fail
    go_ret
    exact ⟨rfl, UpOf.of (by repeat (first | exact Below.refl _ _ | refine bl_tr ?_ _ | refine bl_al ?_ _ | refine bl_dr ?_ | refine bl_up ?_ _ | refine Below.drew ?_ | refine bl_alloc ?_ _ | refine Below.setCell ?_ (by first | (simp; done) | (simp; omega)) _))⟩
  have hls : s.size ≤ 1048576 := by omega
  go_wp2_with fail
  refine (rcS' HL _ (by omega)).mono ?_
  rintro e w' ⟨rfl, g1, rfl⟩
  go_wp2_with fail
  refine (rcI' HL _ (by omega) (HT.out.below (by repeat (first | exact Below.refl _ _ | refine bl_tr ?_ _ | refine bl_al ?_ _ | refine bl_dr ?_ | refine bl_up ?_ _ | refine Below.drew ?_ | refine bl_alloc ?_ _ | refine Below.setCell ?_ (by first | (simp; done) | (simp; omega)) _)))).mono ?_
  rintro e w' ⟨rfl, g2, rfl⟩
  go_wp2_with fail
  go_ret
  exact ⟨rfl, UpOf.of (by repeat (first | exact Below.refl _ _ | refine bl_tr ?_ _ | refine bl_al ?_ _ | refine bl_dr ?_ | refine bl_up ?_ _ | refine Below.drew ?_ | refine bl_alloc ?_ _ | refine Below.setCell ?_ (by first | (simp; done) | (simp; omega)) _))⟩
end Go.Proofs.YtkjomkiajdjhpaaDoor
