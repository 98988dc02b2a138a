/-
  The law on SumOfWhat: its walk.
-/
import Derived.Test.YtkjomkiajdjhpaaDoorSums
namespace Go.Proofs.YtkjomkiajdjhpaaDoor
open Go.RowKit
theorem swI' {s what : ByteArray} {f t : Int} {r0 : Int} {r1 : Int} (hL : Hid (suR s what f t = (r0, r1))) (w : World) (hs : s.size ≤ 1048576) (hs2 : what.size ≤ 9223372036854775807) (ht : Tab w) :
    Calls Tryd.prog 28 #[.string s, .string what, i64 f, i64 t] w fun e w' => e = .returned (.tuple #[i64 r0, i64 r1]) ∧ UpOf w w' := by
  have := sumOfI_any s what f t w hs hs2 ht
  rw [hL.out] at this
  exact this
theorem swS' {s what : ByteArray} {f t : Int} {r0 : Int} {r1 : Int} (hL : Hid (suR s what f t = (r0, r1))) (w : World) (hs : s.size ≤ 1048576) (hs2 : what.size ≤ 9223372036854775807) :
    Calls Tryd.prog 27 #[.string s, .string what, i64 f, i64 t] w fun e w' => e = .returned (.tuple #[i64 r0, i64 r1]) ∧ UpOf w w' := by
  have := sumOfS_any s what f t w hs hs2
  rw [hL.out] at this
  exact this
set_option maxRecDepth 10000 in
set_option maxHeartbeats 2000000 in
theorem law_sumOfWhat (s : ByteArray) (what : ByteArray) (f : Int) (t : Int) (w : World) (hns : s.size ≤ 9223372036854775807) (hnwhat : what.size ≤ 9223372036854775807) (ht : Tab w) :
    Calls Tryd.prog 7 #[.string s, .string what, i64 f, i64 t] w fun e w' => e = .returned (.bool true) ∧ UpOf w w' := by
  obtain ⟨r0, r1, hL⟩ : ∃ r0 r1, suR s what f t = (r0, r1) := ⟨_, _, rfl⟩
  have HL := Lib.hid hL
  clear hL
  have HT := Lib.hid ht
  clear ht
  go_enter Tryd.func7, Tryd.ntmps7
  by_cases qs : (1048576 : Int) < (s.size : Int)
  · go_wp2_with fail
    go_ret
    exact ⟨rfl, UpOf.of (by repeat (first | exact Below.refl _ _ | refine bl_tr ?_ _ | refine bl_al ?_ _ | refine bl_dr ?_ | refine bl_up ?_ _ | refine Below.drew ?_ | refine bl_alloc ?_ _ | refine Below.setCell ?_ (by first | (simp; done) | (simp; omega)) _))⟩
  have hls : s.size ≤ 1048576 := by omega
  by_cases qwhat : (1048576 : Int) < (what.size : Int)
  · go_wp2_with fail
    go_ret
    exact ⟨rfl, UpOf.of (by repeat (first | exact Below.refl _ _ | refine bl_tr ?_ _ | refine bl_al ?_ _ | refine bl_dr ?_ | refine bl_up ?_ _ | refine Below.drew ?_ | refine bl_alloc ?_ _ | refine Below.setCell ?_ (by first | (simp; done) | (simp; omega)) _))⟩
  have hlwhat : what.size ≤ 1048576 := by omega
  go_wp2_with fail
  refine (swS' HL _ (by omega) (by omega)).mono ?_
  rintro e w' ⟨rfl, g1, rfl⟩
  go_wp2_with fail
  refine (swI' HL _ (by omega) (by omega) (HT.out.below (by repeat (first | exact Below.refl _ _ | refine bl_tr ?_ _ | refine bl_al ?_ _ | refine bl_dr ?_ | refine bl_up ?_ _ | refine Below.drew ?_ | refine bl_alloc ?_ _ | refine Below.setCell ?_ (by first | (simp; done) | (simp; omega)) _)))).mono ?_
  rintro e w' ⟨rfl, g2, rfl⟩
  go_wp2_with fail
  go_ret
  exact ⟨rfl, UpOf.of (by repeat (first | exact Below.refl _ _ | refine bl_tr ?_ _ | refine bl_al ?_ _ | refine bl_dr ?_ | refine bl_up ?_ _ | refine Below.drew ?_ | refine bl_alloc ?_ _ | refine Below.setCell ?_ (by first | (simp; done) | (simp; omega)) _))⟩
end Go.Proofs.YtkjomkiajdjhpaaDoor
