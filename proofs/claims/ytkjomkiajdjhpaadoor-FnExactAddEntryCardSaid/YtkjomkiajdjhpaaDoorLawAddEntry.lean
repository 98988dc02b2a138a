/-
  The law on AddEntry: its walk.
-/
import Derived.Test.YtkjomkiajdjhpaaDoorAddEntry2
namespace Go.Proofs.YtkjomkiajdjhpaaDoor
open Go.RowKit
theorem aeI' {s : ByteArray} {x : Entry} {r0 : ByteArray} {r1 : Int} (hL : Hid (adR s x = (r0, r1))) (w : World) (hs : s.size ≤ 1048576) (hx : x.what.size ≤ 9223372036854775807) (ht : Tab w) :
    Calls Tryd.prog 35 #[.string s, env x] w fun e w' => e = .returned (.tuple #[.string r0, i64 r1]) ∧ UpOf w w' := by
  have := addEntryI_any s x w hs hx ht
  rw [hL.out] at this
  exact this
theorem aeS' {s : ByteArray} {x : Entry} {r0 : ByteArray} {r1 : Int} (hL : Hid (adR s x = (r0, r1))) (w : World) (hs : s.size ≤ 1048576) (hx : x.what.size ≤ 9223372036854775807) :
    Calls Tryd.prog 34 #[.string s, env x] w fun e w' => e = .returned (.tuple #[.string r0, i64 r1]) ∧ UpOf w w' := by
  have := addEntryS_any s x w hs hx
  rw [hL.out] at this
  exact this
set_option maxRecDepth 10000 in
set_option maxHeartbeats 2000000 in
theorem law_addEntry (s : ByteArray) (x : Entry) (w : World) (hns : s.size ≤ 9223372036854775807) (hsx : x.what.size ≤ 9223372036854775807) (ht : Tab w) :
    Calls Tryd.prog 9 #[.string s, env x] w fun e w' => e = .returned (.bool true) ∧ UpOf w w' := by
  obtain ⟨r0, r1, hL⟩ : ∃ r0 r1, adR s x = (r0, r1) := ⟨_, _, rfl⟩
  have HL := Lib.hid hL
  clear hL
  by_cases qs : (1048576 : Int) < (s.size : Int)
  · go_enter Tryd.func9, Tryd.ntmps9
    go_wp2_with (first | ((with_reducible refine wp_region_up (by kernel_rfl) (by kernel_rfl) ?_); (repeat (go_big_quiet_step (fail))); refine wpQuiet_nil ?_; intro _ hw'; obtain ⟨nq, hw''⟩ := hw'; subst hw''))
    go_ret
    exact ⟨rfl, UpOf.of (by repeat (first | exact Below.refl _ _ | refine bl_tr ?_ _ | refine bl_al ?_ _ | refine bl_dr ?_ | refine bl_up ?_ _ | refine Below.drew ?_ | refine bl_alloc ?_ _ | refine Below.setCell ?_ (by first | (simp; done) | (simp; omega)) _))⟩
  have hls : s.size ≤ 1048576 := by omega
  go_enter Tryd.func9, Tryd.ntmps9
  go_wp2_with fail
  generalize hW : w.alloc (.cells #[i64 x.day, .string x.what, i64 x.value] 23) = W
  have hB : Below w.heap.size w W := by rw [← hW]; exact (Below.refl _ _).alloc (Nat.le_refl _) _
  have hxx : w.heap.size < W.heap.size ∧ W.cell? ⟨w.heap.size, 0, none⟩ = some (i64 x.day) ∧ W.cell? ⟨w.heap.size, 1, none⟩ = some (.string x.what) ∧ W.cell? ⟨w.heap.size, 2, none⟩ = some (i64 x.value) := by rw [← hW]; exact ⟨by simp, World.cell?_alloc_new _ _ _ _, World.cell?_alloc_new _ _ _ _, World.cell?_alloc_new _ _ _ _⟩
  obtain ⟨x0, x1, x2, x3⟩ := hxx
  have HT := Lib.hid (ht.below hB)
  clear ht
  have HB := Lib.hid hB
  clear hB hW
  by_cases qx : (1048576 : Int) < ((enTot1 x : Nat) : Int)
  · have hs0 : szR (1048576) (enTot1 x) = -1 := szR_no qx
    go_wp2_with fail
    refine (szEntry_any x (1048576) _ (by omega) (by omega) hsx).mono ?_
    rintro e w' ⟨rfl, g1, rfl⟩
    go_wp2_with fail
    go_ret
    exact ⟨rfl, UpOf.of (HB.out.trans ((up_below W _).mono HB.out.size))⟩
  have hsx0 : szR (1048576) (enTot1 x) = 1048576 - ((enTot1 x : Nat) : Int) := szR_ok qx
  have hzx : ((enTot1 x : Nat) : Int) ≤ 1048576 := by omega
  go_wp2_with fail
  refine (szEntry_any x (1048576) _ (by omega) (by omega) hsx).mono ?_
  rintro e w' ⟨rfl, g2, rfl⟩
  go_wp2_with fail
  refine (toEntry_any _ _).mono ?_
  rintro e w' ⟨rfl, g3, rfl⟩
  go_wp2_with fail
  refine (aeS' HL _ (by omega) hsx).mono ?_
  rintro e w' ⟨rfl, g4, rfl⟩
  go_wp2_with fail
  refine (toEntry_any _ _).mono ?_
  rintro e w' ⟨rfl, g5, rfl⟩
  go_wp2_with fail
  refine (aeI' HL _ (by omega) hsx (HT.out.below (by repeat (first | exact Below.refl _ _ | refine bl_tr ?_ _ | refine bl_al ?_ _ | refine bl_dr ?_ | refine bl_up ?_ _ | refine Below.drew ?_ | refine bl_alloc ?_ _ | refine Below.setCell ?_ (by first | (simp; done) | (simp; omega)) _)))).mono ?_
  rintro e w' ⟨rfl, g6, rfl⟩
  go_wp2_with fail
  go_ret
  exact ⟨rfl, UpOf.of (HB.out.trans ((up_below W _).mono HB.out.size))⟩
end Go.Proofs.YtkjomkiajdjhpaaDoor
