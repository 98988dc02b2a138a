/-
  The law on NextTest: its walk.
-/
import Derived.Test.YtfggbcmpgkhlaaaTest6I
import Derived.Test.YtfggbcmpgkhlaaaIntsTo
namespace Go.Proofs.Ytfggbcmpgkhlaaa
open Go.RowKit
theorem nextI' {l : List Defect} {ps : List Int} {s : ByteArray} {r0 : Int} {r1 : Int} (hL : Hid (nextR l ps s = (r0, r1))) (w : World) {A B : Option Addr} {c d : Nat} (h : Rds w 3 A l.length (dfcs l)) (hp : Rds w 1 B ps.length (ics ps)) (hn : l.length ≤ 100000000) (hm : ps.length ≤ 100000000) (hs : sizesD l) (ha : s.size ≤ 100000000) :
    Calls Try.prog 21 #[.slice A l.length c, .slice B ps.length d, .string s] w fun e w' => e = .returned (.tuple #[i64 r0, i64 r1]) ∧ UpOf w w' := by
  have := nextI_any A B c d l ps s w h hp hn hm hs ha
  rw [hL.out] at this
  exact this
theorem nextS' {l : List Defect} {ps : List Int} {s : ByteArray} {r0 : Int} {r1 : Int} (hL : Hid (nextR l ps s = (r0, r1))) (w : World) {A B : Option Addr} {c d : Nat} (h : Rds w 3 A l.length (dfcs l)) (hp : Rds w 1 B ps.length (ics ps)) (hn : l.length ≤ 100000000) (hm : ps.length ≤ 100000000) (hs : sizesD l) (ha : s.size ≤ 100000000) :
    Calls Try.prog 29 #[.slice A l.length c, .slice B ps.length d, .string s] w fun e w' => e = .returned (.tuple #[i64 r0, i64 r1]) ∧ UpOf w w' := by
  have := nextS_any A B c d l ps s w h hp hn hm hs ha
  rw [hL.out] at this
  exact this
set_option maxRecDepth 10000 in
set_option maxHeartbeats 2000000 in
theorem law_nextTest (Al : Option Addr) (cl : Nat) (l : List Defect) (Aps : Option Addr) (cps : Nat) (ps : List Int) (s : ByteArray) (w : World) (hl : Rds w 3 Al l.length (dfcs l)) (hnl : l.length ≤ 9223372036854775807) (hsl : ∀ h ∈ l, h.name.size ≤ 9223372036854775807 ∧ h.signs.size ≤ 9223372036854775807) (hps : Rds w 1 Aps ps.length (ics ps)) (hnps : ps.length ≤ 9223372036854775807) (hns : s.size ≤ 9223372036854775807) :
    Calls Try.prog 6 #[.slice Al l.length cl, .slice Aps ps.length cps, .string s] w fun e w' => e = .returned (.bool true) ∧ UpOf w w' := by
  obtain ⟨r0, r1, hL⟩ : ∃ r0 r1, nextR l ps s = (r0, r1) := ⟨_, _, rfl⟩
  have HL := Lib.hid hL
  clear hL
  go_enter Try.func6, Try.ntmps6
  by_cases qps : (1048576 : Int) < (ps.length : Int)
  · go_wp2_with fail
    go_ret
    exact ⟨rfl, UpOf.of (by repeat (first | exact Below.refl _ _ | refine bl_tr ?_ _ | refine bl_al ?_ _ | refine bl_dr ?_ | refine bl_up ?_ _ | refine Below.drew ?_ | refine bl_alloc ?_ _ | refine Below.setCell ?_ (by first | (simp; done) | (simp; omega)) _))⟩
  have hlps : ps.length ≤ 1048576 := by omega
  by_cases qs : (1048576 : Int) < (s.size : Int)
  · go_wp2_with fail
    go_ret
    exact ⟨rfl, UpOf.of (by repeat (first | exact Below.refl _ _ | refine bl_tr ?_ _ | refine bl_al ?_ _ | refine bl_dr ?_ | refine bl_up ?_ _ | refine Below.drew ?_ | refine bl_alloc ?_ _ | refine Below.setCell ?_ (by first | (simp; done) | (simp; omega)) _))⟩
  have hls : s.size ≤ 1048576 := by omega
  by_cases ql : (1048576 : Int) < ((dfTot l : Nat) : Int)
  · have hs0 : szR (1048576) (dfTot l) = -1 := szR_no ql
    go_wp2_with fail
    refine (szDefectS_any _ _ _ (1048576) _ (hl.below (by repeat (first | exact Below.refl _ _ | refine bl_tr ?_ _ | refine bl_al ?_ _ | refine bl_dr ?_ | refine bl_up ?_ _ | refine Below.drew ?_ | refine bl_alloc ?_ _ | refine Below.setCell ?_ (by first | (simp; done) | (simp; omega)) _))) (by omega) (by omega) hnl hsl).mono ?_
    rintro e w' ⟨rfl, g1, rfl⟩
    go_wp2_with fail
    go_ret
    exact ⟨rfl, UpOf.of (by repeat (first | exact Below.refl _ _ | refine bl_tr ?_ _ | refine bl_al ?_ _ | refine bl_dr ?_ | refine bl_up ?_ _ | refine Below.drew ?_ | refine bl_alloc ?_ _ | refine Below.setCell ?_ (by first | (simp; done) | (simp; omega)) _))⟩
  have hsl0 : szR (1048576) (dfTot l) = 1048576 - ((dfTot l : Nat) : Int) := szR_ok ql
  have hzl : ((dfTot l : Nat) : Int) ≤ 1048576 := by omega
  have hll : l.length ≤ 1048576 := by have := dfTot_len l; omega
  go_wp2_with fail
  refine (szDefectS_any _ _ _ (1048576) _ (hl.below (by repeat (first | exact Below.refl _ _ | refine bl_tr ?_ _ | refine bl_al ?_ _ | refine bl_dr ?_ | refine bl_up ?_ _ | refine Below.drew ?_ | refine bl_alloc ?_ _ | refine Below.setCell ?_ (by first | (simp; done) | (simp; omega)) _))) (by omega) (by omega) hnl hsl).mono ?_
  rintro e w' ⟨rfl, g2, rfl⟩
  go_wp2_with fail
  refine (toDefectS_any _ _ l _ (hl.below (by repeat (first | exact Below.refl _ _ | refine bl_tr ?_ _ | refine bl_al ?_ _ | refine bl_dr ?_ | refine bl_up ?_ _ | refine Below.drew ?_ | refine bl_alloc ?_ _ | refine Below.setCell ?_ (by first | (simp; done) | (simp; omega)) _))) (by omega)).mono ?_
  rintro e w' ⟨b1, rfl, o1, g3, rfl⟩
  go_wp2_with fail
  refine (toInt64S_any _ _ ps _ (hps.below (by repeat (first | exact Below.refl _ _ | refine bl_tr ?_ _ | refine bl_al ?_ _ | refine bl_dr ?_ | refine bl_up ?_ _ | refine Below.drew ?_ | refine bl_alloc ?_ _ | refine Below.setCell ?_ (by first | (simp; done) | (simp; omega)) _))) (by omega)).mono ?_
  rintro e w' ⟨b2, rfl, o2, g4, rfl⟩
  go_wp2_with fail
  refine (nextS' HL _ ((Rds.of_own o1).below (by repeat (first | exact Below.refl _ _ | refine bl_tr ?_ _ | refine bl_al ?_ _ | refine bl_dr ?_ | refine bl_up ?_ _ | refine Below.drew ?_ | refine bl_alloc ?_ _ | refine Below.setCell ?_ (by first | (simp; done) | (simp; omega)) _))) ((Rds.of_own o2).below (by repeat (first | exact Below.refl _ _ | refine bl_tr ?_ _ | refine bl_al ?_ _ | refine bl_dr ?_ | refine bl_up ?_ _ | refine Below.drew ?_ | refine bl_alloc ?_ _ | refine Below.setCell ?_ (by first | (simp; done) | (simp; omega)) _))) (by omega) (by omega) (dfTot_sizes (by omega)) (by omega)).mono ?_
  rintro e w' ⟨rfl, g5, rfl⟩
  go_wp2_with fail
  refine (toDefectS_any _ _ l _ (hl.below (by repeat (first | exact Below.refl _ _ | refine bl_tr ?_ _ | refine bl_al ?_ _ | refine bl_dr ?_ | refine bl_up ?_ _ | refine Below.drew ?_ | refine bl_alloc ?_ _ | refine Below.setCell ?_ (by first | (simp; done) | (simp; omega)) _))) (by omega)).mono ?_
  rintro e w' ⟨b3, rfl, o3, g6, rfl⟩
  go_wp2_with fail
  refine (toInt64S_any _ _ ps _ (hps.below (by repeat (first | exact Below.refl _ _ | refine bl_tr ?_ _ | refine bl_al ?_ _ | refine bl_dr ?_ | refine bl_up ?_ _ | refine Below.drew ?_ | refine bl_alloc ?_ _ | refine Below.setCell ?_ (by first | (simp; done) | (simp; omega)) _))) (by omega)).mono ?_
  rintro e w' ⟨b4, rfl, o4, g7, rfl⟩
  go_wp2_with fail
  refine (nextI' HL _ ((Rds.of_own o3).below (by repeat (first | exact Below.refl _ _ | refine bl_tr ?_ _ | refine bl_al ?_ _ | refine bl_dr ?_ | refine bl_up ?_ _ | refine Below.drew ?_ | refine bl_alloc ?_ _ | refine Below.setCell ?_ (by first | (simp; done) | (simp; omega)) _))) ((Rds.of_own o4).below (by repeat (first | exact Below.refl _ _ | refine bl_tr ?_ _ | refine bl_al ?_ _ | refine bl_dr ?_ | refine bl_up ?_ _ | refine Below.drew ?_ | refine bl_alloc ?_ _ | refine Below.setCell ?_ (by first | (simp; done) | (simp; omega)) _))) (by omega) (by omega) (dfTot_sizes (by omega)) (by omega)).mono ?_
  rintro e w' ⟨rfl, g8, rfl⟩
  go_wp2_with fail
  refine (toDefectS_any _ _ l _ (hl.below (by repeat (first | exact Below.refl _ _ | refine bl_tr ?_ _ | refine bl_al ?_ _ | refine bl_dr ?_ | refine bl_up ?_ _ | refine Below.drew ?_ | refine bl_alloc ?_ _ | refine Below.setCell ?_ (by first | (simp; done) | (simp; omega)) _))) (by omega)).mono ?_
  rintro e w' ⟨b5, rfl, o5, g9, rfl⟩
  go_wp2_with fail
  refine (eqDefectS_any _ _ _ _ l _ ((Rds.of_own o3).below (by repeat (first | exact Below.refl _ _ | refine bl_tr ?_ _ | refine bl_al ?_ _ | refine bl_dr ?_ | refine bl_up ?_ _ | refine Below.drew ?_ | refine bl_alloc ?_ _ | refine Below.setCell ?_ (by first | (simp; done) | (simp; omega)) _))) ((Rds.of_own o5).below (by repeat (first | exact Below.refl _ _ | refine bl_tr ?_ _ | refine bl_al ?_ _ | refine bl_dr ?_ | refine bl_up ?_ _ | refine Below.drew ?_ | refine bl_alloc ?_ _ | refine Below.setCell ?_ (by first | (simp; done) | (simp; omega)) _))) (by omega)).mono ?_
  rintro e w' ⟨rfl, g10, rfl⟩
  go_wp2_with fail
  refine (toInt64S_any _ _ ps _ (hps.below (by repeat (first | exact Below.refl _ _ | refine bl_tr ?_ _ | refine bl_al ?_ _ | refine bl_dr ?_ | refine bl_up ?_ _ | refine Below.drew ?_ | refine bl_alloc ?_ _ | refine Below.setCell ?_ (by first | (simp; done) | (simp; omega)) _))) (by omega)).mono ?_
  rintro e w' ⟨b6, rfl, o6, g11, rfl⟩
  go_wp2_with fail
  refine (eqInt64S_any _ _ _ _ ps _ ((Rds.of_own o4).below (by repeat (first | exact Below.refl _ _ | refine bl_tr ?_ _ | refine bl_al ?_ _ | refine bl_dr ?_ | refine bl_up ?_ _ | refine Below.drew ?_ | refine bl_alloc ?_ _ | refine Below.setCell ?_ (by first | (simp; done) | (simp; omega)) _))) ((Rds.of_own o6).below (by repeat (first | exact Below.refl _ _ | refine bl_tr ?_ _ | refine bl_al ?_ _ | refine bl_dr ?_ | refine bl_up ?_ _ | refine Below.drew ?_ | refine bl_alloc ?_ _ | refine Below.setCell ?_ (by first | (simp; done) | (simp; omega)) _))) (by omega)).mono ?_
  rintro e w' ⟨rfl, g12, rfl⟩
  go_wp2_with fail
  go_ret
  exact ⟨rfl, UpOf.of (by repeat (first | exact Below.refl _ _ | refine bl_tr ?_ _ | refine bl_al ?_ _ | refine bl_dr ?_ | refine bl_up ?_ _ | refine Below.drew ?_ | refine bl_alloc ?_ _ | refine Below.setCell ?_ (by first | (simp; done) | (simp; omega)) _))⟩
end Go.Proofs.Ytfggbcmpgkhlaaa
