/-
  CheckLog and RecoverLog, of the program and of the reference. The bounds stand at each; the program's lean on the laid table.
-/
import Derived.Test.YtkjomkiajdjhpaaDoorReadI
import Derived.Test.YtkjomkiajdjhpaaDoorReadS
namespace Go.Proofs.YtkjomkiajdjhpaaDoor
open Go.RowKit
def ckR (s : ByteArray) : Int × Int := if s.size ≤ 4000 then ((((logR s).2.2 : Nat) : Int), 0) else (0, 5)
def rcR (s : ByteArray) : ByteArray × Int × Int := if s.size ≤ 4000 then (s.extract 0 (logR s).2.2, (s.size : Int) - (logR s).2.2, 0) else (⟨#[]⟩, 0, 5)
theorem ckR_5 {s : ByteArray} (h : ¬ s.size ≤ 4000) : ckR s = (0, 5) := by rw [ckR, if_neg h]
theorem ckR_0 {s : ByteArray} (h : s.size ≤ 4000) : ckR s = ((((logR s).2.2 : Nat) : Int), 0) := by rw [ckR, if_pos h]
theorem rcR_5 {s : ByteArray} (h : ¬ s.size ≤ 4000) : rcR s = (⟨#[]⟩, 0, 5) := by rw [rcR, if_neg h]
theorem rcR_0 {s : ByteArray} (h : s.size ≤ 4000) : rcR s = (s.extract 0 (logR s).2.2, (s.size : Int) - (logR s).2.2, 0) := by rw [rcR, if_pos h]
set_option maxRecDepth 10000 in
theorem checkLogI_any (s : ByteArray) (w : World) (hs : s.size ≤ 1048576) (ht : Tab w) :
    Calls Tryd.prog 24 #[.string s] w fun e w' => e = .returned (.tuple #[i64 (ckR s).1, i64 (ckR s).2]) ∧ UpOf w w' := by
  have HT := Lib.hid ht
  clear ht
  by_cases h1 : s.size ≤ 4000
  · have hf := Lib.hid (ckR_0 h1)
    go_enter Tryd.func24, Tryd.ntmps24
    go_wp2_with fail
    refine (readLogI_any s _ (HT.out.below (by repeat (first | exact Below.refl _ _ | refine bl_tr ?_ _ | refine bl_al ?_ _ | refine bl_dr ?_ | refine bl_up ?_ _ | refine Below.drew ?_ | refine bl_alloc ?_ _ | refine Below.setCell ?_ (by first | (simp; done) | (simp; omega)) _))) h1).mono ?_
    rintro e w' ⟨rb, rfl, hl, g, rfl⟩
    have hc := hl.cells
    have hrb := hl.lt.2
    obtain ⟨n, hn⟩ : ∃ n, (logR s).2.2 = n := ⟨_, rfl⟩
    have hns : n ≤ s.size := by rw [← hn]; exact (logR_inv s).1
    rw [hn] at hc
    have HN := Lib.hid hn
    clear hn hl
    go_wp2_with (first | ((with_reducible refine wp_region_up (by kernel_rfl) (by kernel_rfl) ?_); (repeat (go_big_quiet_step (fail))); refine wpQuiet_nil ?_; intro _ hw'; obtain ⟨nq, hw''⟩ := hw'; subst hw''))
    go_ret2
    exact ⟨by rw [hf.out, HN.out] <;> rfl, UpOf.of (by repeat (first | exact Below.refl _ _ | refine bl_tr ?_ _ | refine bl_al ?_ _ | refine bl_dr ?_ | refine bl_up ?_ _ | refine Below.drew ?_ | refine bl_alloc ?_ _ | refine Below.setCell ?_ (by first | (simp; done) | (simp; omega)) _))⟩
  · have hf := Lib.hid (ckR_5 h1)
    have h2 : 4000 < s.size := by omega
    go_enter Tryd.func24, Tryd.ntmps24
    go_wp2_with (first | ((with_reducible refine wp_region_up (by kernel_rfl) (by kernel_rfl) ?_); (repeat (go_big_quiet_step (fail))); refine wpQuiet_nil ?_; intro _ hw'; obtain ⟨nq, hw''⟩ := hw'; subst hw''))
    go_ret2
    exact ⟨by rw [hf.out] <;> rfl, UpOf.of (by repeat (first | exact Below.refl _ _ | refine bl_tr ?_ _ | refine bl_al ?_ _ | refine bl_dr ?_ | refine bl_up ?_ _ | refine Below.drew ?_ | refine bl_alloc ?_ _ | refine Below.setCell ?_ (by first | (simp; done) | (simp; omega)) _))⟩
set_option maxRecDepth 10000 in
theorem checkLogS_any (s : ByteArray) (w : World) (hs : s.size ≤ 1048576) :
    Calls Tryd.prog 23 #[.string s] w fun e w' => e = .returned (.tuple #[i64 (ckR s).1, i64 (ckR s).2]) ∧ UpOf w w' := by
  by_cases h1 : s.size ≤ 4000
  · have hf := Lib.hid (ckR_0 h1)
    go_enter Tryd.func23, Tryd.ntmps23
    go_wp2_with fail
    refine (readLogS_any s _ (by omega)).mono ?_
    rintro e w' ⟨rb, rfl, hl, g, rfl⟩
    have hc := hl.cells.2.1
    have hrb := hl.lt.2
    obtain ⟨n, hn⟩ : ∃ n, (logR s).2.2 = n := ⟨_, rfl⟩
    have hns : n ≤ s.size := by rw [← hn]; exact (logR_inv s).1
    rw [hn] at hc
    have HN := Lib.hid hn
    clear hn hl
    go_wp2_with (first | ((with_reducible refine wp_region_up (by kernel_rfl) (by kernel_rfl) ?_); (repeat (go_big_quiet_step (fail))); refine wpQuiet_nil ?_; intro _ hw'; obtain ⟨nq, hw''⟩ := hw'; subst hw''))
    go_ret2
    exact ⟨by rw [hf.out, HN.out] <;> rfl, UpOf.of (by repeat (first | exact Below.refl _ _ | refine bl_tr ?_ _ | refine bl_al ?_ _ | refine bl_dr ?_ | refine bl_up ?_ _ | refine Below.drew ?_ | refine bl_alloc ?_ _ | refine Below.setCell ?_ (by first | (simp; done) | (simp; omega)) _))⟩
  · have hf := Lib.hid (ckR_5 h1)
    have h2 : 4000 < s.size := by omega
    go_enter Tryd.func23, Tryd.ntmps23
    go_wp2_with (first | ((with_reducible refine wp_region_up (by kernel_rfl) (by kernel_rfl) ?_); (repeat (go_big_quiet_step (fail))); refine wpQuiet_nil ?_; intro _ hw'; obtain ⟨nq, hw''⟩ := hw'; subst hw''))
    go_ret2
    exact ⟨by rw [hf.out] <;> rfl, UpOf.of (by repeat (first | exact Below.refl _ _ | refine bl_tr ?_ _ | refine bl_al ?_ _ | refine bl_dr ?_ | refine bl_up ?_ _ | refine Below.drew ?_ | refine bl_alloc ?_ _ | refine Below.setCell ?_ (by first | (simp; done) | (simp; omega)) _))⟩
set_option maxRecDepth 10000 in
theorem recoverLogI_any (s : ByteArray) (w : World) (hs : s.size ≤ 1048576) (ht : Tab w) :
    Calls Tryd.prog 26 #[.string s] w fun e w' => e = .returned (.tuple #[.string (rcR s).1, i64 (rcR s).2.1, i64 (rcR s).2.2]) ∧ UpOf w w' := by
  have HT := Lib.hid ht
  clear ht
  by_cases h1 : s.size ≤ 4000
  · have hf := Lib.hid (rcR_0 h1)
    go_enter Tryd.func26, Tryd.ntmps26
    go_wp2_with fail
    refine (readLogI_any s _ (HT.out.below (by repeat (first | exact Below.refl _ _ | refine bl_tr ?_ _ | refine bl_al ?_ _ | refine bl_dr ?_ | refine bl_up ?_ _ | refine Below.drew ?_ | refine bl_alloc ?_ _ | refine Below.setCell ?_ (by first | (simp; done) | (simp; omega)) _))) h1).mono ?_
    rintro e w' ⟨rb, rfl, hl, g, rfl⟩
    have hc := hl.cells
    have hrb := hl.lt.2
    obtain ⟨n, hn⟩ : ∃ n, (logR s).2.2 = n := ⟨_, rfl⟩
    have hns : n ≤ s.size := by rw [← hn]; exact (logR_inv s).1
    rw [hn] at hc
    have HN := Lib.hid hn
    clear hn hl
    go_wp2_with (first | ((with_reducible refine wp_region_up (by kernel_rfl) (by kernel_rfl) ?_); (repeat (go_big_quiet_step (fail))); refine wpQuiet_nil ?_; intro _ hw'; obtain ⟨nq, hw''⟩ := hw'; subst hw''))
    go_ret3
    exact ⟨by rw [hf.out, HN.out] <;> rfl, UpOf.of (by repeat (first | exact Below.refl _ _ | refine bl_tr ?_ _ | refine bl_al ?_ _ | refine bl_dr ?_ | refine bl_up ?_ _ | refine Below.drew ?_ | refine bl_alloc ?_ _ | refine Below.setCell ?_ (by first | (simp; done) | (simp; omega)) _))⟩
  · have hf := Lib.hid (rcR_5 h1)
    have h2 : 4000 < s.size := by omega
    go_enter Tryd.func26, Tryd.ntmps26
    go_wp2_with (first | ((with_reducible refine wp_region_up (by kernel_rfl) (by kernel_rfl) ?_); (repeat (go_big_quiet_step (fail))); refine wpQuiet_nil ?_; intro _ hw'; obtain ⟨nq, hw''⟩ := hw'; subst hw''))
    go_ret3
    exact ⟨by rw [hf.out] <;> rfl, UpOf.of (by repeat (first | exact Below.refl _ _ | refine bl_tr ?_ _ | refine bl_al ?_ _ | refine bl_dr ?_ | refine bl_up ?_ _ | refine Below.drew ?_ | refine bl_alloc ?_ _ | refine Below.setCell ?_ (by first | (simp; done) | (simp; omega)) _))⟩
set_option maxRecDepth 10000 in
theorem recoverLogS_any (s : ByteArray) (w : World) (hs : s.size ≤ 1048576) :
    Calls Tryd.prog 25 #[.string s] w fun e w' => e = .returned (.tuple #[.string (rcR s).1, i64 (rcR s).2.1, i64 (rcR s).2.2]) ∧ UpOf w w' := by
  by_cases h1 : s.size ≤ 4000
  · have hf := Lib.hid (rcR_0 h1)
    go_enter Tryd.func25, Tryd.ntmps25
    go_wp2_with fail
    refine (readLogS_any s _ (by omega)).mono ?_
    rintro e w' ⟨rb, rfl, hl, g, rfl⟩
    have hc := hl.cells.2.1
    have hrb := hl.lt.2
    obtain ⟨n, hn⟩ : ∃ n, (logR s).2.2 = n := ⟨_, rfl⟩
    have hns : n ≤ s.size := by rw [← hn]; exact (logR_inv s).1
    rw [hn] at hc
    have HN := Lib.hid hn
    clear hn hl
    go_wp2_with (first | ((with_reducible refine wp_region_up (by kernel_rfl) (by kernel_rfl) ?_); (repeat (go_big_quiet_step (fail))); refine wpQuiet_nil ?_; intro _ hw'; obtain ⟨nq, hw''⟩ := hw'; subst hw''))
    go_ret3
    exact ⟨by rw [hf.out, HN.out] <;> rfl, UpOf.of (by repeat (first | exact Below.refl _ _ | refine bl_tr ?_ _ | refine bl_al ?_ _ | refine bl_dr ?_ | refine bl_up ?_ _ | refine Below.drew ?_ | refine bl_alloc ?_ _ | refine Below.setCell ?_ (by first | (simp; done) | (simp; omega)) _))⟩
  · have hf := Lib.hid (rcR_5 h1)
    have h2 : 4000 < s.size := by omega
    go_enter Tryd.func25, Tryd.ntmps25
    go_wp2_with (first | ((with_reducible refine wp_region_up (by kernel_rfl) (by kernel_rfl) ?_); (repeat (go_big_quiet_step (fail))); refine wpQuiet_nil ?_; intro _ hw'; obtain ⟨nq, hw''⟩ := hw'; subst hw''))
    go_ret3
    exact ⟨by rw [hf.out] <;> rfl, UpOf.of (by repeat (first | exact Below.refl _ _ | refine bl_tr ?_ _ | refine bl_al ?_ _ | refine bl_dr ?_ | refine bl_up ?_ _ | refine Below.drew ?_ | refine bl_alloc ?_ _ | refine Below.setCell ?_ (by first | (simp; done) | (simp; omega)) _))⟩
end Go.Proofs.YtkjomkiajdjhpaaDoor
