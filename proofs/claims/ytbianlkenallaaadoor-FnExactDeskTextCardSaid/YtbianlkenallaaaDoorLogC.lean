/-
  Whole logs with a code: what both readers answer. The bounds stand at each; the program's leans on the laid table.
-/
import Derived.Test.YtbianlkenallaaaDoorReadI
import Derived.Test.YtbianlkenallaaaDoorReadS
namespace Go.Proofs.YtbianlkenallaaaDoor
open Go.RowKit
def codeL (s : ByteArray) : Int := if s.size ≤ 4000 then (if (logR s).2.2 = s.size then 0 else 8) else 5
theorem codeL_5 {s : ByteArray} (h : ¬ s.size ≤ 4000) : codeL s = 5 := by rw [codeL, if_neg h]
theorem codeL_8 {s : ByteArray} (h : s.size ≤ 4000) (h2 : ¬ (logR s).2.2 = s.size) : codeL s = 8 := by rw [codeL, if_pos h, if_neg h2]
theorem codeL_0 {s : ByteArray} (h : s.size ≤ 4000) (h2 : (logR s).2.2 = s.size) : codeL s = 0 := by rw [codeL, if_pos h, if_pos h2]
theorem codeL_inv {s : ByteArray} (h : codeL s = 0) : s.size ≤ 4000 ∧ (logR s).2.2 = s.size := by
  by_cases h1 : s.size ≤ 4000
  · by_cases h2 : (logR s).2.2 = s.size
    · exact ⟨h1, h2⟩
    · rw [codeL_8 h1 h2] at h; cases h
  · rw [codeL_5 h1] at h; cases h
/-- the entries of a log that is whole -/
def entsL (s : ByteArray) : List Entry := (logR s).1
theorem entsL_len {s : ByteArray} (h : codeL s = 0) : (entsL s).length ≤ 4000 := by
  have h1 := codeL_inv h
  have h2 := (logR_inv s).2.1
  unfold entsL
  omega
theorem entsL_ok (s : ByteArray) : ∀ x ∈ entsL s, vEntry x = true := (logR_inv s).2.2.2
set_option maxRecDepth 10000 in
theorem wholeI_no (s : ByteArray) (w : World) (hs : s.size ≤ 1048576) (ht : Tab w) (hc : ¬ codeL s = 0) :
    Calls Tryd.prog 35 #[.string s] w fun e w' => e = .returned (.tuple #[.pointer none, i64 (codeL s)]) ∧ UpOf w w' := by
  have HT := Lib.hid ht
  have hinv := (logR_inv s).1
  clear ht
  by_cases h1 : s.size ≤ 4000
  · have h2 : ¬ (logR s).2.2 = s.size := fun h => hc (codeL_0 h1 h)
    have h3 : (logR s).2.2 < s.size := by omega
    have hf := Lib.hid (codeL_8 h1 h2)
    clear hc h2
    go_enter Tryd.func35, Tryd.ntmps35
    go_wp2_with fail
    refine (readLogI_any s _ (HT.out.below (by repeat (first | exact Below.refl _ _ | refine bl_tr ?_ _ | refine bl_al ?_ _ | refine bl_dr ?_ | refine bl_up ?_ _ | refine Below.drew ?_ | refine bl_alloc ?_ _ | refine Below.setCell ?_ (by first | (simp; done) | (simp; omega)) _))) h1).mono ?_
    rintro e w' ⟨rb, rfl, hl, g, rfl⟩
    have hc := hl.cells
    have hrb := hl.lt.2
    have HL := Lib.hid hl
    clear hl
    go_wp2_with (first | ((with_reducible refine wp_region_up (by kernel_rfl) (by kernel_rfl) ?_); (repeat (go_big_quiet_step (fail))); refine wpQuiet_nil ?_; intro _ hw'; obtain ⟨nq, hw''⟩ := hw'; subst hw''))
    go_ret2
    exact ⟨by rw [hf.out] <;> rfl, UpOf.of (by repeat (first | exact Below.refl _ _ | refine bl_tr ?_ _ | refine bl_al ?_ _ | refine bl_dr ?_ | refine bl_up ?_ _ | refine Below.drew ?_ | refine bl_alloc ?_ _ | refine Below.setCell ?_ (by first | (simp; done) | (simp; omega)) _))⟩
  · have hf := Lib.hid (codeL_5 h1)
    have h2 : 4000 < s.size := by omega
    clear hc
    go_enter Tryd.func35, Tryd.ntmps35
    go_wp2_with (first | ((with_reducible refine wp_region_up (by kernel_rfl) (by kernel_rfl) ?_); (repeat (go_big_quiet_step (fail))); refine wpQuiet_nil ?_; intro _ hw'; obtain ⟨nq, hw''⟩ := hw'; subst hw''))
    go_ret2
    exact ⟨by rw [hf.out] <;> rfl, UpOf.of (by repeat (first | exact Below.refl _ _ | refine bl_tr ?_ _ | refine bl_al ?_ _ | refine bl_dr ?_ | refine bl_up ?_ _ | refine Below.drew ?_ | refine bl_alloc ?_ _ | refine Below.setCell ?_ (by first | (simp; done) | (simp; omega)) _))⟩
set_option maxRecDepth 10000 in
theorem wholeI_ok (s : ByteArray) (w : World) (ht : Tab w) (hc : codeL s = 0) :
    Calls Tryd.prog 35 #[.string s] w fun e w' => ∃ rb, e = .returned (.tuple #[.pointer (some ⟨rb, 0, none⟩), i64 0]) ∧ LI w.heap.size w' rb (entsL s) (logR s).2.1 s.size ∧ UpOf w w' := by
  have HT := Lib.hid ht
  clear ht
  obtain ⟨h1, h2⟩ := codeL_inv hc
  clear hc
  go_enter Tryd.func35, Tryd.ntmps35
  go_wp2_with fail
  refine (readLogI_any s _ (HT.out.below (by repeat (first | exact Below.refl _ _ | refine bl_tr ?_ _ | refine bl_al ?_ _ | refine bl_dr ?_ | refine bl_up ?_ _ | refine Below.drew ?_ | refine bl_alloc ?_ _ | refine Below.setCell ?_ (by first | (simp; done) | (simp; omega)) _))) h1).mono ?_
  rintro e w' ⟨rb, rfl, hl, g, rfl⟩
  have hc := hl.cells
  have hrb := hl.lt.2
  have HL := Lib.hid hl
  clear hl
  rw [h2] at hc
  go_wp2_with (first | ((with_reducible refine wp_region_up (by kernel_rfl) (by kernel_rfl) ?_); (repeat (go_big_quiet_step (fail))); refine wpQuiet_nil ?_; intro _ hw'; obtain ⟨nq, hw''⟩ := hw'; subst hw''))
  go_ret2
  exact ⟨rb, rfl, by rw [← h2]; exact HL.out.below (by repeat (first | exact Below.refl _ _ | refine bl_tr ?_ _ | refine bl_al ?_ _ | refine bl_dr ?_ | refine bl_up ?_ _ | refine Below.drew ?_ | refine bl_alloc ?_ _ | refine Below.setCell ?_ (by first | (simp; done) | (simp; omega)) _)), UpOf.of (by repeat (first | exact Below.refl _ _ | refine bl_tr ?_ _ | refine bl_al ?_ _ | refine bl_dr ?_ | refine bl_up ?_ _ | refine Below.drew ?_ | refine bl_alloc ?_ _ | refine Below.setCell ?_ (by first | (simp; done) | (simp; omega)) _))⟩
set_option maxRecDepth 10000 in
theorem codeS_no (s : ByteArray) (w : World) (hs : s.size ≤ 1048576) (hc : ¬ codeL s = 0) :
    Calls Tryd.prog 28 #[.string s] w fun e w' => ∃ p, e = .returned (.tuple #[.pointer p, i64 (codeL s)]) ∧ UpOf w w' := by
  by_cases h1 : s.size ≤ 4000
  · have h2 : ¬ (logR s).2.2 = s.size := fun h => hc (codeL_0 h1 h)
    have z : ((((logR s).2.2 : Nat) : Int) != (s.size : Int)) = true := by rw [bne_iff_ne]; omega
    have hf := Lib.hid (codeL_8 h1 h2)
    clear hc h2
    go_enter Tryd.func28, Tryd.ntmps28
    go_wp2_with fail
    refine (readLogS_any s _ (by omega)).mono ?_
    rintro e w' ⟨rb, rfl, hl, g, rfl⟩
    have hc := hl.cells.2.1
    have hrb := hl.lt.2
    have HL := Lib.hid hl
    clear hl
    go_wp2_with (first | ((with_reducible refine wp_region_up (by kernel_rfl) (by kernel_rfl) ?_); (repeat (go_big_quiet_step (fail))); refine wpQuiet_nil ?_; intro _ hw'; obtain ⟨nq, hw''⟩ := hw'; subst hw''))
    go_ret2
    exact ⟨_, by rw [hf.out] <;> rfl, UpOf.of (by repeat (first | exact Below.refl _ _ | refine bl_tr ?_ _ | refine bl_al ?_ _ | refine bl_dr ?_ | refine bl_up ?_ _ | refine Below.drew ?_ | refine bl_alloc ?_ _ | refine Below.setCell ?_ (by first | (simp; done) | (simp; omega)) _))⟩
  · have hf := Lib.hid (codeL_5 h1)
    have h2 : 4000 < s.size := by omega
    clear hc
    go_enter Tryd.func28, Tryd.ntmps28
    go_wp2_with (first | ((with_reducible refine wp_region_up (by kernel_rfl) (by kernel_rfl) ?_); (repeat (go_big_quiet_step (fail))); refine wpQuiet_nil ?_; intro _ hw'; obtain ⟨nq, hw''⟩ := hw'; subst hw''))
    go_ret2
    exact ⟨_, by rw [hf.out] <;> rfl, UpOf.of (by repeat (first | exact Below.refl _ _ | refine bl_tr ?_ _ | refine bl_al ?_ _ | refine bl_dr ?_ | refine bl_up ?_ _ | refine Below.drew ?_ | refine bl_alloc ?_ _ | refine Below.setCell ?_ (by first | (simp; done) | (simp; omega)) _))⟩
set_option maxRecDepth 10000 in
theorem codeS_ok (s : ByteArray) (w : World) (hc : codeL s = 0) :
    Calls Tryd.prog 28 #[.string s] w fun e w' => ∃ rb, e = .returned (.tuple #[.pointer (some ⟨rb, 0, none⟩), i64 0]) ∧ LS w.heap.size w' rb s (entsL s) (logR s).2.1 s.size ∧ UpOf w w' := by
  obtain ⟨h1, h2⟩ := codeL_inv hc
  clear hc
  have z : ((s.size : Int) != (s.size : Int)) = false := by simp
  go_enter Tryd.func28, Tryd.ntmps28
  go_wp2_with fail
  refine (readLogS_any s _ (by omega)).mono ?_
  rintro e w' ⟨rb, rfl, hl, g, rfl⟩
  have hc := hl.cells.2.1
  have hrb := hl.lt.2
  have HL := Lib.hid hl
  clear hl
  rw [h2] at hc
  go_wp2_with (first | ((with_reducible refine wp_region_up (by kernel_rfl) (by kernel_rfl) ?_); (repeat (go_big_quiet_step (fail))); refine wpQuiet_nil ?_; intro _ hw'; obtain ⟨nq, hw''⟩ := hw'; subst hw''))
  go_ret2
  exact ⟨rb, rfl, by rw [← h2]; exact HL.out.below (by repeat (first | exact Below.refl _ _ | refine bl_tr ?_ _ | refine bl_al ?_ _ | refine bl_dr ?_ | refine bl_up ?_ _ | refine Below.drew ?_ | refine bl_alloc ?_ _ | refine Below.setCell ?_ (by first | (simp; done) | (simp; omega)) _)), UpOf.of (by repeat (first | exact Below.refl _ _ | refine bl_tr ?_ _ | refine bl_al ?_ _ | refine bl_dr ?_ | refine bl_up ?_ _ | refine Below.drew ?_ | refine bl_alloc ?_ _ | refine Below.setCell ?_ (by first | (simp; done) | (simp; omega)) _))⟩
end Go.Proofs.YtbianlkenallaaaDoor
