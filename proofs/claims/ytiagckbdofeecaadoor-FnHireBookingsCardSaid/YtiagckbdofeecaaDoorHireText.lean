/-
  A hire's text: the program's and the reference's. The program's leans on the laid table.
-/
import Derived.Test.YtiagckbdofeecaaDoorMgA
import Derived.Test.YtiagckbdofeecaaDoorGen
import Derived.Test.YtiagckbdofeecaaDoorDecI
import Derived.Test.YtiagckbdofeecaaDoorDec
import Derived.Laws.Concat
namespace Go.Proofs.YtiagckbdofeecaaDoor
open Go.RowKit
def hTextV (x : Hire) : ByteArray := (((((⟨#[35]⟩ : ByteArray) ++ dec x.m) ++ ⟨#[32]⟩) ++ dec x.f) ++ ⟨#[45]⟩) ++ dec x.t
def hText (x : Hire) : ByteArray := if vHire x then hTextV x else ⟨#[]⟩
theorem hText_no {x : Hire} (h : vHire x = false) : hText x = ⟨#[]⟩ := by rw [hText, h]; rfl
theorem hText_ok {x : Hire} (h : vHire x = true) : hText x = hTextV x := by rw [hText, h]; rfl
theorem vHire_inv {x : Hire} (h : vHire x = true) : (0 ≤ x.m ∧ x.m ≤ 19) ∧ 0 ≤ x.f ∧ x.f < x.t ∧ x.t ≤ 3650 := by
  simp only [vHire, Bool.and_eq_true] at h
  exact ⟨btw_true h.1, of_decide_eq_true h.2⟩
theorem At.newT {w : World} {x : Hire} {T : TypeId} : At (w.alloc (.cells #[i64 x.m, i64 x.f, i64 x.t] T)) w.heap.size 0 x :=
  ⟨by simp, World.cell?_alloc_new _ _ _ _, World.cell?_alloc_new _ _ _ _, World.cell?_alloc_new _ _ _ _⟩
theorem At.below {w w' : World} {b o : Nat} {x : Hire} (a : At w b o x) (hb : Below w.heap.size w w') : At w' b o x :=
  ⟨Nat.lt_of_lt_of_le a.1 hb.size, (hb.cell (p := ⟨b, o, none⟩) a.1).trans a.2.1, (hb.cell (p := ⟨b, o + 1, none⟩) a.1).trans a.2.2.1, (hb.cell (p := ⟨b, o + 2, none⟩) a.1).trans a.2.2.2⟩
set_option maxRecDepth 10000 in
set_option maxHeartbeats 1000000 in
theorem hireTextI_any (x : Hire) (w : World) (ht : Tab w) :
    Calls Tryd.prog 8 #[hv x] w fun e w' => e = .returned (.string (hText x)) ∧ UpOf w w' := by
  have HT := Lib.hid ht
  clear ht
  cases hv0 : vHire x
  · have hf := Lib.hid (hText_no hv0)
    go_enter Tryd.func8, Tryd.ntmps8
    go_wp2_with (first | (go_at_call 35; refine (ret_as (validHire_any x _) hv0).mono ?_; rintro e w' ⟨rfl, g, rfl⟩) | ((with_reducible refine wp_region_up (by kernel_rfl) (by kernel_rfl) ?_); (repeat (go_big_quiet_step (first | (go_at_call 35; first | exact upq_tr (ret_as (validHire_any x _) hv0) | exact upq (ret_as (validHire_any x _) hv0))))); refine wpQuiet_nil ?_; intro _ hw'; obtain ⟨nq, hw''⟩ := hw'; subst hw''))
    go_ret
    exact ⟨by rw [hf.out] <;> rfl, UpOf.of (by repeat (first | exact Below.refl _ _ | refine bl_tr ?_ _ | refine bl_al ?_ _ | refine bl_dr ?_ | refine bl_up ?_ _ | refine Below.drew ?_ | refine bl_alloc ?_ _ | refine Below.setCell ?_ (by first | (simp; done) | (simp; omega)) _))⟩
  · have hf := Lib.hid (hText_ok hv0)
    obtain ⟨⟨b1, b2⟩, b3, b4, b5⟩ := vHire_inv hv0
    go_enter Tryd.func8, Tryd.ntmps8
    go_wp2_with fail
    refine (ret_as (validHire_any x _) hv0).mono ?_
    rintro e w' ⟨rfl, g0, rfl⟩
    go_wp2_with fail
    refine wpg (R := fun V => (V.cell? ⟨w.heap.size, 0, none⟩ = some (i64 x.m) ∧ V.cell? ⟨w.heap.size, 1, none⟩ = some (i64 x.f) ∧ V.cell? ⟨w.heap.size, 2, none⟩ = some (i64 x.t) ∧ w.heap.size < V.heap.size) ∧ UpOf w V)
      ⟨⟨by simp, by simp, by simp, by simp⟩, UpOf.of (by repeat (first | exact Below.refl _ _ | refine bl_tr ?_ _ | refine bl_al ?_ _ | refine bl_dr ?_ | refine bl_up ?_ _ | refine Below.drew ?_ | refine bl_alloc ?_ _ | refine Below.setCell ?_ (by first | (simp; done) | (simp; omega)) _))⟩ (fun V st => ?_)
    obtain ⟨⟨d0, d1, d2, hq⟩, hup⟩ := st
    have HT2 := Lib.hid (HT.out.below hup.below)
    have HU := Lib.hid hup
    clear hup HT
    generalize w.heap.size = q at *
    have hz1 := dec_len (n := x.m) (by omega) (by omega)
    have hz2 := dec_len (n := x.f) (by omega) (by omega)
    have hz3 := dec_len (n := x.t) (by omega) (by omega)
    have z1 : (⟨#[32]⟩ : ByteArray).size = 1 := rfl
    have z2 : (⟨#[35]⟩ : ByteArray).size = 1 := rfl
    have z3 : (⟨#[45]⟩ : ByteArray).size = 1 := rfl
    have e1 : ∀ w, (Op.stringOp .add (⟨#[35]⟩ : ByteArray) (dec x.m)).run Tryd.prog w = .ok (.string ((⟨#[35]⟩ : ByteArray) ++ dec x.m)) w := fun w => run_string_add_sum w _ _ (by omega)
    have e2 : ∀ w, (Op.stringOp .add ((⟨#[35]⟩ : ByteArray) ++ dec x.m) ⟨#[32]⟩).run Tryd.prog w = .ok (.string ((⟨#[35]⟩ : ByteArray) ++ dec x.m ++ ⟨#[32]⟩)) w := fun w => run_string_add_sum w _ _ (by simp only [ByteArray.size_append]; omega)
    have e3 : ∀ w, (Op.stringOp .add ((⟨#[35]⟩ : ByteArray) ++ dec x.m ++ ⟨#[32]⟩) (dec x.f)).run Tryd.prog w = .ok (.string ((⟨#[35]⟩ : ByteArray) ++ dec x.m ++ ⟨#[32]⟩ ++ dec x.f)) w := fun w => run_string_add_sum w _ _ (by simp only [ByteArray.size_append]; omega)
    have e4 : ∀ w, (Op.stringOp .add ((⟨#[35]⟩ : ByteArray) ++ dec x.m ++ ⟨#[32]⟩ ++ dec x.f) ⟨#[45]⟩).run Tryd.prog w = .ok (.string ((⟨#[35]⟩ : ByteArray) ++ dec x.m ++ ⟨#[32]⟩ ++ dec x.f ++ ⟨#[45]⟩)) w := fun w => run_string_add_sum w _ _ (by simp only [ByteArray.size_append]; omega)
    have e5 : ∀ w, (Op.stringOp .add ((⟨#[35]⟩ : ByteArray) ++ dec x.m ++ ⟨#[32]⟩ ++ dec x.f ++ ⟨#[45]⟩) (dec x.t)).run Tryd.prog w = .ok (.string (hTextV x)) w := fun w => run_string_add_sum w _ _ (by simp only [ByteArray.size_append]; omega)
    clear hz1 hz2 hz3 z1 z2 z3
    go_region_held3 (fun w' => (V).heap.size ≤ w'.heap.size ∧ ∀ b o, b < (V).heap.size → w'.cell? ⟨b, o, none⟩ = (V).cell? ⟨b, o, none⟩) (exact sm_of (by repeat (first | exact Below.refl _ _ | refine bl_tr ?_ _ | refine bl_al ?_ _ | refine bl_dr ?_ | refine bl_up ?_ _ | refine Below.drew ?_ | refine bl_alloc ?_ _ | refine Below.setCell ?_ (by first | (simp; done) | (simp; omega)) _))) (first | (go_at_call 36; refine (decI_any _ _ (by omega) (by omega) (HT2.out.below (by repeat (first | exact Below.refl _ _ | refine bl_tr ?_ _ | refine bl_al ?_ _ | refine bl_dr ?_ | refine bl_up ?_ _ | refine Below.drew ?_ | refine bl_alloc ?_ _ | refine Below.setCell ?_ (by first | (simp; done) | (simp; omega)) _)))).mono ?_; rintro e w' ⟨rfl, g5, rfl⟩))
    go_wp2_with (first | ((with_reducible refine wp_region_up (by kernel_rfl) (by kernel_rfl) ?_); (repeat (go_big_quiet_step (fail))); refine wpQuiet_nil ?_; intro _ hw'; obtain ⟨nq, hw''⟩ := hw'; subst hw''))
    go_ret
    exact ⟨by rw [hf.out] <;> rfl, HU.out.tr (by repeat (first | exact Below.refl _ _ | refine bl_tr ?_ _ | refine bl_al ?_ _ | refine bl_dr ?_ | refine bl_up ?_ _ | refine Below.drew ?_ | refine bl_alloc ?_ _ | refine Below.setCell ?_ (by first | (simp; done) | (simp; omega)) _))⟩
set_option maxRecDepth 10000 in
set_option maxHeartbeats 1000000 in
theorem l25Text_any (x : Hire) (hv0 : vHire x = true) (b o : Nat) (w : World) (h : At w b o x) :
    Calls Tryd.prog 34 #[.pointer (some ⟨b, o, none⟩)] w fun e w' => e = .returned (.string (hTextV x)) ∧ UpOf w w' := by
  obtain ⟨⟨b1, b2⟩, b3, b4, b5⟩ := vHire_inv hv0
  obtain ⟨hb, c0, c1, c2⟩ := h
  go_enter Tryd.func34, Tryd.ntmps34
  go_wp2_with fail
  have hz1 := dec_len (n := x.m) (by omega) (by omega)
  have hz2 := dec_len (n := x.f) (by omega) (by omega)
  have hz3 := dec_len (n := x.t) (by omega) (by omega)
  have z1 : (⟨#[32]⟩ : ByteArray).size = 1 := rfl
  have z2 : (⟨#[35]⟩ : ByteArray).size = 1 := rfl
  have z3 : (⟨#[45]⟩ : ByteArray).size = 1 := rfl
  have e1 : ∀ w, (Op.stringOp .add (⟨#[35]⟩ : ByteArray) (dec x.m)).run Tryd.prog w = .ok (.string ((⟨#[35]⟩ : ByteArray) ++ dec x.m)) w := fun w => run_string_add_sum w _ _ (by omega)
  have e2 : ∀ w, (Op.stringOp .add ((⟨#[35]⟩ : ByteArray) ++ dec x.m) ⟨#[32]⟩).run Tryd.prog w = .ok (.string ((⟨#[35]⟩ : ByteArray) ++ dec x.m ++ ⟨#[32]⟩)) w := fun w => run_string_add_sum w _ _ (by simp only [ByteArray.size_append]; omega)
  have e3 : ∀ w, (Op.stringOp .add ((⟨#[35]⟩ : ByteArray) ++ dec x.m ++ ⟨#[32]⟩) (dec x.f)).run Tryd.prog w = .ok (.string ((⟨#[35]⟩ : ByteArray) ++ dec x.m ++ ⟨#[32]⟩ ++ dec x.f)) w := fun w => run_string_add_sum w _ _ (by simp only [ByteArray.size_append]; omega)
  have e4 : ∀ w, (Op.stringOp .add ((⟨#[35]⟩ : ByteArray) ++ dec x.m ++ ⟨#[32]⟩ ++ dec x.f) ⟨#[45]⟩).run Tryd.prog w = .ok (.string ((⟨#[35]⟩ : ByteArray) ++ dec x.m ++ ⟨#[32]⟩ ++ dec x.f ++ ⟨#[45]⟩)) w := fun w => run_string_add_sum w _ _ (by simp only [ByteArray.size_append]; omega)
  have e5 : ∀ w, (Op.stringOp .add ((⟨#[35]⟩ : ByteArray) ++ dec x.m ++ ⟨#[32]⟩ ++ dec x.f ++ ⟨#[45]⟩) (dec x.t)).run Tryd.prog w = .ok (.string (hTextV x)) w := fun w => run_string_add_sum w _ _ (by simp only [ByteArray.size_append]; omega)
  clear hz1 hz2 hz3 z1 z2 z3
  go_region_held3 (fun w' => (w).heap.size ≤ w'.heap.size ∧ ∀ b o, b < (w).heap.size → w'.cell? ⟨b, o, none⟩ = (w).cell? ⟨b, o, none⟩) (exact sm_of (by repeat (first | exact Below.refl _ _ | refine bl_tr ?_ _ | refine bl_al ?_ _ | refine bl_dr ?_ | refine bl_up ?_ _ | refine Below.drew ?_ | refine bl_alloc ?_ _ | refine Below.setCell ?_ (by first | (simp; done) | (simp; omega)) _))) (first | (go_at_call 64; refine (l01Dec_any _ _ (by omega) (by omega)).mono ?_; rintro e w' ⟨rfl, g5, rfl⟩))
  go_wp2_with (first | ((with_reducible refine wp_region_up (by kernel_rfl) (by kernel_rfl) ?_); (repeat (go_big_quiet_step (fail))); refine wpQuiet_nil ?_; intro _ hw'; obtain ⟨nq, hw''⟩ := hw'; subst hw''))
  go_ret
  exact ⟨rfl, UpOf.of (by repeat (first | exact Below.refl _ _ | refine bl_tr ?_ _ | refine bl_al ?_ _ | refine bl_dr ?_ | refine bl_up ?_ _ | refine Below.drew ?_ | refine bl_alloc ?_ _ | refine Below.setCell ?_ (by first | (simp; done) | (simp; omega)) _))⟩
set_option maxRecDepth 10000 in
theorem hireTextS_any (x : Hire) (w : World) :
    Calls Tryd.prog 6 #[hv x] w fun e w' => e = .returned (.string (hText x)) ∧ UpOf w w' := by
  cases hv0 : vHire x
  · have hf := Lib.hid (hText_no hv0)
    go_enter Tryd.func6, Tryd.ntmps6
    go_wp2_with (first | (go_at_call 33; refine (ret_as (l25One_any x _ _ _ At.newT) hv0).mono ?_; rintro e w' ⟨rfl, g, rfl⟩) | ((with_reducible refine wp_region_up (by kernel_rfl) (by kernel_rfl) ?_); (repeat (go_big_quiet_step (first | (go_at_call 33; first | exact upq_tr (ret_as (l25One_any x _ _ _ At.newT) hv0) | exact upq (ret_as (l25One_any x _ _ _ At.newT) hv0))))); refine wpQuiet_nil ?_; intro _ hw'; obtain ⟨nq, hw''⟩ := hw'; subst hw''))
    go_ret
    exact ⟨by rw [hf.out] <;> rfl, UpOf.of (by repeat (first | exact Below.refl _ _ | refine bl_tr ?_ _ | refine bl_al ?_ _ | refine bl_dr ?_ | refine bl_up ?_ _ | refine Below.drew ?_ | refine bl_alloc ?_ _ | refine Below.setCell ?_ (by first | (simp; done) | (simp; omega)) _))⟩
  · have hf := Lib.hid (hText_ok hv0)
    go_enter Tryd.func6, Tryd.ntmps6
    go_wp2_with (first | (go_at_call 33; refine (ret_as (l25One_any x _ _ _ At.newT) hv0).mono ?_; rintro e w' ⟨rfl, g, rfl⟩) | (go_at_call 34; refine (l25Text_any x hv0 _ _ _ (At.newT.below (by repeat (first | exact Below.refl _ _ | refine bl_tr ?_ _ | refine bl_al ?_ _ | refine bl_dr ?_ | refine bl_up ?_ _ | refine Below.drew ?_ | refine bl_alloc ?_ _ | refine Below.setCell ?_ (by first | (simp; done) | (simp; omega)) _)))).mono ?_; rintro e w' ⟨rfl, g, rfl⟩) | ((with_reducible refine wp_region_up (by kernel_rfl) (by kernel_rfl) ?_); (repeat (go_big_quiet_step (first | (go_at_call 33; first | exact upq_tr (ret_as (l25One_any x _ _ _ At.newT) hv0) | exact upq (ret_as (l25One_any x _ _ _ At.newT) hv0)) | (go_at_call 34; first | exact upq_tr (l25Text_any x hv0 _ _ _ (At.newT.below (by repeat (first | exact Below.refl _ _ | refine bl_tr ?_ _ | refine bl_al ?_ _ | refine bl_dr ?_ | refine bl_up ?_ _ | refine Below.drew ?_ | refine bl_alloc ?_ _ | refine Below.setCell ?_ (by first | (simp; done) | (simp; omega)) _)))) | exact upq (l25Text_any x hv0 _ _ _ (At.newT.below (by repeat (first | exact Below.refl _ _ | refine bl_tr ?_ _ | refine bl_al ?_ _ | refine bl_dr ?_ | refine bl_up ?_ _ | refine Below.drew ?_ | refine bl_alloc ?_ _ | refine Below.setCell ?_ (by first | (simp; done) | (simp; omega)) _)))))))); refine wpQuiet_nil ?_; intro _ hw'; obtain ⟨nq, hw''⟩ := hw'; subst hw''))
    go_ret
    exact ⟨by rw [hf.out] <;> rfl, UpOf.of (by repeat (first | exact Below.refl _ _ | refine bl_tr ?_ _ | refine bl_al ?_ _ | refine bl_dr ?_ | refine bl_up ?_ _ | refine Below.drew ?_ | refine bl_alloc ?_ _ | refine Below.setCell ?_ (by first | (simp; done) | (simp; omega)) _))⟩
end Go.Proofs.YtiagckbdofeecaaDoor
