/-
  ReadHire, of the program and of the reference. The bounds stand at each; the program's leans on the laid table.
-/
import Derived.Test.YtiagckbdofeecaaDoorReadHireP
import Derived.Test.YtiagckbdofeecaaDoorNumI
import Derived.Test.YtiagckbdofeecaaDoorNumS
import Derived.Test.YtiagckbdofeecaaDoorCutI
namespace Go.Proofs.YtiagckbdofeecaaDoor
open Go.RowKit
theorem cM_size (s : ByteArray) : (cM s).1.size ≤ s.size ∧ (cM s).2.1.size ≤ s.size := by
  have h := cutA_size 32 (s.data.toList.drop 1) []
  rw [List.length_drop, bsz, List.length_nil, Nat.zero_add] at h
  exact ⟨Nat.le_trans h.1 (Nat.sub_le _ _), Nat.le_trans h.2 (Nat.sub_le _ _)⟩
theorem cF_size (s : ByteArray) : (cF s).1.size ≤ s.size ∧ (cF s).2.1.size ≤ s.size := by
  have h := cutA_size 45 (cM s).2.1.data.toList []
  have h2 := (cM_size s).2
  rw [bsz, List.length_nil, Nat.zero_add] at h
  exact ⟨Nat.le_trans h.1 h2, Nat.le_trans h.2 h2⟩
theorem okI_1 {s : ByteArray} (h : sharp s = false) : okI s = false := by simp [okI, h]
theorem okI_2 {s : ByteArray} (h : (cM s).2.2 = false) : okI s = false := by simp [okI, h]
theorem okI_3 {s : ByteArray} (h : (cF s).2.2 = false) : okI s = false := by simp [okI, h]
theorem okI_4 {s : ByteArray} (h : (rdR (cM s).1).2 = false) : okI s = false := by simp [okI, h]
theorem okI_5 {s : ByteArray} (h : (rdR (cF s).1).2 = false) : okI s = false := by simp [okI, h]
theorem okI_6 {s : ByteArray} (h : (rdR (cF s).2.1).2 = false) : okI s = false := by simp [okI, h]
theorem okI_7 {s : ByteArray} (h : vHire (xI s) = false) : okI s = false := by simp [okI, h]
theorem Below.sets3h {rb : Nat} {a V w : World} (hr : a.heap.size ≤ rb) (h1 : Below a.heap.size a V) (h2 : Below V.heap.size V w) (u0 u1 u2 : Value) : Below a.heap.size a (((w.setCell ⟨rb, 0, none⟩ u0).setCell ⟨rb, 1, none⟩ u1).setCell ⟨rb, 2, none⟩ u2) :=
  (((h1.trans (h2.mono h1.size)).setCell (p := ⟨rb, 0, none⟩) hr u0).setCell (p := ⟨rb, 1, none⟩) hr u1).setCell (p := ⟨rb, 2, none⟩) hr u2
set_option maxRecDepth 10000 in
set_option maxHeartbeats 2000000 in
theorem readHireI_any (s : ByteArray) (w : World) (hs : s.size ≤ 1048576) (ht : Tab w) :
    Calls Tryd.prog 10 #[.string s] w fun e w' => e = .returned (.tuple #[hv (rhR s).1, .bool (rhR s).2]) ∧ UpOf w w' := by
  have HT := Lib.hid ht
  clear ht
  cases h1 : sharp s
  · have hf := Lib.hid (rhR_no (okI_1 h1))
    by_cases h0 : 0 < s.size
    · have z := isEmpty_no h0
      have hb := Lib.hid (byteAt_eq h0)
      have q : ((s[0].toNat : Int) != 35) = true := by
        rw [bne_iff_ne]
        intro he
        rw [hb.out] at he
        have : sharp s = true := decide_eq_true ⟨h0, he⟩
        rw [h1] at this; cases this
      clear h1
      go_enter Tryd.func10, Tryd.ntmps10
      go_wp2_with (first | ((with_reducible refine wp_region_up (by kernel_rfl) (by kernel_rfl) ?_); (repeat (go_big_quiet_step (fail))); refine wpQuiet_nil ?_; intro _ hw'; obtain ⟨nq, hw''⟩ := hw'; subst hw''))
      exact bodyPost_ret (v := .tuple #[hv ⟨0, 0, 0⟩, .bool false]) (by simp [results, Tryd.results10, go_sem]) rfl ⟨by rw [hf.out], UpOf.of (by repeat (first | exact Below.refl _ _ | refine bl_tr ?_ _ | refine bl_al ?_ _ | refine bl_dr ?_ | refine bl_up ?_ _ | refine Below.drew ?_ | refine bl_alloc ?_ _ | refine Below.setCell ?_ (by first | (simp; done) | (simp; omega)) _))⟩
    · have z := isEmpty_yes (s := s) (by omega)
      clear h1
      go_enter Tryd.func10, Tryd.ntmps10
      go_wp2_with (first | ((with_reducible refine wp_region_up (by kernel_rfl) (by kernel_rfl) ?_); (repeat (go_big_quiet_step (fail))); refine wpQuiet_nil ?_; intro _ hw'; obtain ⟨nq, hw''⟩ := hw'; subst hw''))
      exact bodyPost_ret (v := .tuple #[hv ⟨0, 0, 0⟩, .bool false]) (by simp [results, Tryd.results10, go_sem]) rfl ⟨by rw [hf.out], UpOf.of (by repeat (first | exact Below.refl _ _ | refine bl_tr ?_ _ | refine bl_al ?_ _ | refine bl_dr ?_ | refine bl_up ?_ _ | refine Below.drew ?_ | refine bl_alloc ?_ _ | refine Below.setCell ?_ (by first | (simp; done) | (simp; omega)) _))⟩
  obtain ⟨h0, h35⟩ := of_decide_eq_true h1
  have z := isEmpty_no h0
  have hb := Lib.hid (byteAt_eq h0)
  rw [← hb.out] at h35
  have qz : ((s[0].toNat : Int) != 35) = false := by rw [h35]; rfl
  obtain ⟨t, htx⟩ : ∃ t, s.extract 1 s.size = t := ⟨_, rfl⟩
  have htl : t.data.toList = s.data.toList.drop 1 := by
    rw [← htx, bs_extract s 1 s.size, bs_list, List.take_of_length_le (by simp)]
  have cm : ∀ V, Calls Tryd.prog 39 #[.string t, .string ⟨#[32]⟩] V fun e w' => e = .returned (.tuple #[.string (cM s).1, .string (cM s).2.1, .bool (cM s).2.2]) ∧ UpOf V w' := fun V => by
    have := cut_any t ⟨#[32]⟩ 32 rfl V (by rw [← htx, ByteArray.size_extract]; omega)
    rw [htl] at this
    exact this
  have cf : ∀ V, Calls Tryd.prog 39 #[.string (cM s).2.1, .string ⟨#[45]⟩] V fun e w' => e = .returned (.tuple #[.string (cF s).1, .string (cF s).2.1, .bool (cF s).2.2]) ∧ UpOf V w' := fun V => cut_any (cM s).2.1 ⟨#[45]⟩ 45 rfl V (by have := (cM_size s).2; omega)
  have CM := Lib.hid cm
  have CF := Lib.hid cf
  have S1 := Lib.hid (show (cM s).1.size ≤ 9223372036854775807 by have := (cM_size s).1; omega)
  have S2 := Lib.hid (show (cF s).1.size ≤ 9223372036854775807 by have := (cF_size s).1; omega)
  have S3 := Lib.hid (show (cF s).2.1.size ≤ 9223372036854775807 by have := (cF_size s).2; omega)
  clear cm cf htl h35
  cases h2 : (cM s).2.2
  · have hf := Lib.hid (rhR_no (okI_2 h2))
    go_enter Tryd.func10, Tryd.ntmps10
    go_wp2_with fail
    refine cg (R := fun V => Blk V w.heap.size 25 #[i64 0, i64 0, i64 0] ∧ UpOf w V) ⟨Blk.new _ _ _, UpOf.of (by repeat (first | exact Below.refl _ _ | refine bl_tr ?_ _ | refine bl_al ?_ _ | refine bl_dr ?_ | refine bl_up ?_ _ | refine Below.drew ?_ | refine bl_alloc ?_ _ | refine Below.setCell ?_ (by first | (simp; done) | (simp; omega)) _))⟩ (fun V z => ?_)
    have HTV := Lib.hid (HT.out.below z.2.below)
    have HU := Lib.hid z.2
    have q0 := z.1.cell 0
    have q1 := z.1.cell 1
    have q2 := z.1.cell 2
    have f0 := z.1.free 0
    have f1 := z.1.free 1
    have f2 := z.1.free 2
    have hq := z.1.lt
    simp only [List.getElem?_toArray, List.getElem?_cons_zero, List.getElem?_cons_succ] at q0 q1 q2
    clear z
    obtain ⟨q, hqq⟩ : ∃ q, w.heap.size = q := ⟨_, rfl⟩
    have HQ := Lib.hid (show w.heap.size ≤ q from Nat.le_of_eq hqq)
    rw [hqq] at q0 q1 q2 f0 f1 f2 hq ⊢
    clear hqq
    refine (CM.out _).mono ?_
    rintro e w' ⟨rfl, g1, rfl⟩
    go_wp2_with fail
    refine (CF.out _).mono ?_
    rintro e w' ⟨rfl, g2, rfl⟩
    go_wp2_with fail
    refine (readDecimal_any _ _ S1.out (HTV.out.below (by repeat (first | exact Below.refl _ _ | refine bl_tr ?_ _ | refine bl_al ?_ _ | refine bl_dr ?_ | refine bl_up ?_ _ | refine Below.drew ?_ | refine bl_alloc ?_ _ | refine Below.setCell ?_ (by first | (simp; done) | (simp; omega)) _)))).mono ?_
    rintro e w' ⟨rfl, g3, rfl⟩
    go_wp2_with fail
    refine (readDecimal_any _ _ S2.out (HTV.out.below (by repeat (first | exact Below.refl _ _ | refine bl_tr ?_ _ | refine bl_al ?_ _ | refine bl_dr ?_ | refine bl_up ?_ _ | refine Below.drew ?_ | refine bl_alloc ?_ _ | refine Below.setCell ?_ (by first | (simp; done) | (simp; omega)) _)))).mono ?_
    rintro e w' ⟨rfl, g4, rfl⟩
    go_wp2_with fail
    refine (readDecimal_any _ _ S3.out (HTV.out.below (by repeat (first | exact Below.refl _ _ | refine bl_tr ?_ _ | refine bl_al ?_ _ | refine bl_dr ?_ | refine bl_up ?_ _ | refine Below.drew ?_ | refine bl_alloc ?_ _ | refine Below.setCell ?_ (by first | (simp; done) | (simp; omega)) _)))).mono ?_
    rintro e w' ⟨rfl, g5, rfl⟩
    go_wp2_with (first | ((with_reducible refine wp_region_up (by kernel_rfl) (by kernel_rfl) ?_); (repeat (go_big_quiet_step (fail))); refine wpQuiet_nil ?_; intro _ hw'; obtain ⟨nq, hw''⟩ := hw'; subst hw''))
    exact bodyPost_ret (v := .tuple #[hv ⟨0, 0, 0⟩, .bool false]) (by simp [results, Tryd.results10, go_sem, hq, q0, q1, q2]) rfl ⟨by rw [hf.out], UpOf.of (Below.sets3h HQ.out HU.out.below (by repeat (first | exact Below.refl _ _ | refine bl_tr ?_ _ | refine bl_al ?_ _ | refine bl_dr ?_ | refine bl_up ?_ _ | refine Below.drew ?_ | refine bl_alloc ?_ _ | refine Below.setCell ?_ (by first | (simp; done) | (simp; omega)) _)) _ _ _)⟩
  cases h3 : (cF s).2.2
  · have hf := Lib.hid (rhR_no (okI_3 h3))
    go_enter Tryd.func10, Tryd.ntmps10
    go_wp2_with fail
    refine cg (R := fun V => Blk V w.heap.size 25 #[i64 0, i64 0, i64 0] ∧ UpOf w V) ⟨Blk.new _ _ _, UpOf.of (by repeat (first | exact Below.refl _ _ | refine bl_tr ?_ _ | refine bl_al ?_ _ | refine bl_dr ?_ | refine bl_up ?_ _ | refine Below.drew ?_ | refine bl_alloc ?_ _ | refine Below.setCell ?_ (by first | (simp; done) | (simp; omega)) _))⟩ (fun V z => ?_)
    have HTV := Lib.hid (HT.out.below z.2.below)
    have HU := Lib.hid z.2
    have q0 := z.1.cell 0
    have q1 := z.1.cell 1
    have q2 := z.1.cell 2
    have f0 := z.1.free 0
    have f1 := z.1.free 1
    have f2 := z.1.free 2
    have hq := z.1.lt
    simp only [List.getElem?_toArray, List.getElem?_cons_zero, List.getElem?_cons_succ] at q0 q1 q2
    clear z
    obtain ⟨q, hqq⟩ : ∃ q, w.heap.size = q := ⟨_, rfl⟩
    have HQ := Lib.hid (show w.heap.size ≤ q from Nat.le_of_eq hqq)
    rw [hqq] at q0 q1 q2 f0 f1 f2 hq ⊢
    clear hqq
    refine (CM.out _).mono ?_
    rintro e w' ⟨rfl, g1, rfl⟩
    go_wp2_with fail
    refine (CF.out _).mono ?_
    rintro e w' ⟨rfl, g2, rfl⟩
    go_wp2_with fail
    refine (readDecimal_any _ _ S1.out (HTV.out.below (by repeat (first | exact Below.refl _ _ | refine bl_tr ?_ _ | refine bl_al ?_ _ | refine bl_dr ?_ | refine bl_up ?_ _ | refine Below.drew ?_ | refine bl_alloc ?_ _ | refine Below.setCell ?_ (by first | (simp; done) | (simp; omega)) _)))).mono ?_
    rintro e w' ⟨rfl, g3, rfl⟩
    go_wp2_with fail
    refine (readDecimal_any _ _ S2.out (HTV.out.below (by repeat (first | exact Below.refl _ _ | refine bl_tr ?_ _ | refine bl_al ?_ _ | refine bl_dr ?_ | refine bl_up ?_ _ | refine Below.drew ?_ | refine bl_alloc ?_ _ | refine Below.setCell ?_ (by first | (simp; done) | (simp; omega)) _)))).mono ?_
    rintro e w' ⟨rfl, g4, rfl⟩
    go_wp2_with fail
    refine (readDecimal_any _ _ S3.out (HTV.out.below (by repeat (first | exact Below.refl _ _ | refine bl_tr ?_ _ | refine bl_al ?_ _ | refine bl_dr ?_ | refine bl_up ?_ _ | refine Below.drew ?_ | refine bl_alloc ?_ _ | refine Below.setCell ?_ (by first | (simp; done) | (simp; omega)) _)))).mono ?_
    rintro e w' ⟨rfl, g5, rfl⟩
    go_wp2_with (first | ((with_reducible refine wp_region_up (by kernel_rfl) (by kernel_rfl) ?_); (repeat (go_big_quiet_step (fail))); refine wpQuiet_nil ?_; intro _ hw'; obtain ⟨nq, hw''⟩ := hw'; subst hw''))
    exact bodyPost_ret (v := .tuple #[hv ⟨0, 0, 0⟩, .bool false]) (by simp [results, Tryd.results10, go_sem, hq, q0, q1, q2]) rfl ⟨by rw [hf.out], UpOf.of (Below.sets3h HQ.out HU.out.below (by repeat (first | exact Below.refl _ _ | refine bl_tr ?_ _ | refine bl_al ?_ _ | refine bl_dr ?_ | refine bl_up ?_ _ | refine Below.drew ?_ | refine bl_alloc ?_ _ | refine Below.setCell ?_ (by first | (simp; done) | (simp; omega)) _)) _ _ _)⟩
  cases h4 : (rdR (cM s).1).2
  · have hf := Lib.hid (rhR_no (okI_4 h4))
    go_enter Tryd.func10, Tryd.ntmps10
    go_wp2_with fail
    refine cg (R := fun V => Blk V w.heap.size 25 #[i64 0, i64 0, i64 0] ∧ UpOf w V) ⟨Blk.new _ _ _, UpOf.of (by repeat (first | exact Below.refl _ _ | refine bl_tr ?_ _ | refine bl_al ?_ _ | refine bl_dr ?_ | refine bl_up ?_ _ | refine Below.drew ?_ | refine bl_alloc ?_ _ | refine Below.setCell ?_ (by first | (simp; done) | (simp; omega)) _))⟩ (fun V z => ?_)
    have HTV := Lib.hid (HT.out.below z.2.below)
    have HU := Lib.hid z.2
    have q0 := z.1.cell 0
    have q1 := z.1.cell 1
    have q2 := z.1.cell 2
    have f0 := z.1.free 0
    have f1 := z.1.free 1
    have f2 := z.1.free 2
    have hq := z.1.lt
    simp only [List.getElem?_toArray, List.getElem?_cons_zero, List.getElem?_cons_succ] at q0 q1 q2
    clear z
    obtain ⟨q, hqq⟩ : ∃ q, w.heap.size = q := ⟨_, rfl⟩
    have HQ := Lib.hid (show w.heap.size ≤ q from Nat.le_of_eq hqq)
    rw [hqq] at q0 q1 q2 f0 f1 f2 hq ⊢
    clear hqq
    refine (CM.out _).mono ?_
    rintro e w' ⟨rfl, g1, rfl⟩
    go_wp2_with fail
    refine (CF.out _).mono ?_
    rintro e w' ⟨rfl, g2, rfl⟩
    go_wp2_with fail
    refine (readDecimal_any _ _ S1.out (HTV.out.below (by repeat (first | exact Below.refl _ _ | refine bl_tr ?_ _ | refine bl_al ?_ _ | refine bl_dr ?_ | refine bl_up ?_ _ | refine Below.drew ?_ | refine bl_alloc ?_ _ | refine Below.setCell ?_ (by first | (simp; done) | (simp; omega)) _)))).mono ?_
    rintro e w' ⟨rfl, g3, rfl⟩
    go_wp2_with fail
    refine (readDecimal_any _ _ S2.out (HTV.out.below (by repeat (first | exact Below.refl _ _ | refine bl_tr ?_ _ | refine bl_al ?_ _ | refine bl_dr ?_ | refine bl_up ?_ _ | refine Below.drew ?_ | refine bl_alloc ?_ _ | refine Below.setCell ?_ (by first | (simp; done) | (simp; omega)) _)))).mono ?_
    rintro e w' ⟨rfl, g4, rfl⟩
    go_wp2_with fail
    refine (readDecimal_any _ _ S3.out (HTV.out.below (by repeat (first | exact Below.refl _ _ | refine bl_tr ?_ _ | refine bl_al ?_ _ | refine bl_dr ?_ | refine bl_up ?_ _ | refine Below.drew ?_ | refine bl_alloc ?_ _ | refine Below.setCell ?_ (by first | (simp; done) | (simp; omega)) _)))).mono ?_
    rintro e w' ⟨rfl, g5, rfl⟩
    go_wp2_with (first | ((with_reducible refine wp_region_up (by kernel_rfl) (by kernel_rfl) ?_); (repeat (go_big_quiet_step (fail))); refine wpQuiet_nil ?_; intro _ hw'; obtain ⟨nq, hw''⟩ := hw'; subst hw''))
    exact bodyPost_ret (v := .tuple #[hv ⟨0, 0, 0⟩, .bool false]) (by simp [results, Tryd.results10, go_sem, hq, q0, q1, q2]) rfl ⟨by rw [hf.out], UpOf.of (Below.sets3h HQ.out HU.out.below (by repeat (first | exact Below.refl _ _ | refine bl_tr ?_ _ | refine bl_al ?_ _ | refine bl_dr ?_ | refine bl_up ?_ _ | refine Below.drew ?_ | refine bl_alloc ?_ _ | refine Below.setCell ?_ (by first | (simp; done) | (simp; omega)) _)) _ _ _)⟩
  cases h5 : (rdR (cF s).1).2
  · have hf := Lib.hid (rhR_no (okI_5 h5))
    go_enter Tryd.func10, Tryd.ntmps10
    go_wp2_with fail
    refine cg (R := fun V => Blk V w.heap.size 25 #[i64 0, i64 0, i64 0] ∧ UpOf w V) ⟨Blk.new _ _ _, UpOf.of (by repeat (first | exact Below.refl _ _ | refine bl_tr ?_ _ | refine bl_al ?_ _ | refine bl_dr ?_ | refine bl_up ?_ _ | refine Below.drew ?_ | refine bl_alloc ?_ _ | refine Below.setCell ?_ (by first | (simp; done) | (simp; omega)) _))⟩ (fun V z => ?_)
    have HTV := Lib.hid (HT.out.below z.2.below)
    have HU := Lib.hid z.2
    have q0 := z.1.cell 0
    have q1 := z.1.cell 1
    have q2 := z.1.cell 2
    have f0 := z.1.free 0
    have f1 := z.1.free 1
    have f2 := z.1.free 2
    have hq := z.1.lt
    simp only [List.getElem?_toArray, List.getElem?_cons_zero, List.getElem?_cons_succ] at q0 q1 q2
    clear z
    obtain ⟨q, hqq⟩ : ∃ q, w.heap.size = q := ⟨_, rfl⟩
    have HQ := Lib.hid (show w.heap.size ≤ q from Nat.le_of_eq hqq)
    rw [hqq] at q0 q1 q2 f0 f1 f2 hq ⊢
    clear hqq
    refine (CM.out _).mono ?_
    rintro e w' ⟨rfl, g1, rfl⟩
    go_wp2_with fail
    refine (CF.out _).mono ?_
    rintro e w' ⟨rfl, g2, rfl⟩
    go_wp2_with fail
    refine (readDecimal_any _ _ S1.out (HTV.out.below (by repeat (first | exact Below.refl _ _ | refine bl_tr ?_ _ | refine bl_al ?_ _ | refine bl_dr ?_ | refine bl_up ?_ _ | refine Below.drew ?_ | refine bl_alloc ?_ _ | refine Below.setCell ?_ (by first | (simp; done) | (simp; omega)) _)))).mono ?_
    rintro e w' ⟨rfl, g3, rfl⟩
    go_wp2_with fail
    refine (readDecimal_any _ _ S2.out (HTV.out.below (by repeat (first | exact Below.refl _ _ | refine bl_tr ?_ _ | refine bl_al ?_ _ | refine bl_dr ?_ | refine bl_up ?_ _ | refine Below.drew ?_ | refine bl_alloc ?_ _ | refine Below.setCell ?_ (by first | (simp; done) | (simp; omega)) _)))).mono ?_
    rintro e w' ⟨rfl, g4, rfl⟩
    go_wp2_with fail
    refine (readDecimal_any _ _ S3.out (HTV.out.below (by repeat (first | exact Below.refl _ _ | refine bl_tr ?_ _ | refine bl_al ?_ _ | refine bl_dr ?_ | refine bl_up ?_ _ | refine Below.drew ?_ | refine bl_alloc ?_ _ | refine Below.setCell ?_ (by first | (simp; done) | (simp; omega)) _)))).mono ?_
    rintro e w' ⟨rfl, g5, rfl⟩
    go_wp2_with (first | ((with_reducible refine wp_region_up (by kernel_rfl) (by kernel_rfl) ?_); (repeat (go_big_quiet_step (fail))); refine wpQuiet_nil ?_; intro _ hw'; obtain ⟨nq, hw''⟩ := hw'; subst hw''))
    exact bodyPost_ret (v := .tuple #[hv ⟨0, 0, 0⟩, .bool false]) (by simp [results, Tryd.results10, go_sem, hq, q0, q1, q2]) rfl ⟨by rw [hf.out], UpOf.of (Below.sets3h HQ.out HU.out.below (by repeat (first | exact Below.refl _ _ | refine bl_tr ?_ _ | refine bl_al ?_ _ | refine bl_dr ?_ | refine bl_up ?_ _ | refine Below.drew ?_ | refine bl_alloc ?_ _ | refine Below.setCell ?_ (by first | (simp; done) | (simp; omega)) _)) _ _ _)⟩
  cases h6 : (rdR (cF s).2.1).2
  · have hf := Lib.hid (rhR_no (okI_6 h6))
    go_enter Tryd.func10, Tryd.ntmps10
    go_wp2_with fail
    refine cg (R := fun V => Blk V w.heap.size 25 #[i64 0, i64 0, i64 0] ∧ UpOf w V) ⟨Blk.new _ _ _, UpOf.of (by repeat (first | exact Below.refl _ _ | refine bl_tr ?_ _ | refine bl_al ?_ _ | refine bl_dr ?_ | refine bl_up ?_ _ | refine Below.drew ?_ | refine bl_alloc ?_ _ | refine Below.setCell ?_ (by first | (simp; done) | (simp; omega)) _))⟩ (fun V z => ?_)
    have HTV := Lib.hid (HT.out.below z.2.below)
    have HU := Lib.hid z.2
    have q0 := z.1.cell 0
    have q1 := z.1.cell 1
    have q2 := z.1.cell 2
    have f0 := z.1.free 0
    have f1 := z.1.free 1
    have f2 := z.1.free 2
    have hq := z.1.lt
    simp only [List.getElem?_toArray, List.getElem?_cons_zero, List.getElem?_cons_succ] at q0 q1 q2
    clear z
    obtain ⟨q, hqq⟩ : ∃ q, w.heap.size = q := ⟨_, rfl⟩
    have HQ := Lib.hid (show w.heap.size ≤ q from Nat.le_of_eq hqq)
    rw [hqq] at q0 q1 q2 f0 f1 f2 hq ⊢
    clear hqq
    refine (CM.out _).mono ?_
    rintro e w' ⟨rfl, g1, rfl⟩
    go_wp2_with fail
    refine (CF.out _).mono ?_
    rintro e w' ⟨rfl, g2, rfl⟩
    go_wp2_with fail
    refine (readDecimal_any _ _ S1.out (HTV.out.below (by repeat (first | exact Below.refl _ _ | refine bl_tr ?_ _ | refine bl_al ?_ _ | refine bl_dr ?_ | refine bl_up ?_ _ | refine Below.drew ?_ | refine bl_alloc ?_ _ | refine Below.setCell ?_ (by first | (simp; done) | (simp; omega)) _)))).mono ?_
    rintro e w' ⟨rfl, g3, rfl⟩
    go_wp2_with fail
    refine (readDecimal_any _ _ S2.out (HTV.out.below (by repeat (first | exact Below.refl _ _ | refine bl_tr ?_ _ | refine bl_al ?_ _ | refine bl_dr ?_ | refine bl_up ?_ _ | refine Below.drew ?_ | refine bl_alloc ?_ _ | refine Below.setCell ?_ (by first | (simp; done) | (simp; omega)) _)))).mono ?_
    rintro e w' ⟨rfl, g4, rfl⟩
    go_wp2_with fail
    refine (readDecimal_any _ _ S3.out (HTV.out.below (by repeat (first | exact Below.refl _ _ | refine bl_tr ?_ _ | refine bl_al ?_ _ | refine bl_dr ?_ | refine bl_up ?_ _ | refine Below.drew ?_ | refine bl_alloc ?_ _ | refine Below.setCell ?_ (by first | (simp; done) | (simp; omega)) _)))).mono ?_
    rintro e w' ⟨rfl, g5, rfl⟩
    go_wp2_with (first | ((with_reducible refine wp_region_up (by kernel_rfl) (by kernel_rfl) ?_); (repeat (go_big_quiet_step (fail))); refine wpQuiet_nil ?_; intro _ hw'; obtain ⟨nq, hw''⟩ := hw'; subst hw''))
    exact bodyPost_ret (v := .tuple #[hv ⟨0, 0, 0⟩, .bool false]) (by simp [results, Tryd.results10, go_sem, hq, q0, q1, q2]) rfl ⟨by rw [hf.out], UpOf.of (Below.sets3h HQ.out HU.out.below (by repeat (first | exact Below.refl _ _ | refine bl_tr ?_ _ | refine bl_al ?_ _ | refine bl_dr ?_ | refine bl_up ?_ _ | refine Below.drew ?_ | refine bl_alloc ?_ _ | refine Below.setCell ?_ (by first | (simp; done) | (simp; omega)) _)) _ _ _)⟩
  cases h7 : vHire (xI s)
  · have hf := Lib.hid (rhR_no (okI_7 h7))
    go_enter Tryd.func10, Tryd.ntmps10
    go_wp2_with fail
    refine cg (R := fun V => Blk V w.heap.size 25 #[i64 0, i64 0, i64 0] ∧ UpOf w V) ⟨Blk.new _ _ _, UpOf.of (by repeat (first | exact Below.refl _ _ | refine bl_tr ?_ _ | refine bl_al ?_ _ | refine bl_dr ?_ | refine bl_up ?_ _ | refine Below.drew ?_ | refine bl_alloc ?_ _ | refine Below.setCell ?_ (by first | (simp; done) | (simp; omega)) _))⟩ (fun V z => ?_)
    have HTV := Lib.hid (HT.out.below z.2.below)
    have HU := Lib.hid z.2
    have q0 := z.1.cell 0
    have q1 := z.1.cell 1
    have q2 := z.1.cell 2
    have f0 := z.1.free 0
    have f1 := z.1.free 1
    have f2 := z.1.free 2
    have hq := z.1.lt
    simp only [List.getElem?_toArray, List.getElem?_cons_zero, List.getElem?_cons_succ] at q0 q1 q2
    clear z
    obtain ⟨q, hqq⟩ : ∃ q, w.heap.size = q := ⟨_, rfl⟩
    have HQ := Lib.hid (show w.heap.size ≤ q from Nat.le_of_eq hqq)
    rw [hqq] at q0 q1 q2 f0 f1 f2 hq ⊢
    clear hqq
    refine (CM.out _).mono ?_
    rintro e w' ⟨rfl, g1, rfl⟩
    go_wp2_with fail
    refine (CF.out _).mono ?_
    rintro e w' ⟨rfl, g2, rfl⟩
    go_wp2_with fail
    refine (readDecimal_any _ _ S1.out (HTV.out.below (by repeat (first | exact Below.refl _ _ | refine bl_tr ?_ _ | refine bl_al ?_ _ | refine bl_dr ?_ | refine bl_up ?_ _ | refine Below.drew ?_ | refine bl_alloc ?_ _ | refine Below.setCell ?_ (by first | (simp; done) | (simp; omega)) _)))).mono ?_
    rintro e w' ⟨rfl, g3, rfl⟩
    go_wp2_with fail
    refine (readDecimal_any _ _ S2.out (HTV.out.below (by repeat (first | exact Below.refl _ _ | refine bl_tr ?_ _ | refine bl_al ?_ _ | refine bl_dr ?_ | refine bl_up ?_ _ | refine Below.drew ?_ | refine bl_alloc ?_ _ | refine Below.setCell ?_ (by first | (simp; done) | (simp; omega)) _)))).mono ?_
    rintro e w' ⟨rfl, g4, rfl⟩
    go_wp2_with fail
    refine (readDecimal_any _ _ S3.out (HTV.out.below (by repeat (first | exact Below.refl _ _ | refine bl_tr ?_ _ | refine bl_al ?_ _ | refine bl_dr ?_ | refine bl_up ?_ _ | refine Below.drew ?_ | refine bl_alloc ?_ _ | refine Below.setCell ?_ (by first | (simp; done) | (simp; omega)) _)))).mono ?_
    rintro e w' ⟨rfl, g5, rfl⟩
    go_wp2_with (first | (go_at_call 35; refine (ret_as (validHire_any (xI s) _) h7).mono ?_; rintro e w' ⟨rfl, g, rfl⟩) | ((with_reducible refine wp_region_up (by kernel_rfl) (by kernel_rfl) ?_); (repeat (go_big_quiet_step (first | (go_at_call 35; first | exact upq_tr (ret_as (validHire_any (xI s) _) h7) | exact upq (ret_as (validHire_any (xI s) _) h7))))); refine wpQuiet_nil ?_; intro _ hw'; obtain ⟨nq, hw''⟩ := hw'; subst hw''))
    exact bodyPost_ret (v := .tuple #[hv ⟨0, 0, 0⟩, .bool false]) (by simp [results, Tryd.results10, go_sem, hq, q0, q1, q2]) rfl ⟨by rw [hf.out], UpOf.of (Below.sets3h HQ.out HU.out.below (by repeat (first | exact Below.refl _ _ | refine bl_tr ?_ _ | refine bl_al ?_ _ | refine bl_dr ?_ | refine bl_up ?_ _ | refine Below.drew ?_ | refine bl_alloc ?_ _ | refine Below.setCell ?_ (by first | (simp; done) | (simp; omega)) _)) _ _ _)⟩
  · have hf := Lib.hid (rhR_ok (okI_mk h1 h2 h3 h4 h5 h6 h7))
    go_enter Tryd.func10, Tryd.ntmps10
    go_wp2_with fail
    refine cg (R := fun V => Blk V w.heap.size 25 #[i64 0, i64 0, i64 0] ∧ UpOf w V) ⟨Blk.new _ _ _, UpOf.of (by repeat (first | exact Below.refl _ _ | refine bl_tr ?_ _ | refine bl_al ?_ _ | refine bl_dr ?_ | refine bl_up ?_ _ | refine Below.drew ?_ | refine bl_alloc ?_ _ | refine Below.setCell ?_ (by first | (simp; done) | (simp; omega)) _))⟩ (fun V z => ?_)
    have HTV := Lib.hid (HT.out.below z.2.below)
    have HU := Lib.hid z.2
    have q0 := z.1.cell 0
    have q1 := z.1.cell 1
    have q2 := z.1.cell 2
    have f0 := z.1.free 0
    have f1 := z.1.free 1
    have f2 := z.1.free 2
    have hq := z.1.lt
    simp only [List.getElem?_toArray, List.getElem?_cons_zero, List.getElem?_cons_succ] at q0 q1 q2
    clear z
    obtain ⟨q, hqq⟩ : ∃ q, w.heap.size = q := ⟨_, rfl⟩
    have HQ := Lib.hid (show w.heap.size ≤ q from Nat.le_of_eq hqq)
    rw [hqq] at q0 q1 q2 f0 f1 f2 hq ⊢
    clear hqq
    refine (CM.out _).mono ?_
    rintro e w' ⟨rfl, g1, rfl⟩
    go_wp2_with fail
    refine (CF.out _).mono ?_
    rintro e w' ⟨rfl, g2, rfl⟩
    go_wp2_with fail
    refine (readDecimal_any _ _ S1.out (HTV.out.below (by repeat (first | exact Below.refl _ _ | refine bl_tr ?_ _ | refine bl_al ?_ _ | refine bl_dr ?_ | refine bl_up ?_ _ | refine Below.drew ?_ | refine bl_alloc ?_ _ | refine Below.setCell ?_ (by first | (simp; done) | (simp; omega)) _)))).mono ?_
    rintro e w' ⟨rfl, g3, rfl⟩
    go_wp2_with fail
    refine (readDecimal_any _ _ S2.out (HTV.out.below (by repeat (first | exact Below.refl _ _ | refine bl_tr ?_ _ | refine bl_al ?_ _ | refine bl_dr ?_ | refine bl_up ?_ _ | refine Below.drew ?_ | refine bl_alloc ?_ _ | refine Below.setCell ?_ (by first | (simp; done) | (simp; omega)) _)))).mono ?_
    rintro e w' ⟨rfl, g4, rfl⟩
    go_wp2_with fail
    refine (readDecimal_any _ _ S3.out (HTV.out.below (by repeat (first | exact Below.refl _ _ | refine bl_tr ?_ _ | refine bl_al ?_ _ | refine bl_dr ?_ | refine bl_up ?_ _ | refine Below.drew ?_ | refine bl_alloc ?_ _ | refine Below.setCell ?_ (by first | (simp; done) | (simp; omega)) _)))).mono ?_
    rintro e w' ⟨rfl, g5, rfl⟩
    go_wp2_with (first | (go_at_call 35; refine (ret_as (validHire_any (xI s) _) h7).mono ?_; rintro e w' ⟨rfl, g, rfl⟩) | ((with_reducible refine wp_region_up (by kernel_rfl) (by kernel_rfl) ?_); (repeat (go_big_quiet_step (first | (go_at_call 35; first | exact upq_tr (ret_as (validHire_any (xI s) _) h7) | exact upq (ret_as (validHire_any (xI s) _) h7))))); refine wpQuiet_nil ?_; intro _ hw'; obtain ⟨nq, hw''⟩ := hw'; subst hw''))
    exact bodyPost_ret (v := .tuple #[hv (xI s), .bool true]) (by simp [results, Tryd.results10, go_sem, hq, q0, q1, q2, xI]) rfl ⟨by rw [hf.out], UpOf.of (Below.sets3h HQ.out HU.out.below (by repeat (first | exact Below.refl _ _ | refine bl_tr ?_ _ | refine bl_al ?_ _ | refine bl_dr ?_ | refine bl_up ?_ _ | refine Below.drew ?_ | refine bl_alloc ?_ _ | refine Below.setCell ?_ (by first | (simp; done) | (simp; omega)) _)) _ _ _)⟩
end Go.Proofs.YtiagckbdofeecaaDoor
