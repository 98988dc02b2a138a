/-
  ReadHire of the reference. The bound stands at it.
-/
import Derived.Test.YtiagckbdofeecaaDoorReadHire
namespace Go.Proofs.YtiagckbdofeecaaDoor
open Go.RowKit
theorem words2 {w : World} {A : Option Addr} {W : List ByteArray} (h : Rds w 1 A W.length (strs W)) (h4 : W.length = 2) :
    ∃ b off, A = some ⟨b, off, none⟩ ∧ b < w.heap.size ∧ w.cell? ⟨b, off, none⟩ = some (.string (pAt W 0)) ∧ w.cell? ⟨b, off + 1, none⟩ = some (.string (pAt W 1)) := by
  obtain ⟨b, off, e, hb, hc⟩ := str_at h (i := 0) (by omega)
  exact ⟨b, off, e, hb, hc 0 (by omega), hc 1 (by omega)⟩
theorem pAt_size {L : List UInt8} (b : UInt8) (i : Nat) : (pAt (splitA b [] L) i).size ≤ L.length := by
  unfold pAt
  rw [List.getD_eq_getElem?_getD]
  cases h : (splitA b [] L)[i]? with
  | none => exact Nat.zero_le _
  | some p =>
    have := split_size b L [] p (List.mem_of_getElem? h)
    simpa using this
theorem okS_1 {s : ByteArray} (h : ¬ (w1 s).length = 2) : okS s = false := by simp [okS, h]
theorem okS_2 {s : ByteArray} (h : ¬ 2 ≤ (pAt (w1 s) 0).size) : okS s = false := by simp [okS, h]
theorem okS_3 {s : ByteArray} (h : sharp (pAt (w1 s) 0) = false) : okS s = false := by simp [okS, h]
theorem okS_4 {s : ByteArray} (h : ¬ (w2 s).length = 2) : okS s = false := by simp [okS, h]
theorem okS_5 {s : ByteArray} (h : (rdR (mS s)).2 = false) : okS s = false := by simp [okS, h]
theorem okS_6 {s : ByteArray} (h : (rdR (pAt (w2 s) 0)).2 = false) : okS s = false := by simp [okS, h]
theorem okS_7 {s : ByteArray} (h : (rdR (pAt (w2 s) 1)).2 = false) : okS s = false := by simp [okS, h]
theorem okS_8 {s : ByteArray} (h : vHire (xS s) = false) : okS s = false := by simp [okS, h]
theorem rhS_no {s : ByteArray} (h : okS s = false) : rhR s = (⟨0, 0, 0⟩, false) := rhR_no (by rw [← (ok_same s).1]; exact h)
theorem rhS_ok {s : ByteArray} (h : okS s = true) : rhR s = (xS s, true) := by
  have hi : okI s = true := by rw [← (ok_same s).1]; exact h
  rw [rhR_ok hi, (ok_same s).2 hi]
set_option maxRecDepth 10000 in
set_option maxHeartbeats 8000000 in
theorem readHireS_any (s : ByteArray) (w : World) (hs : s.size ≤ 1048576) :
    Calls Tryd.prog 9 #[.string s] w fun e w' => e = .returned (.tuple #[hv (rhR s).1, .bool (rhR s).2]) ∧ UpOf w w' := by
  have sw : ∀ V, Calls Tryd.prog 37 #[.string s, .int .u8 32] V fun e w' => ∃ A c, e = .returned (.slice A (w1 s).length c) ∧ w'.ownsRow V.heap.size 9 1 (.slice A (w1 s).length c) (w1 s).length (strs (w1 s)) ∧ UpOf V w' := fun V => l01Split_any s 32 32 rfl V (by omega)
  have sz0 : (pAt (w1 s) 0).size ≤ s.size := pAt_size 32 0
  have sz1 : (pAt (w1 s) 1).size ≤ s.size := pAt_size 32 1
  have sw2 : ∀ V, Calls Tryd.prog 37 #[.string (pAt (w1 s) 1), .int .u8 45] V fun e w' => ∃ A c, e = .returned (.slice A (w2 s).length c) ∧ w'.ownsRow V.heap.size 9 1 (.slice A (w2 s).length c) (w2 s).length (strs (w2 s)) ∧ UpOf V w' := fun V => l01Split_any (pAt (w1 s) 1) 45 45 rfl V (by omega)
  have SW := Lib.hid sw
  have SW2 := Lib.hid sw2
  have S1 := Lib.hid (show (mS s).size ≤ 9223372036854775807 by rw [mS, ByteArray.size_extract]; omega)
  have S2 := Lib.hid (show (pAt (w2 s) 0).size ≤ 9223372036854775807 by have : (pAt (w2 s) 0).size ≤ (pAt (w1 s) 1).size := pAt_size 45 0; omega)
  have S3 := Lib.hid (show (pAt (w2 s) 1).size ≤ 9223372036854775807 by have : (pAt (w2 s) 1).size ≤ (pAt (w1 s) 1).size := pAt_size 45 1; omega)
  clear sw sw2 sz1
  by_cases h1 : (w1 s).length = 2
  · by_cases h2 : 2 ≤ (pAt (w1 s) 0).size
    · have h0 : 0 < (pAt (w1 s) 0).size := by omega
      have hb0 := Lib.hid (byteAt_eq h0)
      cases h3 : sharp (pAt (w1 s) 0)
      · have hf := Lib.hid (rhS_no (okS_3 h3))
        have qz : (((pAt (w1 s) 0)[0].toNat : Int) != 35) = true := by
          rw [bne_iff_ne]
          intro he
          rw [hb0.out] at he
          have : sharp (pAt (w1 s) 0) = true := decide_eq_true ⟨h0, he⟩
          rw [h3] at this; cases this
        clear h3
        go_enter Tryd.func9, Tryd.ntmps9
        go_wp2_with fail
        refine cg (R := fun V => Blk V w.heap.size 25 #[i64 0, i64 0, i64 0] ∧ UpOf w V) ⟨Blk.new _ _ _, UpOf.of (by repeat (first | exact Below.refl _ _ | refine bl_tr ?_ _ | refine bl_al ?_ _ | refine bl_dr ?_ | refine bl_up ?_ _ | refine Below.drew ?_ | refine bl_alloc ?_ _ | refine Below.setCell ?_ (by first | (simp; done) | (simp; omega)) _))⟩ (fun V z => ?_)
        obtain ⟨q, hqq⟩ : ∃ q, w.heap.size = q := ⟨_, rfl⟩
        rw [hqq] at z ⊢
        have HQ := Lib.hid (show w.heap.size ≤ q from Nat.le_of_eq hqq)
        have HU := Lib.hid z.2
        have HB := Lib.hid z.1
        have q0 := z.1.cell 0
        have q1 := z.1.cell 1
        have q2 := z.1.cell 2
        have f0 := z.1.free 0
        have f1 := z.1.free 1
        have f2 := z.1.free 2
        have hq := z.1.lt
        simp only [List.getElem?_toArray, List.getElem?_cons_zero, List.getElem?_cons_succ] at q0 q1 q2
        clear z hqq
        refine (SW.out _).mono ?_
        rintro e w' ⟨A1, k1, rfl, o1, g1, rfl⟩
        obtain ⟨b1, p1, rfl, hb1, y0, y1⟩ := words2 (Rds.of_own o1) h1
        clear o1
        go_wp2_with (first | ((with_reducible refine wp_region_up (by kernel_rfl) (by kernel_rfl) ?_); (repeat (go_big_quiet_step (fail))); refine wpQuiet_nil ?_; intro _ hw'; obtain ⟨nq, hw''⟩ := hw'; subst hw''))
        exact bodyPost_ret (v := .tuple #[hv ⟨0, 0, 0⟩, .bool false]) (by simp [results, Tryd.results9, go_sem, hq, q0, q1, q2]) rfl ⟨by rw [hf.out], UpOf.of (Below.sets3h HQ.out HU.out.below (by repeat (first | exact Below.refl _ _ | refine bl_tr ?_ _ | refine bl_al ?_ _ | refine bl_dr ?_ | refine bl_up ?_ _ | refine Below.drew ?_ | refine bl_alloc ?_ _ | refine Below.setCell ?_ (by first | (simp; done) | (simp; omega)) _)) _ _ _)⟩
      have qz : (((pAt (w1 s) 0)[0].toNat : Int) != 35) = false := by
        have := (of_decide_eq_true h3).2
        rw [← hb0.out] at this
        rw [this]; rfl
      by_cases h4 : (w2 s).length = 2
      · have hmx : (pAt (w1 s) 0).extract 1 (pAt (w1 s) 0).size = mS s := rfl
        cases h5 : (rdR (mS s)).2
        · have hf := Lib.hid (rhS_no (okS_5 h5))
          go_enter Tryd.func9, Tryd.ntmps9
          go_wp2_with fail
          refine cg (R := fun V => Blk V w.heap.size 25 #[i64 0, i64 0, i64 0] ∧ UpOf w V) ⟨Blk.new _ _ _, UpOf.of (by repeat (first | exact Below.refl _ _ | refine bl_tr ?_ _ | refine bl_al ?_ _ | refine bl_dr ?_ | refine bl_up ?_ _ | refine Below.drew ?_ | refine bl_alloc ?_ _ | refine Below.setCell ?_ (by first | (simp; done) | (simp; omega)) _))⟩ (fun V z => ?_)
          obtain ⟨q, hqq⟩ : ∃ q, w.heap.size = q := ⟨_, rfl⟩
          rw [hqq] at z ⊢
          have HQ := Lib.hid (show w.heap.size ≤ q from Nat.le_of_eq hqq)
          have HU := Lib.hid z.2
          have HB := Lib.hid z.1
          have q0 := z.1.cell 0
          have q1 := z.1.cell 1
          have q2 := z.1.cell 2
          have f0 := z.1.free 0
          have f1 := z.1.free 1
          have f2 := z.1.free 2
          have hq := z.1.lt
          simp only [List.getElem?_toArray, List.getElem?_cons_zero, List.getElem?_cons_succ] at q0 q1 q2
          clear z hqq
          refine (SW.out _).mono ?_
          rintro e w' ⟨A1, k1, rfl, o1, g1, rfl⟩
          obtain ⟨b1, p1, rfl, hb1, y0, y1⟩ := words2 (Rds.of_own o1) h1
          clear o1
          go_wp2_with fail
          refine cg (R := fun V2 => (b1 < V2.heap.size ∧ V2.cell? ⟨b1, p1, none⟩ = some (.string (pAt (w1 s) 0)) ∧ V2.cell? ⟨b1, p1 + 1, none⟩ = some (.string (pAt (w1 s) 1))) ∧ Blk V2 q 25 #[i64 0, i64 0, i64 0] ∧ UpOf w V2)
            ⟨⟨hb1, y0, y1⟩, HB.out.up _, HU.out.tr (by repeat (first | exact Below.refl _ _ | refine bl_tr ?_ _ | refine bl_al ?_ _ | refine bl_dr ?_ | refine bl_up ?_ _ | refine Below.drew ?_ | refine bl_alloc ?_ _ | refine Below.setCell ?_ (by first | (simp; done) | (simp; omega)) _))⟩ (fun V2 z => ?_)
          clear y0 y1 hb1 q0 q1 q2 f0 f1 f2 hq HB HU
          obtain ⟨⟨hb1, y0, y1⟩, hb, hu⟩ := z
          have HU := Lib.hid hu
          have HB := Lib.hid hb
          have q0 := hb.cell 0
          have q1 := hb.cell 1
          have q2 := hb.cell 2
          have f0 := hb.free 0
          have f1 := hb.free 1
          have f2 := hb.free 2
          have hq := hb.lt
          simp only [List.getElem?_toArray, List.getElem?_cons_zero, List.getElem?_cons_succ] at q0 q1 q2
          clear hu hb
          refine (SW2.out _).mono ?_
          rintro e w' ⟨A2, k2, rfl, o2, g2, rfl⟩
          obtain ⟨b2, p2, rfl, hb2, u0, u1⟩ := words2 (Rds.of_own o2) h4
          clear o2
          go_wp2_with fail
          refine (l01Number_any _ _ S1.out).mono ?_
          rintro e w' ⟨rfl, g3, rfl⟩
          go_wp2_with fail
          refine (l01Number_any _ _ S2.out).mono ?_
          rintro e w' ⟨rfl, g4, rfl⟩
          go_wp2_with fail
          refine (l01Number_any _ _ S3.out).mono ?_
          rintro e w' ⟨rfl, g5, rfl⟩
          go_wp2_with (first | ((with_reducible refine wp_region_up (by kernel_rfl) (by kernel_rfl) ?_); (repeat (go_big_quiet_step (fail))); refine wpQuiet_nil ?_; intro _ hw'; obtain ⟨nq, hw''⟩ := hw'; subst hw''))
          exact bodyPost_ret (v := .tuple #[hv ⟨0, 0, 0⟩, .bool false]) (by simp [results, Tryd.results9, go_sem, hq, q0, q1, q2]) rfl ⟨by rw [hf.out], UpOf.of (Below.sets3h HQ.out HU.out.below (by repeat (first | exact Below.refl _ _ | refine bl_tr ?_ _ | refine bl_al ?_ _ | refine bl_dr ?_ | refine bl_up ?_ _ | refine Below.drew ?_ | refine bl_alloc ?_ _ | refine Below.setCell ?_ (by first | (simp; done) | (simp; omega)) _)) _ _ _)⟩
        cases h6 : (rdR (pAt (w2 s) 0)).2
        · have hf := Lib.hid (rhS_no (okS_6 h6))
          go_enter Tryd.func9, Tryd.ntmps9
          go_wp2_with fail
          refine cg (R := fun V => Blk V w.heap.size 25 #[i64 0, i64 0, i64 0] ∧ UpOf w V) ⟨Blk.new _ _ _, UpOf.of (by repeat (first | exact Below.refl _ _ | refine bl_tr ?_ _ | refine bl_al ?_ _ | refine bl_dr ?_ | refine bl_up ?_ _ | refine Below.drew ?_ | refine bl_alloc ?_ _ | refine Below.setCell ?_ (by first | (simp; done) | (simp; omega)) _))⟩ (fun V z => ?_)
          obtain ⟨q, hqq⟩ : ∃ q, w.heap.size = q := ⟨_, rfl⟩
          rw [hqq] at z ⊢
          have HQ := Lib.hid (show w.heap.size ≤ q from Nat.le_of_eq hqq)
          have HU := Lib.hid z.2
          have HB := Lib.hid z.1
          have q0 := z.1.cell 0
          have q1 := z.1.cell 1
          have q2 := z.1.cell 2
          have f0 := z.1.free 0
          have f1 := z.1.free 1
          have f2 := z.1.free 2
          have hq := z.1.lt
          simp only [List.getElem?_toArray, List.getElem?_cons_zero, List.getElem?_cons_succ] at q0 q1 q2
          clear z hqq
          refine (SW.out _).mono ?_
          rintro e w' ⟨A1, k1, rfl, o1, g1, rfl⟩
          obtain ⟨b1, p1, rfl, hb1, y0, y1⟩ := words2 (Rds.of_own o1) h1
          clear o1
          go_wp2_with fail
          refine cg (R := fun V2 => (b1 < V2.heap.size ∧ V2.cell? ⟨b1, p1, none⟩ = some (.string (pAt (w1 s) 0)) ∧ V2.cell? ⟨b1, p1 + 1, none⟩ = some (.string (pAt (w1 s) 1))) ∧ Blk V2 q 25 #[i64 0, i64 0, i64 0] ∧ UpOf w V2)
            ⟨⟨hb1, y0, y1⟩, HB.out.up _, HU.out.tr (by repeat (first | exact Below.refl _ _ | refine bl_tr ?_ _ | refine bl_al ?_ _ | refine bl_dr ?_ | refine bl_up ?_ _ | refine Below.drew ?_ | refine bl_alloc ?_ _ | refine Below.setCell ?_ (by first | (simp; done) | (simp; omega)) _))⟩ (fun V2 z => ?_)
          clear y0 y1 hb1 q0 q1 q2 f0 f1 f2 hq HB HU
          obtain ⟨⟨hb1, y0, y1⟩, hb, hu⟩ := z
          have HU := Lib.hid hu
          have HB := Lib.hid hb
          have q0 := hb.cell 0
          have q1 := hb.cell 1
          have q2 := hb.cell 2
          have f0 := hb.free 0
          have f1 := hb.free 1
          have f2 := hb.free 2
          have hq := hb.lt
          simp only [List.getElem?_toArray, List.getElem?_cons_zero, List.getElem?_cons_succ] at q0 q1 q2
          clear hu hb
          refine (SW2.out _).mono ?_
          rintro e w' ⟨A2, k2, rfl, o2, g2, rfl⟩
          obtain ⟨b2, p2, rfl, hb2, u0, u1⟩ := words2 (Rds.of_own o2) h4
          clear o2
          go_wp2_with fail
          refine (l01Number_any _ _ S1.out).mono ?_
          rintro e w' ⟨rfl, g3, rfl⟩
          go_wp2_with fail
          refine (l01Number_any _ _ S2.out).mono ?_
          rintro e w' ⟨rfl, g4, rfl⟩
          go_wp2_with fail
          refine (l01Number_any _ _ S3.out).mono ?_
          rintro e w' ⟨rfl, g5, rfl⟩
          go_wp2_with (first | ((with_reducible refine wp_region_up (by kernel_rfl) (by kernel_rfl) ?_); (repeat (go_big_quiet_step (fail))); refine wpQuiet_nil ?_; intro _ hw'; obtain ⟨nq, hw''⟩ := hw'; subst hw''))
          exact bodyPost_ret (v := .tuple #[hv ⟨0, 0, 0⟩, .bool false]) (by simp [results, Tryd.results9, go_sem, hq, q0, q1, q2]) rfl ⟨by rw [hf.out], UpOf.of (Below.sets3h HQ.out HU.out.below (by repeat (first | exact Below.refl _ _ | refine bl_tr ?_ _ | refine bl_al ?_ _ | refine bl_dr ?_ | refine bl_up ?_ _ | refine Below.drew ?_ | refine bl_alloc ?_ _ | refine Below.setCell ?_ (by first | (simp; done) | (simp; omega)) _)) _ _ _)⟩
        cases h7 : (rdR (pAt (w2 s) 1)).2
        · have hf := Lib.hid (rhS_no (okS_7 h7))
          go_enter Tryd.func9, Tryd.ntmps9
          go_wp2_with fail
          refine cg (R := fun V => Blk V w.heap.size 25 #[i64 0, i64 0, i64 0] ∧ UpOf w V) ⟨Blk.new _ _ _, UpOf.of (by repeat (first | exact Below.refl _ _ | refine bl_tr ?_ _ | refine bl_al ?_ _ | refine bl_dr ?_ | refine bl_up ?_ _ | refine Below.drew ?_ | refine bl_alloc ?_ _ | refine Below.setCell ?_ (by first | (simp; done) | (simp; omega)) _))⟩ (fun V z => ?_)
          obtain ⟨q, hqq⟩ : ∃ q, w.heap.size = q := ⟨_, rfl⟩
          rw [hqq] at z ⊢
          have HQ := Lib.hid (show w.heap.size ≤ q from Nat.le_of_eq hqq)
          have HU := Lib.hid z.2
          have HB := Lib.hid z.1
          have q0 := z.1.cell 0
          have q1 := z.1.cell 1
          have q2 := z.1.cell 2
          have f0 := z.1.free 0
          have f1 := z.1.free 1
          have f2 := z.1.free 2
          have hq := z.1.lt
          simp only [List.getElem?_toArray, List.getElem?_cons_zero, List.getElem?_cons_succ] at q0 q1 q2
          clear z hqq
          refine (SW.out _).mono ?_
          rintro e w' ⟨A1, k1, rfl, o1, g1, rfl⟩
          obtain ⟨b1, p1, rfl, hb1, y0, y1⟩ := words2 (Rds.of_own o1) h1
          clear o1
          go_wp2_with fail
          refine cg (R := fun V2 => (b1 < V2.heap.size ∧ V2.cell? ⟨b1, p1, none⟩ = some (.string (pAt (w1 s) 0)) ∧ V2.cell? ⟨b1, p1 + 1, none⟩ = some (.string (pAt (w1 s) 1))) ∧ Blk V2 q 25 #[i64 0, i64 0, i64 0] ∧ UpOf w V2)
            ⟨⟨hb1, y0, y1⟩, HB.out.up _, HU.out.tr (by repeat (first | exact Below.refl _ _ | refine bl_tr ?_ _ | refine bl_al ?_ _ | refine bl_dr ?_ | refine bl_up ?_ _ | refine Below.drew ?_ | refine bl_alloc ?_ _ | refine Below.setCell ?_ (by first | (simp; done) | (simp; omega)) _))⟩ (fun V2 z => ?_)
          clear y0 y1 hb1 q0 q1 q2 f0 f1 f2 hq HB HU
          obtain ⟨⟨hb1, y0, y1⟩, hb, hu⟩ := z
          have HU := Lib.hid hu
          have HB := Lib.hid hb
          have q0 := hb.cell 0
          have q1 := hb.cell 1
          have q2 := hb.cell 2
          have f0 := hb.free 0
          have f1 := hb.free 1
          have f2 := hb.free 2
          have hq := hb.lt
          simp only [List.getElem?_toArray, List.getElem?_cons_zero, List.getElem?_cons_succ] at q0 q1 q2
          clear hu hb
          refine (SW2.out _).mono ?_
          rintro e w' ⟨A2, k2, rfl, o2, g2, rfl⟩
          obtain ⟨b2, p2, rfl, hb2, u0, u1⟩ := words2 (Rds.of_own o2) h4
          clear o2
          go_wp2_with fail
          refine (l01Number_any _ _ S1.out).mono ?_
          rintro e w' ⟨rfl, g3, rfl⟩
          go_wp2_with fail
          refine (l01Number_any _ _ S2.out).mono ?_
          rintro e w' ⟨rfl, g4, rfl⟩
          go_wp2_with fail
          refine (l01Number_any _ _ S3.out).mono ?_
          rintro e w' ⟨rfl, g5, rfl⟩
          go_wp2_with (first | ((with_reducible refine wp_region_up (by kernel_rfl) (by kernel_rfl) ?_); (repeat (go_big_quiet_step (fail))); refine wpQuiet_nil ?_; intro _ hw'; obtain ⟨nq, hw''⟩ := hw'; subst hw''))
          exact bodyPost_ret (v := .tuple #[hv ⟨0, 0, 0⟩, .bool false]) (by simp [results, Tryd.results9, go_sem, hq, q0, q1, q2]) rfl ⟨by rw [hf.out], UpOf.of (Below.sets3h HQ.out HU.out.below (by repeat (first | exact Below.refl _ _ | refine bl_tr ?_ _ | refine bl_al ?_ _ | refine bl_dr ?_ | refine bl_up ?_ _ | refine Below.drew ?_ | refine bl_alloc ?_ _ | refine Below.setCell ?_ (by first | (simp; done) | (simp; omega)) _)) _ _ _)⟩
        cases h8 : vHire (xS s)
        · have hf := Lib.hid (rhS_no (okS_8 h8))
          go_enter Tryd.func9, Tryd.ntmps9
          go_wp2_with fail
          refine cg (R := fun V => Blk V w.heap.size 25 #[i64 0, i64 0, i64 0] ∧ UpOf w V) ⟨Blk.new _ _ _, UpOf.of (by repeat (first | exact Below.refl _ _ | refine bl_tr ?_ _ | refine bl_al ?_ _ | refine bl_dr ?_ | refine bl_up ?_ _ | refine Below.drew ?_ | refine bl_alloc ?_ _ | refine Below.setCell ?_ (by first | (simp; done) | (simp; omega)) _))⟩ (fun V z => ?_)
          obtain ⟨q, hqq⟩ : ∃ q, w.heap.size = q := ⟨_, rfl⟩
          rw [hqq] at z ⊢
          have HQ := Lib.hid (show w.heap.size ≤ q from Nat.le_of_eq hqq)
          have HU := Lib.hid z.2
          have HB := Lib.hid z.1
          have q0 := z.1.cell 0
          have q1 := z.1.cell 1
          have q2 := z.1.cell 2
          have f0 := z.1.free 0
          have f1 := z.1.free 1
          have f2 := z.1.free 2
          have hq := z.1.lt
          simp only [List.getElem?_toArray, List.getElem?_cons_zero, List.getElem?_cons_succ] at q0 q1 q2
          clear z hqq
          refine (SW.out _).mono ?_
          rintro e w' ⟨A1, k1, rfl, o1, g1, rfl⟩
          obtain ⟨b1, p1, rfl, hb1, y0, y1⟩ := words2 (Rds.of_own o1) h1
          clear o1
          go_wp2_with fail
          refine cg (R := fun V2 => (b1 < V2.heap.size ∧ V2.cell? ⟨b1, p1, none⟩ = some (.string (pAt (w1 s) 0)) ∧ V2.cell? ⟨b1, p1 + 1, none⟩ = some (.string (pAt (w1 s) 1))) ∧ Blk V2 q 25 #[i64 0, i64 0, i64 0] ∧ UpOf w V2)
            ⟨⟨hb1, y0, y1⟩, HB.out.up _, HU.out.tr (by repeat (first | exact Below.refl _ _ | refine bl_tr ?_ _ | refine bl_al ?_ _ | refine bl_dr ?_ | refine bl_up ?_ _ | refine Below.drew ?_ | refine bl_alloc ?_ _ | refine Below.setCell ?_ (by first | (simp; done) | (simp; omega)) _))⟩ (fun V2 z => ?_)
          clear y0 y1 hb1 q0 q1 q2 f0 f1 f2 hq HB HU
          obtain ⟨⟨hb1, y0, y1⟩, hb, hu⟩ := z
          have HU := Lib.hid hu
          have HB := Lib.hid hb
          have q0 := hb.cell 0
          have q1 := hb.cell 1
          have q2 := hb.cell 2
          have f0 := hb.free 0
          have f1 := hb.free 1
          have f2 := hb.free 2
          have hq := hb.lt
          simp only [List.getElem?_toArray, List.getElem?_cons_zero, List.getElem?_cons_succ] at q0 q1 q2
          clear hu hb
          refine (SW2.out _).mono ?_
          rintro e w' ⟨A2, k2, rfl, o2, g2, rfl⟩
          obtain ⟨b2, p2, rfl, hb2, u0, u1⟩ := words2 (Rds.of_own o2) h4
          clear o2
          go_wp2_with fail
          refine (l01Number_any _ _ S1.out).mono ?_
          rintro e w' ⟨rfl, g3, rfl⟩
          go_wp2_with fail
          refine (l01Number_any _ _ S2.out).mono ?_
          rintro e w' ⟨rfl, g4, rfl⟩
          go_wp2_with fail
          refine (l01Number_any _ _ S3.out).mono ?_
          rintro e w' ⟨rfl, g5, rfl⟩
          go_wp2_with fail
          refine (ret_as (l25One_any (xS s) _ _ _ ⟨by simp, by simp [xS], by simp [xS], by simp [xS]⟩) h8).mono ?_
          rintro e w' ⟨rfl, g6, rfl⟩
          go_wp2_with (first | ((with_reducible refine wp_region_up (by kernel_rfl) (by kernel_rfl) ?_); (repeat (go_big_quiet_step (fail))); refine wpQuiet_nil ?_; intro _ hw'; obtain ⟨nq, hw''⟩ := hw'; subst hw''))
          exact bodyPost_ret (v := .tuple #[hv ⟨0, 0, 0⟩, .bool false]) (by simp [results, Tryd.results9, go_sem, hq, q0, q1, q2]) rfl ⟨by rw [hf.out], UpOf.of (Below.sets3h HQ.out HU.out.below (by repeat (first | exact Below.refl _ _ | refine bl_tr ?_ _ | refine bl_al ?_ _ | refine bl_dr ?_ | refine bl_up ?_ _ | refine Below.drew ?_ | refine bl_alloc ?_ _ | refine Below.setCell ?_ (by first | (simp; done) | (simp; omega)) _)) _ _ _)⟩
        · have hf := Lib.hid (rhS_ok (okS_mk h1 h2 h3 h4 h5 h6 h7 h8))
          go_enter Tryd.func9, Tryd.ntmps9
          go_wp2_with fail
          refine cg (R := fun V => Blk V w.heap.size 25 #[i64 0, i64 0, i64 0] ∧ UpOf w V) ⟨Blk.new _ _ _, UpOf.of (by repeat (first | exact Below.refl _ _ | refine bl_tr ?_ _ | refine bl_al ?_ _ | refine bl_dr ?_ | refine bl_up ?_ _ | refine Below.drew ?_ | refine bl_alloc ?_ _ | refine Below.setCell ?_ (by first | (simp; done) | (simp; omega)) _))⟩ (fun V z => ?_)
          obtain ⟨q, hqq⟩ : ∃ q, w.heap.size = q := ⟨_, rfl⟩
          rw [hqq] at z ⊢
          have HQ := Lib.hid (show w.heap.size ≤ q from Nat.le_of_eq hqq)
          have HU := Lib.hid z.2
          have HB := Lib.hid z.1
          have q0 := z.1.cell 0
          have q1 := z.1.cell 1
          have q2 := z.1.cell 2
          have f0 := z.1.free 0
          have f1 := z.1.free 1
          have f2 := z.1.free 2
          have hq := z.1.lt
          simp only [List.getElem?_toArray, List.getElem?_cons_zero, List.getElem?_cons_succ] at q0 q1 q2
          clear z hqq
          refine (SW.out _).mono ?_
          rintro e w' ⟨A1, k1, rfl, o1, g1, rfl⟩
          obtain ⟨b1, p1, rfl, hb1, y0, y1⟩ := words2 (Rds.of_own o1) h1
          clear o1
          go_wp2_with fail
          refine cg (R := fun V2 => (b1 < V2.heap.size ∧ V2.cell? ⟨b1, p1, none⟩ = some (.string (pAt (w1 s) 0)) ∧ V2.cell? ⟨b1, p1 + 1, none⟩ = some (.string (pAt (w1 s) 1))) ∧ Blk V2 q 25 #[i64 0, i64 0, i64 0] ∧ UpOf w V2)
            ⟨⟨hb1, y0, y1⟩, HB.out.up _, HU.out.tr (by repeat (first | exact Below.refl _ _ | refine bl_tr ?_ _ | refine bl_al ?_ _ | refine bl_dr ?_ | refine bl_up ?_ _ | refine Below.drew ?_ | refine bl_alloc ?_ _ | refine Below.setCell ?_ (by first | (simp; done) | (simp; omega)) _))⟩ (fun V2 z => ?_)
          clear y0 y1 hb1 q0 q1 q2 f0 f1 f2 hq HB HU
          obtain ⟨⟨hb1, y0, y1⟩, hb, hu⟩ := z
          have HU := Lib.hid hu
          have HB := Lib.hid hb
          have q0 := hb.cell 0
          have q1 := hb.cell 1
          have q2 := hb.cell 2
          have f0 := hb.free 0
          have f1 := hb.free 1
          have f2 := hb.free 2
          have hq := hb.lt
          simp only [List.getElem?_toArray, List.getElem?_cons_zero, List.getElem?_cons_succ] at q0 q1 q2
          clear hu hb
          refine (SW2.out _).mono ?_
          rintro e w' ⟨A2, k2, rfl, o2, g2, rfl⟩
          obtain ⟨b2, p2, rfl, hb2, u0, u1⟩ := words2 (Rds.of_own o2) h4
          clear o2
          go_wp2_with fail
          refine (l01Number_any _ _ S1.out).mono ?_
          rintro e w' ⟨rfl, g3, rfl⟩
          go_wp2_with fail
          refine (l01Number_any _ _ S2.out).mono ?_
          rintro e w' ⟨rfl, g4, rfl⟩
          go_wp2_with fail
          refine (l01Number_any _ _ S3.out).mono ?_
          rintro e w' ⟨rfl, g5, rfl⟩
          go_wp2_with fail
          refine (ret_as (l25One_any (xS s) _ _ _ ⟨by simp, by simp [xS], by simp [xS], by simp [xS]⟩) h8).mono ?_
          rintro e w' ⟨rfl, g6, rfl⟩
          go_wp2_with (first | ((with_reducible refine wp_region_up (by kernel_rfl) (by kernel_rfl) ?_); (repeat (go_big_quiet_step (fail))); refine wpQuiet_nil ?_; intro _ hw'; obtain ⟨nq, hw''⟩ := hw'; subst hw''))
          exact bodyPost_ret (v := .tuple #[hv (xS s), .bool true]) (by simp [results, Tryd.results9, go_sem, hq, q0, q1, q2, xS]) rfl ⟨by rw [hf.out], UpOf.of (Below.sets3h HQ.out HU.out.below (by repeat (first | exact Below.refl _ _ | refine bl_tr ?_ _ | refine bl_al ?_ _ | refine bl_dr ?_ | refine bl_up ?_ _ | refine Below.drew ?_ | refine bl_alloc ?_ _ | refine Below.setCell ?_ (by first | (simp; done) | (simp; omega)) _)) _ _ _)⟩
      · have hf := Lib.hid (rhS_no (okS_4 h4))
        have z4 : (((w2 s).length : Int) != 2) = true := by rw [bne_iff_ne]; omega
        clear h4
        go_enter Tryd.func9, Tryd.ntmps9
        go_wp2_with fail
        refine cg (R := fun V => Blk V w.heap.size 25 #[i64 0, i64 0, i64 0] ∧ UpOf w V) ⟨Blk.new _ _ _, UpOf.of (by repeat (first | exact Below.refl _ _ | refine bl_tr ?_ _ | refine bl_al ?_ _ | refine bl_dr ?_ | refine bl_up ?_ _ | refine Below.drew ?_ | refine bl_alloc ?_ _ | refine Below.setCell ?_ (by first | (simp; done) | (simp; omega)) _))⟩ (fun V z => ?_)
        obtain ⟨q, hqq⟩ : ∃ q, w.heap.size = q := ⟨_, rfl⟩
        rw [hqq] at z ⊢
        have HQ := Lib.hid (show w.heap.size ≤ q from Nat.le_of_eq hqq)
        have HU := Lib.hid z.2
        have HB := Lib.hid z.1
        have q0 := z.1.cell 0
        have q1 := z.1.cell 1
        have q2 := z.1.cell 2
        have f0 := z.1.free 0
        have f1 := z.1.free 1
        have f2 := z.1.free 2
        have hq := z.1.lt
        simp only [List.getElem?_toArray, List.getElem?_cons_zero, List.getElem?_cons_succ] at q0 q1 q2
        clear z hqq
        refine (SW.out _).mono ?_
        rintro e w' ⟨A1, k1, rfl, o1, g1, rfl⟩
        obtain ⟨b1, p1, rfl, hb1, y0, y1⟩ := words2 (Rds.of_own o1) h1
        clear o1
        go_wp2_with fail
        refine cg (R := fun V2 => (b1 < V2.heap.size ∧ V2.cell? ⟨b1, p1, none⟩ = some (.string (pAt (w1 s) 0)) ∧ V2.cell? ⟨b1, p1 + 1, none⟩ = some (.string (pAt (w1 s) 1))) ∧ Blk V2 q 25 #[i64 0, i64 0, i64 0] ∧ UpOf w V2)
          ⟨⟨hb1, y0, y1⟩, HB.out.up _, HU.out.tr (by repeat (first | exact Below.refl _ _ | refine bl_tr ?_ _ | refine bl_al ?_ _ | refine bl_dr ?_ | refine bl_up ?_ _ | refine Below.drew ?_ | refine bl_alloc ?_ _ | refine Below.setCell ?_ (by first | (simp; done) | (simp; omega)) _))⟩ (fun V2 z => ?_)
        clear y0 y1 hb1 q0 q1 q2 f0 f1 f2 hq HB HU
        obtain ⟨⟨hb1, y0, y1⟩, hb, hu⟩ := z
        have HU := Lib.hid hu
        have HB := Lib.hid hb
        have q0 := hb.cell 0
        have q1 := hb.cell 1
        have q2 := hb.cell 2
        have f0 := hb.free 0
        have f1 := hb.free 1
        have f2 := hb.free 2
        have hq := hb.lt
        simp only [List.getElem?_toArray, List.getElem?_cons_zero, List.getElem?_cons_succ] at q0 q1 q2
        clear hu hb
        refine (SW2.out _).mono ?_
        rintro e w' ⟨A2, k2, rfl, o2, g2, rfl⟩
        go_wp2_with (first | ((with_reducible refine wp_region_up (by kernel_rfl) (by kernel_rfl) ?_); (repeat (go_big_quiet_step (fail))); refine wpQuiet_nil ?_; intro _ hw'; obtain ⟨nq, hw''⟩ := hw'; subst hw''))
        exact bodyPost_ret (v := .tuple #[hv ⟨0, 0, 0⟩, .bool false]) (by simp [results, Tryd.results9, go_sem, hq, q0, q1, q2]) rfl ⟨by rw [hf.out], UpOf.of (Below.sets3h HQ.out HU.out.below (by repeat (first | exact Below.refl _ _ | refine bl_tr ?_ _ | refine bl_al ?_ _ | refine bl_dr ?_ | refine bl_up ?_ _ | refine Below.drew ?_ | refine bl_alloc ?_ _ | refine Below.setCell ?_ (by first | (simp; done) | (simp; omega)) _)) _ _ _)⟩
    · have hf := Lib.hid (rhS_no (okS_2 h2))
      have h2' : (pAt (w1 s) 0).size < 2 := by omega
      clear h2
      go_enter Tryd.func9, Tryd.ntmps9
      go_wp2_with fail
      refine cg (R := fun V => Blk V w.heap.size 25 #[i64 0, i64 0, i64 0] ∧ UpOf w V) ⟨Blk.new _ _ _, UpOf.of (by repeat (first | exact Below.refl _ _ | refine bl_tr ?_ _ | refine bl_al ?_ _ | refine bl_dr ?_ | refine bl_up ?_ _ | refine Below.drew ?_ | refine bl_alloc ?_ _ | refine Below.setCell ?_ (by first | (simp; done) | (simp; omega)) _))⟩ (fun V z => ?_)
      obtain ⟨q, hqq⟩ : ∃ q, w.heap.size = q := ⟨_, rfl⟩
      rw [hqq] at z ⊢
      have HQ := Lib.hid (show w.heap.size ≤ q from Nat.le_of_eq hqq)
      have HU := Lib.hid z.2
      have HB := Lib.hid z.1
      have q0 := z.1.cell 0
      have q1 := z.1.cell 1
      have q2 := z.1.cell 2
      have f0 := z.1.free 0
      have f1 := z.1.free 1
      have f2 := z.1.free 2
      have hq := z.1.lt
      simp only [List.getElem?_toArray, List.getElem?_cons_zero, List.getElem?_cons_succ] at q0 q1 q2
      clear z hqq
      refine (SW.out _).mono ?_
      rintro e w' ⟨A1, k1, rfl, o1, g1, rfl⟩
      obtain ⟨b1, p1, rfl, hb1, y0, y1⟩ := words2 (Rds.of_own o1) h1
      clear o1
      go_wp2_with (first | ((with_reducible refine wp_region_up (by kernel_rfl) (by kernel_rfl) ?_); (repeat (go_big_quiet_step (fail))); refine wpQuiet_nil ?_; intro _ hw'; obtain ⟨nq, hw''⟩ := hw'; subst hw''))
      exact bodyPost_ret (v := .tuple #[hv ⟨0, 0, 0⟩, .bool false]) (by simp [results, Tryd.results9, go_sem, hq, q0, q1, q2]) rfl ⟨by rw [hf.out], UpOf.of (Below.sets3h HQ.out HU.out.below (by repeat (first | exact Below.refl _ _ | refine bl_tr ?_ _ | refine bl_al ?_ _ | refine bl_dr ?_ | refine bl_up ?_ _ | refine Below.drew ?_ | refine bl_alloc ?_ _ | refine Below.setCell ?_ (by first | (simp; done) | (simp; omega)) _)) _ _ _)⟩
  · have hf := Lib.hid (rhS_no (okS_1 h1))
    have z1 : (((w1 s).length : Int) != 2) = true := by rw [bne_iff_ne]; omega
    clear h1
    go_enter Tryd.func9, Tryd.ntmps9
    go_wp2_with fail
    refine cg (R := fun V => Blk V w.heap.size 25 #[i64 0, i64 0, i64 0] ∧ UpOf w V) ⟨Blk.new _ _ _, UpOf.of (by repeat (first | exact Below.refl _ _ | refine bl_tr ?_ _ | refine bl_al ?_ _ | refine bl_dr ?_ | refine bl_up ?_ _ | refine Below.drew ?_ | refine bl_alloc ?_ _ | refine Below.setCell ?_ (by first | (simp; done) | (simp; omega)) _))⟩ (fun V z => ?_)
    obtain ⟨q, hqq⟩ : ∃ q, w.heap.size = q := ⟨_, rfl⟩
    rw [hqq] at z ⊢
    have HQ := Lib.hid (show w.heap.size ≤ q from Nat.le_of_eq hqq)
    have HU := Lib.hid z.2
    have HB := Lib.hid z.1
    have q0 := z.1.cell 0
    have q1 := z.1.cell 1
    have q2 := z.1.cell 2
    have f0 := z.1.free 0
    have f1 := z.1.free 1
    have f2 := z.1.free 2
    have hq := z.1.lt
    simp only [List.getElem?_toArray, List.getElem?_cons_zero, List.getElem?_cons_succ] at q0 q1 q2
    clear z hqq
    refine (SW.out _).mono ?_
    rintro e w' ⟨A1, k1, rfl, o1, g1, rfl⟩
    go_wp2_with (first | ((with_reducible refine wp_region_up (by kernel_rfl) (by kernel_rfl) ?_); (repeat (go_big_quiet_step (fail))); refine wpQuiet_nil ?_; intro _ hw'; obtain ⟨nq, hw''⟩ := hw'; subst hw''))
    exact bodyPost_ret (v := .tuple #[hv ⟨0, 0, 0⟩, .bool false]) (by simp [results, Tryd.results9, go_sem, hq, q0, q1, q2]) rfl ⟨by rw [hf.out], UpOf.of (Below.sets3h HQ.out HU.out.below (by repeat (first | exact Below.refl _ _ | refine bl_tr ?_ _ | refine bl_al ?_ _ | refine bl_dr ?_ | refine bl_up ?_ _ | refine Below.drew ?_ | refine bl_alloc ?_ _ | refine Below.setCell ?_ (by first | (simp; done) | (simp; omega)) _)) _ _ _)⟩
end Go.Proofs.YtiagckbdofeecaaDoor
