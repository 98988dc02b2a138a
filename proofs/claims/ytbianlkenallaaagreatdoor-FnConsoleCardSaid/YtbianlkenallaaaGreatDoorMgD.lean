/-
  Common parts, put together: Dk2, Dk3, Wait, Fast, Fast2, Fast3, Dk4, Dk5, Move1, Move2, Move3, Move4, CodeJ, CodeW1, CodeW2, TxtMap, CodeS.
-/
import Derived.Test.YtbianlkenallaaaGreatDoorMgC
import Derived.StillTail
import Derived.StillTailTactics
import Derived.Test.YtbianlkenallaaaGreatDoorMgB
import Derived.Test.YtbianlkenallaaaGreatDoorMgA
import Derived.Deep.DeepMust
import Derived.Deep.WholeRow
import Derived.Great.BuildSlice
import Derived.Laws.CopyOwn
import Derived.Lib.SlBytesConst
import Derived.Test.YtbianlkenallaaaGreatDoorShelf
import Derived.Maps.StringElems
set_option linter.all false
namespace Go.Proofs.YtbianlkenallaaaGreatDoor
open Go.RowKit
/-- the copy, the result, and the next state -/
structure M3 (w V : World) (p q r : Nat) (x y : Array Value) : Prop where
  a : MD w V p q x
  b : MD w V r q y
  ne : p ≠ r
theorem M3.below {w V V' : World} {p q r : Nat} {x y : Array Value} (h : M3 w V p q r x y) (hb : Below V.heap.size V V') : M3 w V' p q r x y := ⟨h.a.below hb, h.b.below hb, h.ne⟩
theorem M3.put {w V : World} {p q r : Nat} {x y : Array Value} (h : M3 w V p q r x y) (i : Nat) (u : Value) : M3 w (V.setCell ⟨r, i, none⟩ u) p q r x (y.setIfInBounds i u) :=
  ⟨⟨h.a.bx.far (p := ⟨r, i, none⟩) h.ne u, (h.b.put i u).rs, (h.b.put i u).up, h.a.hp, h.a.hq, h.a.ne⟩, h.b.put i u, h.ne⟩
theorem M3.new {w V : World} {p q : Nat} {x : Array Value} (h : MD w V p q x) : M3 w (V.alloc (.cells x 31)) p q V.heap.size x x :=
  ⟨h.below (BL.o (by repeat constructor)), ⟨Blk.new V _ _, h.rs.alloc _, h.up.tr (BL.o (by repeat constructor)), h.up.below.size, h.hq, Nat.ne_of_gt h.rs.lt⟩, Nat.ne_of_lt h.bx.lt⟩
def bskOf (l : List Int) : Bsk := ⟨num l 0, num l 1, num l 2, num l 3, num l 4⟩
set_option maxRecDepth 10000 in
set_option maxHeartbeats 8000000 in
theorem settingB_any (d : DeskD) (A B : Option Addr) (c e : Nat) (l : List Int) (N : Option Addr) (nc : Nat) (s : ByteArray) (w : World) (h : DSee w d A B) (hz : DkSz d e) (ht : Tab w) (hv : vDesk d = true) (hl : Rds w 1 N l.length (ics l)) (h5 : l.length = 5) (hk : kindOf s = 1) :
    Calls Tryz.prog 73 #[dkv d A B c e, .string s, .slice N l.length nc] w fun r w' =>
      if vBsk (bskOf l) then mdPost { d with b := bskOf l } [dkText { d with b := bskOf l }] A B c e w r w' else mdPost d [errL 1] A B c e w r w' := by
  have HS := Lib.hid h
  have HZ := Lib.hid hz
  have HT := Lib.hid ht
  have HV := Lib.hid (vDesk_inv hv)
  have qk : (s.toList == [98, 97, 115, 107, 101, 116]) = true := by
    have := kind_test2 s (i := 1) (by omega)
    rw [hk] at this
    exact this
  obtain ⟨b, off, rfl, hb, hc⟩ := hl.at (by omega)
  have hnc : ∀ i, i < 5 → w.cell? ⟨b, off + i, none⟩ = some (i64 (num l i)) := fun i hi => hc i _ (by rw [ics, List.getElem?_map, List.getElem?_eq_getElem (by omega), num_eq (by omega)]; rfl)
  have HN := Lib.hid hnc
  clear h hz ht hv hk hl hc hnc
  obtain ⟨D, hD⟩ : ∃ D : DeskD, { d with b := bskOf l } = D := ⟨_, rfl⟩
  have HD := Lib.hid hD
  have hDs : D.stops = d.stops := by rw [← hD]
  have hDl : D.drills = d.drills := by rw [← hD]
  have hDb : bskOf l = D.b := by rw [← hD]
  have hDg : D.log = d.log := by rw [← hD]
  have HSD : Hid (∀ V, Below w.heap.size w V → DSee V D A B) := Lib.hid fun V hV => by
    have := HS.out.below hV
    unfold DSee
    rw [hDs, hDl]
    exact this
  have HZD : Hid (DkSz D e) := Lib.hid ⟨by rw [hDs]; exact HZ.out.s, by rw [hDl]; exact HZ.out.n, by rw [hDl]; exact HZ.out.b, by rw [hDg]; exact HZ.out.l, by rw [hDl]; exact HZ.out.c⟩
  have HVD : Hid (vStops D.stops = true) := Lib.hid (by rw [hDs]; exact HV.out.2.1)
  rw [hD, hDb]
  clear hD hDs hDl hDb hDg
  cases q1 : vBsk D.b with
  | false =>
    show Calls _ _ _ _ fun r w' => mdPost d [errL 1] A B c e w r w'
    rw [h5]
    go_enter Tryz.func73, Tryz.ntmps73
    go_upto_region 1 with (fail)
    refine wpg (R := fun V => Hid (MD w V w.heap.size (w.heap.size + 1) (dkcs d A B c e))) (Lib.hid (MD.new _ _)) (fun V z => ?_)
    generalize hp9 : w.heap.size = p at z ⊢
    generalize hq9 : p + 1 = q at z ⊢
    clear hp9 hq9
    obtain ⟨hpV, x0, x1, x2, x3, x4, x5, x6, x7⟩ := z.out.bx.eight
    go_upto_region 2 with (fail)
    refine wpg (R := fun U => Hid (M3 w U p q V.heap.size (dkcs d A B c e) (dkcs d A B c e))) (Lib.hid (M3.new z.out)) (fun U y => ?_)
    clear z x0 x1 x2 x3 x4 x5 x6 x7 hpV
    generalize V.heap.size = r at *
    go_upto_region 3 with (fail)
    have hbU := Nat.lt_of_lt_of_le hb y.out.a.up.below.size
    have n0 := (y.out.a.up.below.cell (p := ⟨b, off + 0, none⟩) hb).trans (HN.out 0 (by omega))
    have n1 := (y.out.a.up.below.cell (p := ⟨b, off + 1, none⟩) hb).trans (HN.out 1 (by omega))
    have n2 := (y.out.a.up.below.cell (p := ⟨b, off + 2, none⟩) hb).trans (HN.out 2 (by omega))
    have n3 := (y.out.a.up.below.cell (p := ⟨b, off + 3, none⟩) hb).trans (HN.out 3 (by omega))
    have n4 := (y.out.a.up.below.cell (p := ⟨b, off + 4, none⟩) hb).trans (HN.out 4 (by omega))
    rw [Nat.add_zero] at n0
    obtain ⟨hrU, x0, x1, x2, x3, x4, x5, x6, x7⟩ := y.out.b.bx.eight
    obtain ⟨f0, f1, f2, f3, f4, f5, f6, f7⟩ := y.out.b.bx.open8
    go_still_tail 17, (by kernel_rfl)
    change wpList _ _ _ _ _ (World.drew _)
    go_upto_region 5 with (fail)
    have y5 := Lib.hid (((((y.out.put 0 (i64 (num l 0))).put 1 (i64 (num l 1))).put 2 (i64 (num l 2))).put 3 (i64 (num l 3))).put 4 (i64 (num l 4)))
    refine wpg (R := fun T => Hid (M3 w T p q r (dkcs d A B c e) (dkcs D A B c e))) (Lib.hid (by
      rw [← HD.out]
      exact y5.out.below (V' := World.drew _) (Below.drew (Below.refl _ _)))) (fun T t => ?_)
    clear x0 x1 x2 x3 x4 x5 x6 x7 f0 f1 f2 f3 f4 f5 f6 f7 n0 n1 n2 n3 n4 hrU hbU y y5
    obtain ⟨hrT, x0, x1, x2, x3, x4, x5, x6, x7⟩ := t.out.b.bx.eight
    go_upto_region 6 with (go_at_call 65; refine (ret_as (validBasket_any D.b _) q1).mono ?_; rintro e w' ⟨rfl, g, rfl⟩)
    refine wpg (R := fun U => Hid (MD w U p q (dkcs d A B c e))) (Lib.hid (t.out.a.below (BL.o (by repeat constructor)))) (fun U z => ?_)
    clear x0 x1 x2 x3 x4 x5 x6 x7 t hrT
    have hC : cel8 U.drew p d A B c e := z.out.cel
    refine wp_region_T (fun U => U.cell? ⟨p, 0, none⟩ = some (i64 (d).b.bars) ∧ U.cell? ⟨p, 1, none⟩ = some (i64 (d).b.rise) ∧ U.cell? ⟨p, 2, none⟩ = some (i64 (d).b.fall) ∧ U.cell? ⟨p, 3, none⟩ = some (i64 (d).b.clr) ∧ U.cell? ⟨p, 4, none⟩ = some (i64 (d).b.near) ∧ U.cell? ⟨p, 5, none⟩ = some (.slice A (d).stops.length c) ∧ U.cell? ⟨p, 6, none⟩ = some (.slice B (d).drills.length e) ∧ U.cell? ⟨p, 7, none⟩ = some (.string (d).log)) 2 (by kernel_rfl) ?_
    
    refine wpAnyT_load (i := 0) (v := ?_) rfl (by kernel_rfl) (by kernel_rfl) (by kernel_rfl) (by decide) (by kernel_rfl) (by kernel_rfl) (fun _ _ _ h => h) (Or.inl ⟨by rfl, ?_⟩) hC ?_
    rotate_left
    · intro w hSw; (try dsimp only at hSw); go_simp; try (with_reducible rfl)
    try simp only [Act.put, List.setIfInBounds_toArray, List.set_cons_zero, List.set_cons_succ]
    refine wpAnyT_one (i := 1) (by kernel_rfl) rfl (fun K hK => ?_)
    go_simp
    go_at_call 70
    refine (report_any 1 _).mono ?_
    rintro r w' ⟨X, n, rfl, ox, gx, rfl⟩
    have z2 := Lib.hid (z.out.below (V' := up U.drew gx) (bl_up (Below.drew (Below.refl _ _)) gx))
    have OX := Lib.hid ox
    clear ox
    refine hK.out _ _ (fun _ => z2.out.cel) ?_
    clear hK K
    try simp only [Act.put, List.setIfInBounds_toArray, List.set_cons_zero, List.set_cons_succ]
    obtain ⟨hqT, r0, r1, r2, r3, r4, r5, r6, r7⟩ := z2.out.rs.eight
    obtain ⟨f0, f1, f2, f3, f4, f5, f6, f7⟩ := z2.out.rs.open8
    refine wpAnyT_one (i := 2) (by kernel_rfl) rfl (fun K hK => ?_)
    go_simp
    refine hK.out _ _ (fun h9 => absurd (show true = false from h9) (by decide)) ?_
    clear hK K
    try simp only [Act.put, List.setIfInBounds_toArray, List.set_cons_zero, List.set_cons_succ]
    refine wpAnyT_pure (i := 3) (v := ?_) rfl (by kernel_rfl) (by kernel_rfl) (by kernel_rfl) (by decide) (fun _ _ _ h => h) (Or.inl ⟨by rfl, ?_⟩) (fun h9 => absurd (show true = false from h9) (by decide)) ?_
    rotate_left
    · intro w _; go_simp; try (with_reducible rfl)
    try simp only [Act.put, List.setIfInBounds_toArray, List.set_cons_zero, List.set_cons_succ]
    refine wpAnyT_done (by kernel_rfl) ?_ _
    (try simp only [Act.put, List.getElem_toArray, List.getElem_cons_succ, List.getElem_cons_zero, List.setIfInBounds_toArray, List.set_cons_zero, List.set_cons_succ])
    have hqU := z.out.rs.lt
    go_wp2_with fail
    refine bodyPost_ret (v := .tuple #[dkv (d) A B c e, .slice X 1 n]) (by simp [results, Tryz.results73, go_sem, hqT, r0, r1, r2, r3, r4, r5, r6, r7]) rfl ?_
    exact ⟨X, n, rfl, own_mono (own_all OX.out hqU _ _ _ _ _ _ _ _) z.out.up.below.size, put8_up z2.out.up z2.out.hq _ _ _ _ _ _ _ _⟩
  | true =>
    show Calls _ _ _ _ fun r w' => mdPost D [dkText D] A B c e w r w'
    rw [h5]
    go_enter Tryz.func73, Tryz.ntmps73
    go_upto_region 1 with (fail)
    refine wpg (R := fun V => Hid (MD w V w.heap.size (w.heap.size + 1) (dkcs d A B c e))) (Lib.hid (MD.new _ _)) (fun V z => ?_)
    generalize hp9 : w.heap.size = p at z ⊢
    generalize hq9 : p + 1 = q at z ⊢
    clear hp9 hq9
    obtain ⟨hpV, x0, x1, x2, x3, x4, x5, x6, x7⟩ := z.out.bx.eight
    go_upto_region 2 with (fail)
    refine wpg (R := fun U => Hid (M3 w U p q V.heap.size (dkcs d A B c e) (dkcs d A B c e))) (Lib.hid (M3.new z.out)) (fun U y => ?_)
    clear z x0 x1 x2 x3 x4 x5 x6 x7 hpV
    generalize V.heap.size = r at *
    go_upto_region 3 with (fail)
    have hbU := Nat.lt_of_lt_of_le hb y.out.a.up.below.size
    have n0 := (y.out.a.up.below.cell (p := ⟨b, off + 0, none⟩) hb).trans (HN.out 0 (by omega))
    have n1 := (y.out.a.up.below.cell (p := ⟨b, off + 1, none⟩) hb).trans (HN.out 1 (by omega))
    have n2 := (y.out.a.up.below.cell (p := ⟨b, off + 2, none⟩) hb).trans (HN.out 2 (by omega))
    have n3 := (y.out.a.up.below.cell (p := ⟨b, off + 3, none⟩) hb).trans (HN.out 3 (by omega))
    have n4 := (y.out.a.up.below.cell (p := ⟨b, off + 4, none⟩) hb).trans (HN.out 4 (by omega))
    rw [Nat.add_zero] at n0
    obtain ⟨hrU, x0, x1, x2, x3, x4, x5, x6, x7⟩ := y.out.b.bx.eight
    obtain ⟨f0, f1, f2, f3, f4, f5, f6, f7⟩ := y.out.b.bx.open8
    go_still_tail 17, (by kernel_rfl)
    change wpList _ _ _ _ _ (World.drew _)
    go_upto_region 5 with (fail)
    have y5 := Lib.hid (((((y.out.put 0 (i64 (num l 0))).put 1 (i64 (num l 1))).put 2 (i64 (num l 2))).put 3 (i64 (num l 3))).put 4 (i64 (num l 4)))
    refine wpg (R := fun T => Hid (M3 w T p q r (dkcs d A B c e) (dkcs D A B c e))) (Lib.hid (by
      rw [← HD.out]
      exact y5.out.below (V' := World.drew _) (Below.drew (Below.refl _ _)))) (fun T t => ?_)
    clear x0 x1 x2 x3 x4 x5 x6 x7 f0 f1 f2 f3 f4 f5 f6 f7 n0 n1 n2 n3 n4 hrU hbU y y5
    obtain ⟨hrT, x0, x1, x2, x3, x4, x5, x6, x7⟩ := t.out.b.bx.eight
    go_upto_region 7 with (first | (go_at_call 65; refine (ret_as (validBasket_any D.b _) q1).mono ?_; rintro e w' ⟨rfl, g, rfl⟩) | (go_at_call 66; refine (ret_as (validStops_any A c D.stops _ ((HSD.out _ (t.out.a.up.tr (BL.o (by repeat constructor))).below).1) HZD.out.s) HVD.out).mono ?_; rintro e w' ⟨rfl, g, rfl⟩))
    refine wpg (R := fun U => Hid (MD w U r q (dkcs D A B c e))) (Lib.hid (t.out.b.below (BL.o (by repeat constructor)))) (fun U z => ?_)
    clear x0 x1 x2 x3 x4 x5 x6 x7 t hrT
    generalize p = p0 at *
    generalize r = p at *
    have hC : cel8 U.drew p D A B c e := z.out.cel
    refine wp_region_T (fun U => U.cell? ⟨p, 0, none⟩ = some (i64 (D).b.bars) ∧ U.cell? ⟨p, 1, none⟩ = some (i64 (D).b.rise) ∧ U.cell? ⟨p, 2, none⟩ = some (i64 (D).b.fall) ∧ U.cell? ⟨p, 3, none⟩ = some (i64 (D).b.clr) ∧ U.cell? ⟨p, 4, none⟩ = some (i64 (D).b.near) ∧ U.cell? ⟨p, 5, none⟩ = some (.slice A (D).stops.length c) ∧ U.cell? ⟨p, 6, none⟩ = some (.slice B (D).drills.length e) ∧ U.cell? ⟨p, 7, none⟩ = some (.string (D).log)) 5 (by kernel_rfl) ?_
    
    refine wpAnyT_load (i := 0) (v := ?_) rfl (by kernel_rfl) (by kernel_rfl) (by kernel_rfl) (by decide) (by kernel_rfl) (by kernel_rfl) (fun _ _ _ h => h) (Or.inl ⟨by rfl, ?_⟩) hC ?_
    rotate_left
    · intro w hSw; (try dsimp only at hSw); go_simp; try (with_reducible rfl)
    try simp only [Act.put, List.setIfInBounds_toArray, List.set_cons_zero, List.set_cons_succ]
    refine wpAnyT_load (i := 1) (v := ?_) rfl (by kernel_rfl) (by kernel_rfl) (by kernel_rfl) (by decide) (by kernel_rfl) (by kernel_rfl) (fun _ _ _ h => h) (Or.inl ⟨by rfl, ?_⟩) hC ?_
    rotate_left
    · intro w hSw; (try dsimp only at hSw); go_simp; try (with_reducible rfl)
    try simp only [Act.put, List.setIfInBounds_toArray, List.set_cons_zero, List.set_cons_succ]
    refine wpAnyT_one (i := 2) (by kernel_rfl) rfl (fun K hK => ?_)
    go_simp
    go_at_call 11
    refine (deskTextI_any D A B c e _ (HSD.out _ (z.out.up.tr (BL.o (by repeat constructor))).below) HZD.out (HT.out.below (z.out.up.tr (BL.o (by repeat constructor))).below)).mono ?_
    rintro r w' ⟨rfl, gx, rfl⟩
    have z2 := Lib.hid (z.out.below (V' := up U.drew gx) (bl_up (Below.drew (Below.refl _ _)) gx))
    refine hK.out _ _ (fun _ => z2.out.cel) ?_
    clear hK K
    try simp only [Act.put, List.setIfInBounds_toArray, List.set_cons_zero, List.set_cons_succ]
    have hqU := z2.out.rs.lt
    have HLE := Lib.hid z2.out.up.below.size
    obtain ⟨hqT, r0, r1, r2, r3, r4, r5, r6, r7⟩ := z2.out.rs.eight
    obtain ⟨f0, f1, f2, f3, f4, f5, f6, f7⟩ := z2.out.rs.open8
    refine wpAnyT_ready (rs := [3, 4]) (by kernel_rfl) (by simp) (AllReadyT.cons rfl (fun K hK => ?_) (AllReadyT.cons rfl (fun K hK => ?_) AllReadyT.nil))
    · go_simp
      have z3 := Lib.hid (z2.out.below (V' := (up U.drew gx).alloc (.cells #[.string (dkText (D))] 9)) (BL.o (by repeat constructor)))
      have OX := Lib.hid (World.ownsRow_lit (base := (up U.drew gx).heap.size) (e := 9) (size := 1) (up U.drew gx) #[.string (dkText (D))] 1 (Nat.le_refl _) (by unfold maxLen; omega) rfl)
      refine hK.out _ _ (fun _ => z3.out.cel) ?_
      clear hK K
      try simp only [Act.put, List.setIfInBounds_toArray, List.set_cons_zero, List.set_cons_succ]
      refine wpAnyT_one (i := 4) (by kernel_rfl) rfl (fun K hK => ?_)
      go_simp
      refine hK.out _ _ (fun _ => (blk_far8 z3.out.bx z3.out.ne _ _ _ _ _ _ _ _).eight.2) ?_
      clear hK K
      try simp only [Act.put, List.setIfInBounds_toArray, List.set_cons_zero, List.set_cons_succ]
      refine wpAnyT_one (i := 5) (by kernel_rfl) rfl (fun K hK => ?_)
      go_simp
      refine hK.out _ _ (fun h9 => absurd (show true = false from h9) (by decide)) ?_
      clear hK K
      try simp only [Act.put, List.setIfInBounds_toArray, List.set_cons_zero, List.set_cons_succ]
      refine wpAnyT_done (by kernel_rfl) ?_ _
      (try simp only [Act.put, List.getElem_toArray, List.getElem_cons_succ, List.getElem_cons_zero, List.setIfInBounds_toArray, List.set_cons_zero, List.set_cons_succ])
      go_wp2_with fail
      refine post_gen (R := fun W => Blk W q 31 (dkcs (D) A B c e) ∧ W.ownsRow w.heap.size 9 1 (.slice (some ⟨(up U.drew gx).heap.size, 0, none⟩) 1 1) 1 (strs [dkText (D)]) ∧ UpOf w W) ⟨blk_put8 z3.out.rs _ _ _ _ _ _ _ _, own_mono (own_all OX.out hqU _ _ _ _ _ _ _ _) HLE.out, put8_up z3.out.up z3.out.hq _ _ _ _ _ _ _ _⟩ (fun W st => ?_)
      obtain ⟨s1, s2, s3⟩ := st
      obtain ⟨hqW, w0, w1, w2, w3, w4, w5, w6, w7⟩ := s1.eight
      clear s1 r0 r1 r2 r3 r4 r5 r6 r7 f0 f1 f2 f3 f4 f5 f6 f7
      exact bodyPost_ret (v := .tuple #[dkv (D) A B c e, .slice (some ⟨(up U.drew gx).heap.size, 0, none⟩) 1 1]) (by simp [results, Tryz.results73, go_sem, hqW, w0, w1, w2, w3, w4, w5, w6, w7]) rfl ⟨_, _, rfl, s2, s3⟩
    · go_simp
      refine hK.out _ _ (fun _ => (blk_far8 z2.out.bx z2.out.ne _ _ _ _ _ _ _ _).eight.2) ?_
      clear hK K
      try simp only [Act.put, List.setIfInBounds_toArray, List.set_cons_zero, List.set_cons_succ]
      refine wpAnyT_one (i := 3) (by kernel_rfl) rfl (fun K hK => ?_)
      go_simp
      refine hK.out _ _ (fun _ => ((blk_far8 z2.out.bx z2.out.ne _ _ _ _ _ _ _ _).alloc _).eight.2) ?_
      clear hK K
      try simp only [Act.put, List.setIfInBounds_toArray, List.set_cons_zero, List.set_cons_succ]
      refine wpAnyT_one (i := 5) (by kernel_rfl) rfl (fun K hK => ?_)
      go_simp
      refine hK.out _ _ (fun h9 => absurd (show true = false from h9) (by decide)) ?_
      clear hK K
      try simp only [Act.put, List.setIfInBounds_toArray, List.set_cons_zero, List.set_cons_succ]
      refine wpAnyT_done (by kernel_rfl) ?_ _
      (try simp only [Act.put, List.getElem_toArray, List.getElem_cons_succ, List.getElem_cons_zero, List.setIfInBounds_toArray, List.set_cons_zero, List.set_cons_succ])
      go_wp2_with fail
      refine post_gen (R := fun W => Blk W q 31 (dkcs (D) A B c e) ∧ W.ownsRow w.heap.size 9 1 (.slice (some ⟨(up U.drew gx).heap.size, 0, none⟩) 1 1) 1 (strs [dkText (D)]) ∧ UpOf w W) ⟨(blk_put8 z2.out.rs _ _ _ _ _ _ _ _).alloc _, own_txt (put8_up z2.out.up z2.out.hq _ _ _ _ _ _ _ _) (dkText (D)) (by simp only [World.size_setCell]), (put8_up z2.out.up z2.out.hq _ _ _ _ _ _ _ _).tr ((Below.refl _ _).alloc (Nat.le_refl _) _)⟩ (fun W st => ?_)
      obtain ⟨s1, s2, s3⟩ := st
      obtain ⟨hqW, w0, w1, w2, w3, w4, w5, w6, w7⟩ := s1.eight
      clear s1 r0 r1 r2 r3 r4 r5 r6 r7 f0 f1 f2 f3 f4 f5 f6 f7
      exact bodyPost_ret (v := .tuple #[dkv (D) A B c e, .slice (some ⟨(up U.drew gx).heap.size, 0, none⟩) 1 1]) (by simp [results, Tryz.results73, go_sem, hqW, w0, w1, w2, w3, w4, w5, w6, w7]) rfl ⟨_, _, rfl, s2, s3⟩
end Go.Proofs.YtbianlkenallaaaGreatDoor
namespace Go.Proofs.YtbianlkenallaaaGreatDoor
open Go.RowKit
set_option maxRecDepth 10000 in
set_option maxHeartbeats 8000000 in
theorem settingS_any (d : DeskD) (A B : Option Addr) (c e : Nat) (l : List Int) (N : Option Addr) (nc : Nat) (s : ByteArray) (w : World) (h : DSee w d A B) (hz : DkSz d e) (ht : Tab w) (hv : vDesk d = true) (hl : Rds w 1 N l.length (ics l)) (hln : l.length ≤ 100000000) (hk : kindOf s = 12) :
    Calls Tryz.prog 73 #[dkv d A B c e, .string s, .slice N l.length nc] w fun r w' =>
      if vStops l then mdPost { d with stops := l } [dkText { d with stops := l }] N B nc e w r w' else mdPost d [errL 1] A B c e w r w' := by
  have HS := Lib.hid h
  have HZ := Lib.hid hz
  have HT := Lib.hid ht
  have HV := Lib.hid (vDesk_inv hv)
  have HL := Lib.hid hl
  have qk : (s.toList == [98, 97, 115, 107, 101, 116]) = false := by
    have := kind_test2 s (i := 1) (by omega)
    rw [hk] at this
    exact this
  obtain ⟨D, hD⟩ : ∃ D : DeskD, { d with stops := l } = D := ⟨_, rfl⟩
  have HD := Lib.hid hD
  have hDs : D.stops = l := by rw [← hD]
  have hDl : D.drills = d.drills := by rw [← hD]
  have hDb : D.b = d.b := by rw [← hD]
  have hDg : D.log = d.log := by rw [← hD]
  have HSD : Hid (∀ V, Below w.heap.size w V → DSee V D N B) := Lib.hid fun V hV => by
    unfold DSee
    rw [hDs, hDl]
    exact ⟨HL.out.below hV, (HS.out.below hV).2⟩
  have HZD : Hid (DkSz D e) := Lib.hid ⟨by rw [hDs]; exact hln, by rw [hDl]; exact HZ.out.n, by rw [hDl]; exact HZ.out.b, by rw [hDg]; exact HZ.out.l, by rw [hDl]; exact HZ.out.c⟩
  have HBD : Hid (vBsk D.b = true) := Lib.hid (by rw [hDb]; exact HV.out.1)
  have HLS := Lib.hid hDs
  rw [hD]
  clear hD hDs hDl hDb hDg h hz ht hv hk hl
  cases q1 : vStops l with
  | false =>
    show Calls _ _ _ _ fun r w' => mdPost d [errL 1] A B c e w r w'
    go_enter Tryz.func73, Tryz.ntmps73
    go_upto_region 1 with (fail)
    refine wpg (R := fun V => Hid (MD w V w.heap.size (w.heap.size + 1) (dkcs d A B c e))) (Lib.hid (MD.new _ _)) (fun V z => ?_)
    generalize hp9 : w.heap.size = p at z ⊢
    generalize hq9 : p + 1 = q at z ⊢
    clear hp9 hq9
    obtain ⟨hpV, x0, x1, x2, x3, x4, x5, x6, x7⟩ := z.out.bx.eight
    go_upto_region 2 with (fail)
    refine wpg (R := fun U => Hid (M3 w U p q V.heap.size (dkcs d A B c e) (dkcs d A B c e))) (Lib.hid (M3.new z.out)) (fun U y => ?_)
    clear z x0 x1 x2 x3 x4 x5 x6 x7 hpV
    generalize V.heap.size = r at *
    obtain ⟨hrU, x0, x1, x2, x3, x4, x5, x6, x7⟩ := y.out.b.bx.eight
    obtain ⟨f0, f1, f2, f3, f4, f5, f6, f7⟩ := y.out.b.bx.open8
    go_upto_region 5 with (fail)
    have y5 := Lib.hid (y.out.put 5 (.slice N l.length nc))
    refine wpg (R := fun T => Hid (M3 w T p q r (dkcs d A B c e) (dkcs D N B nc e))) (Lib.hid (by
      rw [← HD.out]
      exact y5.out)) (fun T t => ?_)
    clear x0 x1 x2 x3 x4 x5 x6 x7 f0 f1 f2 f3 f4 f5 f6 f7 hrU y y5
    obtain ⟨hrT, x0, x1, x2, x3, x4, x5, x6, x7⟩ := t.out.b.bx.eight
    rw [← HLS.out] at q1
    go_upto_region 6 with (first | (go_at_call 65; refine (ret_as (validBasket_any D.b _) HBD.out).mono ?_; rintro e w' ⟨rfl, g, rfl⟩) | (go_at_call 66; refine (ret_as (validStops_any N nc D.stops _ ((HSD.out _ (t.out.a.up.tr (BL.o (by repeat constructor))).below).1) HZD.out.s) q1).mono ?_; rintro e w' ⟨rfl, g, rfl⟩))
    refine wpg (R := fun U => Hid (MD w U p q (dkcs d A B c e))) (Lib.hid (t.out.a.below (BL.o (by repeat constructor)))) (fun U z => ?_)
    clear x0 x1 x2 x3 x4 x5 x6 x7 t hrT
    have hC : cel8 U.drew p d A B c e := z.out.cel
    refine wp_region_T (fun U => U.cell? ⟨p, 0, none⟩ = some (i64 (d).b.bars) ∧ U.cell? ⟨p, 1, none⟩ = some (i64 (d).b.rise) ∧ U.cell? ⟨p, 2, none⟩ = some (i64 (d).b.fall) ∧ U.cell? ⟨p, 3, none⟩ = some (i64 (d).b.clr) ∧ U.cell? ⟨p, 4, none⟩ = some (i64 (d).b.near) ∧ U.cell? ⟨p, 5, none⟩ = some (.slice A (d).stops.length c) ∧ U.cell? ⟨p, 6, none⟩ = some (.slice B (d).drills.length e) ∧ U.cell? ⟨p, 7, none⟩ = some (.string (d).log)) 2 (by kernel_rfl) ?_
    
    refine wpAnyT_load (i := 0) (v := ?_) rfl (by kernel_rfl) (by kernel_rfl) (by kernel_rfl) (by decide) (by kernel_rfl) (by kernel_rfl) (fun _ _ _ h => h) (Or.inl ⟨by rfl, ?_⟩) hC ?_
    rotate_left
    · intro w hSw; (try dsimp only at hSw); go_simp; try (with_reducible rfl)
    try simp only [Act.put, List.setIfInBounds_toArray, List.set_cons_zero, List.set_cons_succ]
    refine wpAnyT_one (i := 1) (by kernel_rfl) rfl (fun K hK => ?_)
    go_simp
    go_at_call 70
    refine (report_any 1 _).mono ?_
    rintro r w' ⟨X, n, rfl, ox, gx, rfl⟩
    have z2 := Lib.hid (z.out.below (V' := up U.drew gx) (bl_up (Below.drew (Below.refl _ _)) gx))
    have OX := Lib.hid ox
    clear ox
    refine hK.out _ _ (fun _ => z2.out.cel) ?_
    clear hK K
    try simp only [Act.put, List.setIfInBounds_toArray, List.set_cons_zero, List.set_cons_succ]
    obtain ⟨hqT, r0, r1, r2, r3, r4, r5, r6, r7⟩ := z2.out.rs.eight
    obtain ⟨f0, f1, f2, f3, f4, f5, f6, f7⟩ := z2.out.rs.open8
    refine wpAnyT_one (i := 2) (by kernel_rfl) rfl (fun K hK => ?_)
    go_simp
    refine hK.out _ _ (fun h9 => absurd (show true = false from h9) (by decide)) ?_
    clear hK K
    try simp only [Act.put, List.setIfInBounds_toArray, List.set_cons_zero, List.set_cons_succ]
    refine wpAnyT_pure (i := 3) (v := ?_) rfl (by kernel_rfl) (by kernel_rfl) (by kernel_rfl) (by decide) (fun _ _ _ h => h) (Or.inl ⟨by rfl, ?_⟩) (fun h9 => absurd (show true = false from h9) (by decide)) ?_
    rotate_left
    · intro w _; go_simp; try (with_reducible rfl)
    try simp only [Act.put, List.setIfInBounds_toArray, List.set_cons_zero, List.set_cons_succ]
    refine wpAnyT_done (by kernel_rfl) ?_ _
    (try simp only [Act.put, List.getElem_toArray, List.getElem_cons_succ, List.getElem_cons_zero, List.setIfInBounds_toArray, List.set_cons_zero, List.set_cons_succ])
    have hqU := z.out.rs.lt
    go_wp2_with fail
    refine bodyPost_ret (v := .tuple #[dkv (d) A B c e, .slice X 1 n]) (by simp [results, Tryz.results73, go_sem, hqT, r0, r1, r2, r3, r4, r5, r6, r7]) rfl ?_
    exact ⟨X, n, rfl, own_mono (own_all OX.out hqU _ _ _ _ _ _ _ _) z.out.up.below.size, put8_up z2.out.up z2.out.hq _ _ _ _ _ _ _ _⟩
  | true =>
    show Calls _ _ _ _ fun r w' => mdPost D [dkText D] N B nc e w r w'
    go_enter Tryz.func73, Tryz.ntmps73
    go_upto_region 1 with (fail)
    refine wpg (R := fun V => Hid (MD w V w.heap.size (w.heap.size + 1) (dkcs d A B c e))) (Lib.hid (MD.new _ _)) (fun V z => ?_)
    generalize hp9 : w.heap.size = p at z ⊢
    generalize hq9 : p + 1 = q at z ⊢
    clear hp9 hq9
    obtain ⟨hpV, x0, x1, x2, x3, x4, x5, x6, x7⟩ := z.out.bx.eight
    go_upto_region 2 with (fail)
    refine wpg (R := fun U => Hid (M3 w U p q V.heap.size (dkcs d A B c e) (dkcs d A B c e))) (Lib.hid (M3.new z.out)) (fun U y => ?_)
    clear z x0 x1 x2 x3 x4 x5 x6 x7 hpV
    generalize V.heap.size = r at *
    obtain ⟨hrU, x0, x1, x2, x3, x4, x5, x6, x7⟩ := y.out.b.bx.eight
    obtain ⟨f0, f1, f2, f3, f4, f5, f6, f7⟩ := y.out.b.bx.open8
    go_upto_region 5 with (fail)
    have y5 := Lib.hid (y.out.put 5 (.slice N l.length nc))
    refine wpg (R := fun T => Hid (M3 w T p q r (dkcs d A B c e) (dkcs D N B nc e))) (Lib.hid (by
      rw [← HD.out]
      exact y5.out)) (fun T t => ?_)
    clear x0 x1 x2 x3 x4 x5 x6 x7 f0 f1 f2 f3 f4 f5 f6 f7 hrU y y5
    obtain ⟨hrT, x0, x1, x2, x3, x4, x5, x6, x7⟩ := t.out.b.bx.eight
    rw [← HLS.out] at q1
    go_upto_region 7 with (first | (go_at_call 65; refine (ret_as (validBasket_any D.b _) HBD.out).mono ?_; rintro e w' ⟨rfl, g, rfl⟩) | (go_at_call 66; refine (ret_as (validStops_any N nc D.stops _ ((HSD.out _ (t.out.a.up.tr (BL.o (by repeat constructor))).below).1) HZD.out.s) q1).mono ?_; rintro e w' ⟨rfl, g, rfl⟩))
    refine wpg (R := fun U => Hid (MD w U r q (dkcs D N B nc e))) (Lib.hid (t.out.b.below (BL.o (by repeat constructor)))) (fun U z => ?_)
    clear x0 x1 x2 x3 x4 x5 x6 x7 t hrT
    generalize p = p0 at *
    generalize r = p at *
    have hC : cel8 U.drew p D N B nc e := z.out.cel
    refine wp_region_T (fun U => U.cell? ⟨p, 0, none⟩ = some (i64 (D).b.bars) ∧ U.cell? ⟨p, 1, none⟩ = some (i64 (D).b.rise) ∧ U.cell? ⟨p, 2, none⟩ = some (i64 (D).b.fall) ∧ U.cell? ⟨p, 3, none⟩ = some (i64 (D).b.clr) ∧ U.cell? ⟨p, 4, none⟩ = some (i64 (D).b.near) ∧ U.cell? ⟨p, 5, none⟩ = some (.slice N (D).stops.length nc) ∧ U.cell? ⟨p, 6, none⟩ = some (.slice B (D).drills.length e) ∧ U.cell? ⟨p, 7, none⟩ = some (.string (D).log)) 5 (by kernel_rfl) ?_
    
    refine wpAnyT_load (i := 0) (v := ?_) rfl (by kernel_rfl) (by kernel_rfl) (by kernel_rfl) (by decide) (by kernel_rfl) (by kernel_rfl) (fun _ _ _ h => h) (Or.inl ⟨by rfl, ?_⟩) hC ?_
    rotate_left
    · intro w hSw; (try dsimp only at hSw); go_simp; try (with_reducible rfl)
    try simp only [Act.put, List.setIfInBounds_toArray, List.set_cons_zero, List.set_cons_succ]
    refine wpAnyT_load (i := 1) (v := ?_) rfl (by kernel_rfl) (by kernel_rfl) (by kernel_rfl) (by decide) (by kernel_rfl) (by kernel_rfl) (fun _ _ _ h => h) (Or.inl ⟨by rfl, ?_⟩) hC ?_
    rotate_left
    · intro w hSw; (try dsimp only at hSw); go_simp; try (with_reducible rfl)
    try simp only [Act.put, List.setIfInBounds_toArray, List.set_cons_zero, List.set_cons_succ]
    refine wpAnyT_one (i := 2) (by kernel_rfl) rfl (fun K hK => ?_)
    go_simp
    go_at_call 11
    refine (deskTextI_any D N B nc e _ (HSD.out _ (z.out.up.tr (BL.o (by repeat constructor))).below) HZD.out (HT.out.below (z.out.up.tr (BL.o (by repeat constructor))).below)).mono ?_
    rintro r w' ⟨rfl, gx, rfl⟩
    have z2 := Lib.hid (z.out.below (V' := up U.drew gx) (bl_up (Below.drew (Below.refl _ _)) gx))
    refine hK.out _ _ (fun _ => z2.out.cel) ?_
    clear hK K
    try simp only [Act.put, List.setIfInBounds_toArray, List.set_cons_zero, List.set_cons_succ]
    have hqU := z2.out.rs.lt
    have HLE := Lib.hid z2.out.up.below.size
    obtain ⟨hqT, r0, r1, r2, r3, r4, r5, r6, r7⟩ := z2.out.rs.eight
    obtain ⟨f0, f1, f2, f3, f4, f5, f6, f7⟩ := z2.out.rs.open8
    refine wpAnyT_ready (rs := [3, 4]) (by kernel_rfl) (by simp) (AllReadyT.cons rfl (fun K hK => ?_) (AllReadyT.cons rfl (fun K hK => ?_) AllReadyT.nil))
    · go_simp
      have z3 := Lib.hid (z2.out.below (V' := (up U.drew gx).alloc (.cells #[.string (dkText (D))] 9)) (BL.o (by repeat constructor)))
      have OX := Lib.hid (World.ownsRow_lit (base := (up U.drew gx).heap.size) (e := 9) (size := 1) (up U.drew gx) #[.string (dkText (D))] 1 (Nat.le_refl _) (by unfold maxLen; omega) rfl)
      refine hK.out _ _ (fun _ => z3.out.cel) ?_
      clear hK K
      try simp only [Act.put, List.setIfInBounds_toArray, List.set_cons_zero, List.set_cons_succ]
      refine wpAnyT_one (i := 4) (by kernel_rfl) rfl (fun K hK => ?_)
      go_simp
      refine hK.out _ _ (fun _ => (blk_far8 z3.out.bx z3.out.ne _ _ _ _ _ _ _ _).eight.2) ?_
      clear hK K
      try simp only [Act.put, List.setIfInBounds_toArray, List.set_cons_zero, List.set_cons_succ]
      refine wpAnyT_one (i := 5) (by kernel_rfl) rfl (fun K hK => ?_)
      go_simp
      refine hK.out _ _ (fun h9 => absurd (show true = false from h9) (by decide)) ?_
      clear hK K
      try simp only [Act.put, List.setIfInBounds_toArray, List.set_cons_zero, List.set_cons_succ]
      refine wpAnyT_done (by kernel_rfl) ?_ _
      (try simp only [Act.put, List.getElem_toArray, List.getElem_cons_succ, List.getElem_cons_zero, List.setIfInBounds_toArray, List.set_cons_zero, List.set_cons_succ])
      go_wp2_with fail
      refine post_gen (R := fun W => Blk W q 31 (dkcs (D) N B nc e) ∧ W.ownsRow w.heap.size 9 1 (.slice (some ⟨(up U.drew gx).heap.size, 0, none⟩) 1 1) 1 (strs [dkText (D)]) ∧ UpOf w W) ⟨blk_put8 z3.out.rs _ _ _ _ _ _ _ _, own_mono (own_all OX.out hqU _ _ _ _ _ _ _ _) HLE.out, put8_up z3.out.up z3.out.hq _ _ _ _ _ _ _ _⟩ (fun W st => ?_)
      obtain ⟨s1, s2, s3⟩ := st
      obtain ⟨hqW, w0, w1, w2, w3, w4, w5, w6, w7⟩ := s1.eight
      clear s1 r0 r1 r2 r3 r4 r5 r6 r7 f0 f1 f2 f3 f4 f5 f6 f7
      exact bodyPost_ret (v := .tuple #[dkv (D) N B nc e, .slice (some ⟨(up U.drew gx).heap.size, 0, none⟩) 1 1]) (by simp [results, Tryz.results73, go_sem, hqW, w0, w1, w2, w3, w4, w5, w6, w7]) rfl ⟨_, _, rfl, s2, s3⟩
    · go_simp
      refine hK.out _ _ (fun _ => (blk_far8 z2.out.bx z2.out.ne _ _ _ _ _ _ _ _).eight.2) ?_
      clear hK K
      try simp only [Act.put, List.setIfInBounds_toArray, List.set_cons_zero, List.set_cons_succ]
      refine wpAnyT_one (i := 3) (by kernel_rfl) rfl (fun K hK => ?_)
      go_simp
      refine hK.out _ _ (fun _ => ((blk_far8 z2.out.bx z2.out.ne _ _ _ _ _ _ _ _).alloc _).eight.2) ?_
      clear hK K
      try simp only [Act.put, List.setIfInBounds_toArray, List.set_cons_zero, List.set_cons_succ]
      refine wpAnyT_one (i := 5) (by kernel_rfl) rfl (fun K hK => ?_)
      go_simp
      refine hK.out _ _ (fun h9 => absurd (show true = false from h9) (by decide)) ?_
      clear hK K
      try simp only [Act.put, List.setIfInBounds_toArray, List.set_cons_zero, List.set_cons_succ]
      refine wpAnyT_done (by kernel_rfl) ?_ _
      (try simp only [Act.put, List.getElem_toArray, List.getElem_cons_succ, List.getElem_cons_zero, List.setIfInBounds_toArray, List.set_cons_zero, List.set_cons_succ])
      go_wp2_with fail
      refine post_gen (R := fun W => Blk W q 31 (dkcs (D) N B nc e) ∧ W.ownsRow w.heap.size 9 1 (.slice (some ⟨(up U.drew gx).heap.size, 0, none⟩) 1 1) 1 (strs [dkText (D)]) ∧ UpOf w W) ⟨(blk_put8 z2.out.rs _ _ _ _ _ _ _ _).alloc _, own_txt (put8_up z2.out.up z2.out.hq _ _ _ _ _ _ _ _) (dkText (D)) (by simp only [World.size_setCell]), (put8_up z2.out.up z2.out.hq _ _ _ _ _ _ _ _).tr ((Below.refl _ _).alloc (Nat.le_refl _) _)⟩ (fun W st => ?_)
      obtain ⟨s1, s2, s3⟩ := st
      obtain ⟨hqW, w0, w1, w2, w3, w4, w5, w6, w7⟩ := s1.eight
      clear s1 r0 r1 r2 r3 r4 r5 r6 r7 f0 f1 f2 f3 f4 f5 f6 f7
      exact bodyPost_ret (v := .tuple #[dkv (D) N B nc e, .slice (some ⟨(up U.drew gx).heap.size, 0, none⟩) 1 1]) (by simp [results, Tryz.results73, go_sem, hqW, w0, w1, w2, w3, w4, w5, w6, w7]) rfl ⟨_, _, rfl, s2, s3⟩
end Go.Proofs.YtbianlkenallaaaGreatDoor
namespace Go.Proofs.YtbianlkenallaaaGreatDoor
open Go.RowKit
theorem absolute_any (n : Int) (w : World) (h : -1000000000 ≤ n ∧ n ≤ 1000000000) : Calls Tryz.prog 167 #[i64 n] w fun e w' => e = .returned (i64 (absN n)) ∧ UpOf w w' := by
  by_cases h1 : n < 0
  · have hf := Lib.hid (show absN n = -n from if_pos h1)
    go_enter Tryz.func167, Tryz.ntmps167
    go_wp2_with (first | ((with_reducible refine wp_region_up (by kernel_rfl) (by kernel_rfl) ?_); (repeat (go_big_quiet_step (fail))); refine wpQuiet_nil ?_; intro _ hw'; obtain ⟨nq, hw''⟩ := hw'; subst hw''))
    go_ret
    exact ⟨by rw [hf.out] <;> first | rfl | (simp; done) | go_num, UpOf.of (BL.o (by repeat constructor))⟩
  · have hf := Lib.hid (show absN n = n from if_neg h1)
    go_enter Tryz.func167, Tryz.ntmps167
    go_wp2_with (first | ((with_reducible refine wp_region_up (by kernel_rfl) (by kernel_rfl) ?_); (repeat (go_big_quiet_step (fail))); refine wpQuiet_nil ?_; intro _ hw'; obtain ⟨nq, hw''⟩ := hw'; subst hw''))
    go_ret
    exact ⟨by rw [hf.out] <;> rfl, UpOf.of (BL.o (by repeat constructor))⟩
theorem absN_bd {f s : Int} (hf : 0 ≤ f ∧ f ≤ 1000) (hs : 0 ≤ s ∧ s ≤ 1000) : 0 ≤ absN (f - s) ∧ absN (f - s) ≤ 1000 := by
  unfold absN; split <;> omega
set_option maxRecDepth 10000 in
theorem waitsI_any (b : Bsk) (f s : Int) (w : World) (hb : vBsk b = true) (hf : 0 ≤ f ∧ f ≤ 1000) (hs : 0 ≤ s ∧ s ≤ 1000) :
    Calls Tryz.prog 123 #[bsv b, i64 f, i64 s] w fun e w' => e = .returned (i64 (waitN b f s)) ∧ UpOf w w' := by
  obtain ⟨_, h2, h3, h4, h5⟩ := vBsk_inv hb
  clear hb
  by_cases q : f = s
  · have hF := Lib.hid (show waitN b f s = b.rise + b.fall from if_pos q)
    have q' : (f == s) = true := by rw [beq_iff_eq]; exact q
    clear q
    go_enter Tryz.func123, Tryz.ntmps123
    go_wp2_with (first | ((with_reducible refine wp_region_up (by kernel_rfl) (by kernel_rfl) ?_); (repeat (go_big_quiet_step (fail))); refine wpQuiet_nil ?_; intro _ hw'; obtain ⟨nq, hw''⟩ := hw'; subst hw''))
    go_ret
    exact ⟨by rw [hF.out] <;> first | rfl | (simp; done) | go_num, UpOf.of (BL.o (by repeat constructor))⟩
  · have q' : (f == s) = false := by rw [beq_eq_false_iff_ne]; exact q
    have hF := Lib.hid (show waitN b f s = b.clr + (if b.near - absN (f - s) > 0 then b.near - absN (f - s) else 0) from if_neg q)
    have hw : IntKind.i64.wrap (f - s) = f - s := by rw [IntKind.wrap_i64]; omega
    obtain ⟨a1, a2⟩ := absN_bd hf hs
    have ha := Lib.hid (absolute_any (f - s) · ⟨by omega, by omega⟩)
    generalize absN (f - s) = a at *
    have hw2 : IntKind.i64.wrap (b.near - a) = b.near - a := by rw [IntKind.wrap_i64]; omega
    clear q
    by_cases p : 0 < b.near - a
    · rw [if_pos p] at hF
      go_enter Tryz.func123, Tryz.ntmps123
      go_wp2_with (first | (go_at_call 167; refine (ha.out _).mono ?_; rintro e w' ⟨rfl, g, rfl⟩) | ((with_reducible refine wp_region_up (by kernel_rfl) (by kernel_rfl) ?_); (repeat (go_big_quiet_step (first | (go_at_call 167; first | exact upq_tr (ha.out _) | exact upq (ha.out _))))); refine wpQuiet_nil ?_; intro _ hw'; obtain ⟨nq, hw''⟩ := hw'; subst hw''))
      all_goals go_ret
      all_goals exact ⟨by rw [hF.out] <;> first | rfl | (simp; done) | go_num, UpOf.of (BL.o (by repeat constructor))⟩
    · rw [if_neg p] at hF
      go_enter Tryz.func123, Tryz.ntmps123
      go_wp2_with (first | (go_at_call 167; refine (ha.out _).mono ?_; rintro e w' ⟨rfl, g, rfl⟩) | ((with_reducible refine wp_region_up (by kernel_rfl) (by kernel_rfl) ?_); (repeat (go_big_quiet_step (first | (go_at_call 167; first | exact upq_tr (ha.out _) | exact upq (ha.out _))))); refine wpQuiet_nil ?_; intro _ hw'; obtain ⟨nq, hw''⟩ := hw'; subst hw''))
      all_goals go_ret
      all_goals exact ⟨by rw [hF.out] <;> first | rfl | (simp; done) | go_num, UpOf.of (BL.o (by repeat constructor))⟩
theorem hasBar_any (b : Bsk) (n : Int) (w : World) (hb : 2 ≤ b.bars ∧ b.bars ≤ 60) : Calls Tryz.prog 122 #[bsv b, i64 n] w fun e w' => e = .returned (.bool (barB b n)) ∧ UpOf w w' := by
  have hw : IntKind.i64.wrap (b.bars - 1) = b.bars - 1 := by rw [IntKind.wrap_i64]; omega
  go_enter Tryz.func122, Tryz.ntmps122
  go_wp2_with (first | (go_at_call 118; refine (between_any _ _ _ _).mono ?_; rintro e w' ⟨rfl, rfl⟩) | ((with_reducible refine wp_region_up (by kernel_rfl) (by kernel_rfl) ?_); (repeat (go_big_quiet_step (first | (go_at_call 118; first | exact upq_tr_same (between_any _ _ _ _) | exact upq_same (between_any _ _ _ _))))); refine wpQuiet_nil ?_; intro _ hw'; obtain ⟨nq, hw''⟩ := hw'; subst hw''))
  go_ret
  exact ⟨rfl, UpOf.of (BL.o (by repeat constructor))⟩
theorem barB_bd {b : Bsk} {n : Int} (hb : 2 ≤ b.bars ∧ b.bars ≤ 60) (h : barB b n = true) : 0 ≤ n ∧ n ≤ 1000 := by have := btw_true h; omega
set_option maxRecDepth 10000 in
theorem mustWaitI_any (b : Bsk) (f s : Int) (w : World) : Calls Tryz.prog 71 #[bsv b, i64 f, i64 s] w fun e w' => e = .returned (.tuple #[i64 (mwR b f s).1, i64 (mwR b f s).2]) ∧ UpOf w w' := by
  cases hv : vBsk b
  · have hF := Lib.hid (mwR_1 (f := f) (s := s) hv)
    go_enter Tryz.func71, Tryz.ntmps71
    go_wp2_with (first | (go_at_call 65; refine (ret_as (validBasket_any b _) hv).mono ?_; rintro e w' ⟨rfl, g, rfl⟩) | ((with_reducible refine wp_region_up (by kernel_rfl) (by kernel_rfl) ?_); (repeat (go_big_quiet_step (first | (go_at_call 65; first | exact upq_tr (ret_as (validBasket_any b _) hv) | exact upq (ret_as (validBasket_any b _) hv))))); refine wpQuiet_nil ?_; intro _ hw'; obtain ⟨nq, hw''⟩ := hw'; subst hw''))
    go_ret2
    exact ⟨by rw [hF.out] <;> rfl, UpOf.of (BL.o (by repeat constructor))⟩
  have HV := Lib.hid hv
  have hb := (vBsk_inv hv).1
  cases h1 : barB b f
  · have hF := Lib.hid (mwR_2 (f := f) (s := s) hv (by rw [h1]; rfl))
    go_enter Tryz.func71, Tryz.ntmps71
    go_wp2_with (first | (go_at_call 65; refine (ret_as (validBasket_any b _) hv).mono ?_; rintro e w' ⟨rfl, g, rfl⟩) | (go_at_call 122; refine (ret_as (hasBar_any b f _ hb) h1).mono ?_; rintro e w' ⟨rfl, g, rfl⟩) | ((with_reducible refine wp_region_up (by kernel_rfl) (by kernel_rfl) ?_); (repeat (go_big_quiet_step (first | (go_at_call 65; first | exact upq_tr (ret_as (validBasket_any b _) hv) | exact upq (ret_as (validBasket_any b _) hv)) | (go_at_call 122; first | exact upq_tr (ret_as (hasBar_any b f _ hb) h1) | exact upq (ret_as (hasBar_any b f _ hb) h1))))); refine wpQuiet_nil ?_; intro _ hw'; obtain ⟨nq, hw''⟩ := hw'; subst hw''))
    go_ret2
    exact ⟨by rw [hF.out] <;> rfl, UpOf.of (BL.o (by repeat constructor))⟩
  cases h2 : barB b s
  · have hF := Lib.hid (mwR_2 (f := f) (s := s) hv (by rw [h1, h2]; rfl))
    go_enter Tryz.func71, Tryz.ntmps71
    go_wp2_with (first | (go_at_call 65; refine (ret_as (validBasket_any b _) hv).mono ?_; rintro e w' ⟨rfl, g, rfl⟩) | (go_at_call 122; refine (hasBar_any b _ _ hb).mono ?_; rintro e w' ⟨rfl, g, rfl⟩) | ((with_reducible refine wp_region_up (by kernel_rfl) (by kernel_rfl) ?_); (repeat (go_big_quiet_step (first | (go_at_call 65; first | exact upq_tr (ret_as (validBasket_any b _) hv) | exact upq (ret_as (validBasket_any b _) hv)) | (go_at_call 122; first | exact upq_tr (hasBar_any b _ _ hb) | exact upq (hasBar_any b _ _ hb))))); refine wpQuiet_nil ?_; intro _ hw'; obtain ⟨nq, hw''⟩ := hw'; subst hw''))
    go_ret2
    exact ⟨by rw [hF.out] <;> rfl, UpOf.of (BL.o (by repeat constructor))⟩
  · have hF := Lib.hid (mwR_0 hv h1 h2)
    have k1 := barB_bd hb h1
    have k2 := barB_bd hb h2
    go_enter Tryz.func71, Tryz.ntmps71
    go_wp2_with (first | (go_at_call 65; refine (ret_as (validBasket_any b _) hv).mono ?_; rintro e w' ⟨rfl, g, rfl⟩) | (go_at_call 122; refine (hasBar_any b _ _ hb).mono ?_; rintro e w' ⟨rfl, g, rfl⟩) | (go_at_call 123; refine (waitsI_any b f s _ HV.out k1 k2).mono ?_; rintro e w' ⟨rfl, g, rfl⟩) | ((with_reducible refine wp_region_up (by kernel_rfl) (by kernel_rfl) ?_); (repeat (go_big_quiet_step (first | (go_at_call 65; first | exact upq_tr (ret_as (validBasket_any b _) hv) | exact upq (ret_as (validBasket_any b _) hv)) | (go_at_call 122; first | exact upq_tr (hasBar_any b _ _ hb) | exact upq (hasBar_any b _ _ hb)) | (go_at_call 123; first | exact upq_tr (waitsI_any b f s _ HV.out k1 k2) | exact upq (waitsI_any b f s _ HV.out k1 k2))))); refine wpQuiet_nil ?_; intro _ hw'; obtain ⟨nq, hw''⟩ := hw'; subst hw''))
    go_ret2
    exact ⟨by rw [hF.out] <;> rfl, UpOf.of (BL.o (by repeat constructor))⟩
end Go.Proofs.YtbianlkenallaaaGreatDoor
namespace Go.Proofs.YtbianlkenallaaaGreatDoor
open Go.RowKit
def stk (p : Int × Int) : List Value := [i64 p.1, i64 p.2]
def skcs (l : List (Int × Int)) : List Value := l.flatMap stk
theorem stk_len (p : Int × Int) : (stk p).length = 2 := rfl
theorem skcs_app (a b : List (Int × Int)) : skcs (a ++ b) = skcs a ++ skcs b := by simp [skcs]
theorem stk_at {w : World} {A : Option Addr} {l : List (Int × Int)} (h : Rds w 2 A l.length (skcs l)) {k : Nat} (hk : k < l.length) :
    ∃ b off, A = some ⟨b, off, none⟩ ∧ b < w.heap.size ∧ w.cell? ⟨b, off + k * 2, none⟩ = some (i64 (l.getD k (0, 0)).1) ∧ w.cell? ⟨b, off + k * 2 + 1, none⟩ = some (i64 (l.getD k (0, 0)).2) := by
  obtain ⟨b, off, e, hb, hc⟩ := rds_elem stk_len h hk (by omega)
  have e9 : l.getD k (0, 0) = l[k] := by simp [hk]
  rw [e9]
  exact ⟨b, off, e, hb, hc 0 _ rfl, hc 1 _ rfl⟩
theorem el_stk : ElemOf Tryz.prog 154 157 (.agg #[i64 0, i64 0]) 2 16 := elem_of Tryz.underlying154 (by kernel_rfl) rfl (by omega)
theorem fstK_bar (b : Bsk) (l : List Int) : ∀ n i, i < n → ((fstK b l n).1.getD i (0, 0)).1 = num l i
  | 0, i, h => by omega
  | n + 1, i, h => by
    have hl := fstK_len b l n
    rw [fstK, List.getD_eq_getElem?_getD]
    by_cases e : i < n
    · rw [List.getElem?_append_left (by omega), ← List.getD_eq_getElem?_getD]
      exact fstK_bar b l n i e
    · have : i = n := by omega
      subst this
      rw [List.getElem?_append_right (by omega), show i - (fstK b l i).1.length = 0 by omega]
      rfl
theorem Box.five {w : World} {b : Nat} {x0 x1 x2 x3 x4 : Value} (h : Box w b #[x0, x1, x2, x3, x4]) : b < w.heap.size ∧ w.cell? ⟨b, 0, none⟩ = some x0 ∧ w.cell? ⟨b, 1, none⟩ = some x1 ∧ w.cell? ⟨b, 2, none⟩ = some x2 ∧ w.cell? ⟨b, 3, none⟩ = some x3 ∧ w.cell? ⟨b, 4, none⟩ = some x4 :=
  ⟨h.1, h.2 0 _ rfl, h.2 1 _ rfl, h.2 2 _ rfl, h.2 3 _ rfl, h.2 4 _ rfl⟩
theorem barsB_at {b : Bsk} {l : List Int} {k : Nat} (hk : k < l.length) (h : barB b (num l k) = false) : barsB b l = false := rall_at hk h
theorem barsB_true {b : Bsk} {l : List Int} (h : ∀ k, k < l.length → barB b (num l k) = true) : barsB b l = true := rall_true h
theorem barsB_inv {b : Bsk} {l : List Int} (h : barsB b l = true) : ∀ k, k < l.length → barB b (num l k) = true := by
  simpa only [barsB, List.all_eq_true, List.mem_range] using h
set_option maxRecDepth 10000 in
theorem areBars_any (b : Bsk) (A : Option Addr) (c : Nat) (l : List Int) (w : World) (hb : 2 ≤ b.bars ∧ b.bars ≤ 60) (h : Rds w 1 A l.length (ics l)) (hn : l.length ≤ 100000000) :
    Calls Tryz.prog 124 #[bsv b, .slice A l.length c] w fun e w' => e = .returned (.bool (barsB b l && decide (l.length ≤ 60))) ∧ UpOf w w' := by
  go_enter Tryz.func124, Tryz.ntmps124
  go_upto_region 1 with (fail)
  refine wpg (R := fun V => Box V w.heap.size #[i64 b.bars, i64 b.rise, i64 b.fall, i64 b.clr, i64 b.near] ∧ UpOf w V) ⟨Box.new _ _ _, UpOf.of (BL.o (by repeat constructor))⟩ (fun V z => ?_)
  obtain ⟨hb9, hB⟩ := z
  obtain ⟨hq, x0, x1, x2, x3, x4⟩ := hb9.five
  have HB := Lib.hid hB
  have HLV := Lib.hid (h.below hB.below)
  clear hb9 hB h
  generalize w.heap.size = q at *
  go_wp2_with (first | ((with_reducible refine wp_region_up (by kernel_rfl) (by kernel_rfl) ?_); (repeat (go_big_quiet_step (fail))); refine wpQuiet_nil ?_; intro _ hw'; obtain ⟨nq, hw''⟩ := hw'; subst hw''))
  go_loopw [9] (fun i wr => ∃ k : Nat, k ≤ l.length ∧ i = i64 k ∧ Hid (∀ j, j < k → barB b (num l j) = true) ∧ ∃ g : Up V, wr = up V g) (fun i _ => l.length - (intOf i).toNat)
  case atStart => exact ⟨0, by omega, rfl, fun i hi => by omega, ex_up (BL.o (by repeat constructor))⟩
  case round =>
    obtain ⟨k, hk, rfl, hok, g, rfl⟩ := hrel
    by_cases hlt : k < l.length
    · obtain ⟨b1, o1, rfl, hb1, c0⟩ := num_at HLV.out hlt
      cases p1 : barB b (num l k)
      · have hf := Lib.hid (show (barsB b l && decide (l.length ≤ 60)) = false by rw [barsB_at hlt p1]; rfl)
        go_wp2_with (first | (go_at_call 122; refine (ret_as (hasBar_any b _ _ hb) p1).mono ?_; rintro e w' ⟨rfl, g, rfl⟩) | ((with_reducible refine wp_region_up (by kernel_rfl) (by kernel_rfl) ?_); (repeat (go_big_quiet_step (first | (go_at_call 122; first | exact upq_tr (ret_as (hasBar_any b _ _ hb) p1) | exact upq (ret_as (hasBar_any b _ _ hb) p1))))); refine wpQuiet_nil ?_; intro _ hw'; obtain ⟨nq, hw''⟩ := hw'; subst hw''))
        go_ret
        exact ⟨ret_bool hf.out.symm, HB.out.tr (BL.o (by repeat constructor))⟩
      · have hq := Lib.hid p1
        go_wp2_with (first | (go_at_call 122; refine (ret_as (hasBar_any b _ _ hb) p1).mono ?_; rintro e w' ⟨rfl, g, rfl⟩) | ((with_reducible refine wp_region_up (by kernel_rfl) (by kernel_rfl) ?_); (repeat (go_big_quiet_step (first | (go_at_call 122; first | exact upq_tr (ret_as (hasBar_any b _ _ hb) p1) | exact upq (ret_as (hasBar_any b _ _ hb) p1))))); refine wpQuiet_nil ?_; intro _ hw'; obtain ⟨nq, hw''⟩ := hw'; subst hw''))
        go_roundw
        case rel => exact ⟨k + 1, by omega, by go_num, lt_extD (P := fun j => barB b (num l j) = true) hok.out hq.out, ex_up (BL.o (by repeat constructor))⟩
        case measure => (simp [intOf]; try omega)
    · have hf := Lib.hid (show (barsB b l && decide (l.length ≤ 60)) = decide (l.length ≤ 60) by rw [barsB_true (fun i hi => hok.out i (by omega))]; rfl)
      go_wp2_with (first | ((with_reducible refine wp_region_up (by kernel_rfl) (by kernel_rfl) ?_); (repeat (go_big_quiet_step (fail))); refine wpQuiet_nil ?_; intro _ hw'; obtain ⟨nq, hw''⟩ := hw'; subst hw''))
      go_ret
      exact ⟨ret_bool (by rw [hf.out, decide_eq_decide] <;> omega), HB.out.tr (BL.o (by repeat constructor))⟩
end Go.Proofs.YtbianlkenallaaaGreatDoor
namespace Go.Proofs.YtbianlkenallaaaGreatDoor
open Go.RowKit
theorem fstK_step (b : Bsk) (l : List Int) (k : Nat) : fstK b l (k + 1) = ((fstK b l k).1 ++ [(num l k, tkM b (num l k) (fstK b l k).1 k (fstK b l k).2)], tkM b (num l k) (fstK b l k).1 k (fstK b l k).2) := by
  rw [fstK, fstK_len]
/-- one step of the inner loop -/
theorem tkM_gt {b : Bsk} {bar : Int} {T : List (Int × Int)} {k : Nat} {t : Int} (h : tkM b bar T k t < (T.getD k (0, 0)).2 + waitN b (T.getD k (0, 0)).1 bar) : tkM b bar T (k + 1) t = (T.getD k (0, 0)).2 + waitN b (T.getD k (0, 0)).1 bar := by rw [tkM, if_pos h]
theorem tkM_le {b : Bsk} {bar : Int} {T : List (Int × Int)} {k : Nat} {t : Int} (h : ¬ tkM b bar T k t < (T.getD k (0, 0)).2 + waitN b (T.getD k (0, 0)).1 bar) : tkM b bar T (k + 1) t = tkM b bar T k t := by rw [tkM, if_neg h]
set_option maxRecDepth 10000 in
set_option maxHeartbeats 2000000 in
theorem fastest_any (b : Bsk) (A : Option Addr) (c : Nat) (l : List Int) (w : World) (hv : vBsk b = true) (hbs : barsB b l = true) (h : Rds w 1 A l.length (ics l)) (hn : l.length ≤ 60) :
    Calls Tryz.prog 125 #[bsv b, .slice A l.length c] w fun e w' => ∃ A' c', e = .returned (.slice A' l.length c') ∧ w'.ownsRow w.heap.size 157 2 (.slice A' l.length c') l.length (skcs (fstK b l l.length).1) ∧ UpOf w w' := by
  have HV := Lib.hid hv
  have BO := Lib.hid (fun j (hj : j < l.length) => barB_bd (vBsk_inv hv).1 (barsB_inv hbs j hj))
  clear hv hbs
  go_enter Tryz.func125, Tryz.ntmps125
  go_upto_region 1 with (fail)
  refine wpg (R := fun V => Box V w.heap.size #[i64 b.bars, i64 b.rise, i64 b.fall, i64 b.clr, i64 b.near] ∧ UpOf w V) ⟨Box.new _ _ _, UpOf.of (BL.o (by repeat constructor))⟩ (fun V z => ?_)
  obtain ⟨hb9, hB⟩ := z
  obtain ⟨hq, x0, x1, x2, x3, x4⟩ := hb9.five
  have HB := Lib.hid hB
  have HLV := Lib.hid (h.below hB.below)
  clear hb9 hB h
  generalize w.heap.size = q at *
  have hOwn := Lib.hid (World.ownsRow_lit (base := V.heap.size) (e := 157) (size := 2) V #[] 0 (Nat.le_refl _) (by unfold maxLen; omega) rfl)
  go_wp2_with (first | ((with_reducible refine wp_region_up (by kernel_rfl) (by kernel_rfl) ?_); (repeat (go_big_quiet_step (fail))); refine wpQuiet_nil ?_; intro _ hw'; obtain ⟨nq, hw''⟩ := hw'; subst hw''))
  go_loopw [5, 6, 14] (fun o t i wr => ∃ (k : Nat) (A1 : Option Addr) (c1 : Nat), k ≤ l.length ∧ i = i64 k ∧ t = i64 (fstK b l k).2 ∧ o = .slice A1 k c1 ∧ wr.ownsRow V.heap.size 157 2 (.slice A1 k c1) k (skcs (fstK b l k).1) ∧ ∃ g : Up V, wr = up V g) (fun _ _ i _ => l.length - (intOf i).toNat)
  case atStart => exact ⟨0, _, _, by omega, rfl, rfl, rfl, hOwn.out, ex_up (BL.o (by repeat constructor))⟩
  case round =>
    obtain ⟨k, A1, c1, hk, rfl, rfl, rfl, hown, g, rfl⟩ := hrel
    have HOW := Lib.hid hown
    have hlenT := fstK_len b l k
    have hT0 := (fstK_bd HV.out l k).1
    have hTB := Lib.hid (fstK_bd HV.out l k).2
    clear hown
    have hlenT := Lib.hid hlenT
    have hT0 := Lib.hid hT0
    by_cases hlt : k < l.length
    · have hlt' : (k : Int) < (l.length : Int) := by omega
      obtain ⟨b1, o1, rfl, hb1, c0⟩ := num_at HLV.out hlt
      have HB2 := Lib.hid (BO.out k hlt)
      go_wp2_with (first | ((with_reducible refine wp_region_up (by kernel_rfl) (by kernel_rfl) ?_); (repeat (go_big_quiet_step (fail))); refine wpQuiet_nil ?_; intro _ hw'; obtain ⟨nq, hw''⟩ := hw'; subst hw''))
      go_loopw [6, 20] (fun t jj wr => ∃ (j : Nat), j ≤ k ∧ jj = i64 j ∧ t = i64 (tkM b (num l k) (fstK b l k).1 j (fstK b l k).2) ∧ ∃ g3 : Up (up V g), wr = up V (g.tr g3)) (fun _ jj _ => k - (intOf jj).toNat)
      case atStart => exact ⟨0, by omega, rfl, by rw [tkM], ex_tr (BL.o (by repeat constructor))⟩
      case round =>
        obtain ⟨j, hj, rfl, rfl, g3, rfl⟩ := hrel
        by_cases hjt : j < k
        · have hjt' : (j : Int) < (k : Int) := by omega
          obtain ⟨b2, o2, rfl, hb2, s0, s1⟩ := stk_at (l := (fstK b l k).1) (by rw [hlenT.out]; exact Rds.of_own HOW.out) (k := j) (by rw [hlenT.out]; exact hjt)
          have hbj := (fstK_bar b l k j hjt)
          rw [hbj] at s0
          have hB1 := BO.out j (by omega)
          have hwt := waitN_bd HV.out (num l j) (num l k)
          have ht := hTB.out j hjt
          have hM := tkM_bd HV.out (num l k) (fstK b l k).1 (M := 200 * (k : Int)) (fun i hi => hTB.out i (by rw [hlenT.out] at hi; exact hi)) j (fstK b l k).2 (by rw [hlenT.out]; omega) hT0.out.1 hT0.out.2
          have hgt := Lib.hid (tkM_gt (b := b) (bar := num l k) (T := (fstK b l k).1) (k := j) (t := (fstK b l k).2))
          have hle := Lib.hid (tkM_le (b := b) (bar := num l k) (T := (fstK b l k).1) (k := j) (t := (fstK b l k).2))
          rw [hbj] at hgt hle
          have hcl := Lib.hid (fun (U : World) => waitsI_any b (num l j) (num l k) U HV.out hB1 HB2.out)
          clear hbj hB1
          generalize waitN b (num l j) (num l k) = wt at *
          generalize ((fstK b l k).1.getD j (0, 0)).2 = tk at *
          obtain ⟨M, hMe⟩ : ∃ M, tkM b (num l k) (fstK b l k).1 j (fstK b l k).2 = M := ⟨_, rfl⟩
          rw [hMe] at hM hgt hle
          rw [hMe]
          clear hMe
          by_cases hc : M < tk + wt
          · have hv2 := Lib.hid (hgt.out hc)
            have hc2 : ¬ tk + wt < M := by omega
            have hc3 : M ≤ tk + wt := by omega
            go_wp2_with (first | (go_at_call 123; refine (hcl.out _).mono ?_; rintro e w' ⟨rfl, g, rfl⟩) | ((with_reducible refine wp_region_up (by kernel_rfl) (by kernel_rfl) ?_); (repeat (go_big_quiet_step (first | (go_at_call 123; first | exact upq_tr (hcl.out _) | exact upq (hcl.out _))))); refine wpQuiet_nil ?_; intro _ hw'; obtain ⟨nq, hw''⟩ := hw'; subst hw''))
            go_roundw
            case rel => exact ⟨j + 1, by omega, by go_num, by rw [hv2.out] <;> go_num, ex_tr (BL.o (by repeat constructor))⟩
            case measure => (simp [intOf]; try omega)
          · have hv2 := Lib.hid (hle.out hc)
            have hc2 : tk + wt ≤ M := by omega
            go_wp2_with (first | (go_at_call 123; refine (hcl.out _).mono ?_; rintro e w' ⟨rfl, g, rfl⟩) | ((with_reducible refine wp_region_up (by kernel_rfl) (by kernel_rfl) ?_); (repeat (go_big_quiet_step (first | (go_at_call 123; first | exact upq_tr (hcl.out _) | exact upq (hcl.out _))))); refine wpQuiet_nil ?_; intro _ hw'; obtain ⟨nq, hw''⟩ := hw'; subst hw''))
            go_roundw
            case rel => exact ⟨j + 1, by omega, by go_num, by rw [hv2.out] <;> go_num, ex_tr (BL.o (by repeat constructor))⟩
            case measure => (simp [intOf]; try omega)
        · obtain rfl : k = j := by omega
          have hstep := fstK_step b l k
          obtain ⟨M, hMe⟩ : ∃ M, tkM b (num l k) (fstK b l k).1 k (fstK b l k).2 = M := ⟨_, rfl⟩
          rw [hMe] at hstep
          rw [hMe]
          have HST := Lib.hid hstep
          clear hMe hstep
          go_wp2_with (first | (at_builtin; go_must (refine wpl_appU rfl _ _ 154 rfl V V.heap.size 157 _ 2 16 el_stk (.slice A1 k c1) k (skcs (fstK b l k).1) rfl (own_below HOW.out (BL.o (by repeat constructor))) _ 1 1 [i64 (num l k), i64 M] rfl (rds_new _ #[i64 (num l k), i64 M] _ 2 1 rfl) (fun u hu => by simp at hu; rcases hu with rfl | rfl <;> rfl) (by unfold maxLen; omega) (by omega) (up_below V _).size (BL.o (by repeat constructor)) (Nat.le_refl _) ?_; intro A2 c2 g2 o2)) | ((with_reducible refine wp_region_up (by kernel_rfl) (by kernel_rfl) ?_); (repeat (go_big_quiet_step (fail))); refine wpQuiet_nil ?_; intro _ hw'; obtain ⟨nq, hw''⟩ := hw'; subst hw''))
          go_roundw
          case rel => exact ⟨k + 1, A2, c2, by omega, by go_num, by rw [HST.out], rfl, by rw [HST.out, skcs_app]; exact o2, ex_up (BL.o (by repeat constructor))⟩
          case measure => (simp [intOf]; try omega)
    · obtain rfl : k = l.length := by omega
      go_wp2_with (first | ((with_reducible refine wp_region_up (by kernel_rfl) (by kernel_rfl) ?_); (repeat (go_big_quiet_step (fail))); refine wpQuiet_nil ?_; intro _ hw'; obtain ⟨nq, hw''⟩ := hw'; subst hw''))
      go_ret
      exact ⟨A1, c1, rfl, own_mono (own_below HOW.out (BL.o (by repeat constructor))) HB.out.below.size, HB.out.tr (BL.o (by repeat constructor))⟩
end Go.Proofs.YtbianlkenallaaaGreatDoor
namespace Go.Proofs.YtbianlkenallaaaGreatDoor
open Go.RowKit
set_option maxRecDepth 10000 in
set_option maxHeartbeats 1000000 in
theorem ticksForI_any (b : Bsk) (A : Option Addr) (c : Nat) (l : List Int) (w : World) (h : Rds w 1 A l.length (ics l)) (hn : l.length ≤ 100000000) :
    Calls Tryz.prog 72 #[bsv b, .slice A l.length c] w fun e w' => e = .returned (.tuple #[i64 (tfR b l).1, i64 (tfR b l).2]) ∧ UpOf w w' := by
  go_enter Tryz.func72, Tryz.ntmps72
  go_upto_region 1 with (fail)
  refine wpg (R := fun V => Box V w.heap.size #[i64 b.bars, i64 b.rise, i64 b.fall, i64 b.clr, i64 b.near] ∧ UpOf w V) ⟨Box.new _ _ _, UpOf.of (BL.o (by repeat constructor))⟩ (fun V z => ?_)
  obtain ⟨hb9, hB⟩ := z
  obtain ⟨hq, x0, x1, x2, x3, x4⟩ := hb9.five
  have HB := Lib.hid hB
  have HLV := Lib.hid (h.below hB.below)
  clear hb9 hB h
  generalize w.heap.size = q at *
  cases hv : vBsk b
  · have hf := Lib.hid (tfR_1 (l := l) hv)
    go_wp2_with (first | (go_at_call 65; refine (ret_as (validBasket_any b _) hv).mono ?_; rintro e w' ⟨rfl, g, rfl⟩) | ((with_reducible refine wp_region_up (by kernel_rfl) (by kernel_rfl) ?_); (repeat (go_big_quiet_step (first | (go_at_call 65; first | exact upq_tr (ret_as (validBasket_any b _) hv) | exact upq (ret_as (validBasket_any b _) hv))))); refine wpQuiet_nil ?_; intro _ hw'; obtain ⟨nq, hw''⟩ := hw'; subst hw''))
    go_ret2
    exact ⟨by rw [hf.out] <;> rfl, HB.out.tr (BL.o (by repeat constructor))⟩
  have HV := Lib.hid hv
  have hb := (vBsk_inv hv).1
  cases hb1 : (barsB b l && decide (l.length ≤ 60))
  · have hf := Lib.hid (tfR_2 hv hb1)
    go_wp2_with (first | (go_at_call 65; refine (ret_as (validBasket_any b _) hv).mono ?_; rintro e w' ⟨rfl, g, rfl⟩) | (go_at_call 124; refine (ret_as (areBars_any b _ _ _ _ hb (HLV.out.below (BL.o (by repeat constructor))) hn) hb1).mono ?_; rintro e w' ⟨rfl, g, rfl⟩) | ((with_reducible refine wp_region_up (by kernel_rfl) (by kernel_rfl) ?_); (repeat (go_big_quiet_step (first | (go_at_call 65; first | exact upq_tr (ret_as (validBasket_any b _) hv) | exact upq (ret_as (validBasket_any b _) hv)) | (go_at_call 124; first | exact upq_tr (ret_as (areBars_any b _ _ _ _ hb (HLV.out.below (BL.o (by repeat constructor))) hn) hb1) | exact upq (ret_as (areBars_any b _ _ _ _ hb (HLV.out.below (BL.o (by repeat constructor))) hn) hb1))))); refine wpQuiet_nil ?_; intro _ hw'; obtain ⟨nq, hw''⟩ := hw'; subst hw''))
    go_ret2
    exact ⟨by rw [hf.out] <;> rfl, HB.out.tr (BL.o (by repeat constructor))⟩
  have hcl := Lib.hid (fun (W : World) hW => ret_as (areBars_any b A c l W hb (HLV.out.below hW) hn) hb1)
  rw [Bool.and_eq_true, decide_eq_true_eq] at hb1
  obtain ⟨hb1, h6⟩ := hb1
  have HB1 := Lib.hid hb1
  clear hb1
  by_cases h0 : l.length = 0
  · have hf := Lib.hid (tfR_e hv (by rw [HB1.out, decide_eq_true h6]; rfl) h0)
    have h0' : ((l.length : Int) == 0) = true := by rw [beq_iff_eq]; omega
    clear h0
    go_wp2_with (first | (go_at_call 65; refine (ret_as (validBasket_any b _) hv).mono ?_; rintro e w' ⟨rfl, g, rfl⟩) | (go_at_call 124; refine (hcl.out _ (BL.o (by repeat constructor))).mono ?_; rintro e w' ⟨rfl, g, rfl⟩) | ((with_reducible refine wp_region_up (by kernel_rfl) (by kernel_rfl) ?_); (repeat (go_big_quiet_step (first | (go_at_call 65; first | exact upq_tr (ret_as (validBasket_any b _) hv) | exact upq (ret_as (validBasket_any b _) hv)) | (go_at_call 124; first | exact upq_tr (hcl.out _ (BL.o (by repeat constructor))) | exact upq (hcl.out _ (BL.o (by repeat constructor))))))); refine wpQuiet_nil ?_; intro _ hw'; obtain ⟨nq, hw''⟩ := hw'; subst hw''))
    go_ret2
    exact ⟨by rw [hf.out] <;> rfl, HB.out.tr (BL.o (by repeat constructor))⟩
  · have h0' : ((l.length : Int) == 0) = false := by rw [beq_eq_false_iff_ne]; omega
    go_wp2_with (first | (go_at_call 65; refine (ret_as (validBasket_any b _) hv).mono ?_; rintro e w' ⟨rfl, g, rfl⟩) | (go_at_call 124; refine (hcl.out _ (BL.o (by repeat constructor))).mono ?_; rintro e w' ⟨rfl, g, rfl⟩) | ((with_reducible refine wp_region_up (by kernel_rfl) (by kernel_rfl) ?_); (repeat (go_big_quiet_step (first | (go_at_call 65; first | exact upq_tr (ret_as (validBasket_any b _) hv) | exact upq (ret_as (validBasket_any b _) hv)) | (go_at_call 124; first | exact upq_tr (hcl.out _ (BL.o (by repeat constructor))) | exact upq (hcl.out _ (BL.o (by repeat constructor))))))); refine wpQuiet_nil ?_; intro _ hw'; obtain ⟨nq, hw''⟩ := hw'; subst hw''))
    refine (fastest_any b _ _ l _ HV.out HB1.out (HLV.out.below (BL.o (by repeat constructor))) h6).mono ?_
    rintro e w' ⟨A1, c1, rfl, hown, g9, rfl⟩
    obtain ⟨m, hm⟩ : ∃ m, l.length = m + 1 := ⟨l.length - 1, by omega⟩
    have hl9 := fstK_len b l l.length
    have hlast := fstK_last b l m
    rw [← hm] at hlast
    have hbd := (fstK_bd HV.out l l.length).1
    have hf := Lib.hid (tfR_0 HV.out (by rw [HB1.out, decide_eq_true h6]; rfl) h0)
    obtain ⟨b2, o2, rfl, hb2, s0, s1⟩ := stk_at (l := (fstK b l l.length).1) (by rw [hl9]; exact Rds.of_own hown) (k := m) (by rw [hl9]; omega)
    rw [hlast] at s1
    simp only [up_up] at s1 hb2
    have HM := Lib.hid hm
    have hm1 : (l.length : Int) = (m : Int) + 1 := by omega
    have hm2 : (m : Int) < (l.length : Int) := by omega
    have hm3 : IntKind.i64.wrap ((l.length : Int) - 1) = (m : Int) := by rw [IntKind.wrap_i64]; omega
    obtain ⟨v1, v2, v3, v4, v5⟩ := vBsk_inv HV.out
    generalize (fstK b l l.length).2 = tk at *
    clear hown hlast hl9 s0 hm hm1
    go_wp2_with (first | ((with_reducible refine wp_region_up (by kernel_rfl) (by kernel_rfl) ?_); (repeat (go_big_quiet_step (fail))); refine wpQuiet_nil ?_; intro _ hw'; obtain ⟨nq, hw''⟩ := hw'; subst hw''))
    go_ret2
    exact ⟨by rw [hf.out] <;> rfl, HB.out.tr (BL.o (by repeat constructor))⟩
end Go.Proofs.YtbianlkenallaaaGreatDoor
namespace Go.Proofs.YtbianlkenallaaaGreatDoor
open Go.RowKit
theorem mwR_bd (b : Bsk) (f s : Int) : 0 ≤ (mwR b f s).1 ∧ (mwR b f s).1 ≤ 200 := by
  cases hv : vBsk b with
  | false => rw [mwR_1 hv]; decide
  | true =>
    have := waitN_bd hv f s
    rw [mwR, if_pos hv]
    split
    · show 0 ≤ waitN b f s ∧ waitN b f s ≤ 200; omega
    · decide
theorem tfR_bd (b : Bsk) (l : List Int) : 0 ≤ (tfR b l).1 ∧ (tfR b l).1 ≤ 20000 := by
  cases hv : vBsk b with
  | false => rw [tfR_1 hv]; decide
  | true =>
    rw [tfR, if_pos hv]
    split
    · rename_i h
      rw [Bool.and_eq_true, decide_eq_true_eq] at h
      split
      · decide
      · have h1 := (fstK_bd hv l l.length).1
        have h2 := vBsk_inv hv
        show 0 ≤ (fstK b l l.length).2 + b.rise + b.fall ∧ (fstK b l l.length).2 + b.rise + b.fall ≤ 20000
        omega
    · decide
theorem cell_far8 {V : World} {b o q : Nat} {v : Value} (h : V.cell? ⟨b, o, none⟩ = some v) (hne : b ≠ q) (u0 u1 u2 u3 u4 u5 u6 u7 : Value) : ((((((((V.setCell ⟨q, 0, none⟩ u0).setCell ⟨q, 1, none⟩ u1).setCell ⟨q, 2, none⟩ u2).setCell ⟨q, 3, none⟩ u3).setCell ⟨q, 4, none⟩ u4).setCell ⟨q, 5, none⟩ u5).setCell ⟨q, 6, none⟩ u6).setCell ⟨q, 7, none⟩ u7).cell? ⟨b, o, none⟩ = some v := by
  have hn : ∀ i : Nat, (⟨q, i, none⟩ : Addr) ≠ ⟨b, o, none⟩ := fun i e => hne (by injection e with e; exact e.symm)
  rw [World.cell?_setCell_other (h := hn 7), World.cell?_setCell_other (h := hn 6), World.cell?_setCell_other (h := hn 5), World.cell?_setCell_other (h := hn 4), World.cell?_setCell_other (h := hn 3), World.cell?_setCell_other (h := hn 2), World.cell?_setCell_other (h := hn 1), World.cell?_setCell_other (h := hn 0), h]
set_option maxRecDepth 10000 in
set_option maxHeartbeats 8000000 in
theorem bnFast_any (d : DeskD) (A B : Option Addr) (c e : Nat) (ws : List ByteArray) (W : Option Addr) (wc : Nat) (s : ByteArray) (l : List Int) (w : World) (h : Rds w 1 W ws.length (strs ws)) (hn : ws.length ≤ 10000000) (hf : ∀ i, i < ws.length → (wd ws i).size ≤ 100000000) (ht : Tab w) (hno : numsOf ws = some l) (hl : l.length ≤ 10000000) (hk : kindOf s = 6) :
    Calls Tryz.prog 30 #[dkv d A B c e, .string s, .slice W ws.length wc] w fun r w' => mdPost d (nmb (tfR d.b l)) A B c e w r w' := by
  have HR := Lib.hid h
  have HF := Lib.hid hf
  have HT := Lib.hid ht
  have q6 : (s.toList == [102, 97, 115, 116]) = true := by
    have := kind_test2 s (i := 6) (by omega)
    rw [hk] at this
    exact this
  have q13 : (s.toList == [119, 97, 105, 116]) = false := by
    have := kind_test2 s (i := 13) (by omega)
    rw [hk] at this
    exact this
  have hbd := tfR_bd d.b l
  obtain ⟨R1, hR1⟩ : ∃ R1, (tfR d.b l).1 = R1 := ⟨_, rfl⟩
  obtain ⟨R2, hR2⟩ : ∃ R2, (tfR d.b l).2 = R2 := ⟨_, rfl⟩
  have hRR : tfR d.b l = (R1, R2) := by rw [← hR1, ← hR2]
  rw [hR1] at hbd
  have HTF : Hid (∀ V A1 c1, Rds V 1 A1 l.length (ics l) → Calls Tryz.prog 72 #[bsv d.b, .slice A1 l.length c1] V fun e w' => e = .returned (.tuple #[i64 R1, i64 R2]) ∧ UpOf V w') := Lib.hid fun V A1 c1 hr => by
    have := ticksForI_any d.b A1 c1 l V hr (by omega)
    rw [hR1, hR2] at this
    exact this
  rw [hRR]
  clear h hf ht hk hR1 hR2 hRR
  go_enter Tryz.func30, Tryz.ntmps30
  go_upto_region 1 with (fail)
  refine wpg (R := fun V => Hid (MD w V w.heap.size (w.heap.size + 1) (dkcs d A B c e))) (Lib.hid (MD.new _ _)) (fun V z => ?_)
  generalize hp9 : w.heap.size = p at z ⊢
  generalize hq9 : p + 1 = q at z ⊢
  clear hp9 hq9
  go_wp2_with fail
  refine (readNumbers_any W wc ws _ (HR.out.below z.out.up.below) hn HF.out (HT.out.below z.out.up.below)).mono ?_
  rintro r w' hr
  unfold rnPost at hr
  rw [hno] at hr
  obtain ⟨AN, cn, rfl, on, g1, rfl⟩ := hr
  have z1 := Lib.hid (z.out.below (up_below V g1))
  have ON := Lib.hid on
  have HNQ := Lib.hid (show q < V.heap.size from z.out.rs.lt)
  clear on
  go_upto_region 8 with (fail)
  refine wpg (R := fun U => Hid (MD w U p q (dkcs d A B c e)) ∧ Hid (Rds U 1 AN l.length (ics l))) ⟨z1, Lib.hid (Rds.of_own ON.out)⟩ (fun U y => ?_)
  obtain ⟨z, HL⟩ := y
  clear z1 ON
  have hC : cel8 U.drew p d A B c e := z.out.cel
  refine wp_region_T (fun U => U.cell? ⟨p, 0, none⟩ = some (i64 (d).b.bars) ∧ U.cell? ⟨p, 1, none⟩ = some (i64 (d).b.rise) ∧ U.cell? ⟨p, 2, none⟩ = some (i64 (d).b.fall) ∧ U.cell? ⟨p, 3, none⟩ = some (i64 (d).b.clr) ∧ U.cell? ⟨p, 4, none⟩ = some (i64 (d).b.near) ∧ U.cell? ⟨p, 5, none⟩ = some (.slice A (d).stops.length c) ∧ U.cell? ⟨p, 6, none⟩ = some (.slice B (d).drills.length e) ∧ U.cell? ⟨p, 7, none⟩ = some (.string (d).log)) 9 (by kernel_rfl) ?_
  
  refine wpAnyT_load (i := 0) (v := ?_) rfl (by kernel_rfl) (by kernel_rfl) (by kernel_rfl) (by decide) (by kernel_rfl) (by kernel_rfl) (fun _ _ _ h => h) (Or.inl ⟨by rfl, ?_⟩) hC ?_
  rotate_left
  · intro w hSw; (try dsimp only at hSw); go_simp; try (with_reducible rfl)
  try simp only [Act.put, List.setIfInBounds_toArray, List.set_cons_zero, List.set_cons_succ]
  refine wpAnyT_pure (i := 1) (v := ?_) rfl (by kernel_rfl) (by kernel_rfl) (by kernel_rfl) (by decide) (fun _ _ _ h => h) (Or.inl ⟨by rfl, ?_⟩) (fun _ => hC) ?_
  rotate_left
  · intro w _; go_simp; try (with_reducible rfl)
  try simp only [Act.put, List.setIfInBounds_toArray, List.set_cons_zero, List.set_cons_succ]
  refine wpAnyT_load (i := 2) (v := ?_) rfl (by kernel_rfl) (by kernel_rfl) (by kernel_rfl) (by decide) (by kernel_rfl) (by kernel_rfl) (fun _ _ _ h => h) (Or.inl ⟨by rfl, ?_⟩) hC ?_
  rotate_left
  · intro w hSw; (try dsimp only at hSw); go_simp; try (with_reducible rfl)
  try simp only [Act.put, List.setIfInBounds_toArray, List.set_cons_zero, List.set_cons_succ]
  refine wpAnyT_pure (i := 3) (v := ?_) rfl (by kernel_rfl) (by kernel_rfl) (by kernel_rfl) (by decide) (fun _ _ _ h => h) (Or.inl ⟨by rfl, ?_⟩) (fun _ => hC) ?_
  rotate_left
  · intro w _; go_simp; try (with_reducible rfl)
  try simp only [Act.put, List.setIfInBounds_toArray, List.set_cons_zero, List.set_cons_succ]
  refine wpAnyT_one (i := 4) (by kernel_rfl) rfl (fun K hK => ?_)
  go_simp
  go_at_call 72
  refine (HTF.out _ AN cn (HL.out.below (BL.o (by repeat constructor)))).mono ?_
  rintro r w' ⟨rfl, gf, rfl⟩
  have z2 := Lib.hid (z.out.below (V' := up U.drew gf) (bl_up (Below.drew (Below.refl _ _)) gf))
  refine hK.out _ _ (fun _ => z2.out.cel) ?_
  clear hK K
  try simp only [Act.put, List.setIfInBounds_toArray, List.set_cons_zero, List.set_cons_succ]
  refine wpAnyT_gen (R := fun U1 => Hid (MD w U1 p q (dkcs d A B c e))) z2 (fun U1 z1 => ?_)
  clear z2 hC z
  refine wpAnyT_pure (i := 5) (v := ?_) rfl (by kernel_rfl) (by kernel_rfl) (by kernel_rfl) (by decide) (fun _ _ _ h => h) (Or.inl ⟨by rfl, ?_⟩) (fun _ => z1.out.cel) ?_
  rotate_left
  · intro w _; go_simp; try (with_reducible rfl)
  try simp only [Act.put, List.setIfInBounds_toArray, List.set_cons_zero, List.set_cons_succ]
  refine wpAnyT_pure (i := 6) (v := ?_) rfl (by kernel_rfl) (by kernel_rfl) (by kernel_rfl) (by decide) (fun _ _ _ h => h) (Or.inl ⟨by rfl, ?_⟩) (fun _ => z1.out.cel) ?_
  rotate_left
  · intro w _; go_simp; try (with_reducible rfl)
  try simp only [Act.put, List.setIfInBounds_toArray, List.set_cons_zero, List.set_cons_succ]
  refine wpAnyT_one (i := 7) (by kernel_rfl) rfl (fun K hK => ?_)
  go_simp
  go_at_call 35
  refine (number_any R1 R2 _ (by omega) (by omega) (HT.out.below z1.out.up.below)).mono ?_
  rintro r w' ⟨X, n, rfl, ox, gx, rfl⟩
  have z2 := Lib.hid ((z1).out.below (V' := up U1 gx) (bl_up (Below.refl _ _) gx))
  have OX := Lib.hid ox
  clear ox
  refine hK.out _ _ (fun _ => z2.out.cel) ?_
  clear hK K
  try simp only [Act.put, List.setIfInBounds_toArray, List.set_cons_zero, List.set_cons_succ]
  obtain ⟨hqT, r0, r1, r2, r3, r4, r5, r6, r7⟩ := z2.out.rs.eight
  obtain ⟨f0, f1, f2, f3, f4, f5, f6, f7⟩ := z2.out.rs.open8
  refine wpAnyT_one (i := 8) (by kernel_rfl) rfl (fun K hK => ?_)
  go_simp
  refine hK.out _ _ (fun _ => (blk_far8 z2.out.bx z2.out.ne _ _ _ _ _ _ _ _).eight.2) ?_
  clear hK K
  try simp only [Act.put, List.setIfInBounds_toArray, List.set_cons_zero, List.set_cons_succ]
  refine wpAnyT_one (i := 9) (by kernel_rfl) rfl (fun K hK => ?_)
  go_simp
  refine hK.out _ _ (fun h9 => absurd (show true = false from h9) (by decide)) ?_
  clear hK K
  try simp only [Act.put, List.setIfInBounds_toArray, List.set_cons_zero, List.set_cons_succ]
  refine wpAnyT_done (by kernel_rfl) ?_ _
  (try simp only [Act.put, List.getElem_toArray, List.getElem_cons_succ, List.getElem_cons_zero, List.setIfInBounds_toArray, List.set_cons_zero, List.set_cons_succ])
  have hqW0 := (z1).out.rs.lt
  have HLE0 := Lib.hid (z1).out.up.below.size
  go_wp2_with fail
  refine post_gen (R := fun W => Blk W q 31 (dkcs (d) A B c e) ∧ W.ownsRow w.heap.size 9 1 (.slice X (nmb (R1, R2)).length n) (nmb (R1, R2)).length (strs (nmb (R1, R2))) ∧ UpOf w W) ⟨blk_put8 z2.out.rs _ _ _ _ _ _ _ _, own_mono (own_all OX.out hqW0 _ _ _ _ _ _ _ _) HLE0.out, put8_up z2.out.up z2.out.hq _ _ _ _ _ _ _ _⟩ (fun W st => ?_)
  obtain ⟨s1, s2, s3⟩ := st
  obtain ⟨hqW, w0, w1, w2, w3, w4, w5, w6, w7⟩ := s1.eight
  clear s1 r0 r1 r2 r3 r4 r5 r6 r7 f0 f1 f2 f3 f4 f5 f6 f7
  exact bodyPost_ret (v := .tuple #[dkv (d) A B c e, .slice X (nmb (R1, R2)).length n]) (by simp [results, Tryz.results30, go_sem, hqW, w0, w1, w2, w3, w4, w5, w6, w7]) rfl ⟨_, _, rfl, s2, s3⟩
set_option maxRecDepth 10000 in
set_option maxHeartbeats 8000000 in
theorem bnWait_any (d : DeskD) (A B : Option Addr) (c e : Nat) (ws : List ByteArray) (W : Option Addr) (wc : Nat) (s : ByteArray) (l : List Int) (w : World) (h : Rds w 1 W ws.length (strs ws)) (hn : ws.length ≤ 10000000) (hf : ∀ i, i < ws.length → (wd ws i).size ≤ 100000000) (ht : Tab w) (hno : numsOf ws = some l) (hl : l.length = 2) (hk : kindOf s = 13) :
    Calls Tryz.prog 30 #[dkv d A B c e, .string s, .slice W ws.length wc] w fun r w' => mdPost d (nmb (mwR d.b (num l 0) (num l 1))) A B c e w r w' := by
  have HR := Lib.hid h
  have HF := Lib.hid hf
  have HT := Lib.hid ht
  have q13 : (s.toList == [119, 97, 105, 116]) = true := by
    have := kind_test2 s (i := 13) (by omega)
    rw [hk] at this
    exact this
  have hbd := mwR_bd d.b (num l 0) (num l 1)
  obtain ⟨R1, hR1⟩ : ∃ R1, (mwR d.b (num l 0) (num l 1)).1 = R1 := ⟨_, rfl⟩
  obtain ⟨R2, hR2⟩ : ∃ R2, (mwR d.b (num l 0) (num l 1)).2 = R2 := ⟨_, rfl⟩
  have hRR : mwR d.b (num l 0) (num l 1) = (R1, R2) := by rw [← hR1, ← hR2]
  rw [hR1] at hbd
  obtain ⟨N0, hN0⟩ : ∃ n, num l 0 = n := ⟨_, rfl⟩
  obtain ⟨N1, hN1⟩ : ∃ n, num l 1 = n := ⟨_, rfl⟩
  have HTF : Hid (∀ V, Calls Tryz.prog 71 #[bsv d.b, i64 N0, i64 N1] V fun e w' => e = .returned (.tuple #[i64 R1, i64 R2]) ∧ UpOf V w') := Lib.hid fun V => by
    have := mustWaitI_any d.b (num l 0) (num l 1) V
    rw [hR1, hR2, hN0, hN1] at this
    exact this
  rw [hRR]
  have HN0 := Lib.hid hN0
  have HN1 := Lib.hid hN1
  clear h hf ht hk hR1 hR2 hRR hN0 hN1
  go_enter Tryz.func30, Tryz.ntmps30
  go_upto_region 1 with (fail)
  refine wpg (R := fun V => Hid (MD w V w.heap.size (w.heap.size + 1) (dkcs d A B c e))) (Lib.hid (MD.new _ _)) (fun V z => ?_)
  generalize hp9 : w.heap.size = p at z ⊢
  generalize hq9 : p + 1 = q at z ⊢
  clear hp9 hq9
  go_wp2_with fail
  refine (readNumbers_any W wc ws _ (HR.out.below z.out.up.below) hn HF.out (HT.out.below z.out.up.below)).mono ?_
  rintro r w' hr
  unfold rnPost at hr
  rw [hno] at hr
  obtain ⟨AN, cn, rfl, on, g1, rfl⟩ := hr
  have z1 := Lib.hid (z.out.below (up_below V g1))
  have ON := Lib.hid on
  have HNQ := Lib.hid (show q < V.heap.size from z.out.rs.lt)
  clear on
  rw [hl]
  go_upto_region 6 with (fail)
  obtain ⟨bN, rfl⟩ : ∃ g, AN = some ⟨g, 0, none⟩ := by
    obtain ⟨_, ⟨_, h2⟩ | ⟨g, cap, cur, h1, _⟩⟩ := ON.out
    · omega
    · injection h1 with h1
      exact ⟨g, h1⟩
  have hbN := ON.out.lt bN rfl
  have hcc : ∀ i, i < 2 → (up V g1).cell? ⟨bN, i, none⟩ = some (i64 (num l i)) := fun i hi => by
    obtain ⟨b9, o9, e9, _, hc9⟩ := (Rds.of_own ON.out).at (by omega)
    injection e9 with e9
    injection e9 with e91 e92
    subst e91 e92
    have := hc9 i (i64 (num l i)) (by rw [ics, List.getElem?_map, List.getElem?_eq_getElem (by omega), num_eq (by omega)]; rfl)
    rwa [Nat.zero_add] at this
  refine wpg (R := fun U => Hid (MD w U p q (dkcs d A B c e)) ∧ U.cell? ⟨bN, 0, none⟩ = some (i64 N0) ∧ U.cell? ⟨bN, 1, none⟩ = some (i64 N1) ∧ bN < U.heap.size ∧ bN ≠ q) ⟨z1, by rw [← HN0.out]; exact hcc 0 (by omega), by rw [← HN1.out]; exact hcc 1 (by omega), hbN.2, by have := HNQ.out; omega⟩ (fun U y => ?_)
  obtain ⟨z, n0, n1, hbU, hbq⟩ := y
  clear z1 ON hcc hbN
  have hC : cel8 U.drew p d A B c e := z.out.cel
  have hD : U.drew.cell? ⟨bN, 0, none⟩ = some (i64 N0) ∧ U.drew.cell? ⟨bN, 1, none⟩ = some (i64 N1) := ⟨n0, n1⟩
  refine wp_region_T (fun U => (U.cell? ⟨p, 0, none⟩ = some (i64 d.b.bars) ∧ U.cell? ⟨p, 1, none⟩ = some (i64 d.b.rise) ∧ U.cell? ⟨p, 2, none⟩ = some (i64 d.b.fall) ∧ U.cell? ⟨p, 3, none⟩ = some (i64 d.b.clr) ∧ U.cell? ⟨p, 4, none⟩ = some (i64 d.b.near) ∧ U.cell? ⟨p, 5, none⟩ = some (.slice A d.stops.length c) ∧ U.cell? ⟨p, 6, none⟩ = some (.slice B d.drills.length e) ∧ U.cell? ⟨p, 7, none⟩ = some (.string d.log)) ∧ U.cell? ⟨bN, 0, none⟩ = some (i64 N0) ∧ U.cell? ⟨bN, 1, none⟩ = some (i64 N1)) 14 (by kernel_rfl) ?_
  refine wpAnyT_load (i := 0) (v := ?_) rfl (by kernel_rfl) (by kernel_rfl) (by kernel_rfl) (by decide) (by kernel_rfl) (by kernel_rfl) (fun _ _ _ h => h) (Or.inl ⟨by rfl, ?_⟩) ⟨hC, hD⟩ ?_
  rotate_left
  · intro w hSw; (try dsimp only at hSw); go_simp; try (with_reducible rfl)
  try simp only [Act.put, List.setIfInBounds_toArray, List.set_cons_zero, List.set_cons_succ]
  refine wpAnyT_pure (i := 1) (v := ?_) rfl (by kernel_rfl) (by kernel_rfl) (by kernel_rfl) (by decide) (fun _ _ _ h => h) (Or.inl ⟨by rfl, ?_⟩) (fun _ => ⟨hC, hD⟩) ?_
  rotate_left
  · intro w _; go_simp; try (with_reducible rfl)
  try simp only [Act.put, List.setIfInBounds_toArray, List.set_cons_zero, List.set_cons_succ]
  refine wpAnyT_load (i := 2) (v := ?_) rfl (by kernel_rfl) (by kernel_rfl) (by kernel_rfl) (by decide) (by kernel_rfl) (by kernel_rfl) (fun _ _ _ h => h) (Or.inl ⟨by rfl, ?_⟩) ⟨hC, hD⟩ ?_
  rotate_left
  · intro w hSw; (try dsimp only at hSw); go_simp; try (with_reducible rfl)
  try simp only [Act.put, List.setIfInBounds_toArray, List.set_cons_zero, List.set_cons_succ]
  refine wpAnyT_pure (i := 3) (v := ?_) rfl (by kernel_rfl) (by kernel_rfl) (by kernel_rfl) (by decide) (fun _ _ _ h => h) (Or.inl ⟨by rfl, ?_⟩) (fun _ => ⟨hC, hD⟩) ?_
  rotate_left
  · intro w _; go_simp; try (with_reducible rfl)
  try simp only [Act.put, List.setIfInBounds_toArray, List.set_cons_zero, List.set_cons_succ]
  refine wpAnyT_pure (i := 4) (v := ?_) rfl (by kernel_rfl) (by kernel_rfl) (by kernel_rfl) (by decide) (fun _ _ _ h => h) (Or.inl ⟨by rfl, ?_⟩) (fun _ => ⟨hC, hD⟩) ?_
  rotate_left
  · intro w _; go_simp; try (with_reducible rfl)
  try simp only [Act.put, List.setIfInBounds_toArray, List.set_cons_zero, List.set_cons_succ]
  refine wpAnyT_load (i := 5) (v := ?_) rfl (by kernel_rfl) (by kernel_rfl) (by kernel_rfl) (by decide) (by kernel_rfl) (by kernel_rfl) (fun _ _ _ h => h) (Or.inl ⟨by rfl, ?_⟩) ⟨hC, hD⟩ ?_
  rotate_left
  · intro w hSw; (try dsimp only at hSw); go_simp; try (with_reducible rfl)
  try simp only [Act.put, List.setIfInBounds_toArray, List.set_cons_zero, List.set_cons_succ]
  refine wpAnyT_pure (i := 6) (v := ?_) rfl (by kernel_rfl) (by kernel_rfl) (by kernel_rfl) (by decide) (fun _ _ _ h => h) (Or.inl ⟨by rfl, ?_⟩) (fun _ => ⟨hC, hD⟩) ?_
  rotate_left
  · intro w _; go_simp; try (with_reducible rfl)
  try simp only [Act.put, List.setIfInBounds_toArray, List.set_cons_zero, List.set_cons_succ]
  refine wpAnyT_pure (i := 7) (v := ?_) rfl (by kernel_rfl) (by kernel_rfl) (by kernel_rfl) (by decide) (fun _ _ _ h => h) (Or.inl ⟨by rfl, ?_⟩) (fun _ => ⟨hC, hD⟩) ?_
  rotate_left
  · intro w _; go_simp; try (with_reducible rfl)
  try simp only [Act.put, List.setIfInBounds_toArray, List.set_cons_zero, List.set_cons_succ]
  refine wpAnyT_load (i := 8) (v := ?_) rfl (by kernel_rfl) (by kernel_rfl) (by kernel_rfl) (by decide) (by kernel_rfl) (by kernel_rfl) (fun _ _ _ h => h) (Or.inl ⟨by rfl, ?_⟩) ⟨hC, hD⟩ ?_
  rotate_left
  · intro w hSw; (try dsimp only at hSw); go_simp; try (with_reducible rfl)
  try simp only [Act.put, List.setIfInBounds_toArray, List.set_cons_zero, List.set_cons_succ]
  refine wpAnyT_one (i := 9) (by kernel_rfl) rfl (fun K hK => ?_)
  go_simp
  go_at_call 71
  refine (HTF.out _).mono ?_
  rintro r w' ⟨rfl, gf, rfl⟩
  have z2 := Lib.hid (z.out.below (V' := up U.drew gf) (bl_up (Below.drew (Below.refl _ _)) gf))
  have m0 := ((up_below U.drew gf).cell (p := ⟨bN, 0, none⟩) hbU).trans n0
  have m1 := ((up_below U.drew gf).cell (p := ⟨bN, 1, none⟩) hbU).trans n1
  have hbU2 : bN < (up U.drew gf).heap.size := Nat.lt_of_lt_of_le hbU (up_below U.drew gf).size
  refine hK.out _ _ (fun _ => ⟨z2.out.cel, m0, m1⟩) ?_
  clear hK K
  try simp only [Act.put, List.setIfInBounds_toArray, List.set_cons_zero, List.set_cons_succ]
  refine wpAnyT_gen (R := fun U1 => Hid (MD w U1 p q (dkcs d A B c e)) ∧ U1.cell? ⟨bN, 0, none⟩ = some (i64 N0) ∧ U1.cell? ⟨bN, 1, none⟩ = some (i64 N1) ∧ bN < U1.heap.size) ⟨z2, m0, m1, hbU2⟩ (fun U1 y => ?_)
  obtain ⟨z1, n0, n1, hbU1⟩ := y
  clear z2 hC hD z m0 m1 hbU2
  refine wpAnyT_pure (i := 10) (v := ?_) rfl (by kernel_rfl) (by kernel_rfl) (by kernel_rfl) (by decide) (fun _ _ _ h => h) (Or.inl ⟨by rfl, ?_⟩) (fun _ => ⟨z1.out.cel, n0, n1⟩) ?_
  rotate_left
  · intro w _; go_simp; try (with_reducible rfl)
  try simp only [Act.put, List.setIfInBounds_toArray, List.set_cons_zero, List.set_cons_succ]
  refine wpAnyT_pure (i := 11) (v := ?_) rfl (by kernel_rfl) (by kernel_rfl) (by kernel_rfl) (by decide) (fun _ _ _ h => h) (Or.inl ⟨by rfl, ?_⟩) (fun _ => ⟨z1.out.cel, n0, n1⟩) ?_
  rotate_left
  · intro w _; go_simp; try (with_reducible rfl)
  try simp only [Act.put, List.setIfInBounds_toArray, List.set_cons_zero, List.set_cons_succ]
  refine wpAnyT_one (i := 12) (by kernel_rfl) rfl (fun K hK => ?_)
  go_simp
  go_at_call 35
  refine (number_any R1 R2 _ (by omega) (by omega) (HT.out.below z1.out.up.below)).mono ?_
  rintro r w' ⟨X, n, rfl, ox, gx, rfl⟩
  have z2 := Lib.hid ((z1).out.below (V' := up U1 gx) (bl_up (Below.refl _ _) gx))
  have OX := Lib.hid ox
  clear ox
  refine hK.out _ _ (fun _ => ⟨z2.out.cel, ((up_below U1 gx).cell (p := ⟨bN, 0, none⟩) hbU1).trans n0, ((up_below U1 gx).cell (p := ⟨bN, 1, none⟩) hbU1).trans n1⟩) ?_
  clear hK K
  try simp only [Act.put, List.setIfInBounds_toArray, List.set_cons_zero, List.set_cons_succ]
  have m0 := ((up_below U1 gx).cell (p := ⟨bN, 0, none⟩) hbU1).trans n0
  have m1 := ((up_below U1 gx).cell (p := ⟨bN, 1, none⟩) hbU1).trans n1
  obtain ⟨hqT, r0, r1, r2, r3, r4, r5, r6, r7⟩ := z2.out.rs.eight
  obtain ⟨f0, f1, f2, f3, f4, f5, f6, f7⟩ := z2.out.rs.open8
  refine wpAnyT_one (i := 13) (by kernel_rfl) rfl (fun K hK => ?_)
  go_simp
  refine hK.out _ _ (fun _ => ⟨(blk_far8 z2.out.bx z2.out.ne _ _ _ _ _ _ _ _).eight.2, cell_far8 m0 hbq _ _ _ _ _ _ _ _, cell_far8 m1 hbq _ _ _ _ _ _ _ _⟩) ?_
  clear hK K
  try simp only [Act.put, List.setIfInBounds_toArray, List.set_cons_zero, List.set_cons_succ]
  refine wpAnyT_one (i := 14) (by kernel_rfl) rfl (fun K hK => ?_)
  go_simp
  refine hK.out _ _ (fun h9 => absurd (show true = false from h9) (by decide)) ?_
  clear hK K
  try simp only [Act.put, List.setIfInBounds_toArray, List.set_cons_zero, List.set_cons_succ]
  refine wpAnyT_done (by kernel_rfl) ?_ _
  (try simp only [Act.put, List.getElem_toArray, List.getElem_cons_succ, List.getElem_cons_zero, List.setIfInBounds_toArray, List.set_cons_zero, List.set_cons_succ])
  have hqW0 := (z1).out.rs.lt
  have HLE0 := Lib.hid (z1).out.up.below.size
  go_wp2_with fail
  refine post_gen (R := fun W => Blk W q 31 (dkcs (d) A B c e) ∧ W.ownsRow w.heap.size 9 1 (.slice X (nmb (R1, R2)).length n) (nmb (R1, R2)).length (strs (nmb (R1, R2))) ∧ UpOf w W) ⟨blk_put8 z2.out.rs _ _ _ _ _ _ _ _, own_mono (own_all OX.out hqW0 _ _ _ _ _ _ _ _) HLE0.out, put8_up z2.out.up z2.out.hq _ _ _ _ _ _ _ _⟩ (fun W st => ?_)
  obtain ⟨s1, s2, s3⟩ := st
  obtain ⟨hqW, w0, w1, w2, w3, w4, w5, w6, w7⟩ := s1.eight
  clear s1 r0 r1 r2 r3 r4 r5 r6 r7 f0 f1 f2 f3 f4 f5 f6 f7
  exact bodyPost_ret (v := .tuple #[dkv (d) A B c e, .slice X (nmb (R1, R2)).length n]) (by simp [results, Tryz.results30, go_sem, hqW, w0, w1, w2, w3, w4, w5, w6, w7]) rfl ⟨_, _, rfl, s2, s3⟩
end Go.Proofs.YtbianlkenallaaaGreatDoor
namespace Go.Proofs.YtbianlkenallaaaGreatDoor
open Go.RowKit
set_option maxRecDepth 10000 in
set_option maxHeartbeats 8000000 in
theorem bnBask_any (d : DeskD) (A B : Option Addr) (c e : Nat) (ws : List ByteArray) (W : Option Addr) (wc : Nat) (s : ByteArray) (l : List Int) (w : World) (h : Rds w 1 W ws.length (strs ws)) (hn : ws.length ≤ 10000000) (hf : ∀ i, i < ws.length → (wd ws i).size ≤ 100000000) (ht : Tab w) (hno : numsOf ws = some l) (hl : l.length = 5) (hk : kindOf s = 1)
    (hS : DSee w d A B) (hz : DkSz d e) (hv : vDesk d = true) :
    Calls Tryz.prog 30 #[dkv d A B c e, .string s, .slice W ws.length wc] w fun r w' =>
      mdPost (if vBsk (bskOf l) then { d with b := bskOf l } else d) (if vBsk (bskOf l) then [dkText { d with b := bskOf l }] else [errL 1]) A B c e w r w' := by
  have HR := Lib.hid h
  have HF := Lib.hid hf
  have HT := Lib.hid ht
  have q6 : (s.toList == [102, 97, 115, 116]) = false := by
    have := kind_test2 s (i := 6) (by omega)
    rw [hk] at this
    exact this
  have q13 : (s.toList == [119, 97, 105, 116]) = false := by
    have := kind_test2 s (i := 13) (by omega)
    rw [hk] at this
    exact this
  have HS := Lib.hid hS
  have HZ := Lib.hid hz
  have HV := Lib.hid hv
  have HK := Lib.hid hk
  have H5 := Lib.hid hl
  clear h hf ht hk hS hz hv hl
  cases q1 : vBsk (bskOf l) with
  | false =>
    show Calls _ _ _ _ fun r w' => mdPost d [errL 1] A B c e w r w'
    go_enter Tryz.func30, Tryz.ntmps30
    go_upto_region 1 with (fail)
    refine wpg (R := fun V => Hid (MD w V w.heap.size (w.heap.size + 1) (dkcs d A B c e))) (Lib.hid (MD.new _ _)) (fun V z => ?_)
    generalize hp9 : w.heap.size = p at z ⊢
    generalize hq9 : p + 1 = q at z ⊢
    clear hp9 hq9
    go_wp2_with fail
    refine (readNumbers_any W wc ws _ (HR.out.below z.out.up.below) hn HF.out (HT.out.below z.out.up.below)).mono ?_
    rintro r w' hr
    unfold rnPost at hr
    rw [hno] at hr
    obtain ⟨AN, cn, rfl, on, g1, rfl⟩ := hr
    have z1 := Lib.hid (z.out.below (up_below V g1))
    have ON := Lib.hid on
    have HNQ := Lib.hid (show q < V.heap.size from z.out.rs.lt)
    clear on
    go_upto_region 9 with (fail)
    refine wpg (R := fun U => Hid (MD w U p q (dkcs d A B c e)) ∧ Hid (Rds U 1 AN l.length (ics l))) ⟨z1, Lib.hid (Rds.of_own ON.out)⟩ (fun U y => ?_)
    obtain ⟨z, HL⟩ := y
    clear z1 ON
    obtain ⟨hpU, x0, x1, x2, x3, x4, x5, x6, x7⟩ := z.out.bx.eight
    go_wp2_with fail
    refine (settingB_any d A B c e l AN cn s U (HS.out.below z.out.up.below) HZ.out (HT.out.below z.out.up.below) HV.out HL.out H5.out HK.out).mono ?_
    rintro r w' hs
    rw [q1] at hs
    replace hs : mdPost d [errL 1] A B c e U r w' := hs
    obtain ⟨X, n, rfl, ox, g2, rfl⟩ := hs
    have z2 := Lib.hid (z.out.below (V' := up U g2) (up_below U g2))
    have OX := Lib.hid ox
    have hqW0 := z.out.rs.lt
    have HLE0 := Lib.hid z.out.up.below.size
    obtain ⟨hqT, r0, r1, r2, r3, r4, r5, r6, r7⟩ := z2.out.rs.eight
    obtain ⟨f0, f1, f2, f3, f4, f5, f6, f7⟩ := z2.out.rs.open8
    clear ox x0 x1 x2 x3 x4 x5 x6 x7 hpU
    go_wp2_with fail
    refine post_gen (R := fun W => Blk W q 31 (dkcs (d) A B c e) ∧ W.ownsRow w.heap.size 9 1 (.slice X 1 n) 1 (strs ([errL 1])) ∧ UpOf w W) ⟨blk_put8 z2.out.rs _ _ _ _ _ _ _ _, own_mono (own_all OX.out hqW0 _ _ _ _ _ _ _ _) HLE0.out, put8_up z2.out.up z2.out.hq _ _ _ _ _ _ _ _⟩ (fun W st => ?_)
    obtain ⟨s1, s2, s3⟩ := st
    obtain ⟨hqW, w0, w1, w2, w3, w4, w5, w6, w7⟩ := s1.eight
    clear s1 r0 r1 r2 r3 r4 r5 r6 r7 f0 f1 f2 f3 f4 f5 f6 f7
    refine bodyPost_ret (v := .tuple #[dkv (d) A B c e, .slice X 1 n]) (by simp [results, Tryz.results30, go_sem, hqW, w0, w1, w2, w3, w4, w5, w6, w7]) rfl ?_
    exact ⟨_, _, rfl, s2, s3⟩
  | true =>
    obtain ⟨D, hD⟩ : ∃ D : DeskD, { d with b := bskOf l } = D := ⟨_, rfl⟩
    have HD := Lib.hid hD
    rw [hD]
    clear hD
    show Calls _ _ _ _ fun r w' => mdPost D [dkText D] A B c e w r w'
    go_enter Tryz.func30, Tryz.ntmps30
    go_upto_region 1 with (fail)
    refine wpg (R := fun V => Hid (MD w V w.heap.size (w.heap.size + 1) (dkcs d A B c e))) (Lib.hid (MD.new _ _)) (fun V z => ?_)
    generalize hp9 : w.heap.size = p at z ⊢
    generalize hq9 : p + 1 = q at z ⊢
    clear hp9 hq9
    go_wp2_with fail
    refine (readNumbers_any W wc ws _ (HR.out.below z.out.up.below) hn HF.out (HT.out.below z.out.up.below)).mono ?_
    rintro r w' hr
    unfold rnPost at hr
    rw [hno] at hr
    obtain ⟨AN, cn, rfl, on, g1, rfl⟩ := hr
    have z1 := Lib.hid (z.out.below (up_below V g1))
    have ON := Lib.hid on
    have HNQ := Lib.hid (show q < V.heap.size from z.out.rs.lt)
    clear on
    go_upto_region 9 with (fail)
    refine wpg (R := fun U => Hid (MD w U p q (dkcs d A B c e)) ∧ Hid (Rds U 1 AN l.length (ics l))) ⟨z1, Lib.hid (Rds.of_own ON.out)⟩ (fun U y => ?_)
    obtain ⟨z, HL⟩ := y
    clear z1 ON
    obtain ⟨hpU, x0, x1, x2, x3, x4, x5, x6, x7⟩ := z.out.bx.eight
    go_wp2_with fail
    refine (settingB_any d A B c e l AN cn s U (HS.out.below z.out.up.below) HZ.out (HT.out.below z.out.up.below) HV.out HL.out H5.out HK.out).mono ?_
    rintro r w' hs
    rw [q1, HD.out] at hs
    replace hs : mdPost D [dkText D] A B c e U r w' := hs
    obtain ⟨X, n, rfl, ox, g2, rfl⟩ := hs
    have z2 := Lib.hid (z.out.below (V' := up U g2) (up_below U g2))
    have OX := Lib.hid ox
    have hqW0 := z.out.rs.lt
    have HLE0 := Lib.hid z.out.up.below.size
    obtain ⟨hqT, r0, r1, r2, r3, r4, r5, r6, r7⟩ := z2.out.rs.eight
    obtain ⟨f0, f1, f2, f3, f4, f5, f6, f7⟩ := z2.out.rs.open8
    clear ox x0 x1 x2 x3 x4 x5 x6 x7 hpU
    go_wp2_with fail
    refine post_gen (R := fun W => Blk W q 31 (dkcs (D) A B c e) ∧ W.ownsRow w.heap.size 9 1 (.slice X 1 n) 1 (strs ([dkText D])) ∧ UpOf w W) ⟨blk_put8 z2.out.rs _ _ _ _ _ _ _ _, own_mono (own_all OX.out hqW0 _ _ _ _ _ _ _ _) HLE0.out, put8_up z2.out.up z2.out.hq _ _ _ _ _ _ _ _⟩ (fun W st => ?_)
    obtain ⟨s1, s2, s3⟩ := st
    obtain ⟨hqW, w0, w1, w2, w3, w4, w5, w6, w7⟩ := s1.eight
    clear s1 r0 r1 r2 r3 r4 r5 r6 r7 f0 f1 f2 f3 f4 f5 f6 f7
    refine bodyPost_ret (v := .tuple #[dkv (D) A B c e, .slice X 1 n]) (by simp [results, Tryz.results30, go_sem, hqW, w0, w1, w2, w3, w4, w5, w6, w7]) rfl ?_
    exact ⟨_, _, rfl, s2, s3⟩
/-- what the command stops leaves: the old stops, or the new ones, of the call's own -/
def stPost (d : DeskD) (l : List Int) (A B : Option Addr) (c e : Nat) (w : World) (r : Ending) (w' : World) : Prop :=
  if vStops l then ∃ N nc, w'.ownsRow w.heap.size 2 1 (.slice N l.length nc) l.length (ics l) ∧ mdPost { d with stops := l } [dkText { d with stops := l }] N B nc e w r w' else mdPost d [errL 1] A B c e w r w'
set_option maxRecDepth 10000 in
set_option maxHeartbeats 8000000 in
theorem bnStop_any (d : DeskD) (A B : Option Addr) (c e : Nat) (ws : List ByteArray) (W : Option Addr) (wc : Nat) (s : ByteArray) (l : List Int) (w : World) (h : Rds w 1 W ws.length (strs ws)) (hn : ws.length ≤ 10000000) (hf : ∀ i, i < ws.length → (wd ws i).size ≤ 100000000) (ht : Tab w) (hno : numsOf ws = some l) (hl : l.length ≤ 10000000) (hk : kindOf s = 12)
    (hS : DSee w d A B) (hz : DkSz d e) (hv : vDesk d = true) :
    Calls Tryz.prog 30 #[dkv d A B c e, .string s, .slice W ws.length wc] w fun r w' => stPost d l A B c e w r w' := by
  have HR := Lib.hid h
  have HF := Lib.hid hf
  have HT := Lib.hid ht
  have q6 : (s.toList == [102, 97, 115, 116]) = false := by
    have := kind_test2 s (i := 6) (by omega)
    rw [hk] at this
    exact this
  have q13 : (s.toList == [119, 97, 105, 116]) = false := by
    have := kind_test2 s (i := 13) (by omega)
    rw [hk] at this
    exact this
  have HS := Lib.hid hS
  have HZ := Lib.hid hz
  have HV := Lib.hid hv
  have HK := Lib.hid hk
  clear h hf ht hk hS hz hv
  unfold stPost
  cases q1 : vStops l with
  | false =>
    show Calls _ _ _ _ fun r w' => mdPost d [errL 1] A B c e w r w'
    go_enter Tryz.func30, Tryz.ntmps30
    go_upto_region 1 with (fail)
    refine wpg (R := fun V => Hid (MD w V w.heap.size (w.heap.size + 1) (dkcs d A B c e))) (Lib.hid (MD.new _ _)) (fun V z => ?_)
    generalize hp9 : w.heap.size = p at z ⊢
    generalize hq9 : p + 1 = q at z ⊢
    clear hp9 hq9
    go_wp2_with fail
    refine (readNumbers_any W wc ws _ (HR.out.below z.out.up.below) hn HF.out (HT.out.below z.out.up.below)).mono ?_
    rintro r w' hr
    unfold rnPost at hr
    rw [hno] at hr
    obtain ⟨AN, cn, rfl, on, g1, rfl⟩ := hr
    have z1 := Lib.hid (z.out.below (up_below V g1))
    have ON := Lib.hid on
    have HNQ := Lib.hid (show q < V.heap.size from z.out.rs.lt)
    clear on
    go_upto_region 9 with (fail)
    refine wpg (R := fun U => Hid (MD w U p q (dkcs d A B c e)) ∧ Hid (Rds U 1 AN l.length (ics l))) ⟨z1, Lib.hid (Rds.of_own ON.out)⟩ (fun U y => ?_)
    obtain ⟨z, HL⟩ := y
    clear z1 ON
    obtain ⟨hpU, x0, x1, x2, x3, x4, x5, x6, x7⟩ := z.out.bx.eight
    go_wp2_with fail
    refine (settingS_any d A B c e l AN cn s U (HS.out.below z.out.up.below) HZ.out (HT.out.below z.out.up.below) HV.out HL.out (by omega) HK.out).mono ?_
    rintro r w' hs
    rw [q1] at hs
    replace hs : mdPost d [errL 1] A B c e U r w' := hs
    obtain ⟨X, n, rfl, ox, g2, rfl⟩ := hs
    have z2 := Lib.hid (z.out.below (V' := up U g2) (up_below U g2))
    have OX := Lib.hid ox
    have hqW0 := z.out.rs.lt
    have HLE0 := Lib.hid z.out.up.below.size
    obtain ⟨hqT, r0, r1, r2, r3, r4, r5, r6, r7⟩ := z2.out.rs.eight
    obtain ⟨f0, f1, f2, f3, f4, f5, f6, f7⟩ := z2.out.rs.open8
    clear ox x0 x1 x2 x3 x4 x5 x6 x7 hpU
    go_wp2_with fail
    refine post_gen (R := fun W => Blk W q 31 (dkcs (d) A B c e) ∧ W.ownsRow w.heap.size 9 1 (.slice X 1 n) 1 (strs ([errL 1])) ∧ UpOf w W) ⟨blk_put8 z2.out.rs _ _ _ _ _ _ _ _, own_mono (own_all OX.out hqW0 _ _ _ _ _ _ _ _) HLE0.out, put8_up z2.out.up z2.out.hq _ _ _ _ _ _ _ _⟩ (fun W st => ?_)
    obtain ⟨s1, s2, s3⟩ := st
    obtain ⟨hqW, w0, w1, w2, w3, w4, w5, w6, w7⟩ := s1.eight
    clear s1 r0 r1 r2 r3 r4 r5 r6 r7 f0 f1 f2 f3 f4 f5 f6 f7
    refine bodyPost_ret (v := .tuple #[dkv (d) A B c e, .slice X 1 n]) (by simp [results, Tryz.results30, go_sem, hqW, w0, w1, w2, w3, w4, w5, w6, w7]) rfl ?_
    exact ⟨_, _, rfl, s2, s3⟩
  | true =>
    obtain ⟨D, hD⟩ : ∃ D : DeskD, { d with stops := l } = D := ⟨_, rfl⟩
    have HD := Lib.hid hD
    rw [hD]
    have HDs := Lib.hid (show D.stops.length = l.length by rw [← hD])
    clear hD
    show Calls _ _ _ _ fun r w' => ∃ N nc, w'.ownsRow w.heap.size 2 1 (.slice N l.length nc) l.length (ics l) ∧ mdPost D [dkText D] N B nc e w r w'
    go_enter Tryz.func30, Tryz.ntmps30
    go_upto_region 1 with (fail)
    refine wpg (R := fun V => Hid (MD w V w.heap.size (w.heap.size + 1) (dkcs d A B c e))) (Lib.hid (MD.new _ _)) (fun V z => ?_)
    generalize hp9 : w.heap.size = p at z ⊢
    generalize hq9 : p + 1 = q at z ⊢
    clear hp9 hq9
    go_wp2_with fail
    refine (readNumbers_any W wc ws _ (HR.out.below z.out.up.below) hn HF.out (HT.out.below z.out.up.below)).mono ?_
    rintro r w' hr
    unfold rnPost at hr
    rw [hno] at hr
    obtain ⟨AN, cn, rfl, on, g1, rfl⟩ := hr
    have z1 := Lib.hid (z.out.below (up_below V g1))
    have ON := Lib.hid on
    have HNQ := Lib.hid (show q < V.heap.size from z.out.rs.lt)
    clear on
    go_upto_region 9 with (fail)
    refine wpg (R := fun U => Hid (MD w U p q (dkcs d A B c e)) ∧ Hid (U.ownsRow V.heap.size 2 1 (.slice AN l.length cn) l.length (ics l)) ∧ Hid (w.heap.size ≤ V.heap.size)) ⟨z1, ON, Lib.hid z.out.up.below.size⟩ (fun U y => ?_)
    obtain ⟨z, HL, HVw⟩ := y
    clear z1 ON
    obtain ⟨hpU, x0, x1, x2, x3, x4, x5, x6, x7⟩ := z.out.bx.eight
    go_wp2_with fail
    refine (settingS_any d A B c e l AN cn s U (HS.out.below z.out.up.below) HZ.out (HT.out.below z.out.up.below) HV.out (Rds.of_own HL.out) (by omega) HK.out).mono ?_
    rintro r w' hs
    rw [q1, HD.out] at hs
    replace hs : mdPost D [dkText D] AN B cn e U r w' := hs
    obtain ⟨X, n, rfl, ox, g2, rfl⟩ := hs
    have z2 := Lib.hid (z.out.below (V' := up U g2) (up_below U g2))
    have OX := Lib.hid ox
    have ON2 := Lib.hid (own_below HL.out (up_below U g2))
    have hqW0 := z.out.rs.lt
    have HLE0 := Lib.hid z.out.up.below.size
    obtain ⟨hqT, r0, r1, r2, r3, r4, r5, r6, r7⟩ := z2.out.rs.eight
    obtain ⟨f0, f1, f2, f3, f4, f5, f6, f7⟩ := z2.out.rs.open8
    clear ox x0 x1 x2 x3 x4 x5 x6 x7 hpU
    go_wp2_with fail
    refine post_gen (R := fun W => Blk W q 31 (dkcs D AN B cn e) ∧ W.ownsRow w.heap.size 9 1 (.slice X 1 n) 1 (strs [dkText D]) ∧ W.ownsRow w.heap.size 2 1 (.slice AN l.length cn) l.length (ics l) ∧ UpOf w W) ⟨blk_put8 z2.out.rs _ _ _ _ _ _ _ _, own_mono (own_all OX.out hqW0 _ _ _ _ _ _ _ _) HLE0.out, own_mono (own_all ON2.out HNQ.out _ _ _ _ _ _ _ _) HVw.out, put8_up z2.out.up z2.out.hq _ _ _ _ _ _ _ _⟩ (fun W st => ?_)
    obtain ⟨s1, s2, s4, s3⟩ := st
    obtain ⟨hqW, w0, w1, w2, w3, w4, w5, w6, w7⟩ := s1.eight
    clear s1 r0 r1 r2 r3 r4 r5 r6 r7 f0 f1 f2 f3 f4 f5 f6 f7
    refine bodyPost_ret (v := .tuple #[dkv D AN B cn e, .slice X 1 n]) (by simp [results, Tryz.results30, go_sem, hqW, w0, w1, w2, w3, w4, w5, w6, w7]) rfl ?_
    exact ⟨AN, cn, s4, _, _, rfl, s2, s3⟩
end Go.Proofs.YtbianlkenallaaaGreatDoor
namespace Go.Proofs.YtbianlkenallaaaGreatDoor
open Go.RowKit
/-- what 'moved' hands back beside its word, whether the move exists or not -/
def mvX (l : List Int) (k c : Nat) : Int := if k = 0 then (l.find? fun s => decide ((c : Int) < s)).getD 0 else if k = 1 then (c : Int) - 1 else (c : Int) + 1
theorem mvX_eq {l : List Int} {k c d : Nat} (hv : vStops l = true) (h : mvTo l k c = some d) : mvX l k c = d := by
  unfold mvTo at h
  unfold mvX
  by_cases h0 : k = 0
  · rw [if_pos h0] at h ⊢
    simp only [tabOf, Option.map_eq_some_iff] at h
    obtain ⟨s, hs, rfl⟩ := h
    have := stop_bd hv s (List.mem_of_find?_eq_some hs)
    rw [hs]
    show s = _
    omega
  · rw [if_neg h0] at h ⊢
    by_cases h1 : k = 1
    · rw [if_pos h1] at h ⊢
      split at h
      · injection h with h; omega
      · cases h
    · rw [if_neg h1] at h ⊢
      split at h
      · injection h with h; omega
      · cases h
theorem find_num {l : List Int} {c k : Nat} (hk : k < l.length) (h : (c : Int) < num l k) (hn : ∀ j, j < k → ¬ (c : Int) < num l j) : l.find? (fun s => decide ((c : Int) < s)) = some (num l k) := by
  rw [List.find?_eq_some_iff_getElem]
  refine ⟨decide_eq_true h, k, hk, num_eq hk, fun j hj => ?_⟩
  have := hn j hj
  rw [← num_eq (by omega)] at this
  simp [this]
theorem find_none {l : List Int} {c : Nat} (hn : ∀ j, j < l.length → ¬ (c : Int) < num l j) : l.find? (fun s => decide ((c : Int) < s)) = none := by
  rw [List.find?_eq_none]
  intro s hs
  obtain ⟨j, hj, rfl⟩ := List.getElem_of_mem hs
  rw [num_eq hj]
  simpa using hn j hj
set_option maxRecDepth 10000 in
set_option maxHeartbeats 1000000 in
theorem moved_any (k c : Nat) (A : Option Addr) (cap : Nat) (l : List Int) (w : World) (hk : k < 3) (hc : c ≤ 30) (h : Rds w 1 A l.length (ics l)) (hn : l.length ≤ 100000000) (x : Int) (hx : ((mvB k).toNat : Int) = x) :
    Calls Tryz.prog 207 #[.slice A l.length cap, i64 c, .int .u8 x] w fun e w' => e = .returned (.tuple #[i64 (mvX l k c), .bool (mvTo l k c).isSome]) ∧ UpOf w w' := by
  have h3 : k = 2 ∨ k = 1 ∨ k = 0 := by omega
  rcases h3 with rfl | rfl | rfl
  · obtain rfl : x = 62 := hx.symm
    have hf : Hid (mvX l 2 c = (c : Int) + 1 ∧ (mvTo l 2 c).isSome = decide ((c : Int) < 30)) := by
      refine ⟨rfl, ?_⟩
      by_cases q : c < 30
      · rw [decide_eq_true (by omega), mvTo, if_neg (by omega), if_neg (by omega), if_pos q]; rfl
      · rw [decide_eq_false (by omega), mvTo, if_neg (by omega), if_neg (by omega), if_neg q]; rfl
    go_enter Tryz.func207, Tryz.ntmps207
    go_wp2_with (first | ((with_reducible refine wp_region_up (by kernel_rfl) (by kernel_rfl) ?_); (repeat (go_big_quiet_step (fail))); refine wpQuiet_nil ?_; intro _ hw'; obtain ⟨nq, hw''⟩ := hw'; subst hw''))
    all_goals go_ret2
    all_goals exact ⟨by rw [hf.out.1, hf.out.2] <;> rfl, UpOf.of (BL.o (by repeat constructor))⟩
  · obtain rfl : x = 60 := hx.symm
    have hf : Hid (mvX l 1 c = (c : Int) - 1 ∧ (mvTo l 1 c).isSome = decide (0 < c)) := by
      refine ⟨rfl, ?_⟩
      by_cases q : 0 < c
      · rw [decide_eq_true (by omega), mvTo, if_neg (by omega), if_pos rfl, if_pos q]; rfl
      · rw [decide_eq_false (by omega), mvTo, if_neg (by omega), if_pos rfl, if_neg q]; rfl
    go_enter Tryz.func207, Tryz.ntmps207
    go_wp2_with (first | ((with_reducible refine wp_region_up (by kernel_rfl) (by kernel_rfl) ?_); (repeat (go_big_quiet_step (fail))); refine wpQuiet_nil ?_; intro _ hw'; obtain ⟨nq, hw''⟩ := hw'; subst hw''))
    all_goals go_ret2
    all_goals exact ⟨by rw [hf.out.1, hf.out.2] <;> rfl, UpOf.of (BL.o (by repeat constructor))⟩
  · obtain rfl : x = 35 := hx.symm
    go_enter Tryz.func207, Tryz.ntmps207
    go_wp2_with (first | ((with_reducible refine wp_region_up (by kernel_rfl) (by kernel_rfl) ?_); (repeat (go_big_quiet_step (fail))); refine wpQuiet_nil ?_; intro _ hw'; obtain ⟨nq, hw''⟩ := hw'; subst hw''))
    go_loopw [25] (fun i wr => ∃ k : Nat, k ≤ l.length ∧ i = i64 k ∧ Hid (∀ j, j < k → ¬ (c : Int) < num l j) ∧ ∃ g : Up w, wr = up w g) (fun i _ => l.length - (intOf i).toNat)
    case atStart => exact ⟨0, by omega, rfl, fun i hi => by omega, ex_up (BL.o (by repeat constructor))⟩
    case round =>
      obtain ⟨k, hk, rfl, hok, g, rfl⟩ := hrel
      by_cases hlt : k < l.length
      · obtain ⟨b, off, rfl, hb, c0⟩ := num_at h hlt
        by_cases q : (c : Int) < num l k
        · have hf : Hid (mvX l 0 c = num l k ∧ (mvTo l 0 c).isSome = true) := by
            have := find_num hlt q hok.out
            exact ⟨by rw [mvX, if_pos rfl, this]; rfl, by rw [mvTo, if_pos rfl, tabOf, this]; rfl⟩
          go_wp2_with (first | ((with_reducible refine wp_region_up (by kernel_rfl) (by kernel_rfl) ?_); (repeat (go_big_quiet_step (fail))); refine wpQuiet_nil ?_; intro _ hw'; obtain ⟨nq, hw''⟩ := hw'; subst hw''))
          go_ret2
          exact ⟨by rw [hf.out.1, hf.out.2] <;> rfl, UpOf.of (BL.o (by repeat constructor))⟩
        · have hq := Lib.hid q
          go_wp2_with (first | ((with_reducible refine wp_region_up (by kernel_rfl) (by kernel_rfl) ?_); (repeat (go_big_quiet_step (fail))); refine wpQuiet_nil ?_; intro _ hw'; obtain ⟨nq, hw''⟩ := hw'; subst hw''))
          go_roundw
          case rel => exact ⟨k + 1, by omega, by go_num, lt_extD (P := fun j => ¬ (c : Int) < num l j) hok.out hq.out, ex_up (BL.o (by repeat constructor))⟩
          case measure => (simp [intOf]; try omega)
      · have hf : Hid (mvX l 0 c = 0 ∧ (mvTo l 0 c).isSome = false) := by
          have := find_none (l := l) (c := c) (fun i hi => hok.out i (by omega))
          exact ⟨by rw [mvX, if_pos rfl, this]; rfl, by rw [mvTo, if_pos rfl, tabOf, this]; rfl⟩
        go_wp2_with (first | ((with_reducible refine wp_region_up (by kernel_rfl) (by kernel_rfl) ?_); (repeat (go_big_quiet_step (fail))); refine wpQuiet_nil ?_; intro _ hw'; obtain ⟨nq, hw''⟩ := hw'; subst hw''))
        go_ret2
        exact ⟨by rw [hf.out.1, hf.out.2] <;> rfl, UpOf.of (BL.o (by repeat constructor))⟩
end Go.Proofs.YtbianlkenallaaaGreatDoor
namespace Go.Proofs.YtbianlkenallaaaGreatDoor
open Go.RowKit
def arrD (f : Nat → Int) : Array Value := ((List.range 31).map fun i => i64 (f i)).toArray
theorem arrD_size (f : Nat → Int) : (arrD f).size = 31 := by simp [arrD]
theorem arrD_get (f : Nat → Int) {i : Nat} (h : i < 31) : (arrD f)[i]? = some (i64 (f i)) := by
  simp [arrD, h]
theorem arrD_set (f : Nat → Int) (i : Nat) (v : Int) : (arrD f).setIfInBounds i (i64 v) = arrD fun j => if j = i then v else f j := by
  apply Array.ext_getElem?
  intro j
  by_cases hj : j < 31
  · rw [arrD_get _ hj, Array.getElem?_setIfInBounds]
    by_cases e : i = j
    · subst e
      rw [if_pos rfl, if_pos (by rw [arrD_size]; exact hj), if_pos rfl]
    · rw [if_neg e, arrD_get _ hj, if_neg (fun h => e h.symm)]
  · rw [Array.getElem?_eq_none (by rw [Array.size_setIfInBounds, arrD_size]; omega), Array.getElem?_eq_none (by rw [arrD_size]; omega)]
theorem arrD_one (f : Nat → Int) : (arrD f).all (·.oneCell') = true := by
  rw [Array.all_eq_true]
  intro i hi
  rw [arrD_size] at hi
  have := arrD_get f hi
  rw [Array.getElem?_eq_getElem (by rw [arrD_size]; exact hi)] at this
  injection this with this
  rw [this]; rfl
theorem arrD_zero : arrD (fun _ => 0) = #[i64 0, i64 0, i64 0, i64 0, i64 0, i64 0, i64 0, i64 0, i64 0, i64 0, i64 0, i64 0, i64 0, i64 0, i64 0, i64 0, i64 0, i64 0, i64 0, i64 0, i64 0, i64 0, i64 0, i64 0, i64 0, i64 0, i64 0, i64 0, i64 0, i64 0, i64 0] := rfl
theorem arrD_congr {f g : Nat → Int} (h : ∀ i, i < 31 → f i = g i) : arrD f = arrD g := by
  unfold arrD
  congr 1
  exact List.map_congr_left fun i hi => by rw [h i (List.mem_range.1 hi)]
/-- the array while a level is filled in: columns below c are done up to level m + 1 -/
def lvl (l : List Int) (tg m c : Nat) : Int := if dst l tg c ≤ m then (dst l tg c : Int) else -1
def midD (l : List Int) (tg m c i : Nat) : Int := if i < c then lvl l tg (m + 1) i else lvl l tg m i
theorem mvTo_ne {l : List Int} {k c d : Nat} (hv : vStops l = true) (h : mvTo l k c = some d) : d ≠ c := by
  unfold mvTo at h
  split at h
  · have := (tabOf_bd hv h).2; omega
  · split at h
    · split at h
      · injection h with h; omega
      · cases h
    · split at h
      · injection h with h; omega
      · cases h
theorem Blk.row {w : World} {p : Nat} {t : TypeId} {c c' : Array Value} (h : Blk w p t c) : Blk (w.setRow p c') p t c' := setRow_heap w p c c' t _ h
/-- the call's two arrays: its result and the one that is filled -/
structure DS (w wr : World) (p q : Nat) (f : Nat → Int) : Prop where
  z : Blk wr p 215 (arrD fun _ => 0)
  a : Blk wr q 215 (arrD f)
  u : UpOf w wr
  hp : w.heap.size ≤ p
  hq : w.heap.size ≤ q
  ne : p ≠ q
section
variable {w wr wr' : World} {p q : Nat} {f g : Nat → Int}
theorem DS.congr (h : DS w wr p q f) (e : ∀ i, i < 31 → f i = g i) : DS w wr p q g := ⟨h.z, arrD_congr e ▸ h.a, h.u, h.hp, h.hq, h.ne⟩
theorem DS.below (h : DS w wr p q f) (hb : Below wr.heap.size wr wr') : DS w wr' p q f :=
  ⟨h.z.up ⟨wr', hb⟩, h.a.up ⟨wr', hb⟩, h.u.tr hb, h.hp, h.hq, h.ne⟩
theorem DS.put (h : DS w wr p q f) (i : Nat) (v : Int) : DS w (wr.setCell ⟨q, i, none⟩ (i64 v)) p q (fun j => if j = i then v else f j) :=
  ⟨h.z.far (p := ⟨q, i, none⟩) h.ne _, by rw [← arrD_set]; exact h.a.put i _, UpOf.of (h.u.below.setCell (p := ⟨q, i, none⟩) h.hq _), h.hp, h.hq, h.ne⟩
theorem DS.cell (h : DS w wr p q f) {i : Nat} (hi : i < 31) : wr.cell? ⟨q, i, none⟩ = some (i64 (f i)) := by rw [h.a.cell, arrD_get _ hi]
end
def hitM (l : List Int) (tg m c j : Nat) : Bool := (List.range j).any fun k => match mvTo l k c with | some d => decide (dst l tg d = m) | none => false
theorem hitM_step (l : List Int) (tg m c j : Nat) : hitM l tg m c (j + 1) = (hitM l tg m c j || match mvTo l j c with | some d => decide (dst l tg d = m) | none => false) := by
  simp only [hitM, List.range_succ, List.any_append, List.any_cons, List.any_nil, Bool.or_false]
theorem hitM_all {l : List Int} {tg m c : Nat} (hv : vStops l = true) (ht : tg ≤ 30) (hc : c ≤ 30) (hd : m < dst l tg c) : hitM l tg m c 3 = decide (dst l tg c = m + 1) := by
  rw [Bool.eq_iff_iff, decide_eq_true_eq]
  simp only [hitM, List.any_eq_true, List.mem_range]
  constructor
  · rintro ⟨k, hk, h⟩
    cases hm : mvTo l k c with
    | none => rw [hm] at h; cases h
    | some d =>
      rw [hm] at h
      have h := of_decide_eq_true h
      have := dst_le (tg := tg) hv ht hc hk hm
      omega
  · intro h
    have hne : c ≠ tg := fun e => by subst e; rw [dst_self l ht] at hd; omega
    obtain ⟨k, d, hk, hm, he⟩ := dst_ex hv ht hc hne
    exact ⟨k, hk, by rw [hm]; exact decide_eq_true (by omega)⟩
/-- does a column below c have this number -/
def anyL (l : List Int) (tg m c : Nat) : Bool := (List.range c).any fun i => decide (dst l tg i = m)
theorem anyL_step (l : List Int) (tg m c : Nat) : anyL l tg m (c + 1) = (anyL l tg m c || decide (dst l tg c = m)) := by
  simp only [anyL, List.range_succ, List.any_append, List.any_cons, List.any_nil, Bool.or_false]
theorem anyL_true {l : List Int} {tg m : Nat} (ht : tg ≤ 30) (h : anyL l tg m 31 = true) : m ≤ 30 := by
  simp only [anyL, List.any_eq_true, List.mem_range, decide_eq_true_eq] at h
  obtain ⟨i, hi, e⟩ := h
  have := (dst_spec l ht (show i ≤ 30 by omega)).1
  omega
theorem anyL_false {l : List Int} {tg m : Nat} (h : anyL l tg m 31 = false) : ∀ c, c ≤ 30 → dst l tg c ≠ m := by
  intro c hc e
  rw [← Bool.not_eq_true] at h
  refine h ?_
  simp only [anyL, List.any_eq_true, List.mem_range, decide_eq_true_eq]
  exact ⟨c, by omega, e⟩
theorem midD_skip {l : List Int} {tg m k : Nat} (hd : dst l tg k ≤ m) (i : Nat) : midD l tg m k i = midD l tg m (k + 1) i := by
  by_cases e : i = k
  · subst e
    unfold midD lvl
    (repeat' split) <;> omega
  · unfold midD lvl
    (repeat' split) <;> omega
theorem midD_step {l : List Int} {tg m k : Nat} (hv : vStops l = true) (ht : tg ≤ 30) (hk : k ≤ 30) (hd : m < dst l tg k) (i : Nat) :
    (if i = k then (if hitM l tg m k 3 then ((m : Int) + 1) else -1) else midD l tg m k i) = midD l tg m (k + 1) i := by
  by_cases e : i = k
  · subst e
    rw [if_pos rfl, hitM_all hv ht hk hd]
    simp only [decide_eq_true_eq]
    unfold midD lvl
    (repeat' split) <;> omega
  · rw [if_neg e]
    unfold midD lvl
    (repeat' split) <;> omega
theorem midD_val (l : List Int) (tg m k d : Nat) : (midD l tg m k d == (m : Int)) = decide (dst l tg d = m) := by
  rw [Bool.eq_iff_iff, beq_iff_eq, decide_eq_true_eq]
  unfold midD lvl
  split <;> split <;> omega
def Lit3 (w : World) (b : Nat) : Prop := w.heap[b]? = some (.cells #[.int .u8 35, .int .u8 60, .int .u8 62] 5 (3, 4))
theorem Lit3.cell {w : World} {b j : Nat} (h : Lit3 w b) (hj : j < 3) : w.cell? ⟨b, j, none⟩ = some (.int .u8 ((mvB j).toNat : Int)) := by
  unfold Lit3 at h
  have h3 : j = 0 ∨ j = 1 ∨ j = 2 := by omega
  rcases h3 with rfl | rfl | rfl <;> (simp [World.cell?, h]; rfl)
theorem Lit3.lt {w : World} {b : Nat} (h : Lit3 w b) : b < w.heap.size := (Array.getElem?_eq_some_iff.1 h).1
theorem Lit3.far {w : World} {b : Nat} (h : Lit3 w b) {p : Addr} (hp : b ≠ p.block) (u : Value) : Lit3 (w.setCell p u) b := (Below.heap_setCell w p u b hp).trans h
theorem Lit3.below {w w' : World} {b : Nat} (h : Lit3 w b) (hb : Below w.heap.size w w') : Lit3 w' b := (hb.block b h.lt).trans h
set_option maxRecDepth 10000 in
set_option maxHeartbeats 4000000 in
theorem distances_any (tg : Nat) (A : Option Addr) (cap : Nat) (l : List Int) (w : World) (ht : tg ≤ 30) (hv : vStops l = true) (h : Rds w 1 A l.length (ics l)) (hn : l.length ≤ 100000000) :
    Calls Tryz.prog 206 #[.slice A l.length cap, i64 tg] w fun e w' => e = .returned (.agg (arrD fun c => dst l tg c)) ∧ UpOf w w' := by
  have HR := Lib.hid h
  have HV := Lib.hid hv
  clear h hv
  go_enter Tryz.func206, Tryz.ntmps206
  go_upto_region 1 with (fail)
  refine wpg (R := fun U => Hid (Blk U w.heap.size 215 (arrD fun _ => 0)) ∧ Hid (UpOf w U)) ⟨Lib.hid (by rw [arrD_zero]; exact Blk.new _ _ _), Lib.hid UpOf.of (BL.o (by repeat constructor))⟩ (fun V0 z => ?_)
  obtain ⟨z1, z2⟩ := z
  have hst : (storeCells ⟨V0.heap.size, 0, none⟩ (arrD fun _ => 0).toList 0).run Tryz.prog (V0.alloc (.cells #[Value.int .i64 0, Value.int .i64 0, Value.int .i64 0, Value.int .i64 0, Value.int .i64 0, Value.int .i64 0, Value.int .i64 0, Value.int .i64 0, Value.int .i64 0, Value.int .i64 0, Value.int .i64 0, Value.int .i64 0, Value.int .i64 0, Value.int .i64 0, Value.int .i64 0, Value.int .i64 0, Value.int .i64 0, Value.int .i64 0, Value.int .i64 0, Value.int .i64 0, Value.int .i64 0, Value.int .i64 0, Value.int .i64 0, Value.int .i64 0, Value.int .i64 0, Value.int .i64 0, Value.int .i64 0, Value.int .i64 0, Value.int .i64 0, Value.int .i64 0, Value.int .i64 0] 215)) = .ok () (V0.alloc (.cells (arrD fun _ => 0) 215)) := run_storeCells_new (P := Tryz.prog) V0 215 #[Value.int .i64 0, Value.int .i64 0, Value.int .i64 0, Value.int .i64 0, Value.int .i64 0, Value.int .i64 0, Value.int .i64 0, Value.int .i64 0, Value.int .i64 0, Value.int .i64 0, Value.int .i64 0, Value.int .i64 0, Value.int .i64 0, Value.int .i64 0, Value.int .i64 0, Value.int .i64 0, Value.int .i64 0, Value.int .i64 0, Value.int .i64 0, Value.int .i64 0, Value.int .i64 0, Value.int .i64 0, Value.int .i64 0, Value.int .i64 0, Value.int .i64 0, Value.int .i64 0, Value.int .i64 0, Value.int .i64 0, Value.int .i64 0, Value.int .i64 0, Value.int .i64 0] (arrD fun _ => 0) (by kernel_rfl) rfl (by kernel_rfl)
  go_upto_region 2 with (refine wpList_buildTo rfl 215 _ rfl (some 14) rfl (arrD fun _ => 0) (by kernel_rfl) ?_)
  refine wpg (R := fun U => Hid (DS w U w.heap.size V0.heap.size (fun _ => 0))) (Lib.hid ⟨z1.out.alloc _, Blk.new _ _ _, z2.out.tr (BL.o (by repeat constructor)), Nat.le_refl _, z2.out.below.size, Nat.ne_of_lt z1.out.lt⟩) (fun V z => ?_)
  clear z1 z2 hst
  obtain ⟨p, hp⟩ : ∃ p, w.heap.size = p := ⟨_, rfl⟩
  rw [hp] at z
  rw [hp]
  clear hp
  generalize V0.heap.size = q at *
  go_wp2_with fail
  go_loopw [15] (fun i wr => ∃ k : Nat, k ≤ 31 ∧ i = i64 k ∧ Hid (DS w wr p q (fun i => if i < k then -1 else 0))) (fun i _ => 31 - (intOf i).toNat)
  case atStart => exact ⟨0, by omega, rfl, Lib.hid (z.out.congr fun i hi => by rw [if_neg (by omega)])⟩
  case round =>
    obtain ⟨k, hk, rfl, D⟩ := hrel
    clear z
    by_cases hlt : k < 31
    · have hlt' : (k : Int) < 31 := by omega
      have d0 := D.out.a.lt
      have d1 := D.out.cell hlt
      have d2 := D.out.a.free k
      go_wp2_with fail
      go_roundw
      case rel => exact ⟨k + 1, by omega, by go_num, Lib.hid ((D.out.put k (-1)).congr fun i hi => by
        by_cases e : i = k
        · rw [if_pos e, if_pos (by omega)]
        · rw [if_neg e]; by_cases e2 : i < k
          · rw [if_pos e2, if_pos (by omega)]
          · rw [if_neg e2, if_neg (by omega)])⟩
      case measure => (simp [intOf]; try omega)
    · have hge : ¬ (k : Int) < 31 := by omega
      have D0 := Lib.hid (D.out.congr (g := fun _ => -1) fun i hi => by rw [if_pos (by omega)])
      clear D hlt
      clear hk
      have d0 := D0.out.a.lt
      have d1 := D0.out.cell (show tg < 31 by omega)
      have d2 := D0.out.a.free tg
      have ht' : (tg : Int) < 31 := by omega
      go_wp2_with fail
      have D1 := Lib.hid ((D0.out.put tg 0).congr (g := lvl l tg 0) fun i hi => by
        show (if i = tg then (0 : Int) else -1) = if dst l tg i ≤ 0 then (dst l tg i : Int) else -1
        by_cases e : i = tg
        · rw [if_pos e, e, dst_self l ht, if_pos (Nat.le_refl _)]; rfl
        · rw [if_neg e, if_neg (fun h => e (dst_zero (c := i) ht (by omega) (Nat.le_zero.1 h)))])
      refine wpg (R := fun U => Hid (DS w U p q (lvl l tg 0))) D1 (fun V1 D2 => ?_)
      clear D0 D1 d0 d1 d2
      go_loopw [7, 8] (fun ch fr wr => ∃ (b : Bool) (m : Nat), ch = .bool b ∧ fr = i64 m ∧ m ≤ 31 ∧ (b = true → m ≤ 30) ∧ Hid (b = false → ∀ c, c ≤ 30 → dst l tg c ≤ m) ∧ Hid (DS w wr p q (lvl l tg m))) (fun _ fr _ => 32 - (intOf fr).toNat)
      case atStart => exact ⟨true, 0, rfl, rfl, by omega, fun _ => by omega, Lib.hid (fun h => by cases h), D2⟩
      case round =>
        obtain ⟨b, m, rfl, rfl, hm, hbm, hb0, D⟩ := hrel
        clear D2
        cases b with
        | false =>
          have hall := hb0.out rfl
          have D3 := Lib.hid (D.out.congr (g := fun c => (dst l tg c : Int)) fun i hi => by
            unfold lvl
            rw [if_pos (hall i (by omega))])
          clear D hall hb0 hbm
          go_upto_region 25 with (fail)
          go_step
          (refine wpList_load_row rfl 215 _ rfl q rfl 215 (arrD fun c => dst l tg c) (0, 0) (.array 31 2) D3.out.a (by kernel_rfl) rfl (by rw [arrD_size]; kernel_rfl) ?_; refine wpList_store_row rfl 215 _ _ rfl p (arrD fun c => dst l tg c) rfl rfl 215 (arrD fun _ => 0) D3.out.z (by rw [arrD_size]; kernel_rfl) (by rw [arrD_size, arrD_size]) (arrD_one _) ?_)
          have hz : Hid (UpOf w (wr.setRow p (arrD fun c => (dst l tg c : Int))) ∧ (wr.setRow p (arrD fun c => (dst l tg c : Int))).heap[p]? = some (.cells (arrD fun c => (dst l tg c : Int)) 215 (0, 0))) := by
            exact Lib.hid ⟨UpOf.of (below_setRow D3.out.u.below D3.out.hp _), Blk.row D3.out.z⟩
          generalize wr.setRow p (arrD fun c => (dst l tg c : Int)) = W at hz ⊢
          go_wp2_with fail
          exact bodyPost_ret (v := .agg (arrD fun c => (dst l tg c : Int))) (results_cell_row (p := 4) (ty := 215) rfl _ _ p 215 _ (0, 0) (.array 31 2) rfl hz.out.2 (by kernel_rfl) rfl (by rw [arrD_size]; kernel_rfl)) rfl ⟨rfl, hz.out.1⟩
        | true =>
          have hm30 := hbm rfl
          clear hbm hb0
          go_wp2_with fail
          go_loopw [7, 26] (fun ch c wr => ∃ k : Nat, k ≤ 31 ∧ ch = .bool (anyL l tg (m + 1) k) ∧ c = i64 k ∧ Hid (DS w wr p q (midD l tg m k))) (fun _ c _ => 31 - (intOf c).toNat)
          case atStart => exact ⟨0, by omega, rfl, rfl, Lib.hid (D.out.congr fun i hi => by unfold midD; rw [if_neg (by omega)])⟩
          case round =>
            obtain ⟨k, hk, rfl, rfl, E⟩ := hrel
            clear D
            by_cases hlt : k < 31
            · have hlt' : (k : Int) < 31 := by omega
              have e0 := E.out.a.lt
              have e1 := E.out.cell hlt
              by_cases hd : dst l tg k ≤ m
              · have hmk : midD l tg m k k = (dst l tg k : Int) := by unfold midD lvl; rw [if_neg (by omega), if_pos hd]
                have hpos : (0 : Int) ≤ (dst l tg k : Int) := by omega
                rw [hmk] at e1
                go_wp2_with fail
                refine ⟨⟨k + 1, by omega, ?_, by go_num, Lib.hid (E.out.congr fun i _ => midD_skip hd i)⟩, by simp [intOf]; try omega⟩
                rw [anyL_step, decide_eq_false (by omega), Bool.or_false]
              · have hmk : midD l tg m k k = -1 := by unfold midD lvl; rw [if_neg (by omega), if_neg hd]
                rw [hmk] at e1
                obtain ⟨b, hb⟩ : ∃ b, wr.heap.size = b := ⟨_, rfl⟩
                have hcv : (convert 22 22 (.slice (some ⟨b, 0, none⟩) 3 3)).run Tryz.prog (wr.alloc (.cells #[.int .u8 35, .int .u8 60, .int .u8 62] 5)) = .ok (.slice (some ⟨b, 0, none⟩) 3 3) (wr.alloc (.cells #[.int .u8 35, .int .u8 60, .int .u8 62] 5 (3, 4))) := by
                  subst hb
                  exact Lib.run_convert_bytes_const wr 22 5 #[.int .u8 35, .int .u8 60, .int .u8 62] 3 3 Tryz.underlying22 Tryz.underlying5
                have hl3 : Hid (Lit3 (wr.alloc (.cells #[.int .u8 35, .int .u8 60, .int .u8 62] 5 (3, 4))) b) := by
                  subst hb
                  exact Lib.hid (by show (wr.heap.push _)[wr.heap.size]? = _; simp)
                go_wp2_with fail
                go_loopw [36] (fun jj wr => ∃ j : Nat, j ≤ 3 ∧ jj = i64 j ∧ Hid (DS w wr p q (fun i => if i = k then (if hitM l tg m k j then ((m : Int) + 1) else -1) else midD l tg m k i) ∧ Lit3 wr b ∧ b ≠ q)) (fun jj _ => 3 - (intOf jj).toNat)
                case atStart => exact ⟨0, by omega, rfl, Lib.hid ⟨(E.out.below (BL.o (by repeat constructor))).congr fun i hi => by
                  by_cases e : i = k
                  · rw [if_pos e, e, hmk]; rfl
                  · rw [if_neg e], hl3.out, by have := E.out.a.lt; omega⟩⟩
                case round =>
                  obtain ⟨j, hj, rfl, F⟩ := hrel
                  clear E hl3 hcv e0 e1
                  by_cases hj3 : j < 3
                  · have hj' : (j : Int) < 3 := by omega
                    have f1 := F.out.2.1.cell hj3
                    have f2 : ∀ V, Below wr.heap.size wr V → Rds V 1 A l.length (ics l) := fun V hV => HR.out.below (F.out.1.u.tr hV).below
                    have F2 := Lib.hid f2
                    clear f2
                    have hk30 : k ≤ 30 := by omega
                    cases hm : mvTo l j k with
                    | none =>
                      obtain ⟨v, hv⟩ : ∃ v : Int, mvX l j k = v := ⟨_, rfl⟩
                      have hc : ∀ V, Below wr.heap.size wr V → Calls Tryz.prog 207 #[.slice A l.length cap, i64 k, .int .u8 ((mvB j).toNat : Int)] V fun e w' => e = .returned (.tuple #[i64 v, .bool false]) ∧ UpOf V w' := fun V hV => by
                        have := moved_any j k A cap l V hj3 hk30 (F2.out V hV) hn _ rfl
                        rwa [hv, hm] at this
                      have HC := Lib.hid hc
                      clear hc hv
                      have hh : hitM l tg m k (j + 1) = hitM l tg m k j := by rw [hitM_step, hm, Bool.or_false]
                      clear F2
                      go_wp2_with (first | (go_at_call 207; refine (HC.out _ (BL.o (by repeat constructor))).mono ?_; rintro e w' ⟨rfl, g, rfl⟩) | ((with_reducible refine wp_region_up (by kernel_rfl) (by kernel_rfl) ?_); (repeat (go_big_quiet_step (first | (go_at_call 207; first | exact upq_tr (HC.out _ (BL.o (by repeat constructor))) | exact upq (HC.out _ (BL.o (by repeat constructor))))))); refine wpQuiet_nil ?_; intro _ hw'; obtain ⟨nq, hw''⟩ := hw'; subst hw''))
                      go_roundw
                      case rel => exact ⟨j + 1, by omega, by go_num, Lib.hid ⟨(F.out.1.below (BL.o (by repeat constructor))).congr fun i _ => by rw [hh], F.out.2.1.below (BL.o (by repeat constructor)), F.out.2.2⟩⟩
                      case measure => simp [intOf]; try omega
                    | some d =>
                      have hne := mvTo_ne HV.out hm
                      have hd30 := mvTo_bd HV.out hk30 hm
                      have hc : ∀ V, Below wr.heap.size wr V → Calls Tryz.prog 207 #[.slice A l.length cap, i64 k, .int .u8 ((mvB j).toNat : Int)] V fun e w' => e = .returned (.tuple #[i64 d, .bool true]) ∧ UpOf V w' := fun V hV => by
                        have := moved_any j k A cap l V hj3 hk30 (F2.out V hV) hn _ rfl
                        rwa [mvX_eq HV.out hm, hm] at this
                      have HC := Lib.hid hc
                      clear hc F2
                      have hdn : (d : Int) < 31 := by omega
                      have hh : hitM l tg m k (j + 1) = (hitM l tg m k j || decide (dst l tg d = m)) := by rw [hitM_step, hm]
                      have hcell : ∀ g : Up wr, (up wr g).cell? ⟨q, d, none⟩ = some (i64 (midD l tg m k d)) := fun g => by
                        have := (F.out.1.below g.below).cell (i := d) (by omega)
                        rw [if_neg hne] at this
                        exact this
                      have hval := midD_val l tg m k d
                      have hfr : ∀ g : Up wr, (up wr g).frozen? ⟨q, k, none⟩ = false := fun g => (F.out.1.below g.below).a.free k
                      obtain ⟨o, hex⟩ : ∃ o, ∀ g : Up wr, (up wr g).cell? ⟨q, k, none⟩ = some (i64 o) := ⟨_, fun g => (F.out.1.below g.below).cell (i := k) (by omega)⟩
                      generalize midD l tg m k d = v at hcell hval
                      by_cases e : dst l tg d = m
                      · rw [decide_eq_true e] at hval
                        go_wp2_with (first | (go_at_call 207; refine (HC.out _ (BL.o (by repeat constructor))).mono ?_; rintro e w' ⟨rfl, g, rfl⟩) | ((with_reducible refine wp_region_up (by kernel_rfl) (by kernel_rfl) ?_); (repeat (go_big_quiet_step (first | (go_at_call 207; first | exact upq_tr (HC.out _ (BL.o (by repeat constructor))) | exact upq (HC.out _ (BL.o (by repeat constructor))))))); refine wpQuiet_nil ?_; intro _ hw'; obtain ⟨nq, hw''⟩ := hw'; subst hw''))
                        go_roundw
                        case rel => exact ⟨j + 1, by omega, by go_num, Lib.hid ⟨((F.out.1.below (BL.o (by repeat constructor))).put k ((m : Int) + 1)).congr fun i _ => by
                          rw [hh, decide_eq_true e, Bool.or_true, if_pos rfl]
                          by_cases q : i = k
                          · rw [if_pos q, if_pos q]
                          · rw [if_neg q, if_neg q, if_neg q], (F.out.2.1.below (BL.o (by repeat constructor))).far F.out.2.2 _, F.out.2.2⟩⟩
                        case measure => simp [intOf]; try omega
                      · rw [decide_eq_false e] at hval
                        go_wp2_with (first | (go_at_call 207; refine (HC.out _ (BL.o (by repeat constructor))).mono ?_; rintro e w' ⟨rfl, g, rfl⟩) | ((with_reducible refine wp_region_up (by kernel_rfl) (by kernel_rfl) ?_); (repeat (go_big_quiet_step (first | (go_at_call 207; first | exact upq_tr (HC.out _ (BL.o (by repeat constructor))) | exact upq (HC.out _ (BL.o (by repeat constructor))))))); refine wpQuiet_nil ?_; intro _ hw'; obtain ⟨nq, hw''⟩ := hw'; subst hw''))
                        go_roundw
                        case rel => exact ⟨j + 1, by omega, by go_num, Lib.hid ⟨(F.out.1.below (BL.o (by repeat constructor))).congr fun i _ => by rw [hh, decide_eq_false e, Bool.or_false], F.out.2.1.below (BL.o (by repeat constructor)), F.out.2.2⟩⟩
                        case measure => simp [intOf]; try omega
                  · obtain rfl : j = 3 := by omega
                    have G := Lib.hid (F.out.1.congr fun i _ => midD_step HV.out ht (by omega) (Nat.lt_of_not_le hd) i)
                    have g1 := G.out.cell hlt
                    have g0 := G.out.a.lt
                    clear F
                    have hmv : midD l tg m (k + 1) k = if dst l tg k = m + 1 then (m : Int) + 1 else -1 := by
                      unfold midD lvl
                      (repeat' split) <;> omega
                    rw [hmv] at g1
                    have hst := anyL_step l tg (m + 1) k
                    cases ha : anyL l tg (m + 1) k with
                    | true =>
                      rw [ha, Bool.true_or] at hst
                      go_wp2_with fail
                      refine ⟨⟨k + 1, by omega, by rw [hst], by go_num, G⟩, by simp [intOf]; try omega⟩
                    | false =>
                      rw [ha, Bool.false_or] at hst
                      by_cases e : dst l tg k = m + 1
                      · rw [if_pos e] at g1
                        rw [decide_eq_true e] at hst
                        have hp : (0 : Int) ≤ (m : Int) + 1 := by omega
                        go_wp2_with fail
                        refine ⟨⟨k + 1, by omega, by rw [hst], by go_num, G⟩, by simp [intOf]; try omega⟩
                      · rw [if_neg e] at g1
                        rw [decide_eq_false e] at hst
                        go_wp2_with fail
                        refine ⟨⟨k + 1, by omega, by rw [hst], by go_num, G⟩, by simp [intOf]; try omega⟩
            · obtain rfl : k = 31 := by omega
              clear hlt
              go_wp2_with fail
              refine ⟨⟨anyL l tg (m + 1) 31, m + 1, rfl, by go_num, by omega, fun h => anyL_true ht h, Lib.hid (fun h c hc => Nat.le_succ_of_le (dst_gap (m := m) HV.out ht (anyL_false h) c hc)), Lib.hid (E.out.congr fun i hi => by unfold midD; rw [if_pos (show i < 31 from hi)])⟩, by simp [intOf]; try omega⟩
end Go.Proofs.YtbianlkenallaaaGreatDoor
namespace Go.Proofs.YtbianlkenallaaaGreatDoor
open Go.RowKit
set_option maxRecDepth 10000 in
set_option maxHeartbeats 4000000 in
theorem planBetween_any (c0 tg : Nat) (A : Option Addr) (cap : Nat) (l : List Int) (w : World) (hc0 : c0 ≤ 30) (ht : tg ≤ 30) (hv : vStops l = true) (h : Rds w 1 A l.length (ics l)) (hn : l.length ≤ 100000000) :
    Calls Tryz.prog 168 #[.slice A l.length cap, i64 c0, i64 tg] w fun e w' => e = .returned (.string ⟨(planL l tg c0).toArray⟩) ∧ UpOf w w' := by
  have HR := Lib.hid h
  have HV := Lib.hid hv
  have HC : Hid (∀ V, Below w.heap.size w V → Calls Tryz.prog 206 #[.slice A l.length cap, i64 tg] V fun e w' => e = .returned (.agg (arrD fun c => dst l tg c)) ∧ UpOf V w') := Lib.hid fun V hV => distances_any tg A cap l V ht hv (h.below hV) hn
  clear h hv
  have hst : ∀ g : Up w, (storeCells ⟨(up w g).heap.size, 0, none⟩ (arrD fun c => dst l tg c).toList 0).run Tryz.prog (up w (g.al (.cells #[Value.int .i64 0, Value.int .i64 0, Value.int .i64 0, Value.int .i64 0, Value.int .i64 0, Value.int .i64 0, Value.int .i64 0, Value.int .i64 0, Value.int .i64 0, Value.int .i64 0, Value.int .i64 0, Value.int .i64 0, Value.int .i64 0, Value.int .i64 0, Value.int .i64 0, Value.int .i64 0, Value.int .i64 0, Value.int .i64 0, Value.int .i64 0, Value.int .i64 0, Value.int .i64 0, Value.int .i64 0, Value.int .i64 0, Value.int .i64 0, Value.int .i64 0, Value.int .i64 0, Value.int .i64 0, Value.int .i64 0, Value.int .i64 0, Value.int .i64 0, Value.int .i64 0] 215))) = .ok () (up w (g.al (.cells (arrD fun c => dst l tg c) 215))) := fun g => run_storeCells_new (P := Tryz.prog) (up w g) 215 _ (arrD fun c => dst l tg c) (by rw [arrD_size]; kernel_rfl) (by rw [arrD_size]; rfl) (arrD_one _)
  go_enter Tryz.func168, Tryz.ntmps168
  go_wp2_with (first | (go_at_call 206; refine (HC.out _ (BL.o (by repeat constructor))).mono ?_; rintro e w' ⟨rfl, g, rfl⟩) | ((with_reducible refine wp_region_up (by kernel_rfl) (by kernel_rfl) ?_); (repeat (go_big_quiet_step (first | (go_at_call 206; first | exact upq_tr (HC.out _ (BL.o (by repeat constructor))) | exact upq (HC.out _ (BL.o (by repeat constructor))))))); refine wpQuiet_nil ?_; intro _ hw'; obtain ⟨nq, hw''⟩ := hw'; subst hw''))
  obtain ⟨V, hV⟩ : ∃ V, up w (g.al (.cells (arrD fun c => dst l tg c) 215)) = V := ⟨_, rfl⟩
  have hs : V.heap.size = (up w g).heap.size + 1 := by rw [← hV]; exact size_al _
  have HA : Hid (Blk V (up w g).heap.size 215 (arrD fun c => dst l tg c)) := Lib.hid (by rw [← hV]; exact Blk.new_al _ _)
  have HU : Hid (UpOf w V) := Lib.hid (by rw [← hV]; exact UpOf.of (BL.o (by repeat constructor)))
  have HO : Hid ((V.alloc (.cells #[] 5)).ownsRow V.heap.size 5 1 (.slice (some ⟨(up w g).heap.size + 1, 0, none⟩) 0 0) 0 (Lib.byteCells [])) := Lib.hid (by
    have := World.ownsRow_lit (base := V.heap.size) (e := 5) (size := 1) V #[] 0 (Nat.le_refl _) (by unfold maxLen; omega) rfl
    rw [← hs]
    exact this)
  refine wpg (R := fun U => ∃ gq : Up V, U = up V gq ∧ Hid (U.ownsRow V.heap.size 5 1 (.slice (some ⟨(up w g).heap.size + 1, 0, none⟩) 0 0) 0 (Lib.byteCells []))) ⟨⟨V.alloc (.cells #[] 5), (BL.o (by repeat constructor))⟩, by subst hV; rfl, Lib.hid (by subst hV; exact HO.out)⟩ (fun U z => ?_)
  obtain ⟨gV, rfl, HOV⟩ := z
  clear hV hs HO hst HC
  generalize (up w g).heap.size = p at *
  go_loopw [1, 8] (fun cur out wr => ∃ (c : Nat) (L : List UInt8) (A1 : Option Addr) (c1 : Nat), c ≤ 30 ∧ cur = i64 c ∧ out = .slice A1 L.length c1 ∧ Hid (planL l tg c0 = L ++ planL l tg c) ∧ Hid (wr.ownsRow V.heap.size 5 1 (.slice A1 L.length c1) L.length (Lib.byteCells L)) ∧ ∃ g : Up V, wr = up V g) (fun cur _ _ => dst l tg (intOf cur).toNat)
  case atStart => exact ⟨c0, [], _, _, hc0, rfl, rfl, Lib.hid rfl, HOV, _, rfl⟩
  case round =>
    obtain ⟨c, L, A1, c1, hc, rfl, rfl, HP, HO, g1, rfl⟩ := hrel
    clear HOV
    by_cases he : c = tg
    · have hne : ((c : Int) != (tg : Int)) = false := by rw [he]; simp
      have hcv := conv_own HO.out rfl (Below.refl _ _)
      go_wp2_with (first | ((with_reducible refine wp_region_up (by kernel_rfl) (by kernel_rfl) ?_); (repeat (go_big_quiet_step (fail))); refine wpQuiet_nil ?_; intro _ hw'; obtain ⟨nq, hw''⟩ := hw'; subst hw''))
      go_ret
      refine ⟨?_, HU.out.tr (BL.o (by repeat constructor))⟩
      show Ending.returned (.string ⟨L.toArray⟩) = _
      rw [HP.out, he, planL_self l ht, List.append_nil]
    · have hne : ((c : Int) != (tg : Int)) = true := by simp; omega
      obtain ⟨b, hb⟩ : ∃ b, (up V g1).heap.size = b := ⟨_, rfl⟩
      have hcv : (convert 22 22 (.slice (some ⟨b, 0, none⟩) 3 3)).run Tryz.prog (up V (g1.al (.cells #[.int .u8 35, .int .u8 60, .int .u8 62] 5))) = .ok (.slice (some ⟨b, 0, none⟩) 3 3) (up V (g1.al (.cells #[.int .u8 35, .int .u8 60, .int .u8 62] 5 (3, 4)))) := by
        subst hb
        exact Lib.run_convert_bytes_const (up V g1) 22 5 #[.int .u8 35, .int .u8 60, .int .u8 62] 3 3 Tryz.underlying22 Tryz.underlying5
      have hl3 : Hid (Lit3 (up V (g1.al (.cells #[.int .u8 35, .int .u8 60, .int .u8 62] 5 (3, 4)))) b) := by
        subst hb
        exact Lib.hid (by show ((up V g1).heap.push _)[(up V g1).heap.size]? = _; simp)
      go_wp2_with (first | ((with_reducible refine wp_region_up (by kernel_rfl) (by kernel_rfl) ?_); (repeat (go_big_quiet_step (fail))); refine wpQuiet_nil ?_; intro _ hw'; obtain ⟨nq, hw''⟩ := hw'; subst hw''))
      go_loopw [1, 8, 23] (fun cur out jj wr => ∃ j : Nat, j ≤ 3 ∧ cur = i64 c ∧ out = .slice A1 L.length c1 ∧ jj = i64 j ∧ Hid (∀ i, i < j → goodMv l tg c i = none) ∧ Hid (Lit3 wr b) ∧ Hid (wr.ownsRow V.heap.size 5 1 (.slice A1 L.length c1) L.length (Lib.byteCells L)) ∧ ∃ g : Up V, wr = up V g) (fun _ _ jj _ => 3 - (intOf jj).toNat)
      case atStart => exact ⟨0, by omega, rfl, rfl, rfl, Lib.hid (fun i hi => by omega), hl3, Lib.hid (own_below HO.out (BL.o (by repeat constructor))), _, rfl⟩
      case round =>
        obtain ⟨j, hj, rfl, rfl, rfl, HG, HL, HQ, g2, rfl⟩ := hrel
        clear HO hl3 hcv
        by_cases hj3 : j < 3
        · have hj' : (j : Int) < 3 := by omega
          have f1 := HL.out.cell hj3
          have hL30 : L.length ≤ 30 := by
            have := planL_len l ht hc0
            rw [HP.out, List.length_append] at this
            omega
          cases hm : mvTo l j c with
          | none =>
            obtain ⟨v, hv⟩ : ∃ v : Int, mvX l j c = v := ⟨_, rfl⟩
            have HC : Hid (∀ W, Below V.heap.size V W → Calls Tryz.prog 207 #[.slice A l.length cap, i64 c, .int .u8 ((mvB j).toNat : Int)] W fun e w' => e = .returned (.tuple #[i64 v, .bool false]) ∧ UpOf W w') := Lib.hid fun W hW => by
              have := moved_any j c A cap l W hj3 hc (HR.out.below (HU.out.tr hW).below) hn _ rfl
              rwa [hv, hm] at this
            clear hv
            have hg : ∀ i, i < j + 1 → goodMv l tg c i = none := fun i hi => by
              by_cases q : i = j
              · subst q; unfold goodMv; rw [hm]
              · exact HG.out i (by omega)
            go_wp2_with (first | (go_at_call 207; refine (HC.out _ (BL.o (by repeat constructor))).mono ?_; rintro e w' ⟨rfl, g, rfl⟩) | ((with_reducible refine wp_region_up (by kernel_rfl) (by kernel_rfl) ?_); (repeat (go_big_quiet_step (first | (go_at_call 207; first | exact upq_tr (HC.out _ (BL.o (by repeat constructor))) | exact upq (HC.out _ (BL.o (by repeat constructor))))))); refine wpQuiet_nil ?_; intro _ hw'; obtain ⟨nq, hw''⟩ := hw'; subst hw''))
            go_roundw
            case rel => exact ⟨j + 1, by omega, rfl, rfl, by go_num, Lib.hid hg, Lib.hid (HL.out.below (BL.o (by repeat constructor))), Lib.hid (own_below HQ.out (BL.o (by repeat constructor))), _, rfl⟩
            case measure => simp [intOf]; try omega
          | some d =>
            have hd30 := mvTo_bd HV.out hc hm
            have hdn : (d : Int) < 31 := by omega
            have hcn : (c : Int) < 31 := by omega
            have HC : Hid (∀ W, Below V.heap.size V W → Calls Tryz.prog 207 #[.slice A l.length cap, i64 c, .int .u8 ((mvB j).toNat : Int)] W fun e w' => e = .returned (.tuple #[i64 d, .bool true]) ∧ UpOf W w') := Lib.hid fun W hW => by
              have := moved_any j c A cap l W hj3 hc (HR.out.below (HU.out.tr hW).below) hn _ rfl
              rwa [mvX_eq HV.out hm, hm] at this
            have hc1 : ∀ g : Up V, (up V g).cell? ⟨p, d, none⟩ = some (i64 (dst l tg d)) := fun g => by rw [(HA.out.up g).cell, arrD_get _ (by omega)]
            have hc2 : ∀ g : Up V, (up V g).cell? ⟨p, c, none⟩ = some (i64 (dst l tg c)) := fun g => by rw [(HA.out.up g).cell, arrD_get _ (by omega)]
            have hx1 : (dst l tg d : Int) ≤ 30 := by have := (dst_spec l ht hd30).1; omega
            have hx2 : (dst l tg c : Int) ≤ 30 := by have := (dst_spec l ht hc).1; omega
            have hx3 : (0 : Int) ≤ (dst l tg c : Int) := by omega
            by_cases e : dst l tg d + 1 = dst l tg c
            · have ht1 : ((dst l tg d : Int) == (dst l tg c : Int) - 1) = true := by rw [beq_iff_eq]; omega
              have hgj : goodMv l tg c j = some d := by unfold goodMv; rw [hm]; exact if_pos e
              have hps := Lib.hid (planL_step hj3 HG.out hgj)
              have hlt : dst l tg d < dst l tg c := by omega
              go_wp2_with (first | (go_at_call 207; refine (HC.out _ (BL.o (by repeat constructor))).mono ?_; rintro e w' ⟨rfl, g, rfl⟩) | (at_builtin; go_must (refine wpl_appU rfl _ _ 22 rfl V V.heap.size 5 _ 1 1 el_byte (.slice A1 L.length c1) L.length (Lib.byteCells L) rfl (own_below HQ.out (BL.o (by repeat constructor))) _ 1 1 [.int .u8 ((mvB j).toNat : Int)] rfl (rds_new _ _ _ 1 1 rfl) (fun u hu => by simp at hu; subst hu; rfl) (by unfold maxLen; omega) (by omega) (up_below V _).size (BL.o (by repeat constructor)) (Nat.le_refl _) ?_; intro A2 c2 g2 o2)) | ((with_reducible refine wp_region_up (by kernel_rfl) (by kernel_rfl) ?_); (repeat (go_big_quiet_step (first | (go_at_call 207; first | exact upq_tr (HC.out _ (BL.o (by repeat constructor))) | exact upq (HC.out _ (BL.o (by repeat constructor))))))); refine wpQuiet_nil ?_; intro _ hw'; obtain ⟨nq, hw''⟩ := hw'; subst hw''))
              refine ⟨⟨d, L ++ [mvB j], A2, c2, hd30, rfl, congrArg (fun n => Value.slice A2 n c2) (by simp), Lib.hid (by rw [HP.out, hps.out, List.append_assoc]; rfl), Lib.hid ?_, _, rfl⟩, by simpa [intOf] using hlt⟩
              rw [show [Value.int .u8 ((mvB j).toNat : Int)] = Lib.byteCells [mvB j] from rfl, byteCells_snoc, show L.length + 1 = (L ++ [mvB j]).length by simp] at o2
              exact o2
            · have ht1 : ((dst l tg d : Int) == (dst l tg c : Int) - 1) = false := by rw [beq_eq_false_iff_ne]; omega
              have hg : ∀ i, i < j + 1 → goodMv l tg c i = none := fun i hi => by
                by_cases q : i = j
                · subst q; unfold goodMv; rw [hm]; exact if_neg e
                · exact HG.out i (by omega)
              go_wp2_with (first | (go_at_call 207; refine (HC.out _ (BL.o (by repeat constructor))).mono ?_; rintro e w' ⟨rfl, g, rfl⟩) | ((with_reducible refine wp_region_up (by kernel_rfl) (by kernel_rfl) ?_); (repeat (go_big_quiet_step (first | (go_at_call 207; first | exact upq_tr (HC.out _ (BL.o (by repeat constructor))) | exact upq (HC.out _ (BL.o (by repeat constructor))))))); refine wpQuiet_nil ?_; intro _ hw'; obtain ⟨nq, hw''⟩ := hw'; subst hw''))
              go_roundw
              case rel => exact ⟨j + 1, by omega, rfl, rfl, by go_num, Lib.hid hg, Lib.hid (HL.out.below (BL.o (by repeat constructor))), Lib.hid (own_below HQ.out (BL.o (by repeat constructor))), _, rfl⟩
              case measure => simp [intOf]; try omega
        · obtain rfl : j = 3 := by omega
          exact (goodMv_ex HV.out ht hc he HG.out).elim
end Go.Proofs.YtbianlkenallaaaGreatDoor
namespace Go.Proofs.YtbianlkenallaaaGreatDoor
open Go.RowKit
set_option maxRecDepth 10000 in
set_option maxHeartbeats 2000000 in
theorem isRow_any (s : ByteArray) (w : World) (hs : s.size ≤ 9223372036854775807) :
    Calls Tryz.prog 126 #[.string s] w fun e w' => e = .returned (.bool (isRowB s)) ∧ w = w' := by
  have HT : Hid (∀ V, Calls Tryz.prog 134 #[.string s, .int .u8 32, i64 30] V fun e w' => e = .returned (.bool (txtB 32 30 s)) ∧ V = w') := Lib.hid fun V => isText_any s 32 30 V (by omega) (by omega) hs
  have hr : Hid (isRowB s = (txtB 32 30 s && (decide (s.size = 0) || decide (byteAt s (s.size - 1) ≠ 32)))) := Lib.hid rfl
  cases hv : txtB 32 30 s with
  | false =>
    have HT2 : Hid (∀ V, Calls Tryz.prog 134 #[.string s, .int .u8 32, i64 30] V fun e w' => e = .returned (.bool false) ∧ V = w') := Lib.hid fun V => by rw [← hv]; exact HT.out V
    have hr2 : Hid (isRowB s = false) := Lib.hid (by rw [hr.out, hv]; rfl)
    clear HT hr hv
    go_enter Tryz.func126, Tryz.ntmps126
    go_wp2_with (first | (go_at_call 134; refine (HT2.out _).mono ?_; rintro e w' ⟨rfl, rfl⟩) | ((with_reducible refine wp_region_up (by kernel_rfl) (by kernel_rfl) ?_); (repeat (go_big_quiet_step (first | (go_at_call 134; first | exact upq_tr_same (HT2.out _) | exact upq_same (HT2.out _))))); refine wpQuiet_nil ?_; intro _ hw'; obtain ⟨nq, hw''⟩ := hw'; subst hw''))
    go_ret
    rw [hr2.out]
    exact ⟨rfl, rfl⟩
  | true =>
    have HT2 : Hid (∀ V, Calls Tryz.prog 134 #[.string s, .int .u8 32, i64 30] V fun e w' => e = .returned (.bool true) ∧ V = w') := Lib.hid fun V => by rw [← hv]; exact HT.out V
    clear HT
    by_cases h0 : s.size = 0
    · have hz := isEmpty_yes h0
      have hr2 : Hid (isRowB s = true) := Lib.hid (by rw [hr.out, hv, decide_eq_true h0]; rfl)
      clear hr hv
      go_enter Tryz.func126, Tryz.ntmps126
      go_wp2_with (first | (go_at_call 134; refine (HT2.out _).mono ?_; rintro e w' ⟨rfl, rfl⟩) | ((with_reducible refine wp_region_up (by kernel_rfl) (by kernel_rfl) ?_); (repeat (go_big_quiet_step (first | (go_at_call 134; first | exact upq_tr_same (HT2.out _) | exact upq_same (HT2.out _))))); refine wpQuiet_nil ?_; intro _ hw'; obtain ⟨nq, hw''⟩ := hw'; subst hw''))
      go_ret
      rw [hr2.out]
      exact ⟨rfl, rfl⟩
    · have hz := isEmpty_no (s := s) (by omega)
      have hlt : s.size - 1 < s.size := by omega
      have e := byteAt_eq hlt
      have hi1 : ((s.size : Int) - 1).toNat = s.size - 1 := by omega
      have hb : (((byteAt s (s.size - 1)).toNat : Int) != 32) = decide (byteAt s (s.size - 1) ≠ 32) := by
        rw [Bool.eq_iff_iff, bne_iff_ne, decide_eq_true_eq]
        constructor
        · intro h e; rw [e] at h; exact h rfl
        · intro h e; exact h (UInt8.toNat_inj.1 (by show (byteAt s (s.size - 1)).toNat = 32; omega))
      by_cases e2 : byteAt s (s.size - 1) = 32
      · have hb2 : (((byteAt s (s.size - 1)).toNat : Int) != 32) = false := by rw [hb, decide_eq_false (fun h => h e2)]
        have hr2 : Hid (isRowB s = false) := Lib.hid (by rw [hr.out, hv, decide_eq_false h0, decide_eq_false (fun h => h e2)]; rfl)
        clear hr hv hb e2
        go_enter Tryz.func126, Tryz.ntmps126
        go_wp2_with (first | (go_at_call 134; refine (HT2.out _).mono ?_; rintro e w' ⟨rfl, rfl⟩) | ((with_reducible refine wp_region_up (by kernel_rfl) (by kernel_rfl) ?_); (repeat (go_big_quiet_step (first | (go_at_call 134; first | exact upq_tr_same (HT2.out _) | exact upq_same (HT2.out _))))); refine wpQuiet_nil ?_; intro _ hw'; obtain ⟨nq, hw''⟩ := hw'; subst hw''))
        go_ret
        rw [hr2.out]
        exact ⟨rfl, rfl⟩
      · have hb2 : (((byteAt s (s.size - 1)).toNat : Int) != 32) = true := by rw [hb, decide_eq_true e2]
        have hr2 : Hid (isRowB s = true) := Lib.hid (by rw [hr.out, hv, decide_eq_false h0, decide_eq_true e2]; rfl)
        clear hr hv hb e2
        go_enter Tryz.func126, Tryz.ntmps126
        go_wp2_with (first | (go_at_call 134; refine (HT2.out _).mono ?_; rintro e w' ⟨rfl, rfl⟩) | ((with_reducible refine wp_region_up (by kernel_rfl) (by kernel_rfl) ?_); (repeat (go_big_quiet_step (first | (go_at_call 134; first | exact upq_tr_same (HT2.out _) | exact upq_same (HT2.out _))))); refine wpQuiet_nil ?_; intro _ hw'; obtain ⟨nq, hw''⟩ := hw'; subst hw''))
        go_ret
        rw [hr2.out]
        exact ⟨rfl, rfl⟩
/-- how many moves a row takes -/
def rowM (l : List Int) : Nat → Nat → List UInt8 → Nat
  | _, _, [] => 0
  | at', i, c :: t => if c = 32 then rowM l at' (i + 1) t else (planL l i at').length + rowM l (i + 1) (i + 1) t
set_option maxRecDepth 10000 in
set_option maxHeartbeats 4000000 in
theorem rowPlanI_any (s : ByteArray) (A : Option Addr) (cap : Nat) (l : List Int) (w : World) (hs : s.size ≤ 30) (hv : vStops l = true) (h : Rds w 1 A l.length (ics l)) (hn : l.length ≤ 100000000) :
    Calls Tryz.prog 127 #[.slice A l.length cap, .string s] w fun e w' => e = .returned (.tuple #[.string (bs (rowA l 0 0 s.data.toList)), i64 (rowM l 0 0 s.data.toList)]) ∧ UpOf w w' := by
  obtain ⟨L, hL⟩ : ∃ L, s.data.toList = L := ⟨_, rfl⟩
  have HL := Lib.hid hL
  have hLn := Lib.hid (show L.length = s.size by rw [← hL]; rfl)
  have HR := Lib.hid h
  have HV := Lib.hid hv
  rw [hL]
  clear h hv hL
  go_enter Tryz.func127, Tryz.ntmps127
  go_wp2_with (first | ((with_reducible refine wp_region_up (by kernel_rfl) (by kernel_rfl) ?_); (repeat (go_big_quiet_step (fail))); refine wpQuiet_nil ?_; intro _ hw'; obtain ⟨nq, hw''⟩ := hw'; subst hw''))
  go_loopw [6, 7, 8, 13] (fun out cnt at' i wr => ∃ (k a m : Nat) (T : List UInt8), k ≤ s.size ∧ i = i64 k ∧ at' = i64 a ∧ cnt = i64 m ∧ out = .string (bs T) ∧ a ≤ 30 ∧ Hid (T.length ≤ 32 * k ∧ m ≤ 30 * k ∧ rowA l 0 0 L = T ++ rowA l a k (L.drop k) ∧ rowM l 0 0 L = m + rowM l a k (L.drop k)) ∧ ∃ g : Up w, wr = up w g) (fun _ _ _ i _ => s.size - (intOf i).toNat)
  case atStart => exact ⟨0, 0, 0, [], by omega, rfl, rfl, rfl, rfl, by omega, Lib.hid ⟨by simp, by omega, by simp, by simp⟩, ex_up (BL.o (by repeat constructor))⟩
  case round =>
    obtain ⟨k, a, m, T, hk, rfl, rfl, rfl, rfl, ha, HK, g, rfl⟩ := hrel
    by_cases hlt : k < s.size
    · have hkl : k < L.length := by rw [hLn.out]; exact hlt
      have h1 : (k : Int) + 1 ≤ (s.size : Int) := by omega
      have hob := Lib.hid (one_byte s HL.out hkl)
      have hdr := Lib.hid (drop_at hkl)
      have e := byteAt_eq hlt
      have hbk : byteAt s k = L.getD k 0 := by unfold byteAt; rw [HL.out]
      by_cases q : L.getD k 0 = 32
      · have hq : (((byteAt s k).toNat : Int) == 32) = true := by rw [hbk, q]; rfl
        have hrel2 := Lib.hid (show T.length ≤ 32 * (k + 1) ∧ m ≤ 30 * (k + 1) ∧ rowA l 0 0 L = T ++ rowA l a (k + 1) (L.drop (k + 1)) ∧ rowM l 0 0 L = m + rowM l a (k + 1) (L.drop (k + 1)) from by
          obtain ⟨q1, q2, q3, q4⟩ := HK.out
          rw [q3, q4, hdr.out, rowA, rowM, if_pos q, if_pos q]
          exact ⟨by omega, by omega, rfl, rfl⟩)
        clear q hkl HK hbk
        go_wp2_with (first | ((with_reducible refine wp_region_up (by kernel_rfl) (by kernel_rfl) ?_); (repeat (go_big_quiet_step (fail))); refine wpQuiet_nil ?_; intro _ hw'; obtain ⟨nq, hw''⟩ := hw'; subst hw''))
        refine ⟨⟨k + 1, a, m, T, by omega, by go_num, rfl, rfl, rfl, ha, hrel2, ex_up (BL.o (by repeat constructor))⟩, by simp [intOf]; try omega⟩
      · have hq : (((byteAt s k).toNat : Int) == 32) = false := by
          rw [beq_eq_false_iff_ne, hbk]
          intro h
          exact q (UInt8.toNat_inj.1 (by show (L.getD k 0).toNat = 32; omega))
        obtain ⟨P, hP⟩ : ∃ P, planL l k a = P := ⟨_, rfl⟩
        have hPl : P.length ≤ 30 := by rw [← hP]; exact planL_len l (by omega) ha
        have HC : Hid (∀ V, Below w.heap.size w V → Calls Tryz.prog 168 #[.slice A l.length cap, i64 a, i64 k] V fun e w' => e = .returned (.string (bs P)) ∧ UpOf V w') := Lib.hid fun V hV => by
          rw [← hP]
          exact planBetween_any a k A cap l V ha (by omega) HV.out (HR.out.below hV) hn
        have hsl : ∀ wx : World, (Instr.slice 9 (.string s) (some (i64 k)) (some (.int .i64 ((k : Int) + 1))) none).run Tryz.prog wx = .ok (.string (s.extract k (k + 1))) wx := fun wx => by
          have := run_slice_string (P := Tryz.prog) wx 9 s .i64 .i64 (k : Int) ((k + 1 : Nat) : Int) Tryz.underlying9 (by omega) (by omega) (by omega)
          simpa using this
        have hPz : (bs P).size = P.length := by rw [← bsz, bs_list]
        have hTz : T.length ≤ 960 := by have := HK.out.1; omega
        have hez : (s.extract k (k + 1)).size = 1 := by rw [hob.out]; rfl
        have hrel2 := Lib.hid (show (T ++ (P ++ 39 :: [L.getD k 0])).length ≤ 32 * (k + 1) ∧ m + P.length ≤ 30 * (k + 1) ∧ rowA l 0 0 L = (T ++ (P ++ 39 :: [L.getD k 0])) ++ rowA l (k + 1) (k + 1) (L.drop (k + 1)) ∧ rowM l 0 0 L = (m + P.length) + rowM l (k + 1) (k + 1) (L.drop (k + 1)) from by
          obtain ⟨q1, q2, q3, q4⟩ := HK.out
          rw [q3, q4, hdr.out, rowA, rowM, if_neg q, if_neg q, hP]
          refine ⟨by simp; omega, by omega, by simp, by omega⟩)
        have hmb : (m : Int) ≤ 1000 := by have := HK.out.2.1; omega
        clear q hkl HK hbk
        go_wp2_with (first | (go_at_call 168; refine (HC.out _ (BL.o (by repeat constructor))).mono ?_; rintro e w' ⟨rfl, g, rfl⟩) | ((with_reducible refine wp_region_up (by kernel_rfl) (by kernel_rfl) ?_); (repeat (go_big_quiet_step (first | (go_at_call 168; first | exact upq_tr (HC.out _ (BL.o (by repeat constructor))) | exact upq (HC.out _ (BL.o (by repeat constructor))))))); refine wpQuiet_nil ?_; intro _ hw'; obtain ⟨nq, hw''⟩ := hw'; subst hw''))
        refine ⟨⟨k + 1, k + 1, m + P.length, T ++ (P ++ 39 :: [L.getD k 0]), by omega, by go_num, by go_num, by go_num, congrArg Value.string ?_, by omega, hrel2, ex_up (BL.o (by repeat constructor))⟩, by simp [intOf]; try omega⟩
        rw [hob.out]
        apply ByteArray.ext
        apply Array.ext'
        simp
    · obtain rfl : k = s.size := by omega
      have hfin := Lib.hid (show rowA l 0 0 L = T ∧ rowM l 0 0 L = m from by
        obtain ⟨q1, q2, q3, q4⟩ := HK.out
        rw [q3, q4, List.drop_of_length_le (by rw [hLn.out]; exact Nat.le_refl _), rowA, rowM]
        simp)
      go_wp2_with (first | ((with_reducible refine wp_region_up (by kernel_rfl) (by kernel_rfl) ?_); (repeat (go_big_quiet_step (fail))); refine wpQuiet_nil ?_; intro _ hw'; obtain ⟨nq, hw''⟩ := hw'; subst hw''))
      go_ret2
      rw [hfin.out.1, hfin.out.2]
      exact ⟨rfl, UpOf.of (BL.o (by repeat constructor))⟩
theorem isRow_len {s : ByteArray} (h : isRowB s = true) : s.size ≤ 30 := by
  unfold isRowB at h
  rw [Bool.and_eq_true] at h
  exact (txtB_inv h.1).1
set_option maxRecDepth 10000 in
set_option maxHeartbeats 2000000 in
theorem rowPlanR_any (s : ByteArray) (A : Option Addr) (cap : Nat) (l : List Int) (w : World) (hs : s.size ≤ 9223372036854775807) (h : Rds w 1 A l.length (ics l)) (hn : l.length ≤ 100000000) :
    Calls Tryz.prog 74 #[.slice A l.length cap, .string s] w fun e w' => e = .returned (.tuple #[.string (rowR l s).1, i64 (rowR l s).2]) ∧ UpOf w w' := by
  have HR := Lib.hid h
  clear h
  cases hv : vStops l with
  | false =>
    have hr := Lib.hid (show rowR l s = (⟨#[]⟩, 1) by unfold rowR; rw [hv]; rfl)
    go_enter Tryz.func74, Tryz.ntmps74
    go_wp2_with (first | (go_at_call 66; refine (ret_as (validStops_any A cap l _ (HR.out.below (BL.o (by repeat constructor))) hn) hv).mono ?_; rintro e w' ⟨rfl, g, rfl⟩) | ((with_reducible refine wp_region_up (by kernel_rfl) (by kernel_rfl) ?_); (repeat (go_big_quiet_step (first | (go_at_call 66; first | exact upq_tr (ret_as (validStops_any A cap l _ (HR.out.below (BL.o (by repeat constructor))) hn) hv) | exact upq (ret_as (validStops_any A cap l _ (HR.out.below (BL.o (by repeat constructor))) hn) hv))))); refine wpQuiet_nil ?_; intro _ hw'; obtain ⟨nq, hw''⟩ := hw'; subst hw''))
    go_ret2
    rw [hr.out]
    exact ⟨rfl, UpOf.of (BL.o (by repeat constructor))⟩
  | true =>
    cases hi : isRowB s with
    | false =>
      have hr := Lib.hid (show rowR l s = (⟨#[]⟩, 2) by unfold rowR; rw [hv, hi]; rfl)
      go_enter Tryz.func74, Tryz.ntmps74
      go_wp2_with (first | (go_at_call 66; refine (ret_as (validStops_any A cap l _ (HR.out.below (BL.o (by repeat constructor))) hn) hv).mono ?_; rintro e w' ⟨rfl, g, rfl⟩) | (go_at_call 126; refine (ret_as (isRow_any s _ hs) hi).mono ?_; rintro e w' ⟨rfl, rfl⟩) | ((with_reducible refine wp_region_up (by kernel_rfl) (by kernel_rfl) ?_); (repeat (go_big_quiet_step (first | (go_at_call 66; first | exact upq_tr (ret_as (validStops_any A cap l _ (HR.out.below (BL.o (by repeat constructor))) hn) hv) | exact upq (ret_as (validStops_any A cap l _ (HR.out.below (BL.o (by repeat constructor))) hn) hv)) | (go_at_call 126; first | exact upq_tr_same (ret_as (isRow_any s _ hs) hi) | exact upq_same (ret_as (isRow_any s _ hs) hi))))); refine wpQuiet_nil ?_; intro _ hw'; obtain ⟨nq, hw''⟩ := hw'; subst hw''))
      go_ret2
      rw [hr.out]
      exact ⟨rfl, UpOf.of (BL.o (by repeat constructor))⟩
    | true =>
      have hr := Lib.hid (show rowR l s = (bs (rowA l 0 0 s.data.toList), 0) by unfold rowR; rw [hv, hi]; rfl)
      go_enter Tryz.func74, Tryz.ntmps74
      go_wp2_with (first | (go_at_call 66; refine (ret_as (validStops_any A cap l _ (HR.out.below (BL.o (by repeat constructor))) hn) hv).mono ?_; rintro e w' ⟨rfl, g, rfl⟩) | (go_at_call 126; refine (ret_as (isRow_any s _ hs) hi).mono ?_; rintro e w' ⟨rfl, rfl⟩) | (go_at_call 127; refine (rowPlanI_any s A cap l _ (isRow_len hi) hv (HR.out.below (BL.o (by repeat constructor))) hn).mono ?_; rintro e w' ⟨rfl, g, rfl⟩) | ((with_reducible refine wp_region_up (by kernel_rfl) (by kernel_rfl) ?_); (repeat (go_big_quiet_step (first | (go_at_call 66; first | exact upq_tr (ret_as (validStops_any A cap l _ (HR.out.below (BL.o (by repeat constructor))) hn) hv) | exact upq (ret_as (validStops_any A cap l _ (HR.out.below (BL.o (by repeat constructor))) hn) hv)) | (go_at_call 126; first | exact upq_tr_same (ret_as (isRow_any s _ hs) hi) | exact upq_same (ret_as (isRow_any s _ hs) hi)) | (go_at_call 127; first | exact upq_tr (rowPlanI_any s A cap l _ (isRow_len hi) hv (HR.out.below (BL.o (by repeat constructor))) hn) | exact upq (rowPlanI_any s A cap l _ (isRow_len hi) hv (HR.out.below (BL.o (by repeat constructor))) hn))))); refine wpQuiet_nil ?_; intro _ hw'; obtain ⟨nq, hw''⟩ := hw'; subst hw''))
      go_ret2
      rw [hr.out]
      exact ⟨rfl, UpOf.of (BL.o (by repeat constructor))⟩
end Go.Proofs.YtbianlkenallaaaGreatDoor
namespace Go.Proofs.YtbianlkenallaaaGreatDoor
open Go.RowKit
abbrev Amb := List UInt8 × List UInt8
/-- what is left where one word begins another: pairs up to (i, k) -/
structure FR (W : List (List UInt8)) (O : List Amb) (i k : Nat) : Prop where
  ok : ∀ p ∈ O, ∃ (a b : Nat) (u v : List UInt8), a ≠ b ∧ W[a]? = some u ∧ W[b]? = some v ∧ u.isPrefixOf v = true ∧ p = (v, v.drop u.length)
  all : ∀ (a b : Nat) (u v : List UInt8), (a < i ∨ (a = i ∧ b < k)) → a ≠ b → W[a]? = some u → W[b]? = some v → u.isPrefixOf v = true → (v, v.drop u.length) ∈ O
  len : O.length ≤ 10 * i + k
section
variable {W : List (List UInt8)} {O R : List Amb} {i k : Nat}
theorem FR.start (W : List (List UInt8)) : FR W [] 0 0 := ⟨fun p hp => (by cases hp), fun a b u v h => (by omega), by simp⟩
theorem FR.skip (h : FR W O i k) (hno : ∀ u v, i ≠ k → W[i]? = some u → W[k]? = some v → u.isPrefixOf v = false) : FR W O i (k + 1) :=
  ⟨h.ok, fun a b u v hab hne hu hv hp => by
    by_cases e : a = i ∧ b = k
    · obtain ⟨rfl, rfl⟩ := e
      rw [hno u v hne hu hv] at hp; cases hp
    · exact h.all a b u v (by omega) hne hu hv hp, by have := h.len; omega⟩
theorem FR.add (h : FR W O i k) {u v : List UInt8} (hne : i ≠ k) (hu : W[i]? = some u) (hv : W[k]? = some v) (hp : u.isPrefixOf v = true) : FR W (O ++ [(v, v.drop u.length)]) i (k + 1) :=
  ⟨fun p hpm => by
    rcases List.mem_append.1 hpm with hpm | hpm
    · exact h.ok p hpm
    · rw [List.mem_singleton] at hpm
      exact ⟨i, k, u, v, hne, hu, hv, hp, hpm⟩,
   fun a b u' v' hab hne' hu' hv' hp' => by
    rw [List.mem_append]
    by_cases e : a = i ∧ b = k
    · obtain ⟨rfl, rfl⟩ := e
      rw [hu] at hu'; injection hu' with hu'
      rw [hv] at hv'; injection hv' with hv'
      subst hu'; subst hv'
      exact .inr (List.mem_singleton.2 rfl)
    · exact .inl (h.all a b u' v' (by omega) hne' hu' hv' hp'), by rw [List.length_append]; have := h.len; simp; omega⟩
theorem FR.row (h : FR W O i W.length) (h10 : W.length ≤ 10) : FR W O (i + 1) 0 :=
  ⟨h.ok, fun a b u v hab hne hu hv hp => by
    have hb : b < W.length := (List.getElem?_eq_some_iff.1 hv).1
    exact h.all a b u v (by omega) hne hu hv hp, by have := h.len; omega⟩
/-- the state of the search -/
structure JW (W : List (List UInt8)) (O R : List Amb) : Prop where
  d : Dij W O R
  nd : (R.map (·.1)).Nodup
  ol : O.length ≤ 100 + 10 * R.length
  ob : ∀ p ∈ O, p.1.length ≤ 8 + 8 * R.length
  rb : ∀ p ∈ R, p.2.length ≤ 8 + 8 * R.length
theorem JW.start (h8 : ∀ w ∈ W, w.length ≤ 8) (h10 : W.length ≤ 10) (h : FR W O W.length 0) : JW W O [] where
  d := ⟨fun p hp => by
      obtain ⟨a, b, u, v, hne, hu, hv, hpf, rfl⟩ := h.ok p hp
      exact .base hne hu hv hpf,
    fun p hp => (by cases hp), fun i k u v hne hu hv hpf => .inr (h.all i k u v (.inl (List.getElem?_eq_some_iff.1 hu).1) hne hu hv hpf), fun p hp => (by cases hp)⟩
  nd := by simp
  ol := by have := h.len; simp; omega
  ob := fun p hp => by
    obtain ⟨a, b, u, v, hne, hu, hv, hpf, rfl⟩ := h.ok p hp
    have := h8 v (List.mem_of_getElem? hv)
    show v.length ≤ _
    omega
  rb := fun p hp => (by cases hp)
theorem sfx_le (h8 : ∀ w ∈ W, w.length ≤ 8) {r : List UInt8} (h : r ∈ sfxs W) : r.length ≤ 8 := by
  rw [sfxs, List.mem_flatMap] at h
  obtain ⟨w, hw, h⟩ := h
  rw [List.mem_map] at h
  obtain ⟨i, _, rfl⟩ := h
  rw [List.length_drop]
  have := h8 w hw
  omega
theorem JW.rest (h : JW W O R) (h8 : ∀ w ∈ W, w.length ≤ 8) {p : Amb} (hp : p ∈ O) : p.2.length ≤ 8 := sfx_le h8 (h.d.ok p hp).sfx
theorem JW.rl (h : JW W O R) (h8 : ∀ w ∈ W, w.length ≤ 8) (h10 : W.length ≤ 10) : R.length ≤ 90 := by
  have h1 := nodup_le (l := R.map (·.1)) (m := sfxs W) h.nd fun x hx => by
    rw [List.mem_map] at hx
    obtain ⟨p, hp, rfl⟩ := hx
    exact (h.d.best p hp).1.sfx
  rw [List.length_map] at h1
  exact Nat.le_trans h1 (sfxs_len h8 h10)
def om (O : List Amb) (i : Nat) : Amb := O.getD i ([], [])
theorem om_mem {i : Nat} (h : i < O.length) : om O i ∈ O := by
  rw [om, List.getD_eq_getElem?_getD, List.getElem?_eq_getElem h]
  exact List.getElem_mem h
theorem om_split {i : Nat} (h : i < O.length) : O = O.take i ++ om O i :: O.drop (i + 1) := by
  have e : O.drop i = om O i :: O.drop (i + 1) := by
    rw [om, List.getD_eq_getElem?_getD, List.getElem?_eq_getElem h]
    exact List.drop_eq_getElem_cons h
  rw [← e, List.take_append_drop]
theorem JW.drop (h : JW W O R) {i : Nat} (hi : i < O.length) {t : List UInt8} (hd : ((om O i).2, t) ∈ R) : JW W (O.take i ++ O.drop (i + 1)) R where
  d := by
    have := h.d
    rw [om_split hi] at this
    exact this.drop hd
  nd := h.nd
  ol := by rw [List.length_append, List.length_take, List.length_drop]; have := h.ol; omega
  ob := fun p hp => h.ob p (by
    rcases List.mem_append.1 hp with hp | hp
    · exact List.mem_of_mem_take hp
    · exact List.mem_of_mem_drop hp)
  rb := h.rb
theorem exR_len {r w m r' : List UInt8} (h : exR r w = some (m, r')) (hw : w.length ≤ 8) : m.length ≤ 8 := by
  unfold exR at h
  split at h
  · injection h with h; injection h with h1 h2
    rw [← h1]; simp
  · split at h
    · injection h with h; injection h with h1 h2
      rw [← h1, List.length_drop]; omega
    · cases h
theorem JW.take (h : JW W O R) (h8 : ∀ w ∈ W, w.length ≤ 8) (h10 : W.length ≤ 10) {i : Nat} (hi : i < O.length) (hm : ∀ q ∈ O, leT (om O i).1 q.1) (hd : ∀ t, ((om O i).2, t) ∉ R) :
    JW W (O.take i ++ O.drop (i + 1) ++ (if (om O i).2 = [] then [] else succs (om O i) W)) (((om O i).2, (om O i).1) :: R) where
  d := by
    have := h.d
    have hm' := hm
    rw [om_split hi] at this
    refine this.take (fun q hq => hm q ?_) hd
    rw [om_split hi]; exact hq
  nd := by
    rw [List.map_cons, List.nodup_cons]
    refine ⟨fun hx => ?_, h.nd⟩
    rw [List.mem_map] at hx
    obtain ⟨p, hp, e⟩ := hx
    exact hd p.2 (by have e' : p.1 = (om O i).2 := e; rw [← e']; exact hp)
  ol := by
    have h1 := h.ol
    have h2 := succs_len (om O i) W
    have h3 : (if (om O i).2 = [] then [] else succs (om O i) W).length ≤ 10 := by
      split
      · simp
      · omega
    rw [List.length_append, List.length_append, List.length_take, List.length_drop, List.length_cons]
    omega
  ob := fun p hp => by
    rw [List.length_cons]
    rw [List.mem_append, List.mem_append] at hp
    have h0 := h.ob (om O i) (om_mem hi)
    rcases hp with (hp | hp) | hp
    · have := h.ob p (List.mem_of_mem_take hp); omega
    · have := h.ob p (List.mem_of_mem_drop hp); omega
    · split at hp
      · cases hp
      · rw [succs, List.mem_filterMap] at hp
        obtain ⟨w, hw, he⟩ := hp
        cases hx : exR (om O i).2 w with
        | none => rw [hx] at he; cases he
        | some z =>
          rw [hx] at he
          injection he with he
          subst he
          have := exR_len (m := z.1) (r' := z.2) hx (h8 w hw)
          show ((om O i).1 ++ z.1).length ≤ _
          rw [List.length_append]
          omega
  rb := fun p hp => by
    rw [List.length_cons]
    rcases List.mem_cons.1 hp with rfl | hp
    · have := h.ob (om O i) (om_mem hi); show (om O i).1.length ≤ _; omega
    · have := h.rb p hp; omega
end
def ambE (p : Amb) : List Value := [.string ⟨p.1.toArray⟩, .string ⟨p.2.toArray⟩]
def ambC (O : List Amb) : List Value := O.flatMap ambE
theorem ambE_len (p : Amb) : (ambE p).length = 2 := rfl
theorem ambC_len (O : List Amb) : (ambC O).length = O.length * 2 := flat_len ambE_len O
theorem ambC_app (a b : List Amb) : ambC (a ++ b) = ambC a ++ ambC b := by simp [ambC]
theorem ambC_one (O : List Amb) : ∀ u ∈ ambC O, u.oneCell' = true := by
  intro u hu
  simp only [ambC, List.mem_flatMap, ambE, List.mem_cons, List.not_mem_nil, or_false] at hu
  obtain ⟨p, _, rfl | rfl⟩ := hu <;> rfl
theorem ambC_take : ∀ (O : List Amb) (k : Nat), ambC (O.take k) = (ambC O).take (k * 2)
  | [], k => by simp [ambC]
  | p :: O, 0 => by simp [ambC]
  | p :: O, k + 1 => by
    have := ambC_take O k
    rw [show (k + 1) * 2 = k * 2 + 1 + 1 by omega]
    simp only [ambC, List.take_succ_cons, List.flatMap_cons, ambE, List.cons_append, List.nil_append] at this ⊢
    rw [this]
theorem ambC_drop : ∀ (O : List Amb) (k : Nat), ambC (O.drop k) = (ambC O).drop (k * 2)
  | [], k => by simp [ambC]
  | p :: O, 0 => by simp [ambC]
  | p :: O, k + 1 => by
    have := ambC_drop O k
    rw [show (k + 1) * 2 = k * 2 + 1 + 1 by omega]
    simp only [ambC, List.drop_succ_cons, List.flatMap_cons, ambE, List.cons_append, List.nil_append] at this ⊢
    rw [this]
end Go.Proofs.YtbianlkenallaaaGreatDoor
namespace Go.Proofs.YtbianlkenallaaaGreatDoor
open Go.RowKit
set_option maxRecDepth 10000 in
theorem isLess_any (a b : ByteArray) (w : World) (ha : a.size ≤ 1000000) (hb : b.size ≤ 1000000) :
    Calls Tryz.prog 170 #[.string a, .string b] w fun e w' => e = .returned (.bool (lessT a.data.toList b.data.toList)) ∧ w = w' := by
  by_cases h : a.size = b.size
  · have h1 : ((a.size : Int) != (b.size : Int)) = false := by rw [h]; simp
    have hr : Hid (lessT a.data.toList b.data.toList = Op.bytesLess a.data.toList b.data.toList) := Lib.hid (by
      rw [lessT, bsz, bsz, decide_eq_false (by omega), decide_eq_true h, Bool.false_or, Bool.true_and])
    clear h
    go_enter Tryz.func170, Tryz.ntmps170
    go_wp2_with fail
    go_ret
    rw [hr.out]
    exact ⟨by simp [ByteArray.toList_eq], rfl⟩
  · have h1 : ((a.size : Int) != (b.size : Int)) = true := by rw [bne_iff_ne]; omega
    have hr : Hid (lessT a.data.toList b.data.toList = decide (a.size < b.size)) := Lib.hid (by
      rw [lessT, bsz, bsz, decide_eq_false (p := a.size = b.size) h, Bool.false_and, Bool.or_false])
    clear h
    go_enter Tryz.func170, Tryz.ntmps170
    go_wp2_with fail
    go_ret
    rw [hr.out]
    exact ⟨rfl, rfl⟩
/-- an end and a rest -/
abbrev amv (t r : ByteArray) : Value := .agg #[.string t, .string r]
def amO (t r : ByteArray) (o : Option Amb) : Value := match o with
  | none => .tuple #[amv ⟨#[]⟩ ⟨#[]⟩, .bool false]
  | some q => .tuple #[amv ⟨(t.data.toList ++ q.1).toArray⟩ ⟨q.2.toArray⟩, .bool true]
theorem sets2a {rb : Nat} {a V w : World} (hr : a.heap.size ≤ rb) (h1 : Below a.heap.size a V) (h2 : Below V.heap.size V w) (u0 u1 : Value) : Below a.heap.size a ((w.setCell ⟨rb, 0, none⟩ u0).setCell ⟨rb, 1, none⟩ u1) :=
  ((h1.trans (h2.mono h1.size)).setCell (p := ⟨rb, 0, none⟩) hr u0).setCell (p := ⟨rb, 1, none⟩) hr u1
theorem blk_new1a (w : World) (o : Obj) (t : TypeId) (cs : Array Value) : Blk ((w.alloc o).alloc (.cells cs t)) (w.heap.size + 1) t cs := by
  have := Blk.new (w.alloc o) t cs
  rwa [World.size_alloc] at this
set_option maxRecDepth 10000 in
set_option maxHeartbeats 1000000 in
theorem after_any (t r x : ByteArray) (w : World) (ht : t.size ≤ 1000000) (hr : r.size ≤ 1000) (hx : x.size ≤ 1000) :
    Calls Tryz.prog 171 #[amv t r, .string x] w fun e w' => e = .returned (amO t r (exR r.data.toList x.data.toList)) ∧ UpOf w w' := by
  have hp : Hid (∀ V : World, Calls Tryz.prog 208 #[.string r, .string x] V fun e w' => e = .returned (.bool (x.data.toList.isPrefixOf r.data.toList)) ∧ V = w') := Lib.hid fun V => (Tryz.strings_HasPrefix r x V).mono fun e w' h => ⟨h.1, h.2.symm⟩
  have hq : Hid (∀ V : World, Calls Tryz.prog 208 #[.string x, .string r] V fun e w' => e = .returned (.bool (r.data.toList.isPrefixOf x.data.toList)) ∧ V = w') := Lib.hid fun V => (Tryz.strings_HasPrefix x r V).mono fun e w' h => ⟨h.1, h.2.symm⟩
  go_enter Tryz.func171, Tryz.ntmps171
  go_upto_region 1 with (fail)
  refine wpg (R := fun V => Box V w.heap.size #[.string t, .string r] ∧ Blk V (w.heap.size + 1) 186 #[.string ⟨#[]⟩, .string ⟨#[]⟩] ∧ UpOf w V) ⟨(Box.new _ _ _).below (BL.o (by repeat constructor)), blk_new1a _ _ _ _, UpOf.of (BL.o (by repeat constructor))⟩ (fun V z => ?_)
  obtain ⟨⟨hp0, hc⟩, zb, zu⟩ := z
  have c0 : V.cell? ⟨w.heap.size, 0, none⟩ = some (.string t) := hc 0 _ rfl
  have c1 : V.cell? ⟨w.heap.size, 1, none⟩ = some (.string r) := hc 1 _ rfl
  have q0 : V.cell? ⟨w.heap.size + 1, 0, none⟩ = some (.string ⟨#[]⟩) := zb.cell 0
  have q1 : V.cell? ⟨w.heap.size + 1, 1, none⟩ = some (.string ⟨#[]⟩) := zb.cell 1
  have f0 := zb.free 0
  have f1 := zb.free 1
  have hq0 := zb.lt
  have HU := Lib.hid zu
  clear hc zb zu
  generalize hp9 : w.heap.size = p at hp0 c0 c1 q0 q1 f0 f1 hq0 ⊢
  generalize hq9 : p + 1 = q at hp0 c0 c1 q0 q1 f0 f1 hq0 ⊢
  have HB := Lib.hid (show w.heap.size ≤ q by omega)
  have hne : ¬ p = q := by omega
  clear hp9 hq9
  cases e1 : x.data.toList.isPrefixOf r.data.toList with
  | true =>
    have hP : Hid (∀ V : World, Calls Tryz.prog 208 #[.string r, .string x] V fun e w' => e = .returned (.bool true) ∧ V = w') := Lib.hid (by rw [← e1]; exact hp.out)
    have hle : x.size ≤ r.size := by
      have := (List.isPrefixOf_iff_prefix.1 e1).length_le
      rwa [bsz, bsz] at this
    have hr2 : Hid (amO t r (exR r.data.toList x.data.toList) = .tuple #[amv t (r.extract x.size r.size), .bool true]) := Lib.hid (by
      rw [exR, e1, if_pos rfl]
      show Value.tuple #[amv ⟨(t.data.toList ++ []).toArray⟩ ⟨(r.data.toList.drop x.data.toList.length).toArray⟩, .bool true] = _
      rw [List.append_nil, bs_extract, bsz, List.take_of_length_le (by rw [List.length_drop, bsz]; omega)])
    clear hp hq e1
    go_wp2_with (first | (go_at_call 208; refine (hP.out _).mono ?_; rintro e w' ⟨rfl, rfl⟩) | ((with_reducible refine wp_region_up (by kernel_rfl) (by kernel_rfl) ?_); (repeat (go_big_quiet_step (first | (go_at_call 208; first | exact upq_tr_same (hP.out _) | exact upq_same (hP.out _))))); refine wpQuiet_nil ?_; intro _ hw'; obtain ⟨nq, hw''⟩ := hw'; subst hw''))
    go_still_tail 8, (by kernel_rfl)
    change wpList _ _ _ _ _ (World.drew _)
    go_wp2_with fail
    refine bodyPost_ret (v := .tuple #[amv t (r.extract x.size r.size), .bool true]) (by simp [results, Tryz.results171, go_sem, hq0, q0, q1]) rfl ⟨by rw [hr2.out], UpOf.of (Below.drew (sets2a HB.out HU.out.below (BL.o (by repeat constructor)) _ _))⟩
  | false =>
    have hP : Hid (∀ V : World, Calls Tryz.prog 208 #[.string r, .string x] V fun e w' => e = .returned (.bool false) ∧ V = w') := Lib.hid (by rw [← e1]; exact hp.out)
    cases e2 : r.data.toList.isPrefixOf x.data.toList with
    | true =>
      have hQ : Hid (∀ V : World, Calls Tryz.prog 208 #[.string x, .string r] V fun e w' => e = .returned (.bool true) ∧ V = w') := Lib.hid (by rw [← e2]; exact hq.out)
      have hle : r.size ≤ x.size := by
        have := (List.isPrefixOf_iff_prefix.1 e2).length_le
        rwa [bsz, bsz] at this
      have hr2 : Hid (amO t r (exR r.data.toList x.data.toList) = .tuple #[amv (t ++ x.extract r.size x.size) (x.extract r.size x.size), .bool true]) := Lib.hid (by
        rw [exR, e1, e2, if_neg (by simp), if_pos rfl]
        have e : (⟨(x.data.toList.drop r.data.toList.length).toArray⟩ : ByteArray) = x.extract r.size x.size := by
          rw [bs_extract, bsz, List.take_of_length_le (by rw [List.length_drop, bsz]; omega)]
        show Value.tuple #[amv ⟨(t.data.toList ++ x.data.toList.drop r.data.toList.length).toArray⟩ ⟨(x.data.toList.drop r.data.toList.length).toArray⟩, .bool true] = _
        rw [e]
        congr 4
        rw [← e]
        apply ByteArray.ext
        apply Array.ext'
        simp)
      clear hp hq e1 e2
      go_wp2_with fail
      refine (hP.out _).mono ?_
      rintro e w' ⟨rfl, rfl⟩
      go_wp2_with fail
      refine (hQ.out _).mono ?_
      rintro e w' ⟨rfl, rfl⟩
      go_wp2_with fail
      exact bodyPost_ret (v := .tuple #[amv (t ++ x.extract r.size x.size) (x.extract r.size x.size), .bool true]) (by simp [results, Tryz.results171, go_sem, hq0, q0, q1]) rfl ⟨by rw [hr2.out], UpOf.of (sets2a HB.out HU.out.below (BL.o (by repeat constructor)) _ _)⟩
    | false =>
      have hQ : Hid (∀ V : World, Calls Tryz.prog 208 #[.string x, .string r] V fun e w' => e = .returned (.bool false) ∧ V = w') := Lib.hid (by rw [← e2]; exact hq.out)
      have hr2 : Hid (amO t r (exR r.data.toList x.data.toList) = .tuple #[amv ⟨#[]⟩ ⟨#[]⟩, .bool false]) := Lib.hid (by rw [exR, e1, e2]; rfl)
      clear hp hq e1 e2
      go_wp2_with fail
      refine (hP.out _).mono ?_
      rintro e w' ⟨rfl, rfl⟩
      go_wp2_with fail
      refine (hQ.out _).mono ?_
      rintro e w' ⟨rfl, rfl⟩
      go_wp2_with fail
      exact bodyPost_ret (v := .tuple #[amv ⟨#[]⟩ ⟨#[]⟩, .bool false]) (by simp [results, Tryz.results171, go_sem, hq0, q0, q1]) rfl ⟨by rw [hr2.out], UpOf.of (sets2a HB.out HU.out.below (BL.o (by repeat constructor)) _ _)⟩
end Go.Proofs.YtbianlkenallaaaGreatDoor
namespace Go.Proofs.YtbianlkenallaaaGreatDoor
open Go.RowKit
theorem el_amb : ElemOf Tryz.prog 183 186 (.agg #[.string ByteArray.empty, .string ByteArray.empty]) 2 32 := elem_of Tryz.underlying183 (by kernel_rfl) rfl (by omega)
theorem lists_get {ws : List ByteArray} {i : Nat} (h : i < ws.length) : (lists ws)[i]? = some (wd ws i).data.toList := by
  rw [lists, List.getElem?_map, List.getElem?_eq_getElem h, wd_eq h]; rfl
theorem lists_len (ws : List ByteArray) : (lists ws).length = ws.length := by simp [lists]
theorem amb_cells (t r : ByteArray) : ambC [(t.data.toList, r.data.toList)] = [.string t, .string r] := by
  cases t; cases r; simp [ambC, ambE]
set_option maxRecDepth 10000 in
set_option maxHeartbeats 4000000 in
theorem firstRests_any (A : Option Addr) (c : Nat) (ws : List ByteArray) (w : World) (h : Rds w 1 A ws.length (strs ws)) (hn : ws.length ≤ 10) (h8 : ∀ i, i < ws.length → (wd ws i).size ≤ 8) :
    Calls Tryz.prog 169 #[.slice A ws.length c] w fun e w' => ∃ g cp O, e = .returned (.slice g O.length cp) ∧ FR (lists ws) O ws.length 0 ∧ w'.ownsRow w.heap.size 186 2 (.slice g O.length cp) O.length (ambC O) ∧ UpOf w w' := by
  have HR := Lib.hid h
  have H8 := Lib.hid h8
  have hOwn := Lib.hid (World.ownsRow_lit (base := w.heap.size) (e := 186) (size := 2) w #[] 0 (Nat.le_refl _) (by unfold maxLen; omega) rfl)
  clear h h8
  go_enter Tryz.func169, Tryz.ntmps169
  go_wp2_with (first | ((with_reducible refine wp_region_up (by kernel_rfl) (by kernel_rfl) ?_); (repeat (go_big_quiet_step (fail))); refine wpQuiet_nil ?_; intro _ hw'; obtain ⟨nq, hw''⟩ := hw'; subst hw''))
  go_loopw [3, 11] (fun t3 t11 wr => ∃ (i : Nat) (g : Option Addr) (cp : Nat) (O : List Amb), i ≤ ws.length ∧ t11 = i64 i ∧ t3 = .slice g O.length cp ∧ Hid (FR (lists ws) O i 0) ∧ Hid (wr.ownsRow w.heap.size 186 2 (.slice g O.length cp) O.length (ambC O)) ∧ ∃ g : Up w, wr = up w g) (fun _ t11 _ => ws.length - (intOf t11).toNat)
  case atStart => exact ⟨0, _, _, [], by omega, rfl, rfl, Lib.hid (FR.start _), Lib.hid hOwn.out, ex_up (BL.o (by repeat constructor))⟩
  case round =>
    obtain ⟨i, g, cp, O, hi, rfl, rfl, HF, HO, gw, rfl⟩ := hrel
    clear hOwn
    by_cases hlt : i < ws.length
    · obtain ⟨b, off, rfl, hb, c0⟩ := wd_at HR.out hlt
      have HC0 := Lib.hid c0
      have ci := c0 i hlt
      have s1 := H8.out i hlt
      clear c0
      go_wp2_with (first | ((with_reducible refine wp_region_up (by kernel_rfl) (by kernel_rfl) ?_); (repeat (go_big_quiet_step (fail))); refine wpQuiet_nil ?_; intro _ hw'; obtain ⟨nq, hw''⟩ := hw'; subst hw''))
      go_loopw [3, 18] (fun t3 t18 wr => ∃ (k : Nat) (g : Option Addr) (cp : Nat) (O : List Amb), k ≤ ws.length ∧ t18 = i64 k ∧ t3 = .slice g O.length cp ∧ Hid (FR (lists ws) O i k) ∧ Hid (wr.ownsRow w.heap.size 186 2 (.slice g O.length cp) O.length (ambC O)) ∧ ∃ g : Up w, wr = up w g) (fun _ t18 _ => ws.length - (intOf t18).toNat)
      case atStart => exact ⟨0, g, cp, O, by omega, rfl, rfl, HF, Lib.hid (own_below HO.out (BL.o (by repeat constructor))), _, rfl⟩
      case round =>
        obtain ⟨k, g, cp, O, hk, rfl, rfl, HF, HO, gw2, rfl⟩ := hrel
        by_cases hlk : k < ws.length
        · have ck := HC0.out k hlk
          have s2 := H8.out k hlk
          by_cases hne : i = k
          · have ht : ((i : Int) != (k : Int)) = false := by rw [hne]; simp
            have HF2 := Lib.hid (HF.out.skip (fun u v hn => absurd hne hn))
            clear hne
            go_wp2_with (first | ((with_reducible refine wp_region_up (by kernel_rfl) (by kernel_rfl) ?_); (repeat (go_big_quiet_step (fail))); refine wpQuiet_nil ?_; intro _ hw'; obtain ⟨nq, hw''⟩ := hw'; subst hw''))
            go_roundw
            case rel => exact ⟨k + 1, g, cp, O, by omega, by go_num, rfl, HF2, Lib.hid (own_below HO.out (BL.o (by repeat constructor))), _, rfl⟩
            case measure => simp [intOf]; try omega
          · have ht : ((i : Int) != (k : Int)) = true := by rw [bne_iff_ne]; omega
            cases hp : (wd ws i).data.toList.isPrefixOf (wd ws k).data.toList with
            | false =>
              have hP : Hid (∀ V : World, Calls Tryz.prog 208 #[.string (wd ws k), .string (wd ws i)] V fun e w' => e = .returned (.bool false) ∧ V = w') := Lib.hid fun V => (Tryz.strings_HasPrefix _ _ V).mono fun e w' h => ⟨by rw [h.1, ← hp]; rfl, h.2.symm⟩
              have HF2 := Lib.hid (HF.out.skip (fun u v _ hu hv => by
                rw [lists_get hlt] at hu; injection hu with hu
                rw [lists_get hlk] at hv; injection hv with hv
                rw [← hu, ← hv]; exact hp))
              clear hp hne
              go_wp2_with (first | (go_at_call 208; refine (hP.out _).mono ?_; rintro e w' ⟨rfl, rfl⟩) | ((with_reducible refine wp_region_up (by kernel_rfl) (by kernel_rfl) ?_); (repeat (go_big_quiet_step (first | (go_at_call 208; first | exact upq_tr_same (hP.out _) | exact upq_same (hP.out _))))); refine wpQuiet_nil ?_; intro _ hw'; obtain ⟨nq, hw''⟩ := hw'; subst hw''))
              go_roundw
              case rel => exact ⟨k + 1, g, cp, O, by omega, by go_num, rfl, HF2, Lib.hid (own_below HO.out (BL.o (by repeat constructor))), _, rfl⟩
              case measure => simp [intOf]; try omega
            | true =>
              have hP : Hid (∀ V : World, Calls Tryz.prog 208 #[.string (wd ws k), .string (wd ws i)] V fun e w' => e = .returned (.bool true) ∧ V = w') := Lib.hid fun V => (Tryz.strings_HasPrefix _ _ V).mono fun e w' h => ⟨by rw [h.1, ← hp]; rfl, h.2.symm⟩
              have hle : (wd ws i).size ≤ (wd ws k).size := by
                have := (List.isPrefixOf_iff_prefix.1 hp).length_le
                rwa [bsz, bsz] at this
              have hex : ((wd ws k).data.toList, (wd ws k).data.toList.drop (wd ws i).data.toList.length) = ((wd ws k).data.toList, ((wd ws k).extract (wd ws i).size (wd ws k).size).data.toList) := by
                rw [bs_extract, bs_list, bsz, List.take_of_length_le (by rw [List.length_drop, bsz]; omega)]
              have HF2 := Lib.hid (HF.out.add hne (lists_get hlt) (lists_get hlk) hp)
              rw [hex] at HF2
              have hOl : O.length ≤ 200 := by have := HF.out.len; omega
              clear hp hne hex
              obtain ⟨V, hV⟩ : ∃ V, wd ws k = V := ⟨_, rfl⟩
              rw [hV] at hP HF2 hle ck s2
              obtain ⟨X, hX⟩ : ∃ X, V.extract (wd ws i).size V.size = X := ⟨_, rfl⟩
              have hrds : Rds (up w (gw2.al (.cells #[.string V, .string X] 186))) 2 (some ⟨(up w gw2).heap.size, 0, none⟩) 1 [.string V, .string X] := rds_new (up w gw2) _ _ 2 1 rfl
              have hown : (up w (gw2.al (.cells #[.string V, .string X] 186))).ownsRow w.heap.size 186 2 (.slice g O.length cp) O.length (ambC O) := own_below HO.out (BL.o (by repeat constructor))
              have hone : ∀ u ∈ [Value.string V, Value.string X], u.oneCell' = true := fun u hu => by
                simp only [List.mem_cons, List.not_mem_nil, or_false] at hu
                obtain rfl | rfl := hu <;> rfl
              have hm1 : O.length + 1 ≤ maxLen := by unfold maxLen; omega
              have hm2 : (O.length + 1) * 32 ≤ 140737488355328 := by omega
              have hm3 : w.heap.size ≤ (up w (gw2.al (.cells #[.string V, .string X] 186))).heap.size := (up_below w _).size
              have hm4 : Below w.heap.size w (up w (gw2.al (.cells #[.string V, .string X] 186))) := (BL.o (by repeat constructor))
              have HA := Lib.hid hrds
              have HB := Lib.hid hown
              have HC := Lib.hid hone
              have HM := Lib.hid hm4
              have HX := Lib.hid hX
              rw [hX] at HF2
              clear hrds hown hone hm4 hV
              go_wp2_with (first | (go_at_call 208; refine (hP.out _).mono ?_; rintro e w' ⟨rfl, rfl⟩) | (at_builtin; refine wpl_appU rfl _ _ 183 rfl w w.heap.size 186 _ 2 32 el_amb (.slice g O.length cp) O.length (ambC O) rfl HB.out _ 1 1 _ rfl HA.out HC.out hm1 hm2 hm3 HM.out (Nat.le_refl _) ?_; intro A2 c2 g2 o2) | ((with_reducible refine wp_region_up (by kernel_rfl) (by kernel_rfl) ?_); (repeat (go_big_quiet_step (first | (go_at_call 208; first | exact upq_tr_same (hP.out _) | exact upq_same (hP.out _))))); refine wpQuiet_nil ?_; intro _ hw'; obtain ⟨nq, hw''⟩ := hw'; subst hw''))
              go_roundw
              case rel => exact ⟨k + 1, A2, c2, _, by omega, by go_num, congrArg (fun n => Value.slice A2 n c2) (by simp), HF2, Lib.hid (by rw [List.length_append, ambC_app, amb_cells]; exact o2), _, rfl⟩
              case measure => simp [intOf]; try omega
        · obtain rfl : k = ws.length := by omega
          have HF2 := Lib.hid (FR.row (by rw [lists_len]; exact HF.out) (by rw [lists_len]; omega))
          go_wp2_with (first | ((with_reducible refine wp_region_up (by kernel_rfl) (by kernel_rfl) ?_); (repeat (go_big_quiet_step (fail))); refine wpQuiet_nil ?_; intro _ hw'; obtain ⟨nq, hw''⟩ := hw'; subst hw''))
          refine ⟨⟨i + 1, g, cp, O, by omega, by go_num, rfl, HF2, Lib.hid (own_below HO.out (BL.o (by repeat constructor))), _, rfl⟩, by simp [intOf]; try omega⟩
    · obtain rfl : i = ws.length := by omega
      go_wp2_with (first | ((with_reducible refine wp_region_up (by kernel_rfl) (by kernel_rfl) ?_); (repeat (go_big_quiet_step (fail))); refine wpQuiet_nil ?_; intro _ hw'; obtain ⟨nq, hw''⟩ := hw'; subst hw''))
      go_ret
      exact ⟨g, cp, O, rfl, HF.out, own_below HO.out (BL.o (by repeat constructor)), UpOf.of (BL.o (by repeat constructor))⟩
end Go.Proofs.YtbianlkenallaaaGreatDoor
namespace Go.Proofs.YtbianlkenallaaaGreatDoor
open Go.RowKit Go.Maps
def TxtAt (w : World) (P : Program) (k e : TypeId) (b n : Nat) (R : List (List UInt8 × List UInt8)) : Prop :=
  ∃ D : DataW Unit, w.ownsMap P k (plainElem P e) b n D ∧ IsMap D ∧ (∀ s, Maps.has D (.string s) = true ↔ ∃ t, (s, t) ∈ R) ∧ ∀ s t z, (s, t) ∈ R → D.atKey (.string s) z = .lit (.string t)
section
variable {w w' : World} {P : Program} {k e t : TypeId} {b n : Nat} {R : List (List UInt8 × List UInt8)}
theorem TxtAt.made (w : World) (P : Program) (k e : TypeId) : TxtAt (w.alloc (.map #[] 0)) P k e w.heap.size 0 [] :=
  ⟨.map [], World.ownsMap_made _ _ _ _, isMap_empty, fun s => ⟨fun h => (by cases h), fun ⟨_, h⟩ => (by cases h)⟩, fun s t z h => (by cases h)⟩
theorem TxtAt.lt (h : TxtAt w P k e b n R) : b < w.heap.size := by obtain ⟨D, h, _⟩ := h; exact h.lt
theorem TxtAt.kept {row : Option Nat} (h : TxtAt w P k e b n R) (hg : w.grownBy w' row) (hne : some b ≠ row) : TxtAt w' P k e b n R := by
  obtain ⟨D, h1, h2, h3⟩ := h
  exact ⟨D, h1.kept hg hne, h2, h3⟩
theorem TxtAt.below (h : TxtAt w P k e b n R) (hb : Below w.heap.size w w') : TxtAt w' P k e b n R :=
  h.kept (row := none) (grown_up ⟨w', hb⟩ none) (by simp)
theorem str_keyOf {P : Program} {k : TypeId} (hk : P.underlying k = some .string) {s : ByteArray} (hs : s.size ≤ maxLen) : keyOf P k (.string s) = some (.string s.data.toList) := WideMaps.keyOf_string_mk hk hs
/-- the look-up's run in every world that has grown, ahead of a walk: it has the text -/
theorem TxtAt.look (h : TxtAt w P k e b n R) (ht : P.underlying t = some (.map k e)) (hk : P.underlying k = some .string) (he : P.underlying e = some .string) (hz : ∀ w, (zeroValue e).run P w = .ok (.string ⟨#[]⟩) w)
    (s : ByteArray) (hs : s.size ≤ maxLen) {x : List UInt8} (hx : (s.data.toList, x) ∈ R) : ∀ g : Up w, (Instr.lookup t (.map (some b)) (.string s) true).run P (up w g) = .ok (.tuple #[.string ⟨x.toArray⟩, .bool true]) (up w g) := fun g => by
  obtain ⟨D, h1, h2, h3, h4⟩ := h
  obtain ⟨v, ps, hrun, hv⟩ := (h1.kept (grown_up g none) (by simp)).look_ok (string_keyed hk) ht (hz _) (plainElem_string (s := ⟨#[]⟩) he (by decide)) (str_keyOf hk hs)
  obtain ⟨c, rfl, hc, _⟩ := plainElem_string_inv he hv
  rw [(h3 _).2 ⟨x, hx⟩] at hrun
  have := congrArg Prod.fst hc
  dsimp only at this
  rw [h4 _ _ _ hx] at this
  injection this with this
  injection this with this
  rw [hrun, this]
/-- it has not -/
theorem TxtAt.look_no (h : TxtAt w P k e b n R) (ht : P.underlying t = some (.map k e)) (hk : P.underlying k = some .string) (he : P.underlying e = some .string) (hz : ∀ w, (zeroValue e).run P w = .ok (.string ⟨#[]⟩) w)
    (s : ByteArray) (hs : s.size ≤ maxLen) (hx : ∀ x, (s.data.toList, x) ∉ R) : ∃ y, ∀ g : Up w, (Instr.lookup t (.map (some b)) (.string s) true).run P (up w g) = .ok (.tuple #[.string y, .bool false]) (up w g) := by
  obtain ⟨D, h1, h2, h3, h4⟩ := h
  have hf : Maps.has D (.string s.data.toList) = false := by
    cases hh : Maps.has D (.string s.data.toList)
    · rfl
    · obtain ⟨x, hx'⟩ := (h3 _).1 hh
      exact absurd hx' (hx x)
  have key : ∀ g : Up w, ∃ c : ByteArray, (Instr.lookup t (.map (some b)) (.string s) true).run P (up w g) = .ok (.tuple #[.string c, .bool false]) (up w g) ∧ D.atKey (.string s.data.toList) (.lit (.string [])) = .lit (.string c.data.toList) := fun g => by
    obtain ⟨v, ps, hrun, hv⟩ := (h1.kept (grown_up g none) (by simp)).look_ok (string_keyed hk) ht (hz _) (plainElem_string (s := ⟨#[]⟩) he (by decide)) (str_keyOf hk hs)
    obtain ⟨c, rfl, hc, _⟩ := plainElem_string_inv he hv
    rw [hf] at hrun
    exact ⟨c, hrun, congrArg Prod.fst hc⟩
  obtain ⟨c, _, hc⟩ := key ⟨w, Below.refl _ _⟩
  refine ⟨c, fun g => ?_⟩
  obtain ⟨c', hrun, hc'⟩ := key g
  rw [hc] at hc'
  injection hc' with hc'
  injection hc' with hc'
  rw [hrun, ba_ext hc']
theorem TxtAt.put (h : TxtAt w P k e b n R) (ht : P.underlying t = some (.map k e)) (hk : P.underlying k = some .string) (he : P.underlying e = some .string) (hn : n < maxLen) (s x : ByteArray) (hs : s.size ≤ maxLen) (hx : x.size ≤ maxLen)
    (hnew : ∀ y, (s.data.toList, y) ∉ R) :
    ∃ w', (Instr.mapUpdate t (.map (some b)) (.string s) (.string x)).run P w = .ok () w' ∧ TxtAt w' P k e b (n + 1) ((s.data.toList, x.data.toList) :: R) ∧ w.grownBy w' (some b) := by
  obtain ⟨D, h1, h2, h3, h4⟩ := h
  obtain ⟨w', hrun, r1, r2⟩ := h1.update (string_keyed hk) ht hn (str_keyOf hk hs) (plainElem_string he hx)
  refine ⟨w', hrun, ⟨_, r1, h2.put _ _, fun s' => ?_, fun s' t' z hm => ?_⟩, r2⟩
  · by_cases hh : s' = s.data.toList
    · subst hh
      rw [has_put_same h2 (by simp [WideAt.IsKeyLit])]
      exact ⟨fun _ => ⟨_, List.mem_cons_self ..⟩, fun _ => rfl⟩
    · rw [has_put_other (fun h => hh (by injection h with h)), h3 s']
      constructor
      · rintro ⟨y, hy⟩; exact ⟨y, List.mem_cons_of_mem _ hy⟩
      · rintro ⟨y, hy⟩
        rcases List.mem_cons.1 hy with he | hy
        · injection he with he _; exact absurd he hh
        · exact ⟨y, hy⟩
  · rcases List.mem_cons.1 hm with he | hm
    · injection he with e1 e2
      subst e1; subst e2
      have hk0 : WideAt.IsKeyLit (Lit.string s.data.toList) := by simp [WideAt.IsKeyLit]
      rw [atKey_put_same h2 hk0]
    · have hh : s' ≠ s.data.toList := fun e1 => hnew t' (e1 ▸ hm)
      rw [atKey_put_other (fun h => hh (by injection h with h))]
      exact h4 _ _ _ hm
end
/-- the store at the operation -/
theorem wpl_txtPut {P : Program} (w : World) {ops : Array Oper} {rest : List Oper} {o : Oper} {a : Act} {Q : Exit → Act → World → Prop}
    (hg : o.guard = none) (m x v : Operand) (t : TypeId) (hop : o.op = Op.mapUpdate t m x v)
    (k e : TypeId) (ht : P.underlying t = some (.map k e)) (hk : P.underlying k = some .string) (he : P.underlying e = some .string) (b n : Nat) (R : List (List UInt8 × List UInt8))
    (hm : a.eval m = .map (some b)) (hown : TxtAt w P k e b n R) (hn : n < maxLen) (s y : ByteArray) (hs : s.size ≤ maxLen) (hy : y.size ≤ maxLen) (hnew : ∀ z, (s.data.toList, z) ∉ R) (hx : a.eval x = .string s) (hv : a.eval v = .string y)
    (hK : ∀ w', TxtAt w' P k e b (n + 1) ((s.data.toList, y.data.toList) :: R) → w.grownBy w' (some b) → wpList P ops Q rest (a.put o.dst undef) w') :
    wpList P ops Q (o :: rest) a w := by
  refine wpList_plain hg fun K' hK' => ?_
  obtain ⟨w', hrun, r1, r2⟩ := hown.put ht hk he hn s y hs hy hnew
  unfold Oper.wp
  simp [execOp, hop, hm, hx, hv, hrun, Result.andThen]
  exact hK' _ _ (hK w' r1 r2)
end Go.Proofs.YtbianlkenallaaaGreatDoor
namespace Go.Proofs.YtbianlkenallaaaGreatDoor
open Go.RowKit
structure RS (w wr : World) (g : Option Addr) (cp mb : Nat) (O R : List Amb) : Prop where
  own : wr.ownsRow w.heap.size 186 2 (.slice g O.length cp) O.length (ambC O)
  map : TxtAt wr Tryz.prog 9 9 mb R.length R
  hm : w.heap.size ≤ mb
  ne : (Value.slice g O.length cp).ownBlock ≠ some mb
  bel : Below w.heap.size w wr
theorem own_capR {w : World} {base e size n c : Nat} {A : Option Addr} {xs : List Value} (h : w.ownsRow base e size (.slice A n c) n xs) : n ≤ c := by
  obtain ⟨_, ⟨h1, h2⟩ | ⟨g, cap, cur, h1, _, _, h3, _⟩⟩ := h
  · omega
  · injection h1 with _ _ h1
    omega
theorem own_some {w : World} {base e size n c : Nat} {A : Option Addr} {xs : List Value} (h : w.ownsRow base e size (.slice A n c) n xs) (hn : 0 < n) : ∃ g, A = some ⟨g, 0, none⟩ := by
  obtain ⟨_, ⟨_, h2⟩ | ⟨g, cap, cur, h1, _⟩⟩ := h
  · omega
  · injection h1 with h1
    exact ⟨g, h1⟩
/-- a first part of an own row is own -/
theorem own_pre {w : World} {base e size n c g : Nat} {xs : List Value} (h : w.ownsRow base e size (.slice (some ⟨g, 0, none⟩) n c) n xs) {m : Nat} (hm : m ≤ n) : w.ownsRow base e size (.slice (some ⟨g, 0, none⟩) m c) m (xs.take (m * size)) := by
  obtain ⟨h0, ⟨h1, h2⟩ | ⟨g', cap, cur, h1, hb, hg, hnc, hcm, hcs, ht⟩⟩ := h
  · cases h1
  · injection h1 with e1 e2 e3
    injection e1 with e1
    injection e1 with e1
    subst e1; subst e3
    have hle : m * size ≤ n * size := Nat.mul_le_mul_right _ hm
    refine ⟨by rw [List.length_take, h0]; omega, .inr ⟨g, c, cur, rfl, hb, hg, by omega, hcm, hcs, ?_⟩⟩
    rw [← ht, List.take_take, Nat.min_eq_left hle]
/-- 'append(own, xs...)' within the room that there is, at an operation of a region that draws -/
theorem step_fits {P : Program} {ops : Array Oper} {o : Oper} {a : Act} {w : World} {K : Act → World → Prop} {Q : Exit → Act → World → Prop} {E : Prop} (hgd : o.guard = none) (s x : Operand) (t : TypeId)
    (ho : o.op = .call { callee := .builtin .append, args := #[s, x], argTypes := #[t, t] })
    (base : Nat) (e : TypeId) (z : Value) (size bytes : Nat) (el : ElemOf P t e z size bytes)
    (g n cap : Nat) (xs : List Value) (hs : a.eval s = .slice (some ⟨g, 0, none⟩) n cap) (hown : w.ownsRow base e size (.slice (some ⟨g, 0, none⟩) n cap) n xs)
    (b off m c : Nat) (news : List Value) (hx : a.eval x = .slice (some ⟨b, off, none⟩) m c) (hr : Rds w size (some ⟨b, off, none⟩) m news) (h1 : ∀ u ∈ news, u.oneCell' = true) (hroom : n + m ≤ cap)
    (h : ∀ w', w'.ownsRow base e size (.slice (some ⟨g, 0, none⟩) (n + m) cap) (n + m) (xs ++ news) → w.grownBy w' (some g) → K (a.put o.dst (.slice (some ⟨g, 0, none⟩) (n + m) cap)) w') :
    if Region.wanted o (yielded ops a.tmps) = true then Oper.wp P o a w K Q else E := by
  have hw : Region.wanted o (yielded ops a.tmps) = true := by simp [Region.wanted, hgd]
  rw [if_pos hw]
  obtain ⟨ht, hzs, hsz, i, hi, hz, hsize, hby⟩ := el
  obtain ⟨w', hrun, r1, r2⟩ := run_append_fits (P := P) w base t o.type e i size ht hi hsize g n cap xs hown ⟨b, off, none⟩ m c news hr.1 (fun j u hu => by
    have hj : j < news.length := (List.getElem?_eq_some_iff.1 hu).1
    obtain ⟨b', off', e, _, hc⟩ := hr.2 (by rw [← hr.1]; omega)
    injection e with e
    injection e with e1 e2
    subst e1 e2
    have hadd : (⟨b, off, none⟩ : Addr).add j = ⟨b, off + j, none⟩ := by unfold Addr.add; split <;> simp_all
    rw [hadd]
    exact hc j u hu) h1 hroom
  unfold Oper.wp execOp
  simp only [ho, resolve, invoke, builtin, Sem.run_bind, Sem.run_pure, Result.andThen_ok, List.map_toArray, List.map_cons, List.map_nil, hs, hx, hrun]
  exact h w' r1 r2
section
variable {w wr wr' : World} {g : Option Addr} {cp mb : Nat} {O R : List Amb}
theorem RS.below (h : RS w wr g cp mb O R) (hb : Below wr.heap.size wr wr') : RS w wr' g cp mb O R :=
  ⟨own_below h.own hb, h.map.below hb, h.hm, h.ne, h.bel.trans (hb.mono h.bel.size)⟩
theorem am_at {g0 : Nat} (h : RS w wr (some ⟨g0, 0, none⟩) cp mb O R) {i : Nat} (hi : i < O.length) : g0 < wr.heap.size ∧ wr.cell? ⟨g0, i * 2, none⟩ = some (.string ⟨(om O i).1.toArray⟩) ∧ wr.cell? ⟨g0, i * 2 + 1, none⟩ = some (.string ⟨(om O i).2.toArray⟩) := by
  obtain ⟨b, off, e, hb, hc⟩ := rds_elem ambE_len (l := O) (Rds.of_own h.own) hi (by omega)
  injection e with e
  injection e with e1 e2
  subst e1 e2
  have e3 : O[i] = om O i := by rw [om, List.getD_eq_getElem?_getD, List.getElem?_eq_getElem hi]; rfl
  have h0 := hc 0 _ rfl
  have h1 := hc 1 _ rfl
  rw [e3] at h0 h1
  simp only [Nat.zero_add, Nat.add_zero] at h0 h1
  exact ⟨hb, h0, h1⟩
/-- behind the removal of an entry -/
theorem RS.cut {g0 : Nat} (h : RS w wr (some ⟨g0, 0, none⟩) cp mb O R) {i m : Nat} {w9 : World} {xs : List Value} (hi : i < O.length)
    (h1 : w9.ownsRow w.heap.size 186 2 (.slice (some ⟨g0, 0, none⟩) m cp) m xs) (hm : m = (O.take i ++ O.drop (i + 1)).length) (hx : xs = ambC (O.take i ++ O.drop (i + 1))) (h2 : wr.grownBy w9 (some g0)) :
    RS w w9 (some ⟨g0, 0, none⟩) cp mb (O.take i ++ O.drop (i + 1)) R where
  own := by rw [← hm, ← hx]; exact h1
  map := h.map.kept h2 (fun e => h.ne (by simp only [Value.ownBlock]; exact e.symm))
  hm := h.hm
  ne := by
    have := h.ne
    simpa [Value.ownBlock] using this
  bel := h.bel.grown h2 h.bel.size (fun k hk => by
    injection hk with hk
    subst hk
    exact (h.own.lt g0 rfl).1)
/-- behind an entry into the map -/
theorem RS.put (h : RS w wr g cp mb O R) {w9 : World} {r t : List UInt8} (h1 : TxtAt w9 Tryz.prog 9 9 mb (R.length + 1) ((r, t) :: R)) (h2 : wr.grownBy w9 (some mb)) : RS w w9 g cp mb O ((r, t) :: R) where
  own := h.own.kept h2 (.inr h.ne)
  map := h1
  hm := h.hm
  ne := h.ne
  bel := h.bel.grown h2 h.bel.size (fun k hk => by
    injection hk with hk
    subst hk
    exact h.hm)
/-- behind one more entry -/
theorem RS.add (h : RS w wr g cp mb O R) {w9 : World} {g' c' : Nat} {q : Amb}
    (h1 : w9.ownsRow w.heap.size 186 2 (.slice (some ⟨g', 0, none⟩) (O.length + 1) c') (O.length + 1) (ambC O ++ ambC [q])) (h2 : wr.grownBy w9 (Value.slice g O.length cp).ownBlock) (h3 : (Value.slice g O.length cp).ownBlock = some g' ∨ g' = wr.heap.size) :
    RS w w9 (some ⟨g', 0, none⟩) c' mb (O ++ [q]) R where
  own := by rw [ambC_app, List.length_append]; exact h1
  map := h.map.kept h2 (fun e => h.ne e.symm)
  hm := h.hm
  ne := by
    simp only [Value.ownBlock]
    intro e
    injection e with e
    subst e
    rcases h3 with h3 | h3
    · exact h.ne h3
    · have := h.map.lt; omega
  bel := h.bel.grown h2 h.bel.size (fun k hk => (h.own.lt k hk).1)
end
end Go.Proofs.YtbianlkenallaaaGreatDoor
