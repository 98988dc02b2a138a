/-
  The command drill: the program's. The bounds stand at it; it leans on the laid table.
-/
import Derived.Test.YtbianlkenallaaaGreatDoorDk7
set_option linter.all false
set_option maxHeartbeats 8000000
set_option maxRecDepth 10000
namespace Go.Proofs.YtbianlkenallaaaGreatDoor
open Go.RowKit
def btDrPost (d : DeskD) (o : Option Drill) (A B : Option Addr) (c e : Nat) (w : World) (r : Ending) (w' : World) : Prop := match o with
 | none => mdPost d [errL 7] A B c e w r w'
 | some x => if (addD d.drills x).2 = 0 then ∃ B' e', w'.ownsRow w.heap.size 112 3 (.slice B' (addD d.drills x).1.length e') (addD d.drills x).1.length (drcs (addD d.drills x).1) ∧ mdPost { d with drills := (addD d.drills x).1 } [dkText { d with drills := (addD d.drills x).1 }] A B' c e' w r w'
   else mdPost d [errL (addD d.drills x).2] A B c e w r w'
theorem rdDrill_v {t : ByteArray} {x : Drill} (h : rdDrill t = some x) : vDrill x = true := by
 unfold rdDrill at h
 split at h
 ·rename_i hb
  injection h with h
  rw [← h]
  exact (drillB_inv hb).2.2.1
 ·cases h
theorem addD_bd {l : List Drill} {x : Drill} (hl : DBd l) (h1 : x.name.size ≤ 100000000) (h2 : x.letters.size ≤ 100000000) : DBd (addD l x).1 := by
 have h0 : DBd [] := fun i hi => absurd hi (by simp)
 have hm : DBd (l ++ [x]) := fun i hi => by
  rw [List.length_append] at hi
  by_cases h : i < l.length
  ·have e : drl (l ++ [x]) i = drl l i := by rw [drl, drl, List.getD_eq_getElem?_getD, List.getD_eq_getElem?_getD, List.getElem?_append_left h]
   rw [e]; exact hl i h
  ·have e : drl (l ++ [x]) i = x := by
    have hi' : i = l.length := by simp at hi; omega
    rw [drl, List.getD_eq_getElem?_getD, hi', List.getElem?_append_right (Nat.le_refl _)]; simp
   rw [e]; exact ⟨h1, h2⟩
 rw [addD]
 (repeat' split) <;> first | exact h0 | exact hm
theorem addD_len (l : List Drill) (x : Drill) : (addD l x).1.length ≤ l.length + 1 := by
 rw [addD]
 (repeat' split) <;> simp
theorem btDrill_any (d : DeskD) (A B : Option Addr) (c e : Nat) (s t : ByteArray) (w : World) (hts : t.size ≤ 1048576) (hk : kindOf s = 3) (hS : DSee w d A B) (hz : DkSz d e) (hz1 : d.drills.length ≤ 10000000) (ht : Tab w) :
 Calls Tryz.prog 31 #[dkv d A B c e, .string s, .string t] w fun r w' => btDrPost d (rdDrill t) A B c e w r w' := by
 have HS := hd_ hS
 have HZ := hd_ hz
 have HT := hd_ ht
 have q10 : (s.toList == [114, 111, 119]) = false := by
  have := kind_test2 s (i := 10) (by omega)
  rw [hk] at this
  exact this
 have q2 : (s.toList == [99, 111, 100, 101]) = false := by
  have := kind_test2 s (i := 2) (by omega)
  rw [hk] at this
  exact this
 clear hS hz hk ht
 cases hr : rdDrill t with
 | none =>
   have HRD : Hid (∀ V, Tab V → Calls Tryz.prog 77 #[.string t] V fun e w' => e = .returned (.tuple #[drv dr0, .bool false]) ∧ UpOf V w') := hd_ fun V hV => by
    have := readDrillI_any t V hts hV
    rw [hr] at this
    exact this
   show Calls _ _ _ _ fun r w' => mdPost d [errL 7] A B c e w r w'
   clear hr
   go_enter Tryz.func31, Tryz.ntmps31
   go_upto_region 1 with (fail)
   refine wpg (R := fun V => Hid (MD w V w.heap.size (w.heap.size + 1) (dkcs d A B c e))) (hd_ (MD.new _ _)) (fun V z => ?_)
   generalize hp9 : w.heap.size = p at z ⊢
   generalize hq9 : p + 1 = q at z ⊢
   clear hp9 hq9
   go_upto_region 11 with (go_at_call 77; refine cu_ (HRD.out _ (HT.out.below (z.out.up.tr bw_).below)) fun g1 => ?_)
   refine wpg (R := fun U => Hid (MD w U p q (dkcs d A B c e))) (hd_ (z.out.below bw_)) (fun U z => ?_)
   have hC : cel8 U.drew p d A B c e := z.out.cel
   refine wp_region_T (fun U => U.cell? ⟨p, 0, none⟩ = some (i64 (d).b.bars) ∧ U.cell? ⟨p, 1, none⟩ = some (i64 (d).b.rise) ∧ U.cell? ⟨p, 2, none⟩ = some (i64 (d).b.fall) ∧ U.cell? ⟨p, 3, none⟩ = some (i64 (d).b.clr) ∧ U.cell? ⟨p, 4, none⟩ = some (i64 (d).b.near) ∧ U.cell? ⟨p, 5, none⟩ = some (.slice A (d).stops.length c) ∧ U.cell? ⟨p, 6, none⟩ = some (.slice B (d).drills.length e) ∧ U.cell? ⟨p, 7, none⟩ = some (.string (d).log)) 2 (by kernel_rfl) ?_
   refine wtl 0 (hC) ?_
   refine wto 1 fun K hK => ?_
   go_simp
   go_at_call 70
   refine (report_any 7 _).mono ?_
   rintro r w' ⟨X, n, rfl, ox, gx, rfl⟩
   have z2 := hd_ (z.out.below (V' := up U.drew gx) (bl_up (Below.drew (Below.refl _ _)) gx))
   have OX := hd_ ox
   clear ox
   refine hK.out _ _ (fun _ => z2.out.cel) (wtn ?_)
   clear hK K
   obtain ⟨hqT, r0, r1, r2, r3, r4, r5, r6, r7⟩ := z2.out.rs.eight
   obtain ⟨f0, f1, f2, f3, f4, f5, f6, f7⟩ := z2.out.rs.open8
   refine wto 2 fun K hK => ?_
   go_simp
   refine hK.out _ _ tf_ (wtn ?_)
   clear hK K
   refine wtp 3 tf_ ?_
   refine wtd ?_
   have hqU := z.out.rs.lt
   go_wp2_with fail
   refine bodyPost_ret (v := .tuple #[dkv (d) A B c e, .slice X 1 n]) (by simp [results, Tryz.results31, go_sem, hqT, r0, r1, r2, r3, r4, r5, r6, r7]) rfl ?_
   exact ⟨X, n, rfl, om_ (oa_ OX.out hqU _ _ _ _ _ _ _ _) z.out.up.below.size, put8_up z2.out.up z2.out.hq _ _ _ _ _ _ _ _⟩
 | some x =>
   have hv := rdDrill_v hr
   have hvi := vDrill_inv hv
   have s1 := (nameB_bd hvi.1).2
   have s2 := (txtB_inv hvi.2.2.1).1
   have HRD : Hid (∀ V, Tab V → Calls Tryz.prog 77 #[.string t] V fun e w' => e = .returned (.tuple #[drv x, .bool true]) ∧ UpOf V w') := hd_ fun V hV => by
    have := readDrillI_any t V hts hV
    rw [hr] at this
    exact this
   obtain ⟨L, hL⟩ := nm_ ((addD d.drills x).1)
   obtain ⟨C, hC⟩ := nm_ ((addD d.drills x).2)
   have HAD : Hid (∀ V, Rds V 3 B d.drills.length (drcs d.drills) → Calls Tryz.prog 78 #[.slice B d.drills.length e, .agg #[.string x.name, .string x.letters, i64 x.minutes]] V fun r w' => drsPost L.length L C V r w') := hd_ fun V hr => by
    have := addDrill_any B e d.drills x V hr HZ.out.n HZ.out.b (by omega) (by omega)
    rw [hL, hC] at this
    exact this
   have HLB : Hid (DBd L ∧ L.length ≤ d.drills.length + 1) := hd_ ⟨by rw [← hL]; exact addD_bd HZ.out.b (by omega) (by omega), by rw [← hL]; exact addD_len _ _⟩
   show Calls _ _ _ _ fun r w' => if (addD d.drills x).2 = 0 then ∃ B' e', w'.ownsRow w.heap.size 112 3 (.slice B' (addD d.drills x).1.length e') (addD d.drills x).1.length (drcs (addD d.drills x).1) ∧ mdPost { d with drills := (addD d.drills x).1 } [dkText { d with drills := (addD d.drills x).1 }] A B' c e' w r w'
    else mdPost d [errL (addD d.drills x).2] A B c e w r w'
   rw [hL, hC]
   clear hr hv hvi hL hC
   by_cases h0 : C = 0
   ·subst h0
    obtain ⟨D, hD⟩ : ∃ D : DeskD, { d with drills := L } = D := ⟨_, rfl⟩
    rw [hD]
    have HDL := hd_ (show L = D.drills by rw [← hD])
    have HDE := hd_ (show d.b = D.b ∧ d.stops = D.stops ∧ d.log = D.log from by rw [← hD]; exact ⟨rfl, rfl, rfl⟩)
    clear hD
    show Calls _ _ _ _ fun r w' => ∃ B' e', w'.ownsRow w.heap.size 112 3 (.slice B' L.length e') L.length (drcs L) ∧ mdPost D [dkText D] A B' c e' w r w'
    rw [HDL.out] at HLB HAD ⊢
    go_enter Tryz.func31, Tryz.ntmps31
    go_upto_region 1 with (fail)
    refine wpg (R := fun V => Hid (MD w V w.heap.size (w.heap.size + 1) (dkcs d A B c e))) (hd_ (MD.new _ _)) (fun V z => ?_)
    generalize hp9 : w.heap.size = p at z ⊢
    generalize hq9 : p + 1 = q at z ⊢
    clear hp9 hq9
    go_upto_region 12 with (go_at_call 77; refine cu_ (HRD.out _ (HT.out.below (z.out.up.tr bw_).below)) fun g1 => ?_)
    refine wpg (R := fun U9 => Hid (MD w U9 p q (dkcs d A B c e)) ∧ Box U9 (up V g1).heap.size #[.string x.name, .string x.letters, i64 x.minutes]) ⟨hd_ (z.out.below bw_), Box.new _ _ _⟩ (fun U9 y => ?_)
    obtain ⟨z8, hbx⟩ := y
    generalize (up V g1).heap.size = p10 at *
    have b0 : U9.cell? ⟨p10, 0, none⟩ = some (.string x.name) := hbx.2 0 _ rfl
    have b1 : U9.cell? ⟨p10, 1, none⟩ = some (.string x.letters) := hbx.2 1 _ rfl
    have b2 : U9.cell? ⟨p10, 2, none⟩ = some (i64 x.minutes) := hbx.2 2 _ rfl
    have hb10 := hbx.1
    obtain ⟨hpU, x0, x1, x2, x3, x4, x5, x6, x7⟩ := z8.out.bx.eight
    clear hbx z
    go_wp2_with fail
    refine (HAD.out _ (HS.out.2.below z8.out.up.below)).mono ?_
    rintro r w' ⟨B', e', rfl, hcp, ob, g2, rfl⟩
    have z9 := hd_ (z8.out.below (ub_ U9 g2))
    have ONB := hd_ ob
    have HCP := hd_ hcp
    have HPB := hd_ hpU
    have HQB := hd_ z8.out.rs.lt
    have HBW := hd_ z8.out.up.below.size
    clear x0 x1 x2 x3 x4 x5 x6 x7 hpU b0 b1 b2 hb10 ob hcp z8
    go_upto_region 15 with (fail)
    refine wpg (R := fun U => Hid (MD w U p q (dkcs d A B c e)) ∧ Hid (U.ownsRow U9.heap.size 112 3 (.slice B' D.drills.length e') D.drills.length (drcs D.drills))) ⟨z9, ONB⟩ (fun U y => ?_)
    obtain ⟨z, ONB⟩ := y
    clear z9
    obtain ⟨hpU, x0, x1, x2, x3, x4, x5, x6, x7⟩ := z.out.bx.eight
    obtain ⟨f0, f1, f2, f3, f4, f5, f6, f7⟩ := z.out.bx.open8
    go_upto_region 16 with (fail)
    have hpb : p < U9.heap.size := HPB.out
    have y6 := hd_ (z.out.put 6 (.slice B' D.drills.length e'))
    refine wpg (R := fun T => Hid (MD w T p q (dkcs D A B' c e')) ∧ Hid (T.ownsRow U9.heap.size 112 3 (.slice B' D.drills.length e') D.drills.length (drcs D.drills))) ⟨hd_ (by
     have h := y6.out
     have e1 := HDE.out
     have e2 : (dkcs d A B c e).setIfInBounds 6 (.slice B' D.drills.length e') = dkcs D A B' c e' := by
      unfold dkcs
      rw [← e1.1, ← e1.2.1, ← e1.2.2]; rfl
     rw [e2] at h
     exact h), hd_ (own_setOld (p := ⟨p, 6, none⟩) ONB.out hpb _)⟩ (fun U y => ?_)
    obtain ⟨z, ONB⟩ := y
    have HSD : Hid (∀ V, Below U.heap.size U V → DSee V D A B') := hd_ fun V hV => by
     have h1 := (HS.out.below z.out.up.below).1.below hV
     unfold DSee
     rw [← HDE.out.2.1]
     exact ⟨h1, (Rds.of_own ONB.out).below hV⟩
    have HZD : Hid (DkSz D e') := hd_ ⟨by rw [← HDE.out.2.1]; exact HZ.out.s, by have := HLB.out.2; omega, HLB.out.1, by rw [← HDE.out.2.2]; exact HZ.out.l, HCP.out⟩
    clear x0 x1 x2 x3 x4 x5 x6 x7 f0 f1 f2 f3 f4 f5 f6 f7 hpU y6 hpb
    have hC : cel8 U.drew p D A B' c e' := z.out.cel
    refine wp_region_T (fun U => U.cell? ⟨p, 0, none⟩ = some (i64 (D).b.bars) ∧ U.cell? ⟨p, 1, none⟩ = some (i64 (D).b.rise) ∧ U.cell? ⟨p, 2, none⟩ = some (i64 (D).b.fall) ∧ U.cell? ⟨p, 3, none⟩ = some (i64 (D).b.clr) ∧ U.cell? ⟨p, 4, none⟩ = some (i64 (D).b.near) ∧ U.cell? ⟨p, 5, none⟩ = some (.slice A (D).stops.length c) ∧ U.cell? ⟨p, 6, none⟩ = some (.slice B' (D).drills.length e') ∧ U.cell? ⟨p, 7, none⟩ = some (.string (D).log)) 5 (by kernel_rfl) ?_
    refine wtl 0 (hC) ?_
    refine wtl 1 (hC) ?_
    refine wto 2 fun K hK => ?_
    go_simp
    go_at_call 11
    refine cu_ (deskTextI_any D A B' c e' _ (HSD.out _ (Below.drew (Below.refl _ _))) HZD.out (HT.out.below (z.out.up.tr bw_).below)) fun gx => ?_
    have z2 := hd_ (z.out.below (V' := up U.drew gx) (bl_up (Below.drew (Below.refl _ _)) gx))
    refine hK.out _ _ (fun _ => z2.out.cel) (wtn ?_)
    clear hK K
    have hqU := z2.out.rs.lt
    have HLE := hd_ z2.out.up.below.size
    obtain ⟨hqT, r0, r1, r2, r3, r4, r5, r6, r7⟩ := z2.out.rs.eight
    obtain ⟨f0, f1, f2, f3, f4, f5, f6, f7⟩ := z2.out.rs.open8
    refine wpAnyT_ready (rs := [3, 4]) (by kernel_rfl) (by simp) (AllReadyT.cons rfl (fun K hK => ?_) (AllReadyT.cons rfl (fun K hK => ?_) AllReadyT.nil))
    ·go_simp
     have z3 := hd_ (z2.out.below (V' := (up U.drew gx).alloc (.cells #[.string (dkText (D))] 9)) bw_)
     have OX := hd_ (World.ownsRow_lit (base := (up U.drew gx).heap.size) (e := 9) (size := 1) (up U.drew gx) #[.string (dkText (D))] 1 (Nat.le_refl _) (by unfold maxLen; omega) rfl)
     refine hK.out _ _ (fun _ => z3.out.cel) (wtn ?_)
     clear hK K
     refine wto 4 fun K hK => ?_
     go_simp
     refine hK.out _ _ (fun _ => (blk_far8 z3.out.bx z3.out.ne _ _ _ _ _ _ _ _).eight.2) (wtn ?_)
     clear hK K
     refine wto 5 fun K hK => ?_
     go_simp
     refine hK.out _ _ tf_ (wtn ?_)
     clear hK K
     refine wtd ?_
     go_wp2_with fail
     refine post_gen (R := fun W => Blk W q 31 (dkcs (D) A B' c e') ∧ W.ownsRow w.heap.size 9 1 (.slice (some ⟨(up U.drew gx).heap.size, 0, none⟩) 1 1) 1 (strs [dkText (D)]) ∧ W.ownsRow w.heap.size 112 3 (.slice B' (D).drills.length e') (D).drills.length (drcs (D).drills) ∧ UpOf w W) ⟨blk_put8 z3.out.rs _ _ _ _ _ _ _ _, om_ (oa_ OX.out hqU _ _ _ _ _ _ _ _) HLE.out, om_ (oa_ (ob_ ONB.out (show Below U.heap.size U _ from bw_)) HQB.out _ _ _ _ _ _ _ _) HBW.out, put8_up z3.out.up z3.out.hq _ _ _ _ _ _ _ _⟩ (fun W st => ?_)
     obtain ⟨s1, s2, s4, s3⟩ := st
     obtain ⟨hqW, w0, w1, w2, w3, w4, w5, w6, w7⟩ := s1.eight
     clear s1 r0 r1 r2 r3 r4 r5 r6 r7 f0 f1 f2 f3 f4 f5 f6 f7
     exact bodyPost_ret (v := .tuple #[dkv (D) A B' c e', .slice (some ⟨(up U.drew gx).heap.size, 0, none⟩) 1 1]) (by simp [results, Tryz.results31, go_sem, hqW, w0, w1, w2, w3, w4, w5, w6, w7]) rfl ⟨_, _, s4, _, _, rfl, s2, s3⟩
    ·go_simp
     refine hK.out _ _ (fun _ => (blk_far8 z2.out.bx z2.out.ne _ _ _ _ _ _ _ _).eight.2) (wtn ?_)
     clear hK K
     refine wto 3 fun K hK => ?_
     go_simp
     refine hK.out _ _ (fun _ => ((blk_far8 z2.out.bx z2.out.ne _ _ _ _ _ _ _ _).alloc _).eight.2) (wtn ?_)
     clear hK K
     refine wto 5 fun K hK => ?_
     go_simp
     refine hK.out _ _ tf_ (wtn ?_)
     clear hK K
     refine wtd ?_
     go_wp2_with fail
     refine post_gen (R := fun W => Blk W q 31 (dkcs (D) A B' c e') ∧ W.ownsRow w.heap.size 9 1 (.slice (some ⟨(up U.drew gx).heap.size, 0, none⟩) 1 1) 1 (strs [dkText (D)]) ∧ W.ownsRow w.heap.size 112 3 (.slice B' (D).drills.length e') (D).drills.length (drcs (D).drills) ∧ UpOf w W) ⟨(blk_put8 z2.out.rs _ _ _ _ _ _ _ _).alloc _, own_txt (put8_up z2.out.up z2.out.hq _ _ _ _ _ _ _ _) (dkText (D)) (by simp only [World.size_setCell]), (om_ (oa_ (ob_ ONB.out (show Below U.heap.size U (up U.drew gx) from bw_)) HQB.out _ _ _ _ _ _ _ _) HBW.out).alloc _, (put8_up z2.out.up z2.out.hq _ _ _ _ _ _ _ _).tr ((Below.refl _ _).alloc (Nat.le_refl _) _)⟩ (fun W st => ?_)
     obtain ⟨s1, s2, s4, s3⟩ := st
     obtain ⟨hqW, w0, w1, w2, w3, w4, w5, w6, w7⟩ := s1.eight
     clear s1 r0 r1 r2 r3 r4 r5 r6 r7 f0 f1 f2 f3 f4 f5 f6 f7
     exact bodyPost_ret (v := .tuple #[dkv (D) A B' c e', .slice (some ⟨(up U.drew gx).heap.size, 0, none⟩) 1 1]) (by simp [results, Tryz.results31, go_sem, hqW, w0, w1, w2, w3, w4, w5, w6, w7]) rfl ⟨_, _, s4, _, _, rfl, s2, s3⟩
   ·have h0' : (C != 0) = true := by rw [bne_iff_ne]; exact h0
    have hfin : ∀ r w', mdPost d [errL C] A B c e w r w' → (if C = 0 then ∃ B' e', w'.ownsRow w.heap.size 112 3 (.slice B' L.length e') L.length (drcs L) ∧ mdPost { d with drills := L } [dkText { d with drills := L }] A B' c e' w r w' else mdPost d [errL C] A B c e w r w') := fun r w' h => by rw [if_neg h0]; exact h
    refine (show Calls Tryz.prog 31 #[dkv d A B c e, .string s, .string t] w fun r w' => mdPost d [errL C] A B c e w r w' from ?_).mono hfin
    clear hfin h0
    go_enter Tryz.func31, Tryz.ntmps31
    go_upto_region 1 with (fail)
    refine wpg (R := fun V => Hid (MD w V w.heap.size (w.heap.size + 1) (dkcs d A B c e))) (hd_ (MD.new _ _)) (fun V z => ?_)
    generalize hp9 : w.heap.size = p at z ⊢
    generalize hq9 : p + 1 = q at z ⊢
    clear hp9 hq9
    go_upto_region 12 with (go_at_call 77; refine cu_ (HRD.out _ (HT.out.below (z.out.up.tr bw_).below)) fun g1 => ?_)
    refine wpg (R := fun U9 => Hid (MD w U9 p q (dkcs d A B c e)) ∧ Box U9 (up V g1).heap.size #[.string x.name, .string x.letters, i64 x.minutes]) ⟨hd_ (z.out.below bw_), Box.new _ _ _⟩ (fun U9 y => ?_)
    obtain ⟨z8, hbx⟩ := y
    generalize (up V g1).heap.size = p10 at *
    have b0 : U9.cell? ⟨p10, 0, none⟩ = some (.string x.name) := hbx.2 0 _ rfl
    have b1 : U9.cell? ⟨p10, 1, none⟩ = some (.string x.letters) := hbx.2 1 _ rfl
    have b2 : U9.cell? ⟨p10, 2, none⟩ = some (i64 x.minutes) := hbx.2 2 _ rfl
    have hb10 := hbx.1
    obtain ⟨hpU, x0, x1, x2, x3, x4, x5, x6, x7⟩ := z8.out.bx.eight
    clear hbx z
    go_wp2_with fail
    refine (HAD.out _ (HS.out.2.below z8.out.up.below)).mono ?_
    rintro r w' ⟨B', e', rfl, hcp, ob, g2, rfl⟩
    have z9 := hd_ (z8.out.below (ub_ U9 g2))
    have ONB := hd_ ob
    have HCP := hd_ hcp
    have HPB := hd_ hpU
    have HQB := hd_ z8.out.rs.lt
    have HBW := hd_ z8.out.up.below.size
    clear x0 x1 x2 x3 x4 x5 x6 x7 hpU b0 b1 b2 hb10 ob hcp z8
    go_upto_region 14 with (fail)
    refine wpg (R := fun U => Hid (MD w U p q (dkcs d A B c e))) z9 (fun U z => ?_)
    have hC : cel8 U.drew p d A B c e := z.out.cel
    refine wp_region_T (fun U => U.cell? ⟨p, 0, none⟩ = some (i64 (d).b.bars) ∧ U.cell? ⟨p, 1, none⟩ = some (i64 (d).b.rise) ∧ U.cell? ⟨p, 2, none⟩ = some (i64 (d).b.fall) ∧ U.cell? ⟨p, 3, none⟩ = some (i64 (d).b.clr) ∧ U.cell? ⟨p, 4, none⟩ = some (i64 (d).b.near) ∧ U.cell? ⟨p, 5, none⟩ = some (.slice A (d).stops.length c) ∧ U.cell? ⟨p, 6, none⟩ = some (.slice B (d).drills.length e) ∧ U.cell? ⟨p, 7, none⟩ = some (.string (d).log)) 3 (by kernel_rfl) ?_
    refine wtl 0 (hC) ?_
    refine wtp 1 (fun _ => hC) ?_
    refine wto 2 fun K hK => ?_
    go_simp
    go_at_call 70
    refine (report_any C _).mono ?_
    rintro r w' ⟨X, n, rfl, ox, gx, rfl⟩
    have z2 := hd_ (z.out.below (V' := up U.drew gx) (bl_up (Below.drew (Below.refl _ _)) gx))
    have OX := hd_ ox
    clear ox
    refine hK.out _ _ (fun _ => z2.out.cel) (wtn ?_)
    clear hK K
    obtain ⟨hqT, r0, r1, r2, r3, r4, r5, r6, r7⟩ := z2.out.rs.eight
    obtain ⟨f0, f1, f2, f3, f4, f5, f6, f7⟩ := z2.out.rs.open8
    refine wto 3 fun K hK => ?_
    go_simp
    refine hK.out _ _ tf_ (wtn ?_)
    clear hK K
    refine wtp 4 tf_ ?_
    refine wtd ?_
    have hqU := z.out.rs.lt
    go_wp2_with fail
    refine bodyPost_ret (v := .tuple #[dkv (d) A B c e, .slice X 1 n]) (by simp [results, Tryz.results31, go_sem, hqT, r0, r1, r2, r3, r4, r5, r6, r7]) rfl ?_
    exact ⟨X, n, rfl, om_ (oa_ OX.out hqU _ _ _ _ _ _ _ _) z.out.up.below.size, put8_up z2.out.up z2.out.hq _ _ _ _ _ _ _ _⟩
end Go.Proofs.YtbianlkenallaaaGreatDoor
