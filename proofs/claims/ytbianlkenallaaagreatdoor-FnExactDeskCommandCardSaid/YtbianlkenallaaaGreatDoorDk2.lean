/-
  The basket or the stops are changed: the program's. The bounds stand at it.
-/
import Derived.Test.YtbianlkenallaaaGreatDoorMgG
import Derived.StillTail
import Derived.StillTailTactics
set_option linter.all false
set_option maxHeartbeats 8000000
set_option maxRecDepth 10000
namespace Go.Proofs.YtbianlkenallaaaGreatDoor
open Go.RowKit
structure M3 (w V : World) (p q r : Nat) (x y : Array Value) : Prop where
 a : MD w V p q x
 b : MD w V r q y
 ne : p ≠ r
theorem M3.below {w V V' : World} {p q r : Nat} {x y : Array Value} (h : M3 w V p q r x y) (hb : Below V.heap.size V V') : M3 w V' p q r x y := ⟨h.a.below hb, h.b.below hb, h.ne⟩
theorem M3.put {w V : World} {p q r : Nat} {x y : Array Value} (h : M3 w V p q r x y) (i : Nat) (u : Value) : M3 w (V.setCell ⟨r, i, none⟩ u) p q r x (y.setIfInBounds i u) :=
 ⟨⟨h.a.bx.far (p := ⟨r, i, none⟩) h.ne u, (h.b.put i u).rs, (h.b.put i u).up, h.a.hp, h.a.hq, h.a.ne⟩, h.b.put i u, h.ne⟩
theorem M3.new {w V : World} {p q : Nat} {x : Array Value} (h : MD w V p q x) : M3 w (V.alloc (.cells x 31)) p q V.heap.size x x :=
 ⟨h.below bw_, ⟨Blk.new V _ _, h.rs.alloc _, h.up.tr bw_, h.up.below.size, h.hq, Nat.ne_of_gt h.rs.lt⟩, Nat.ne_of_lt h.bx.lt⟩
def bskOf (l : List Int) : Bsk := ⟨num l 0, num l 1, num l 2, num l 3, num l 4⟩
theorem settingB_any (d : DeskD) (A B : Option Addr) (c e : Nat) (l : List Int) (N : Option Addr) (nc : Nat) (s : ByteArray) (w : World) (h : DSee w d A B) (hz : DkSz d e) (ht : Tab w) (hv : vDesk d = true) (hl : Rds w 1 N l.length (ics l)) (h5 : l.length = 5) (hk : kindOf s = 1) :
 Calls Tryz.prog 73 #[dkv d A B c e, .string s, .slice N l.length nc] w fun r w' =>
  if vBsk (bskOf l) then mdPost { d with b := bskOf l } [dkText { d with b := bskOf l }] A B c e w r w' else mdPost d [errL 1] A B c e w r w' := by
 have HS := hd_ h
 have HZ := hd_ hz
 have HT := hd_ ht
 have HV := hd_ (vDesk_inv hv)
 have qk : (s.toList == [98, 97, 115, 107, 101, 116]) = true := by
  have := kind_test2 s (i := 1) (by omega)
  rw [hk] at this
  exact this
 obtain ⟨b, off, rfl, hb, hc⟩ := hl.at (by omega)
 have hnc : ∀ i, i < 5 → w.cell? ⟨b, off + i, none⟩ = some (i64 (num l i)) := fun i hi => hc i _ (by rw [ics, List.getElem?_map, List.getElem?_eq_getElem (by omega), num_eq (by omega)]; rfl)
 have HN := hd_ hnc
 clear h hz ht hv hk hl hc hnc
 obtain ⟨D, hD⟩ : ∃ D : DeskD, { d with b := bskOf l } = D := ⟨_, rfl⟩
 have HD := hd_ hD
 have hDs : D.stops = d.stops := by rw [← hD]
 have hDl : D.drills = d.drills := by rw [← hD]
 have hDb : bskOf l = D.b := by rw [← hD]
 have hDg : D.log = d.log := by rw [← hD]
 have HSD : Hid (∀ V, Below w.heap.size w V → DSee V D A B) := hd_ fun V hV => by
  have := HS.out.below hV
  unfold DSee
  rw [hDs, hDl]
  exact this
 have HZD : Hid (DkSz D e) := hd_ ⟨by rw [hDs]; exact HZ.out.s, by rw [hDl]; exact HZ.out.n, by rw [hDl]; exact HZ.out.b, by rw [hDg]; exact HZ.out.l, by rw [hDl]; exact HZ.out.c⟩
 have HVD : Hid (vStops D.stops = true) := hd_ (by rw [hDs]; exact HV.out.2.1)
 rw [hD, hDb]
 clear hD hDs hDl hDb hDg
 cases q1 : vBsk D.b with
 | false =>
   show Calls _ _ _ _ fun r w' => mdPost d [errL 1] A B c e w r w'
   rw [h5]
   go_enter Tryz.func73, Tryz.ntmps73
   go_upto_region 1 with (fail)
   refine wpg (R := fun V => Hid (MD w V w.heap.size (w.heap.size + 1) (dkcs d A B c e))) (hd_ (MD.new _ _)) (fun V z => ?_)
   generalize hp9 : w.heap.size = p at z ⊢
   generalize hq9 : p + 1 = q at z ⊢
   clear hp9 hq9
   obtain ⟨hpV, x0, x1, x2, x3, x4, x5, x6, x7⟩ := z.out.bx.eight
   go_upto_region 2 with (fail)
   refine wpg (R := fun U => Hid (M3 w U p q V.heap.size (dkcs d A B c e) (dkcs d A B c e))) (hd_ (M3.new z.out)) (fun U y => ?_)
   clear z x0 x1 x2 x3 x4 x5 x6 x7 hpV
   generalize V.heap.size = r at *
   go_upto_region 3 with (fail)
   have hbU := Nat.lt_of_lt_of_le hb y.out.a.up.below.size
   have n0 := (y.out.a.up.below.cell (p := ⟨b, off + 0, none⟩) hb).trans (HN.out 0 (by omega))
   have n1 := (y.out.a.up.below.cell (p := ⟨b, off + 1, none⟩) hb).trans (HN.out 1 (by omega))
   have n2 := (y.out.a.up.below.cell (p := ⟨b, off + 2, none⟩) hb).trans (HN.out 2 (by omega))
   have n3 := (y.out.a.up.below.cell (p := ⟨b, off + 3, none⟩) hb).trans (HN.out 3 (by omega))
   have n4 := (y.out.a.up.below.cell (p := ⟨b, off + 4, none⟩) hb).trans (HN.out 4 (by omega))
   rw [Nat.add_zero] at n0
   obtain ⟨hrU, x0, x1, x2, x3, x4, x5, x6, x7⟩ := y.out.b.bx.eight
   obtain ⟨f0, f1, f2, f3, f4, f5, f6, f7⟩ := y.out.b.bx.open8
   go_still_tail 17, (by kernel_rfl)
   change wpList _ _ _ _ _ (World.drew _)
   go_upto_region 5 with (fail)
   have y5 := hd_ (((((y.out.put 0 (i64 (num l 0))).put 1 (i64 (num l 1))).put 2 (i64 (num l 2))).put 3 (i64 (num l 3))).put 4 (i64 (num l 4)))
   refine wpg (R := fun T => Hid (M3 w T p q r (dkcs d A B c e) (dkcs D A B c e))) (hd_ (by
    rw [← HD.out]
    exact y5.out.below (V' := World.drew _) (Below.drew (Below.refl _ _)))) (fun T t => ?_)
   clear x0 x1 x2 x3 x4 x5 x6 x7 f0 f1 f2 f3 f4 f5 f6 f7 n0 n1 n2 n3 n4 hrU hbU y y5
   obtain ⟨hrT, x0, x1, x2, x3, x4, x5, x6, x7⟩ := t.out.b.bx.eight
   go_upto_region 6 with (go_at_call 65; refine cu_ (ra_ (validBasket_any D.b _) q1) fun g => ?_)
   refine wpg (R := fun U => Hid (MD w U p q (dkcs d A B c e))) (hd_ (t.out.a.below bw_)) (fun U z => ?_)
   clear x0 x1 x2 x3 x4 x5 x6 x7 t hrT
   have hC : cel8 U.drew p d A B c e := z.out.cel
   refine wp_region_T (fun U => U.cell? ⟨p, 0, none⟩ = some (i64 (d).b.bars) ∧ U.cell? ⟨p, 1, none⟩ = some (i64 (d).b.rise) ∧ U.cell? ⟨p, 2, none⟩ = some (i64 (d).b.fall) ∧ U.cell? ⟨p, 3, none⟩ = some (i64 (d).b.clr) ∧ U.cell? ⟨p, 4, none⟩ = some (i64 (d).b.near) ∧ U.cell? ⟨p, 5, none⟩ = some (.slice A (d).stops.length c) ∧ U.cell? ⟨p, 6, none⟩ = some (.slice B (d).drills.length e) ∧ U.cell? ⟨p, 7, none⟩ = some (.string (d).log)) 2 (by kernel_rfl) ?_
   refine wtl 0 (hC) ?_
   refine wto 1 fun K hK => ?_
   go_simp
   go_at_call 70
   refine (report_any 1 _).mono ?_
   rintro r w' ⟨X, n, rfl, ox, gx, rfl⟩
   have z2 := hd_ (z.out.below (V' := up U.drew gx) (bl_up (Below.drew (Below.refl _ _)) gx))
   have OX := hd_ ox
   clear ox
   refine hK.out _ _ (fun _ => z2.out.cel) (wtn ?_)
   clear hK K
   obtain ⟨hqT, r0, r1, r2, r3, r4, r5, r6, r7⟩ := z2.out.rs.eight
   obtain ⟨f0, f1, f2, f3, f4, f5, f6, f7⟩ := z2.out.rs.open8
   refine wto 2 fun K hK => ?_
   go_simp
   refine hK.out _ _ tf_ (wtn ?_)
   clear hK K
   refine wtp 3 tf_ ?_
   refine wtd ?_
   have hqU := z.out.rs.lt
   go_wp2_with fail
   refine bodyPost_ret (v := .tuple #[dkv (d) A B c e, .slice X 1 n]) (by simp [results, Tryz.results73, go_sem, hqT, r0, r1, r2, r3, r4, r5, r6, r7]) rfl ?_
   exact ⟨X, n, rfl, om_ (oa_ OX.out hqU _ _ _ _ _ _ _ _) z.out.up.below.size, put8_up z2.out.up z2.out.hq _ _ _ _ _ _ _ _⟩
 | true =>
   show Calls _ _ _ _ fun r w' => mdPost D [dkText D] A B c e w r w'
   rw [h5]
   go_enter Tryz.func73, Tryz.ntmps73
   go_upto_region 1 with (fail)
   refine wpg (R := fun V => Hid (MD w V w.heap.size (w.heap.size + 1) (dkcs d A B c e))) (hd_ (MD.new _ _)) (fun V z => ?_)
   generalize hp9 : w.heap.size = p at z ⊢
   generalize hq9 : p + 1 = q at z ⊢
   clear hp9 hq9
   obtain ⟨hpV, x0, x1, x2, x3, x4, x5, x6, x7⟩ := z.out.bx.eight
   go_upto_region 2 with (fail)
   refine wpg (R := fun U => Hid (M3 w U p q V.heap.size (dkcs d A B c e) (dkcs d A B c e))) (hd_ (M3.new z.out)) (fun U y => ?_)
   clear z x0 x1 x2 x3 x4 x5 x6 x7 hpV
   generalize V.heap.size = r at *
   go_upto_region 3 with (fail)
   have hbU := Nat.lt_of_lt_of_le hb y.out.a.up.below.size
   have n0 := (y.out.a.up.below.cell (p := ⟨b, off + 0, none⟩) hb).trans (HN.out 0 (by omega))
   have n1 := (y.out.a.up.below.cell (p := ⟨b, off + 1, none⟩) hb).trans (HN.out 1 (by omega))
   have n2 := (y.out.a.up.below.cell (p := ⟨b, off + 2, none⟩) hb).trans (HN.out 2 (by omega))
   have n3 := (y.out.a.up.below.cell (p := ⟨b, off + 3, none⟩) hb).trans (HN.out 3 (by omega))
   have n4 := (y.out.a.up.below.cell (p := ⟨b, off + 4, none⟩) hb).trans (HN.out 4 (by omega))
   rw [Nat.add_zero] at n0
   obtain ⟨hrU, x0, x1, x2, x3, x4, x5, x6, x7⟩ := y.out.b.bx.eight
   obtain ⟨f0, f1, f2, f3, f4, f5, f6, f7⟩ := y.out.b.bx.open8
   go_still_tail 17, (by kernel_rfl)
   change wpList _ _ _ _ _ (World.drew _)
   go_upto_region 5 with (fail)
   have y5 := hd_ (((((y.out.put 0 (i64 (num l 0))).put 1 (i64 (num l 1))).put 2 (i64 (num l 2))).put 3 (i64 (num l 3))).put 4 (i64 (num l 4)))
   refine wpg (R := fun T => Hid (M3 w T p q r (dkcs d A B c e) (dkcs D A B c e))) (hd_ (by
    rw [← HD.out]
    exact y5.out.below (V' := World.drew _) (Below.drew (Below.refl _ _)))) (fun T t => ?_)
   clear x0 x1 x2 x3 x4 x5 x6 x7 f0 f1 f2 f3 f4 f5 f6 f7 n0 n1 n2 n3 n4 hrU hbU y y5
   obtain ⟨hrT, x0, x1, x2, x3, x4, x5, x6, x7⟩ := t.out.b.bx.eight
   go_upto_region 7 with (first | (go_at_call 65; refine cu_ (ra_ (validBasket_any D.b _) q1) fun g => ?_) | (go_at_call 66; refine cu_ (ra_ (validStops_any A c D.stops _ ((HSD.out _ (t.out.a.up.tr bw_).below).1) HZD.out.s) HVD.out) fun g => ?_))
   refine wpg (R := fun U => Hid (MD w U r q (dkcs D A B c e))) (hd_ (t.out.b.below bw_)) (fun U z => ?_)
   clear x0 x1 x2 x3 x4 x5 x6 x7 t hrT
   generalize p = p0 at *
   generalize r = p at *
   have hC : cel8 U.drew p D A B c e := z.out.cel
   refine wp_region_T (fun U => U.cell? ⟨p, 0, none⟩ = some (i64 (D).b.bars) ∧ U.cell? ⟨p, 1, none⟩ = some (i64 (D).b.rise) ∧ U.cell? ⟨p, 2, none⟩ = some (i64 (D).b.fall) ∧ U.cell? ⟨p, 3, none⟩ = some (i64 (D).b.clr) ∧ U.cell? ⟨p, 4, none⟩ = some (i64 (D).b.near) ∧ U.cell? ⟨p, 5, none⟩ = some (.slice A (D).stops.length c) ∧ U.cell? ⟨p, 6, none⟩ = some (.slice B (D).drills.length e) ∧ U.cell? ⟨p, 7, none⟩ = some (.string (D).log)) 5 (by kernel_rfl) ?_
   refine wtl 0 (hC) ?_
   refine wtl 1 (hC) ?_
   refine wto 2 fun K hK => ?_
   go_simp
   go_at_call 11
   refine cu_ (deskTextI_any D A B c e _ (HSD.out _ (z.out.up.tr bw_).below) HZD.out (HT.out.below (z.out.up.tr bw_).below)) fun gx => ?_
   have z2 := hd_ (z.out.below (V' := up U.drew gx) (bl_up (Below.drew (Below.refl _ _)) gx))
   refine hK.out _ _ (fun _ => z2.out.cel) (wtn ?_)
   clear hK K
   have hqU := z2.out.rs.lt
   have HLE := hd_ z2.out.up.below.size
   obtain ⟨hqT, r0, r1, r2, r3, r4, r5, r6, r7⟩ := z2.out.rs.eight
   obtain ⟨f0, f1, f2, f3, f4, f5, f6, f7⟩ := z2.out.rs.open8
   refine wpAnyT_ready (rs := [3, 4]) (by kernel_rfl) (by simp) (AllReadyT.cons rfl (fun K hK => ?_) (AllReadyT.cons rfl (fun K hK => ?_) AllReadyT.nil))
   ·go_simp
    have z3 := hd_ (z2.out.below (V' := (up U.drew gx).alloc (.cells #[.string (dkText (D))] 9)) bw_)
    have OX := hd_ (World.ownsRow_lit (base := (up U.drew gx).heap.size) (e := 9) (size := 1) (up U.drew gx) #[.string (dkText (D))] 1 (Nat.le_refl _) (by unfold maxLen; omega) rfl)
    refine hK.out _ _ (fun _ => z3.out.cel) (wtn ?_)
    clear hK K
    refine wto 4 fun K hK => ?_
    go_simp
    refine hK.out _ _ (fun _ => (blk_far8 z3.out.bx z3.out.ne _ _ _ _ _ _ _ _).eight.2) (wtn ?_)
    clear hK K
    refine wto 5 fun K hK => ?_
    go_simp
    refine hK.out _ _ tf_ (wtn ?_)
    clear hK K
    refine wtd ?_
    go_wp2_with fail
    refine post_gen (R := fun W => Blk W q 31 (dkcs (D) A B c e) ∧ W.ownsRow w.heap.size 9 1 (.slice (some ⟨(up U.drew gx).heap.size, 0, none⟩) 1 1) 1 (strs [dkText (D)]) ∧ UpOf w W) ⟨blk_put8 z3.out.rs _ _ _ _ _ _ _ _, om_ (oa_ OX.out hqU _ _ _ _ _ _ _ _) HLE.out, put8_up z3.out.up z3.out.hq _ _ _ _ _ _ _ _⟩ (fun W st => ?_)
    obtain ⟨s1, s2, s3⟩ := st
    obtain ⟨hqW, w0, w1, w2, w3, w4, w5, w6, w7⟩ := s1.eight
    clear s1 r0 r1 r2 r3 r4 r5 r6 r7 f0 f1 f2 f3 f4 f5 f6 f7
    exact bodyPost_ret (v := .tuple #[dkv (D) A B c e, .slice (some ⟨(up U.drew gx).heap.size, 0, none⟩) 1 1]) (by simp [results, Tryz.results73, go_sem, hqW, w0, w1, w2, w3, w4, w5, w6, w7]) rfl ⟨_, _, rfl, s2, s3⟩
   ·go_simp
    refine hK.out _ _ (fun _ => (blk_far8 z2.out.bx z2.out.ne _ _ _ _ _ _ _ _).eight.2) (wtn ?_)
    clear hK K
    refine wto 3 fun K hK => ?_
    go_simp
    refine hK.out _ _ (fun _ => ((blk_far8 z2.out.bx z2.out.ne _ _ _ _ _ _ _ _).alloc _).eight.2) (wtn ?_)
    clear hK K
    refine wto 5 fun K hK => ?_
    go_simp
    refine hK.out _ _ tf_ (wtn ?_)
    clear hK K
    refine wtd ?_
    go_wp2_with fail
    refine post_gen (R := fun W => Blk W q 31 (dkcs (D) A B c e) ∧ W.ownsRow w.heap.size 9 1 (.slice (some ⟨(up U.drew gx).heap.size, 0, none⟩) 1 1) 1 (strs [dkText (D)]) ∧ UpOf w W) ⟨(blk_put8 z2.out.rs _ _ _ _ _ _ _ _).alloc _, own_txt (put8_up z2.out.up z2.out.hq _ _ _ _ _ _ _ _) (dkText (D)) (by simp only [World.size_setCell]), (put8_up z2.out.up z2.out.hq _ _ _ _ _ _ _ _).tr ((Below.refl _ _).alloc (Nat.le_refl _) _)⟩ (fun W st => ?_)
    obtain ⟨s1, s2, s3⟩ := st
    obtain ⟨hqW, w0, w1, w2, w3, w4, w5, w6, w7⟩ := s1.eight
    clear s1 r0 r1 r2 r3 r4 r5 r6 r7 f0 f1 f2 f3 f4 f5 f6 f7
    exact bodyPost_ret (v := .tuple #[dkv (D) A B c e, .slice (some ⟨(up U.drew gx).heap.size, 0, none⟩) 1 1]) (by simp [results, Tryz.results73, go_sem, hqW, w0, w1, w2, w3, w4, w5, w6, w7]) rfl ⟨_, _, rfl, s2, s3⟩
end Go.Proofs.YtbianlkenallaaaGreatDoor
