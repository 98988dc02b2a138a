/-
  The stops are changed: the program's. The bounds stand at it.
-/
import Derived.Test.YtbianlkenallaaaGreatDoorDk2
set_option linter.all false
set_option maxHeartbeats 8000000
set_option maxRecDepth 10000
namespace Go.Proofs.YtbianlkenallaaaGreatDoor
open Go.RowKit
theorem settingS_any (d : DeskD) (A B : Option Addr) (c e : Nat) (l : List Int) (N : Option Addr) (nc : Nat) (s : ByteArray) (w : World) (h : DSee w d A B) (hz : DkSz d e) (ht : Tab w) (hv : vDesk d = true) (hl : Rds w 1 N l.length (ics l)) (hln : l.length ≤ 100000000) (hk : kindOf s = 12) :
 Calls Tryz.prog 73 #[dkv d A B c e, .string s, .slice N l.length nc] w fun r w' =>
  if vStops l then mdPost { d with stops := l } [dkText { d with stops := l }] N B nc e w r w' else mdPost d [errL 1] A B c e w r w' := by
 have HS := hd_ h
 have HZ := hd_ hz
 have HT := hd_ ht
 have HV := hd_ (vDesk_inv hv)
 have HL := hd_ hl
 have qk : (s.toList == [98, 97, 115, 107, 101, 116]) = false := by
  have := kind_test2 s (i := 1) (by omega)
  rw [hk] at this
  exact this
 obtain ⟨D, hD⟩ : ∃ D : DeskD, { d with stops := l } = D := ⟨_, rfl⟩
 have HD := hd_ hD
 have hDs : D.stops = l := by rw [← hD]
 have hDl : D.drills = d.drills := by rw [← hD]
 have hDb : D.b = d.b := by rw [← hD]
 have hDg : D.log = d.log := by rw [← hD]
 have HSD : Hid (∀ V, Below w.heap.size w V → DSee V D N B) := hd_ fun V hV => by
  unfold DSee
  rw [hDs, hDl]
  exact ⟨HL.out.below hV, (HS.out.below hV).2⟩
 have HZD : Hid (DkSz D e) := hd_ ⟨by rw [hDs]; exact hln, by rw [hDl]; exact HZ.out.n, by rw [hDl]; exact HZ.out.b, by rw [hDg]; exact HZ.out.l, by rw [hDl]; exact HZ.out.c⟩
 have HBD : Hid (vBsk D.b = true) := hd_ (by rw [hDb]; exact HV.out.1)
 have HLS := hd_ hDs
 rw [hD]
 clear hD hDs hDl hDb hDg h hz ht hv hk hl
 cases q1 : vStops l with
 | false =>
   show Calls _ _ _ _ fun r w' => mdPost d [errL 1] A B c e w r w'
   go_enter Tryz.func73, Tryz.ntmps73
   go_upto_region 1 with (fail)
   refine wpg (R := fun V => Hid (MD w V w.heap.size (w.heap.size + 1) (dkcs d A B c e))) (hd_ (MD.new _ _)) (fun V z => ?_)
   generalize hp9 : w.heap.size = p at z ⊢
   generalize hq9 : p + 1 = q at z ⊢
   clear hp9 hq9
   obtain ⟨hpV, x0, x1, x2, x3, x4, x5, x6, x7⟩ := z.out.bx.eight
   go_upto_region 2 with (fail)
   refine wpg (R := fun U => Hid (M3 w U p q V.heap.size (dkcs d A B c e) (dkcs d A B c e))) (hd_ (M3.new z.out)) (fun U y => ?_)
   clear z x0 x1 x2 x3 x4 x5 x6 x7 hpV
   generalize V.heap.size = r at *
   obtain ⟨hrU, x0, x1, x2, x3, x4, x5, x6, x7⟩ := y.out.b.bx.eight
   obtain ⟨f0, f1, f2, f3, f4, f5, f6, f7⟩ := y.out.b.bx.open8
   go_upto_region 5 with (fail)
   have y5 := hd_ (y.out.put 5 (.slice N l.length nc))
   refine wpg (R := fun T => Hid (M3 w T p q r (dkcs d A B c e) (dkcs D N B nc e))) (hd_ (by
    rw [← HD.out]
    exact y5.out)) (fun T t => ?_)
   clear x0 x1 x2 x3 x4 x5 x6 x7 f0 f1 f2 f3 f4 f5 f6 f7 hrU y y5
   obtain ⟨hrT, x0, x1, x2, x3, x4, x5, x6, x7⟩ := t.out.b.bx.eight
   rw [← HLS.out] at q1
   go_upto_region 6 with (first | (go_at_call 65; refine cu_ (ra_ (validBasket_any D.b _) HBD.out) fun g => ?_) | (go_at_call 66; refine cu_ (ra_ (validStops_any N nc D.stops _ ((HSD.out _ (t.out.a.up.tr bw_).below).1) HZD.out.s) q1) fun g => ?_))
   refine wpg (R := fun U => Hid (MD w U p q (dkcs d A B c e))) (hd_ (t.out.a.below bw_)) (fun U z => ?_)
   clear x0 x1 x2 x3 x4 x5 x6 x7 t hrT
   have hC : cel8 U.drew p d A B c e := z.out.cel
   refine wp_region_T (fun U => U.cell? ⟨p, 0, none⟩ = some (i64 (d).b.bars) ∧ U.cell? ⟨p, 1, none⟩ = some (i64 (d).b.rise) ∧ U.cell? ⟨p, 2, none⟩ = some (i64 (d).b.fall) ∧ U.cell? ⟨p, 3, none⟩ = some (i64 (d).b.clr) ∧ U.cell? ⟨p, 4, none⟩ = some (i64 (d).b.near) ∧ U.cell? ⟨p, 5, none⟩ = some (.slice A (d).stops.length c) ∧ U.cell? ⟨p, 6, none⟩ = some (.slice B (d).drills.length e) ∧ U.cell? ⟨p, 7, none⟩ = some (.string (d).log)) 2 (by kernel_rfl) ?_
   refine wtl 0 (hC) ?_
   refine wto 1 fun K hK => ?_
   go_simp
   go_at_call 70
   refine (report_any 1 _).mono ?_
   rintro r w' ⟨X, n, rfl, ox, gx, rfl⟩
   have z2 := hd_ (z.out.below (V' := up U.drew gx) (bl_up (Below.drew (Below.refl _ _)) gx))
   have OX := hd_ ox
   clear ox
   refine hK.out _ _ (fun _ => z2.out.cel) (wtn ?_)
   clear hK K
   obtain ⟨hqT, r0, r1, r2, r3, r4, r5, r6, r7⟩ := z2.out.rs.eight
   obtain ⟨f0, f1, f2, f3, f4, f5, f6, f7⟩ := z2.out.rs.open8
   refine wto 2 fun K hK => ?_
   go_simp
   refine hK.out _ _ tf_ (wtn ?_)
   clear hK K
   refine wtp 3 tf_ ?_
   refine wtd ?_
   have hqU := z.out.rs.lt
   go_wp2_with fail
   refine bodyPost_ret (v := .tuple #[dkv (d) A B c e, .slice X 1 n]) (by simp [results, Tryz.results73, go_sem, hqT, r0, r1, r2, r3, r4, r5, r6, r7]) rfl ?_
   exact ⟨X, n, rfl, om_ (oa_ OX.out hqU _ _ _ _ _ _ _ _) z.out.up.below.size, put8_up z2.out.up z2.out.hq _ _ _ _ _ _ _ _⟩
 | true =>
   show Calls _ _ _ _ fun r w' => mdPost D [dkText D] N B nc e w r w'
   go_enter Tryz.func73, Tryz.ntmps73
   go_upto_region 1 with (fail)
   refine wpg (R := fun V => Hid (MD w V w.heap.size (w.heap.size + 1) (dkcs d A B c e))) (hd_ (MD.new _ _)) (fun V z => ?_)
   generalize hp9 : w.heap.size = p at z ⊢
   generalize hq9 : p + 1 = q at z ⊢
   clear hp9 hq9
   obtain ⟨hpV, x0, x1, x2, x3, x4, x5, x6, x7⟩ := z.out.bx.eight
   go_upto_region 2 with (fail)
   refine wpg (R := fun U => Hid (M3 w U p q V.heap.size (dkcs d A B c e) (dkcs d A B c e))) (hd_ (M3.new z.out)) (fun U y => ?_)
   clear z x0 x1 x2 x3 x4 x5 x6 x7 hpV
   generalize V.heap.size = r at *
   obtain ⟨hrU, x0, x1, x2, x3, x4, x5, x6, x7⟩ := y.out.b.bx.eight
   obtain ⟨f0, f1, f2, f3, f4, f5, f6, f7⟩ := y.out.b.bx.open8
   go_upto_region 5 with (fail)
   have y5 := hd_ (y.out.put 5 (.slice N l.length nc))
   refine wpg (R := fun T => Hid (M3 w T p q r (dkcs d A B c e) (dkcs D N B nc e))) (hd_ (by
    rw [← HD.out]
    exact y5.out)) (fun T t => ?_)
   clear x0 x1 x2 x3 x4 x5 x6 x7 f0 f1 f2 f3 f4 f5 f6 f7 hrU y y5
   obtain ⟨hrT, x0, x1, x2, x3, x4, x5, x6, x7⟩ := t.out.b.bx.eight
   rw [← HLS.out] at q1
   go_upto_region 7 with (first | (go_at_call 65; refine cu_ (ra_ (validBasket_any D.b _) HBD.out) fun g => ?_) | (go_at_call 66; refine cu_ (ra_ (validStops_any N nc D.stops _ ((HSD.out _ (t.out.a.up.tr bw_).below).1) HZD.out.s) q1) fun g => ?_))
   refine wpg (R := fun U => Hid (MD w U r q (dkcs D N B nc e))) (hd_ (t.out.b.below bw_)) (fun U z => ?_)
   clear x0 x1 x2 x3 x4 x5 x6 x7 t hrT
   generalize p = p0 at *
   generalize r = p at *
   have hC : cel8 U.drew p D N B nc e := z.out.cel
   refine wp_region_T (fun U => U.cell? ⟨p, 0, none⟩ = some (i64 (D).b.bars) ∧ U.cell? ⟨p, 1, none⟩ = some (i64 (D).b.rise) ∧ U.cell? ⟨p, 2, none⟩ = some (i64 (D).b.fall) ∧ U.cell? ⟨p, 3, none⟩ = some (i64 (D).b.clr) ∧ U.cell? ⟨p, 4, none⟩ = some (i64 (D).b.near) ∧ U.cell? ⟨p, 5, none⟩ = some (.slice N (D).stops.length nc) ∧ U.cell? ⟨p, 6, none⟩ = some (.slice B (D).drills.length e) ∧ U.cell? ⟨p, 7, none⟩ = some (.string (D).log)) 5 (by kernel_rfl) ?_
   refine wtl 0 (hC) ?_
   refine wtl 1 (hC) ?_
   refine wto 2 fun K hK => ?_
   go_simp
   go_at_call 11
   refine cu_ (deskTextI_any D N B nc e _ (HSD.out _ (z.out.up.tr bw_).below) HZD.out (HT.out.below (z.out.up.tr bw_).below)) fun gx => ?_
   have z2 := hd_ (z.out.below (V' := up U.drew gx) (bl_up (Below.drew (Below.refl _ _)) gx))
   refine hK.out _ _ (fun _ => z2.out.cel) (wtn ?_)
   clear hK K
   have hqU := z2.out.rs.lt
   have HLE := hd_ z2.out.up.below.size
   obtain ⟨hqT, r0, r1, r2, r3, r4, r5, r6, r7⟩ := z2.out.rs.eight
   obtain ⟨f0, f1, f2, f3, f4, f5, f6, f7⟩ := z2.out.rs.open8
   refine wpAnyT_ready (rs := [3, 4]) (by kernel_rfl) (by simp) (AllReadyT.cons rfl (fun K hK => ?_) (AllReadyT.cons rfl (fun K hK => ?_) AllReadyT.nil))
   ·go_simp
    have z3 := hd_ (z2.out.below (V' := (up U.drew gx).alloc (.cells #[.string (dkText (D))] 9)) bw_)
    have OX := hd_ (World.ownsRow_lit (base := (up U.drew gx).heap.size) (e := 9) (size := 1) (up U.drew gx) #[.string (dkText (D))] 1 (Nat.le_refl _) (by unfold maxLen; omega) rfl)
    refine hK.out _ _ (fun _ => z3.out.cel) (wtn ?_)
    clear hK K
    refine wto 4 fun K hK => ?_
    go_simp
    refine hK.out _ _ (fun _ => (blk_far8 z3.out.bx z3.out.ne _ _ _ _ _ _ _ _).eight.2) (wtn ?_)
    clear hK K
    refine wto 5 fun K hK => ?_
    go_simp
    refine hK.out _ _ tf_ (wtn ?_)
    clear hK K
    refine wtd ?_
    go_wp2_with fail
    refine post_gen (R := fun W => Blk W q 31 (dkcs (D) N B nc e) ∧ W.ownsRow w.heap.size 9 1 (.slice (some ⟨(up U.drew gx).heap.size, 0, none⟩) 1 1) 1 (strs [dkText (D)]) ∧ UpOf w W) ⟨blk_put8 z3.out.rs _ _ _ _ _ _ _ _, om_ (oa_ OX.out hqU _ _ _ _ _ _ _ _) HLE.out, put8_up z3.out.up z3.out.hq _ _ _ _ _ _ _ _⟩ (fun W st => ?_)
    obtain ⟨s1, s2, s3⟩ := st
    obtain ⟨hqW, w0, w1, w2, w3, w4, w5, w6, w7⟩ := s1.eight
    clear s1 r0 r1 r2 r3 r4 r5 r6 r7 f0 f1 f2 f3 f4 f5 f6 f7
    exact bodyPost_ret (v := .tuple #[dkv (D) N B nc e, .slice (some ⟨(up U.drew gx).heap.size, 0, none⟩) 1 1]) (by simp [results, Tryz.results73, go_sem, hqW, w0, w1, w2, w3, w4, w5, w6, w7]) rfl ⟨_, _, rfl, s2, s3⟩
   ·go_simp
    refine hK.out _ _ (fun _ => (blk_far8 z2.out.bx z2.out.ne _ _ _ _ _ _ _ _).eight.2) (wtn ?_)
    clear hK K
    refine wto 3 fun K hK => ?_
    go_simp
    refine hK.out _ _ (fun _ => ((blk_far8 z2.out.bx z2.out.ne _ _ _ _ _ _ _ _).alloc _).eight.2) (wtn ?_)
    clear hK K
    refine wto 5 fun K hK => ?_
    go_simp
    refine hK.out _ _ tf_ (wtn ?_)
    clear hK K
    refine wtd ?_
    go_wp2_with fail
    refine post_gen (R := fun W => Blk W q 31 (dkcs (D) N B nc e) ∧ W.ownsRow w.heap.size 9 1 (.slice (some ⟨(up U.drew gx).heap.size, 0, none⟩) 1 1) 1 (strs [dkText (D)]) ∧ UpOf w W) ⟨(blk_put8 z2.out.rs _ _ _ _ _ _ _ _).alloc _, own_txt (put8_up z2.out.up z2.out.hq _ _ _ _ _ _ _ _) (dkText (D)) (by simp only [World.size_setCell]), (put8_up z2.out.up z2.out.hq _ _ _ _ _ _ _ _).tr ((Below.refl _ _).alloc (Nat.le_refl _) _)⟩ (fun W st => ?_)
    obtain ⟨s1, s2, s3⟩ := st
    obtain ⟨hqW, w0, w1, w2, w3, w4, w5, w6, w7⟩ := s1.eight
    clear s1 r0 r1 r2 r3 r4 r5 r6 r7 f0 f1 f2 f3 f4 f5 f6 f7
    exact bodyPost_ret (v := .tuple #[dkv (D) N B nc e, .slice (some ⟨(up U.drew gx).heap.size, 0, none⟩) 1 1]) (by simp [results, Tryz.results73, go_sem, hqW, w0, w1, w2, w3, w4, w5, w6, w7]) rfl ⟨_, _, rfl, s2, s3⟩
end Go.Proofs.YtbianlkenallaaaGreatDoor
