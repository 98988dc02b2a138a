/-
  A state of its own, the reference's. The bounds stand at it.
-/
import Derived.Test.YtbianlkenallaaaGreatDoorMgG
set_option linter.all false
set_option maxHeartbeats 4000000
set_option maxRecDepth 10000
namespace Go.Proofs.YtbianlkenallaaaGreatDoor
open Go.RowKit
structure CQ (w V : World) (p q : Nat) (x : Array Value) : Prop where
 bx : Blk V p 31 x
 rs : Blk V q 31 zc
 up : UpOf w V
 hq : w.heap.size ≤ q
 ne : p ≠ q
theorem CQ.below {w V V' : World} {p q : Nat} {x : Array Value} (h : CQ w V p q x) (hb : Below V.heap.size V V') : CQ w V' p q x := ⟨h.bx.up ⟨V', hb⟩, h.rs.up ⟨V', hb⟩, h.up.tr hb, h.hq, h.ne⟩
theorem CQ.cel {w V : World} {p q : Nat} {d : DeskD} {A B : Option Addr} {c e : Nat} (h : CQ w V p q (dkcs d A B c e)) : cel8 V p d A B c e := h.bx.eight.2
theorem CQ.grown {w V V' : World} {p q : Nat} {x : Array Value} {row : Option Nat} (h : CQ w V p q x) (hg : V.grownBy V' row) (hp : some p ≠ row) (hq : some q ≠ row) (hr : ∀ k, row = some k → w.heap.size ≤ k) : CQ w V' p q x :=
 ⟨h.bx.grown hg hp, h.rs.grown hg hq, up_of_grown h.up.below hg hr, h.hq, h.ne⟩
theorem l28Copy_any (d : DeskD) (A B : Option Addr) (c e : Nat) (p : Nat) (w : World) (hb : Blk w p 31 (dkcs d A B c e)) (h : DSee w d A B) (hn : d.stops.length ≤ 10000000) (hm : d.drills.length ≤ 100000000) :
 Calls Tryz.prog 51 #[.pointer (some ⟨p, 0, none⟩)] w fun r w' => ∃ A' B' c' e', r = .returned (dkv d A' B' c' e') ∧ DOwn w.heap.size w' d A' B' c' e' ∧ UpOf w w' := by
 have HR := hd_ h
 have HBX := hd_ hb
 clear h hb
 go_enter Tryz.func51, Tryz.ntmps51
 go_upto_region 1 with (fail)
 refine wpg (R := fun V => Hid (CQ w V p w.heap.size (dkcs d A B c e))) (hd_ ⟨HBX.out.alloc _, Blk.new _ _ _, uw_, Nat.le_refl _, Nat.ne_of_lt HBX.out.lt⟩) (fun V z => ?_)
 have HRV := hd_ (HR.out.below z.out.up.below)
 have HQW := hd_ (show w.heap.size ≤ V.heap.size ∧ w.heap.size < V.heap.size from ⟨z.out.up.below.size, z.out.rs.lt⟩)
 obtain ⟨q, hq9⟩ := nm_ (w.heap.size)
 replace z : Hid (CQ w V p q (dkcs d A B c e)) := hd_ (hq9 ▸ z.out)
 replace HQW : Hid (w.heap.size ≤ V.heap.size ∧ q < V.heap.size) := hd_ (hq9 ▸ HQW.out)
 rw [hq9]
 clear hq9
 have hC : cel8 V.drew p d A B c e := z.out.cel
 refine wp_region_T (fun U => U.cell? ⟨p, 0, none⟩ = some (i64 d.b.bars) ∧ U.cell? ⟨p, 1, none⟩ = some (i64 d.b.rise) ∧ U.cell? ⟨p, 2, none⟩ = some (i64 d.b.fall) ∧ U.cell? ⟨p, 3, none⟩ = some (i64 d.b.clr) ∧ U.cell? ⟨p, 4, none⟩ = some (i64 d.b.near) ∧ U.cell? ⟨p, 5, none⟩ = some (.slice A d.stops.length c) ∧ U.cell? ⟨p, 6, none⟩ = some (.slice B d.drills.length e) ∧ U.cell? ⟨p, 7, none⟩ = some (.string d.log)) 20 (by kernel_rfl) ?_
 refine wtp 0 (fun _ => hC) ?_
 refine wtp 1 (fun _ => hC) ?_
 refine wtp 2 (fun _ => hC) ?_
 refine wtl 3 (hC) ?_
 refine wtp 4 (fun _ => hC) ?_
 refine wtp 5 (fun _ => hC) ?_
 refine wtp 6 (fun _ => hC) ?_
 refine wtl 7 (hC) ?_
 refine wtp 10 (fun _ => hC) ?_
 refine wtp 11 (fun _ => hC) ?_
 refine wtp 12 (fun _ => hC) ?_
 refine wtl 13 (hC) ?_
 refine wtp 15 (fun _ => hC) ?_
 refine wtp 16 (fun _ => hC) ?_
 refine wtp 17 (fun _ => hC) ?_
 refine wtl 18 (hC) ?_
 refine wpAnyT_ready (rs := [8, 9]) (by kernel_rfl) (by simp) (AllReadyT.cons rfl (fun K hK => ?_) (AllReadyT.cons rfl (fun K hK => ?_) AllReadyT.nil))
 ·go_simp
  go_at_call 115
  refine (l00Own_any A c d.stops _ (HRV.out.1.below bw_) hn).mono ?_
  rintro r w' ⟨A1, c1, rfl, o1, g1, rfl⟩
  have z1 := hd_ (z.out.below (V' := up V.drew g1) (bl_up (Below.drew (Below.refl _ _)) g1))
  refine hK.out _ _ (fun _ => z1.out.cel) (wtn ?_)
  clear hK K
  refine wto 9 fun K hK => ?_
  go_simp
  have y1 := hd_ (z1.out.below (V' := (up V.drew g1).alloc (.cells #[] 112)) (bl_alloc (Below.refl _ _) _))
  refine hK.out _ _ (fun _ => y1.out.cel) (wtn ?_)
  clear hK K
  have y5 : V.heap.size ≤ ((up V.drew g1).alloc (.cells #[] 112)).heap.size := (show Below V.heap.size V _ from bw_).size
  have y2 := hd_ (ob_ o1 (bl_alloc (Below.refl _ _) (.cells #[] 112)))
  have y3 := hd_ (World.ownsRow_lit (base := V.heap.size) (e := 112) (size := 3) (up V.drew g1) #[] 0 (show Below V.heap.size V _ from bw_).size (by unfold maxLen; omega) rfl)
  have y4 := hd_ (HRV.out.2.below (show Below V.heap.size V ((up V.drew g1).alloc (.cells #[] 112)) from bw_))
  clear o1 z1
  generalize (up V.drew g1).heap.size = b0 at y3 ⊢
  refine wpAnyT_gen (R := fun U => Hid (CQ w U p q (dkcs d A B c e)) ∧ Hid (U.ownsRow V.heap.size 2 1 (.slice A1 d.stops.length c1) d.stops.length (ics d.stops)) ∧ Hid (U.ownsRow V.heap.size 112 3 (.slice (some ⟨b0, 0, none⟩) 0 0) 0 []) ∧ Hid (Rds U 3 B d.drills.length (drcs d.drills)) ∧ V.heap.size ≤ U.heap.size) ⟨y1, y2, y3, y4, y5⟩ (fun U y => ?_)
  clear y1 y2 y3 y4 y5 z HRV hC
  obtain ⟨y1, y2, y3, y4, y5⟩ := y
  refine wto 14 fun K hK => ?_
  refine step_app rfl _ _ 29 rfl V.heap.size 112 _ 3 40 el_drl (.slice (some ⟨b0, 0, none⟩) 0 0) 0 [] rfl y3.out B d.drills.length e (drcs d.drills) rfl y4.out (dr_one d.drills) (by unfold maxLen; omega) (by omega) y5 (fun A2 c2 T o2 g2 => ?_)
  have z4 := hd_ (y1.out.grown g2 (blk_tne y1.out.bx y3.out (by decide)) (blk_tne y1.out.rs y3.out (by decide)) fun k hk => Nat.le_trans HQW.out.1 (y3.out.lt k hk).1)
  have O1 := hd_ (y2.out.kept g2 (own_tne y2.out y3.out (by decide)))
  have O2 : Hid (T.ownsRow V.heap.size 112 3 (.slice A2 d.drills.length c2) d.drills.length (drcs d.drills)) := hd_ (by simpa using o2)
  clear o2 g2 y1 y2 y3 y4
  refine hK.out _ _ (fun _ => z4.out.cel) (wtn ?_)
  clear hK K
  simp only [Nat.zero_add]
  refine wtp 19 (fun _ => z4.out.cel) ?_
  obtain ⟨hqT, r0, r1, r2, r3, r4, r5, r6, r7⟩ := z4.out.rs.eight
  obtain ⟨f0, f1, f2, f3, f4, f5, f6, f7⟩ := z4.out.rs.open8
  refine wto 20 fun K hK => ?_
  go_simp
  refine hK.out _ _ tf_ (wtn ?_)
  clear hK K
  refine wtd ?_
  go_wp2_with fail
  refine post_gen (R := fun W => Blk W q 31 (dkcs d A1 A2 c1 c2) ∧ DOwn w.heap.size W d A1 A2 c1 c2 ∧ UpOf w W) ⟨blk_put8 z4.out.rs _ _ _ _ _ _ _ _, ⟨om_ (oa_ O1.out HQW.out.2 _ _ _ _ _ _ _ _) HQW.out.1, om_ (oa_ O2.out HQW.out.2 _ _ _ _ _ _ _ _) HQW.out.1⟩, put8_up z4.out.up z4.out.hq _ _ _ _ _ _ _ _⟩ (fun W st => ?_)
  obtain ⟨s1, s2, s3⟩ := st
  obtain ⟨hqW, w0, w1, w2, w3, w4, w5, w6, w7⟩ := s1.eight
  clear s1 r0 r1 r2 r3 r4 r5 r6 r7 f0 f1 f2 f3 f4 f5 f6 f7
  exact bodyPost_ret (v := dkv d A1 A2 c1 c2) (by simp [results, Tryz.results51, go_sem, w0, w1, w2, w3, w4, w5, w6, w7]) rfl ⟨A1, A2, c1, c2, rfl, s2, s3⟩
 ·go_simp
  have z1 := hd_ (z.out.below (V' := V.drew.alloc (.cells #[] 112)) (bl_alloc (Below.drew (Below.refl _ _)) _))
  refine hK.out _ _ (fun _ => z1.out.cel) (wtn ?_)
  clear hK K
  refine wto 8 fun K hK => ?_
  go_simp
  go_at_call 115
  refine (l00Own_any A c d.stops _ (HRV.out.1.below bw_) hn).mono ?_
  rintro r w' ⟨A1, c1, rfl, o1, g1, rfl⟩
  have y1 := hd_ (z1.out.below (ub_ _ g1))
  refine hK.out _ _ (fun _ => y1.out.cel) (wtn ?_)
  clear hK K
  have y5 : V.heap.size ≤ (up (V.drew.alloc (.cells #[] 112)) g1).heap.size := (show Below V.heap.size V _ from bw_).size
  have y2 := hd_ (om_ o1 (show Below V.heap.size V (V.drew.alloc (.cells #[] 112)) from bw_).size)
  have y3 := hd_ (ob_ (World.ownsRow_lit (base := V.heap.size) (e := 112) (size := 3) V.drew #[] 0 (Nat.le_refl _) (by unfold maxLen; omega) rfl) (ub_ _ g1))
  have y4 := hd_ (HRV.out.2.below (show Below V.heap.size V (up (V.drew.alloc (.cells #[] 112)) g1) from bw_))
  clear o1 z1
  refine wpAnyT_gen (R := fun U => Hid (CQ w U p q (dkcs d A B c e)) ∧ Hid (U.ownsRow V.heap.size 2 1 (.slice A1 d.stops.length c1) d.stops.length (ics d.stops)) ∧ Hid (U.ownsRow V.heap.size 112 3 (.slice (some ⟨V.heap.size, 0, none⟩) 0 0) 0 []) ∧ Hid (Rds U 3 B d.drills.length (drcs d.drills)) ∧ V.heap.size ≤ U.heap.size) ⟨y1, y2, y3, y4, y5⟩ (fun U y => ?_)
  clear y1 y2 y3 y4 y5 z HRV hC
  obtain ⟨y1, y2, y3, y4, y5⟩ := y
  refine wto 14 fun K hK => ?_
  refine step_app rfl _ _ 29 rfl V.heap.size 112 _ 3 40 el_drl (.slice (some ⟨V.heap.size, 0, none⟩) 0 0) 0 [] rfl y3.out B d.drills.length e (drcs d.drills) rfl y4.out (dr_one d.drills) (by unfold maxLen; omega) (by omega) y5 (fun A2 c2 T o2 g2 => ?_)
  have z4 := hd_ (y1.out.grown g2 (blk_tne y1.out.bx y3.out (by decide)) (blk_tne y1.out.rs y3.out (by decide)) fun k hk => Nat.le_trans HQW.out.1 (y3.out.lt k hk).1)
  have O1 := hd_ (y2.out.kept g2 (own_tne y2.out y3.out (by decide)))
  have O2 : Hid (T.ownsRow V.heap.size 112 3 (.slice A2 d.drills.length c2) d.drills.length (drcs d.drills)) := hd_ (by simpa using o2)
  clear o2 g2 y1 y2 y3 y4
  refine hK.out _ _ (fun _ => z4.out.cel) (wtn ?_)
  clear hK K
  simp only [Nat.zero_add]
  refine wtp 19 (fun _ => z4.out.cel) ?_
  obtain ⟨hqT, r0, r1, r2, r3, r4, r5, r6, r7⟩ := z4.out.rs.eight
  obtain ⟨f0, f1, f2, f3, f4, f5, f6, f7⟩ := z4.out.rs.open8
  refine wto 20 fun K hK => ?_
  go_simp
  refine hK.out _ _ tf_ (wtn ?_)
  clear hK K
  refine wtd ?_
  go_wp2_with fail
  refine post_gen (R := fun W => Blk W q 31 (dkcs d A1 A2 c1 c2) ∧ DOwn w.heap.size W d A1 A2 c1 c2 ∧ UpOf w W) ⟨blk_put8 z4.out.rs _ _ _ _ _ _ _ _, ⟨om_ (oa_ O1.out HQW.out.2 _ _ _ _ _ _ _ _) HQW.out.1, om_ (oa_ O2.out HQW.out.2 _ _ _ _ _ _ _ _) HQW.out.1⟩, put8_up z4.out.up z4.out.hq _ _ _ _ _ _ _ _⟩ (fun W st => ?_)
  obtain ⟨s1, s2, s3⟩ := st
  obtain ⟨hqW, w0, w1, w2, w3, w4, w5, w6, w7⟩ := s1.eight
  clear s1 r0 r1 r2 r3 r4 r5 r6 r7 f0 f1 f2 f3 f4 f5 f6 f7
  exact bodyPost_ret (v := dkv d A1 A2 c1 c2) (by simp [results, Tryz.results51, go_sem, w0, w1, w2, w3, w4, w5, w6, w7]) rfl ⟨A1, A2, c1, c2, rfl, s2, s3⟩
end Go.Proofs.YtbianlkenallaaaGreatDoor
