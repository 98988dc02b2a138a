/-
  A command with numbers: the program's. The bounds stand at each; they lean on the laid table.
-/
import Derived.Test.YtbianlkenallaaaGreatDoorDk3
import Derived.Test.YtbianlkenallaaaGreatDoorMgC
set_option linter.all false
set_option maxHeartbeats 8000000
set_option maxRecDepth 10000
namespace Go.Proofs.YtbianlkenallaaaGreatDoor
open Go.RowKit
theorem mwR_bd (b : Bsk) (f s : Int) : 0 ≤ (mwR b f s).1 ∧ (mwR b f s).1 ≤ 200 := by
 cases hv : vBsk b with
 | false => rw [mwR_1 hv]; decide
 | true =>
   have := waitN_bd hv f s
   rw [mwR, if_pos hv]
   split
   ·show 0 ≤ waitN b f s ∧ waitN b f s ≤ 200; omega
   ·decide
theorem tfR_bd (b : Bsk) (l : List Int) : 0 ≤ (tfR b l).1 ∧ (tfR b l).1 ≤ 20000 := by
 cases hv : vBsk b with
 | false => rw [tfR_1 hv]; decide
 | true =>
   rw [tfR, if_pos hv]
   split
   ·rename_i h
    rw [Bool.and_eq_true, decide_eq_true_eq] at h
    split
    ·decide
    ·have h1 := (fstK_bd hv l l.length).1
     have h2 := vBsk_inv hv
     show 0 ≤ (fstK b l l.length).2 + b.rise + b.fall ∧ (fstK b l l.length).2 + b.rise + b.fall ≤ 20000
     omega
   ·decide
theorem cell_far8 {V : World} {b o q : Nat} {v : Value} (h : V.cell? ⟨b, o, none⟩ = some v) (hne : b ≠ q) (u0 u1 u2 u3 u4 u5 u6 u7 : Value) : ((((((((V.setCell ⟨q, 0, none⟩ u0).setCell ⟨q, 1, none⟩ u1).setCell ⟨q, 2, none⟩ u2).setCell ⟨q, 3, none⟩ u3).setCell ⟨q, 4, none⟩ u4).setCell ⟨q, 5, none⟩ u5).setCell ⟨q, 6, none⟩ u6).setCell ⟨q, 7, none⟩ u7).cell? ⟨b, o, none⟩ = some v := by
 have hn : ∀ i : Nat, (⟨q, i, none⟩ : Addr) ≠ ⟨b, o, none⟩ := fun i e => hne (by injection e with e; exact e.symm)
 rw [World.cell?_setCell_other (h := hn 7), World.cell?_setCell_other (h := hn 6), World.cell?_setCell_other (h := hn 5), World.cell?_setCell_other (h := hn 4), World.cell?_setCell_other (h := hn 3), World.cell?_setCell_other (h := hn 2), World.cell?_setCell_other (h := hn 1), World.cell?_setCell_other (h := hn 0), h]
section
variable (d : DeskD) (A B : Option Addr) (c e : Nat) (ws : List ByteArray) (W : Option Addr) (wc : Nat) (s : ByteArray) (l : List Int) (w : World)
theorem bnFast_any (h : Rds w 1 W ws.length (strs ws)) (hn : ws.length ≤ 10000000) (hf : ∀ i, i < ws.length → (wd ws i).size ≤ 100000000) (ht : Tab w) (hno : numsOf ws = some l) (hl : l.length ≤ 10000000) (hk : kindOf s = 6) :
 Calls Tryz.prog 30 #[dkv d A B c e, .string s, .slice W ws.length wc] w fun r w' => mdPost d (nmb (tfR d.b l)) A B c e w r w' := by
 have HR := hd_ h
 have HF := hd_ hf
 have HT := hd_ ht
 have q6 : (s.toList == [102, 97, 115, 116]) = true := by
  have := kind_test2 s (i := 6) (by omega)
  rw [hk] at this
  exact this
 have q13 : (s.toList == [119, 97, 105, 116]) = false := by
  have := kind_test2 s (i := 13) (by omega)
  rw [hk] at this
  exact this
 have hbd := tfR_bd d.b l
 obtain ⟨R1, hR1⟩ := nm_ ((tfR d.b l).1)
 obtain ⟨R2, hR2⟩ := nm_ ((tfR d.b l).2)
 have hRR : tfR d.b l = (R1, R2) := by rw [← hR1, ← hR2]
 rw [hR1] at hbd
 have HTF : Hid (∀ V A1 c1, Rds V 1 A1 l.length (ics l) → Calls Tryz.prog 72 #[bsv d.b, .slice A1 l.length c1] V fun e w' => e = .returned (.tuple #[i64 R1, i64 R2]) ∧ UpOf V w') := hd_ fun V A1 c1 hr => by
  have := ticksForI_any d.b A1 c1 l V hr (by omega)
  rw [hR1, hR2] at this
  exact this
 rw [hRR]
 clear h hf ht hk hR1 hR2 hRR
 go_enter Tryz.func30, Tryz.ntmps30
 go_upto_region 1 with (fail)
 refine wpg (R := fun V => Hid (MD w V w.heap.size (w.heap.size + 1) (dkcs d A B c e))) (hd_ (MD.new _ _)) (fun V z => ?_)
 generalize hp9 : w.heap.size = p at z ⊢
 generalize hq9 : p + 1 = q at z ⊢
 clear hp9 hq9
 go_wp2_with fail
 refine (readNumbers_any W wc ws _ (HR.out.below z.out.up.below) hn HF.out (HT.out.below z.out.up.below)).mono ?_
 rintro r w' hr
 unfold rnPost at hr
 rw [hno] at hr
 obtain ⟨AN, cn, rfl, on, g1, rfl⟩ := hr
 have z1 := hd_ (z.out.below (ub_ V g1))
 have ON := hd_ on
 have HNQ := hd_ (show q < V.heap.size from z.out.rs.lt)
 clear on
 go_upto_region 8 with (fail)
 refine wpg (R := fun U => Hid (MD w U p q (dkcs d A B c e)) ∧ Hid (Rds U 1 AN l.length (ics l))) ⟨z1, hd_ (Rds.of_own ON.out)⟩ (fun U y => ?_)
 obtain ⟨z, HL⟩ := y
 clear z1 ON
 have hC : cel8 U.drew p d A B c e := z.out.cel
 refine wp_region_T (fun U => U.cell? ⟨p, 0, none⟩ = some (i64 (d).b.bars) ∧ U.cell? ⟨p, 1, none⟩ = some (i64 (d).b.rise) ∧ U.cell? ⟨p, 2, none⟩ = some (i64 (d).b.fall) ∧ U.cell? ⟨p, 3, none⟩ = some (i64 (d).b.clr) ∧ U.cell? ⟨p, 4, none⟩ = some (i64 (d).b.near) ∧ U.cell? ⟨p, 5, none⟩ = some (.slice A (d).stops.length c) ∧ U.cell? ⟨p, 6, none⟩ = some (.slice B (d).drills.length e) ∧ U.cell? ⟨p, 7, none⟩ = some (.string (d).log)) 9 (by kernel_rfl) ?_
 refine wtl 0 (hC) ?_
 refine wtp 1 (fun _ => hC) ?_
 refine wtl 2 (hC) ?_
 refine wtp 3 (fun _ => hC) ?_
 refine wto 4 fun K hK => ?_
 go_simp
 go_at_call 72
 refine cu_ (HTF.out _ AN cn (HL.out.below bw_)) fun gf => ?_
 have z2 := hd_ (z.out.below (V' := up U.drew gf) (bl_up (Below.drew (Below.refl _ _)) gf))
 refine hK.out _ _ (fun _ => z2.out.cel) (wtn ?_)
 clear hK K
 refine wpAnyT_gen (R := fun U1 => Hid (MD w U1 p q (dkcs d A B c e))) z2 (fun U1 z1 => ?_)
 clear z2 hC z
 refine wtp 5 (fun _ => z1.out.cel) ?_
 refine wtp 6 (fun _ => z1.out.cel) ?_
 refine wto 7 fun K hK => ?_
 go_simp
 go_at_call 35
 refine (number_any R1 R2 _ (by omega) (by omega) (HT.out.below z1.out.up.below)).mono ?_
 rintro r w' ⟨X, n, rfl, ox, gx, rfl⟩
 have z2 := hd_ ((z1).out.below (V' := up U1 gx) (bl_up (Below.refl _ _) gx))
 have OX := hd_ ox
 clear ox
 refine hK.out _ _ (fun _ => z2.out.cel) (wtn ?_)
 clear hK K
 obtain ⟨hqT, r0, r1, r2, r3, r4, r5, r6, r7⟩ := z2.out.rs.eight
 obtain ⟨f0, f1, f2, f3, f4, f5, f6, f7⟩ := z2.out.rs.open8
 refine wto 8 fun K hK => ?_
 go_simp
 refine hK.out _ _ (fun _ => (blk_far8 z2.out.bx z2.out.ne _ _ _ _ _ _ _ _).eight.2) (wtn ?_)
 clear hK K
 refine wto 9 fun K hK => ?_
 go_simp
 refine hK.out _ _ tf_ (wtn ?_)
 clear hK K
 refine wtd ?_
 have hqW0 := (z1).out.rs.lt
 have HLE0 := hd_ (z1).out.up.below.size
 go_wp2_with fail
 refine post_gen (R := fun W => Blk W q 31 (dkcs (d) A B c e) ∧ W.ownsRow w.heap.size 9 1 (.slice X (nmb (R1, R2)).length n) (nmb (R1, R2)).length (strs (nmb (R1, R2))) ∧ UpOf w W) ⟨blk_put8 z2.out.rs _ _ _ _ _ _ _ _, om_ (oa_ OX.out hqW0 _ _ _ _ _ _ _ _) HLE0.out, put8_up z2.out.up z2.out.hq _ _ _ _ _ _ _ _⟩ (fun W st => ?_)
 obtain ⟨s1, s2, s3⟩ := st
 obtain ⟨hqW, w0, w1, w2, w3, w4, w5, w6, w7⟩ := s1.eight
 clear s1 r0 r1 r2 r3 r4 r5 r6 r7 f0 f1 f2 f3 f4 f5 f6 f7
 exact bodyPost_ret (v := .tuple #[dkv (d) A B c e, .slice X (nmb (R1, R2)).length n]) (by simp [results, Tryz.results30, go_sem, hqW, w0, w1, w2, w3, w4, w5, w6, w7]) rfl ⟨_, _, rfl, s2, s3⟩
theorem bnWait_any (h : Rds w 1 W ws.length (strs ws)) (hn : ws.length ≤ 10000000) (hf : ∀ i, i < ws.length → (wd ws i).size ≤ 100000000) (ht : Tab w) (hno : numsOf ws = some l) (hl : l.length = 2) (hk : kindOf s = 13) :
 Calls Tryz.prog 30 #[dkv d A B c e, .string s, .slice W ws.length wc] w fun r w' => mdPost d (nmb (mwR d.b (num l 0) (num l 1))) A B c e w r w' := by
 have HR := hd_ h
 have HF := hd_ hf
 have HT := hd_ ht
 have q13 : (s.toList == [119, 97, 105, 116]) = true := by
  have := kind_test2 s (i := 13) (by omega)
  rw [hk] at this
  exact this
 have hbd := mwR_bd d.b (num l 0) (num l 1)
 obtain ⟨R1, hR1⟩ := nm_ ((mwR d.b (num l 0) (num l 1)).1)
 obtain ⟨R2, hR2⟩ := nm_ ((mwR d.b (num l 0) (num l 1)).2)
 have hRR : mwR d.b (num l 0) (num l 1) = (R1, R2) := by rw [← hR1, ← hR2]
 rw [hR1] at hbd
 obtain ⟨N0, hN0⟩ := nm_ (num l 0)
 obtain ⟨N1, hN1⟩ := nm_ (num l 1)
 have HTF : Hid (∀ V, Calls Tryz.prog 71 #[bsv d.b, i64 N0, i64 N1] V fun e w' => e = .returned (.tuple #[i64 R1, i64 R2]) ∧ UpOf V w') := hd_ fun V => by
  have := mustWaitI_any d.b (num l 0) (num l 1) V
  rw [hR1, hR2, hN0, hN1] at this
  exact this
 rw [hRR]
 have HN0 := hd_ hN0
 have HN1 := hd_ hN1
 clear h hf ht hk hR1 hR2 hRR hN0 hN1
 go_enter Tryz.func30, Tryz.ntmps30
 go_upto_region 1 with (fail)
 refine wpg (R := fun V => Hid (MD w V w.heap.size (w.heap.size + 1) (dkcs d A B c e))) (hd_ (MD.new _ _)) (fun V z => ?_)
 generalize hp9 : w.heap.size = p at z ⊢
 generalize hq9 : p + 1 = q at z ⊢
 clear hp9 hq9
 go_wp2_with fail
 refine (readNumbers_any W wc ws _ (HR.out.below z.out.up.below) hn HF.out (HT.out.below z.out.up.below)).mono ?_
 rintro r w' hr
 unfold rnPost at hr
 rw [hno] at hr
 obtain ⟨AN, cn, rfl, on, g1, rfl⟩ := hr
 have z1 := hd_ (z.out.below (ub_ V g1))
 have ON := hd_ on
 have HNQ := hd_ (show q < V.heap.size from z.out.rs.lt)
 clear on
 rw [hl]
 go_upto_region 6 with (fail)
 obtain ⟨bN, rfl⟩ : ∃ g, AN = some ⟨g, 0, none⟩ := by
  obtain ⟨_, ⟨_, h2⟩ | ⟨g, cap, cur, h1, _⟩⟩ := ON.out
  ·omega
  ·injection h1 with h1
   exact ⟨g, h1⟩
 have hbN := ON.out.lt bN rfl
 have hcc : ∀ i, i < 2 → (up V g1).cell? ⟨bN, i, none⟩ = some (i64 (num l i)) := fun i hi => by
  obtain ⟨b9, o9, e9, _, hc9⟩ := (Rds.of_own ON.out).at (by omega)
  injection e9 with e9
  injection e9 with e91 e92
  subst e91 e92
  have := hc9 i (i64 (num l i)) (by rw [ics, List.getElem?_map, List.getElem?_eq_getElem (by omega), num_eq (by omega)]; rfl)
  rwa [Nat.zero_add] at this
 refine wpg (R := fun U => Hid (MD w U p q (dkcs d A B c e)) ∧ U.cell? ⟨bN, 0, none⟩ = some (i64 N0) ∧ U.cell? ⟨bN, 1, none⟩ = some (i64 N1) ∧ bN < U.heap.size ∧ bN ≠ q) ⟨z1, by rw [← HN0.out]; exact hcc 0 (by omega), by rw [← HN1.out]; exact hcc 1 (by omega), hbN.2, by have := HNQ.out; omega⟩ (fun U y => ?_)
 obtain ⟨z, n0, n1, hbU, hbq⟩ := y
 clear z1 ON hcc hbN
 have hC : cel8 U.drew p d A B c e := z.out.cel
 have hD : U.drew.cell? ⟨bN, 0, none⟩ = some (i64 N0) ∧ U.drew.cell? ⟨bN, 1, none⟩ = some (i64 N1) := ⟨n0, n1⟩
 refine wp_region_T (fun U => (U.cell? ⟨p, 0, none⟩ = some (i64 d.b.bars) ∧ U.cell? ⟨p, 1, none⟩ = some (i64 d.b.rise) ∧ U.cell? ⟨p, 2, none⟩ = some (i64 d.b.fall) ∧ U.cell? ⟨p, 3, none⟩ = some (i64 d.b.clr) ∧ U.cell? ⟨p, 4, none⟩ = some (i64 d.b.near) ∧ U.cell? ⟨p, 5, none⟩ = some (.slice A d.stops.length c) ∧ U.cell? ⟨p, 6, none⟩ = some (.slice B d.drills.length e) ∧ U.cell? ⟨p, 7, none⟩ = some (.string d.log)) ∧ U.cell? ⟨bN, 0, none⟩ = some (i64 N0) ∧ U.cell? ⟨bN, 1, none⟩ = some (i64 N1)) 14 (by kernel_rfl) ?_
 refine wtl 0 (⟨hC, hD⟩) ?_
 refine wtp 1 (fun _ => ⟨hC, hD⟩) ?_
 refine wtl 2 (⟨hC, hD⟩) ?_
 refine wtp 3 (fun _ => ⟨hC, hD⟩) ?_
 refine wtp 4 (fun _ => ⟨hC, hD⟩) ?_
 refine wtl 5 (⟨hC, hD⟩) ?_
 refine wtp 6 (fun _ => ⟨hC, hD⟩) ?_
 refine wtp 7 (fun _ => ⟨hC, hD⟩) ?_
 refine wtl 8 (⟨hC, hD⟩) ?_
 refine wto 9 fun K hK => ?_
 go_simp
 go_at_call 71
 refine cu_ (HTF.out _) fun gf => ?_
 have z2 := hd_ (z.out.below (V' := up U.drew gf) (bl_up (Below.drew (Below.refl _ _)) gf))
 have m0 := ((ub_ U.drew gf).cell (p := ⟨bN, 0, none⟩) hbU).trans n0
 have m1 := ((ub_ U.drew gf).cell (p := ⟨bN, 1, none⟩) hbU).trans n1
 have hbU2 : bN < (up U.drew gf).heap.size := Nat.lt_of_lt_of_le hbU (ub_ U.drew gf).size
 refine hK.out _ _ (fun _ => ⟨z2.out.cel, m0, m1⟩) (wtn ?_)
 clear hK K
 refine wpAnyT_gen (R := fun U1 => Hid (MD w U1 p q (dkcs d A B c e)) ∧ U1.cell? ⟨bN, 0, none⟩ = some (i64 N0) ∧ U1.cell? ⟨bN, 1, none⟩ = some (i64 N1) ∧ bN < U1.heap.size) ⟨z2, m0, m1, hbU2⟩ (fun U1 y => ?_)
 obtain ⟨z1, n0, n1, hbU1⟩ := y
 clear z2 hC hD z m0 m1 hbU2
 refine wtp 10 (fun _ => ⟨z1.out.cel, n0, n1⟩) ?_
 refine wtp 11 (fun _ => ⟨z1.out.cel, n0, n1⟩) ?_
 refine wto 12 fun K hK => ?_
 go_simp
 go_at_call 35
 refine (number_any R1 R2 _ (by omega) (by omega) (HT.out.below z1.out.up.below)).mono ?_
 rintro r w' ⟨X, n, rfl, ox, gx, rfl⟩
 have z2 := hd_ ((z1).out.below (V' := up U1 gx) (bl_up (Below.refl _ _) gx))
 have OX := hd_ ox
 clear ox
 refine hK.out _ _ (fun _ => ⟨z2.out.cel, ((ub_ U1 gx).cell (p := ⟨bN, 0, none⟩) hbU1).trans n0, ((ub_ U1 gx).cell (p := ⟨bN, 1, none⟩) hbU1).trans n1⟩) (wtn ?_)
 clear hK K
 have m0 := ((ub_ U1 gx).cell (p := ⟨bN, 0, none⟩) hbU1).trans n0
 have m1 := ((ub_ U1 gx).cell (p := ⟨bN, 1, none⟩) hbU1).trans n1
 obtain ⟨hqT, r0, r1, r2, r3, r4, r5, r6, r7⟩ := z2.out.rs.eight
 obtain ⟨f0, f1, f2, f3, f4, f5, f6, f7⟩ := z2.out.rs.open8
 refine wto 13 fun K hK => ?_
 go_simp
 refine hK.out _ _ (fun _ => ⟨(blk_far8 z2.out.bx z2.out.ne _ _ _ _ _ _ _ _).eight.2, cell_far8 m0 hbq _ _ _ _ _ _ _ _, cell_far8 m1 hbq _ _ _ _ _ _ _ _⟩) (wtn ?_)
 clear hK K
 refine wto 14 fun K hK => ?_
 go_simp
 refine hK.out _ _ tf_ (wtn ?_)
 clear hK K
 refine wtd ?_
 have hqW0 := (z1).out.rs.lt
 have HLE0 := hd_ (z1).out.up.below.size
 go_wp2_with fail
 refine post_gen (R := fun W => Blk W q 31 (dkcs (d) A B c e) ∧ W.ownsRow w.heap.size 9 1 (.slice X (nmb (R1, R2)).length n) (nmb (R1, R2)).length (strs (nmb (R1, R2))) ∧ UpOf w W) ⟨blk_put8 z2.out.rs _ _ _ _ _ _ _ _, om_ (oa_ OX.out hqW0 _ _ _ _ _ _ _ _) HLE0.out, put8_up z2.out.up z2.out.hq _ _ _ _ _ _ _ _⟩ (fun W st => ?_)
 obtain ⟨s1, s2, s3⟩ := st
 obtain ⟨hqW, w0, w1, w2, w3, w4, w5, w6, w7⟩ := s1.eight
 clear s1 r0 r1 r2 r3 r4 r5 r6 r7 f0 f1 f2 f3 f4 f5 f6 f7
 exact bodyPost_ret (v := .tuple #[dkv (d) A B c e, .slice X (nmb (R1, R2)).length n]) (by simp [results, Tryz.results30, go_sem, hqW, w0, w1, w2, w3, w4, w5, w6, w7]) rfl ⟨_, _, rfl, s2, s3⟩
end
end Go.Proofs.YtbianlkenallaaaGreatDoor
