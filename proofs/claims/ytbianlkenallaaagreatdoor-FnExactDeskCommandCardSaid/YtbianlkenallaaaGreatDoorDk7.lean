/-
  The commands row and code: the program's. The bounds stand at each.
-/
import Derived.Test.YtbianlkenallaaaGreatDoorMgI
import Derived.Test.YtbianlkenallaaaGreatDoorMgD
import Derived.Test.YtbianlkenallaaaGreatDoorMgG
set_option linter.all false
set_option maxHeartbeats 8000000
set_option maxRecDepth 10000
namespace Go.Proofs.YtbianlkenallaaaGreatDoor
open Go.RowKit
theorem btRow_any (d : DeskD) (A B : Option Addr) (c e : Nat) (s t : ByteArray) (w : World) (hts : t.size ≤ 1048576) (hk : kindOf s = 10) (hS : DSee w d A B) (hz : DkSz d e) :
 Calls Tryz.prog 31 #[dkv d A B c e, .string s, .string t] w fun r w' => mdPost d (sent (rowR d.stops t)) A B c e w r w' := by
 have HS := hd_ hS
 have HZ := hd_ hz
 have q10 : (s.toList == [114, 111, 119]) = true := by
  have := kind_test2 s (i := 10) (by omega)
  rw [hk] at this
  exact this
 obtain ⟨R1, hR1⟩ := nm_ ((rowR d.stops t).1)
 obtain ⟨R2, hR2⟩ := nm_ ((rowR d.stops t).2)
 have hRR : rowR d.stops t = (R1, R2) := by rw [← hR1, ← hR2]
 have HTF : Hid (∀ V, Rds V 1 A d.stops.length (ics d.stops) → Calls Tryz.prog 74 #[.slice A d.stops.length c, .string t] V fun e w' => e = .returned (.tuple #[.string R1, i64 R2]) ∧ UpOf V w') := hd_ fun V hr => by
  have := rowPlanR_any t A c d.stops V (by omega) hr HZ.out.s
  rw [hR1, hR2] at this
  exact this
 rw [hRR]
 clear hS hz hk hR1 hR2 hRR
 go_enter Tryz.func31, Tryz.ntmps31
 go_upto_region 1 with (fail)
 refine wpg (R := fun V => Hid (MD w V w.heap.size (w.heap.size + 1) (dkcs d A B c e))) (hd_ (MD.new _ _)) (fun V z => ?_)
 generalize hp9 : w.heap.size = p at z ⊢
 generalize hq9 : p + 1 = q at z ⊢
 clear hp9 hq9
 go_upto_region 3 with (fail)
 refine wpg (R := fun U => Hid (MD w U p q (dkcs d A B c e))) z (fun U z => ?_)
 have HL := hd_ (HS.out.1.below z.out.up.below)
 have hC : cel8 U.drew p d A B c e := z.out.cel
 refine wp_region_T (fun U => U.cell? ⟨p, 0, none⟩ = some (i64 (d).b.bars) ∧ U.cell? ⟨p, 1, none⟩ = some (i64 (d).b.rise) ∧ U.cell? ⟨p, 2, none⟩ = some (i64 (d).b.fall) ∧ U.cell? ⟨p, 3, none⟩ = some (i64 (d).b.clr) ∧ U.cell? ⟨p, 4, none⟩ = some (i64 (d).b.near) ∧ U.cell? ⟨p, 5, none⟩ = some (.slice A (d).stops.length c) ∧ U.cell? ⟨p, 6, none⟩ = some (.slice B (d).drills.length e) ∧ U.cell? ⟨p, 7, none⟩ = some (.string (d).log)) 9 (by kernel_rfl) ?_
 refine wtl 0 (hC) ?_
 refine wtp 1 (fun _ => hC) ?_
 refine wtl 2 (hC) ?_
 refine wtp 3 (fun _ => hC) ?_
 refine wto 4 fun K hK => ?_
 go_simp
 go_at_call 74
 refine cu_ (HTF.out _ (HL.out.below bw_)) fun gf => ?_
 have z2 := hd_ (z.out.below (V' := up U.drew gf) (bl_up (Below.drew (Below.refl _ _)) gf))
 refine hK.out _ _ (fun _ => z2.out.cel) (wtn ?_)
 clear hK K
 refine wpAnyT_gen (R := fun U1 => Hid (MD w U1 p q (dkcs d A B c e))) z2 (fun U1 z1 => ?_)
 clear z2 hC z HL
 refine wtp 5 (fun _ => z1.out.cel) ?_
 refine wtp 6 (fun _ => z1.out.cel) ?_
 refine wto 7 fun K hK => ?_
 go_simp
 go_at_call 33
 refine (sentence_any R1 R2 _).mono ?_
 rintro r w' ⟨X, n, rfl, ox, gx, rfl⟩
 have z2 := hd_ ((z1).out.below (V' := up U1 gx) (bl_up (Below.refl _ _) gx))
 have OX := hd_ ox
 clear ox
 refine hK.out _ _ (fun _ => z2.out.cel) (wtn ?_)
 clear hK K
 obtain ⟨hqT, r0, r1, r2, r3, r4, r5, r6, r7⟩ := z2.out.rs.eight
 obtain ⟨f0, f1, f2, f3, f4, f5, f6, f7⟩ := z2.out.rs.open8
 refine wto 8 fun K hK => ?_
 go_simp
 refine hK.out _ _ (fun _ => (blk_far8 z2.out.bx z2.out.ne _ _ _ _ _ _ _ _).eight.2) (wtn ?_)
 clear hK K
 refine wto 9 fun K hK => ?_
 go_simp
 refine hK.out _ _ tf_ (wtn ?_)
 clear hK K
 refine wtd ?_
 have hqW0 := (z1).out.rs.lt
 have HLE0 := hd_ (z1).out.up.below.size
 go_wp2_with fail
 refine post_gen (R := fun W => Blk W q 31 (dkcs (d) A B c e) ∧ W.ownsRow w.heap.size 9 1 (.slice X (sent (R1, R2)).length n) (sent (R1, R2)).length (strs (sent (R1, R2))) ∧ UpOf w W) ⟨blk_put8 z2.out.rs _ _ _ _ _ _ _ _, om_ (oa_ OX.out hqW0 _ _ _ _ _ _ _ _) HLE0.out, put8_up z2.out.up z2.out.hq _ _ _ _ _ _ _ _⟩ (fun W st => ?_)
 obtain ⟨s1, s2, s3⟩ := st
 obtain ⟨hqW, w0, w1, w2, w3, w4, w5, w6, w7⟩ := s1.eight
 clear s1 r0 r1 r2 r3 r4 r5 r6 r7 f0 f1 f2 f3 f4 f5 f6 f7
 exact bodyPost_ret (v := .tuple #[dkv (d) A B c e, .slice X (sent (R1, R2)).length n]) (by simp [results, Tryz.results31, go_sem, hqW, w0, w1, w2, w3, w4, w5, w6, w7]) rfl ⟨_, _, rfl, s2, s3⟩
theorem btCode_any {two : List ByteArray → ByteArray × Int} (h2 : TwoOk two) (d : DeskD) (A B : Option Addr) (c e : Nat) (s t : ByteArray) (w : World) (hts : t.size ≤ 1048576) (hk : kindOf s = 2) :
 Calls Tryz.prog 31 #[dkv d A B c e, .string s, .string t] w fun r w' => mdPost d (codeOut (two (wordsA [] t.data.toList))) A B c e w r w' := by
 have q10 : (s.toList == [114, 111, 119]) = false := by
  have := kind_test2 s (i := 10) (by omega)
  rw [hk] at this
  exact this
 have q2 : (s.toList == [99, 111, 100, 101]) = true := by
  have := kind_test2 s (i := 2) (by omega)
  rw [hk] at this
  exact this
 obtain ⟨W, hW⟩ := nm_ (wordsA [] t.data.toList)
 have HW : Hid (∀ V, Calls Tryz.prog 76 #[.string t] V fun e w' => ∃ A c, e = .returned (.slice A W.length c) ∧ w'.ownsRow V.heap.size 9 1 (.slice A W.length c) W.length (strs W) ∧ UpOf V w') := hd_ fun V => by
  rw [← hW]; exact splitWords_any t V (by omega)
 have hWl : W.length ≤ 2000000 := by
  have := words_len t.data.toList []
  rw [hW, bsz] at this
  omega
 have HWB : Hid (∀ i, i < W.length → (wd W i).size ≤ 100000000) := hd_ fun i hi => by
  have := words_size t.data.toList [] (wd W i) (by rw [hW, ← wd_eq hi]; exact List.getElem_mem hi)
  rw [bsz] at this
  simp at this
  omega
 obtain ⟨R1, hR1⟩ := nm_ ((two W).1)
 obtain ⟨R2, hR2⟩ := nm_ ((two W).2)
 have hRR : two W = (R1, R2) := by rw [← hR1, ← hR2]
 have HTR : Hid (∀ V A1 c1, Rds V 1 A1 W.length (strs W) → Calls Tryz.prog 75 #[.slice A1 W.length c1] V fun e w' => e = .returned (.tuple #[.string R1, i64 R2]) ∧ UpOf V w') := hd_ fun V A1 c1 hr => by
  have := twoReadings_any h2 A1 c1 W V hr (by omega) HWB.out
  rw [hR1, hR2] at this
  exact this
 rw [hW, hRR]
 clear hk hR1 hR2 hRR hW
 by_cases h3 : R2 = 3
 ·have h3' : (R2 == 3) = true := by rw [beq_iff_eq]; exact h3
  have hfin : codeOut (R1, R2) = sent (⟨#[117, 110, 105, 113, 117, 101]⟩, 0) := by rw [codeOut, if_pos h3]; rfl
  rw [hfin]
  clear h3 hfin
  go_enter Tryz.func31, Tryz.ntmps31
  go_upto_region 1 with (fail)
  refine wpg (R := fun V => Hid (MD w V w.heap.size (w.heap.size + 1) (dkcs d A B c e))) (hd_ (MD.new _ _)) (fun V z => ?_)
  generalize hp9 : w.heap.size = p at z ⊢
  generalize hq9 : p + 1 = q at z ⊢
  clear hp9 hq9
  go_upto_region 8 with (first | (go_at_call 76; refine (HW.out _).mono ?_; rintro r w' ⟨A1, c1, rfl, o1, g1, rfl⟩) | (go_at_call 75; refine cu_ (HTR.out _ A1 c1 (Rds.of_own o1)) fun g2 => ?_))
  refine wpg (R := fun U => Hid (MD w U p q (dkcs d A B c e))) (hd_ (z.out.below bw_)) (fun U z => ?_)
  have hC : cel8 U.drew p d A B c e := z.out.cel
  refine wp_region_T (fun U => U.cell? ⟨p, 0, none⟩ = some (i64 (d).b.bars) ∧ U.cell? ⟨p, 1, none⟩ = some (i64 (d).b.rise) ∧ U.cell? ⟨p, 2, none⟩ = some (i64 (d).b.fall) ∧ U.cell? ⟨p, 3, none⟩ = some (i64 (d).b.clr) ∧ U.cell? ⟨p, 4, none⟩ = some (i64 (d).b.near) ∧ U.cell? ⟨p, 5, none⟩ = some (.slice A (d).stops.length c) ∧ U.cell? ⟨p, 6, none⟩ = some (.slice B (d).drills.length e) ∧ U.cell? ⟨p, 7, none⟩ = some (.string (d).log)) 5 (by kernel_rfl) ?_
  refine wtl 0 (hC) ?_
  refine wtp 1 (fun _ => hC) ?_
  refine wtp 2 (fun _ => hC) ?_
  refine wpAnyT_gen (R := fun U1 => Hid (MD w U1 p q (dkcs d A B c e))) (hd_ (z.out.below (V' := U.drew) (Below.drew (Below.refl _ _)))) (fun U1 z1 => ?_)
  refine wto 3 fun K hK => ?_
  go_simp
  go_at_call 33
  refine (sentence_any ⟨#[117, 110, 105, 113, 117, 101]⟩ 0 _).mono ?_
  rintro r w' ⟨X, n, rfl, ox, gx, rfl⟩
  have z2 := hd_ ((z1).out.below (V' := up U1 gx) (bl_up (Below.refl _ _) gx))
  have OX := hd_ ox
  clear ox
  refine hK.out _ _ (fun _ => z2.out.cel) (wtn ?_)
  clear hK K
  obtain ⟨hqT, r0, r1, r2, r3, r4, r5, r6, r7⟩ := z2.out.rs.eight
  obtain ⟨f0, f1, f2, f3, f4, f5, f6, f7⟩ := z2.out.rs.open8
  refine wto 4 fun K hK => ?_
  go_simp
  refine hK.out _ _ (fun _ => (blk_far8 z2.out.bx z2.out.ne _ _ _ _ _ _ _ _).eight.2) (wtn ?_)
  clear hK K
  refine wto 5 fun K hK => ?_
  go_simp
  refine hK.out _ _ tf_ (wtn ?_)
  clear hK K
  refine wtd ?_
  have hqW0 := (z1).out.rs.lt
  have HLE0 := hd_ (z1).out.up.below.size
  go_wp2_with fail
  refine post_gen (R := fun W => Blk W q 31 (dkcs (d) A B c e) ∧ W.ownsRow w.heap.size 9 1 (.slice X (sent (⟨#[117, 110, 105, 113, 117, 101]⟩, 0)).length n) (sent (⟨#[117, 110, 105, 113, 117, 101]⟩, 0)).length (strs (sent (⟨#[117, 110, 105, 113, 117, 101]⟩, 0))) ∧ UpOf w W) ⟨blk_put8 z2.out.rs _ _ _ _ _ _ _ _, om_ (oa_ OX.out hqW0 _ _ _ _ _ _ _ _) HLE0.out, put8_up z2.out.up z2.out.hq _ _ _ _ _ _ _ _⟩ (fun W st => ?_)
  obtain ⟨s1, s2, s3⟩ := st
  obtain ⟨hqW, w0, w1, w2, w3, w4, w5, w6, w7⟩ := s1.eight
  clear s1 r0 r1 r2 r3 r4 r5 r6 r7 f0 f1 f2 f3 f4 f5 f6 f7
  exact bodyPost_ret (v := .tuple #[dkv (d) A B c e, .slice X (sent (⟨#[117, 110, 105, 113, 117, 101]⟩, 0)).length n]) (by simp [results, Tryz.results31, go_sem, hqW, w0, w1, w2, w3, w4, w5, w6, w7]) rfl ⟨_, _, rfl, s2, s3⟩
 ·have h3' : (R2 == 3) = false := by rw [beq_eq_false_iff_ne]; exact h3
  have hfin : codeOut (R1, R2) = sent (R1, R2) := by rw [codeOut, if_neg h3]
  rw [hfin]
  clear h3 hfin
  go_enter Tryz.func31, Tryz.ntmps31
  go_upto_region 1 with (fail)
  refine wpg (R := fun V => Hid (MD w V w.heap.size (w.heap.size + 1) (dkcs d A B c e))) (hd_ (MD.new _ _)) (fun V z => ?_)
  generalize hp9 : w.heap.size = p at z ⊢
  generalize hq9 : p + 1 = q at z ⊢
  clear hp9 hq9
  go_upto_region 8 with (first | (go_at_call 76; refine (HW.out _).mono ?_; rintro r w' ⟨A1, c1, rfl, o1, g1, rfl⟩) | (go_at_call 75; refine cu_ (HTR.out _ A1 c1 (Rds.of_own o1)) fun g2 => ?_))
  refine wpg (R := fun U => Hid (MD w U p q (dkcs d A B c e))) (hd_ (z.out.below bw_)) (fun U z => ?_)
  have hC : cel8 U.drew p d A B c e := z.out.cel
  refine wp_region_T (fun U => U.cell? ⟨p, 0, none⟩ = some (i64 (d).b.bars) ∧ U.cell? ⟨p, 1, none⟩ = some (i64 (d).b.rise) ∧ U.cell? ⟨p, 2, none⟩ = some (i64 (d).b.fall) ∧ U.cell? ⟨p, 3, none⟩ = some (i64 (d).b.clr) ∧ U.cell? ⟨p, 4, none⟩ = some (i64 (d).b.near) ∧ U.cell? ⟨p, 5, none⟩ = some (.slice A (d).stops.length c) ∧ U.cell? ⟨p, 6, none⟩ = some (.slice B (d).drills.length e) ∧ U.cell? ⟨p, 7, none⟩ = some (.string (d).log)) 5 (by kernel_rfl) ?_
  refine wtl 0 (hC) ?_
  refine wtp 1 (fun _ => hC) ?_
  refine wtp 2 (fun _ => hC) ?_
  refine wpAnyT_gen (R := fun U1 => Hid (MD w U1 p q (dkcs d A B c e))) (hd_ (z.out.below (V' := U.drew) (Below.drew (Below.refl _ _)))) (fun U1 z1 => ?_)
  refine wto 3 fun K hK => ?_
  go_simp
  go_at_call 33
  refine (sentence_any R1 R2 _).mono ?_
  rintro r w' ⟨X, n, rfl, ox, gx, rfl⟩
  have z2 := hd_ ((z1).out.below (V' := up U1 gx) (bl_up (Below.refl _ _) gx))
  have OX := hd_ ox
  clear ox
  refine hK.out _ _ (fun _ => z2.out.cel) (wtn ?_)
  clear hK K
  obtain ⟨hqT, r0, r1, r2, r3, r4, r5, r6, r7⟩ := z2.out.rs.eight
  obtain ⟨f0, f1, f2, f3, f4, f5, f6, f7⟩ := z2.out.rs.open8
  refine wto 4 fun K hK => ?_
  go_simp
  refine hK.out _ _ (fun _ => (blk_far8 z2.out.bx z2.out.ne _ _ _ _ _ _ _ _).eight.2) (wtn ?_)
  clear hK K
  refine wto 5 fun K hK => ?_
  go_simp
  refine hK.out _ _ tf_ (wtn ?_)
  clear hK K
  refine wtd ?_
  have hqW0 := (z1).out.rs.lt
  have HLE0 := hd_ (z1).out.up.below.size
  go_wp2_with fail
  refine post_gen (R := fun W => Blk W q 31 (dkcs (d) A B c e) ∧ W.ownsRow w.heap.size 9 1 (.slice X (sent (R1, R2)).length n) (sent (R1, R2)).length (strs (sent (R1, R2))) ∧ UpOf w W) ⟨blk_put8 z2.out.rs _ _ _ _ _ _ _ _, om_ (oa_ OX.out hqW0 _ _ _ _ _ _ _ _) HLE0.out, put8_up z2.out.up z2.out.hq _ _ _ _ _ _ _ _⟩ (fun W st => ?_)
  obtain ⟨s1, s2, s3⟩ := st
  obtain ⟨hqW, w0, w1, w2, w3, w4, w5, w6, w7⟩ := s1.eight
  clear s1 r0 r1 r2 r3 r4 r5 r6 r7 f0 f1 f2 f3 f4 f5 f6 f7
  exact bodyPost_ret (v := .tuple #[dkv (d) A B c e, .slice X (sent (R1, R2)).length n]) (by simp [results, Tryz.results31, go_sem, hqW, w0, w1, w2, w3, w4, w5, w6, w7]) rfl ⟨_, _, rfl, s2, s3⟩
end Go.Proofs.YtbianlkenallaaaGreatDoor
