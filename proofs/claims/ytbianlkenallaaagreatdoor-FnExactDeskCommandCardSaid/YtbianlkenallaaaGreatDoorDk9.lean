/-
  The command enter: the program's. The bounds stand at it; it leans on the laid table.
-/
import Derived.Test.YtbianlkenallaaaGreatDoorDk8
import Derived.Test.YtbianlkenallaaaGreatDoorMgF
set_option linter.all false
set_option maxHeartbeats 8000000
set_option maxRecDepth 10000
namespace Go.Proofs.YtbianlkenallaaaGreatDoor
open Go.RowKit
theorem vals_mem {what : ByteArray} : ∀ {l : List Entry} {v : Int}, v ∈ vals what l → ∃ x ∈ l, x.value = v
 | [], v, h => by rw [vals] at h; cases h
 | x :: l, v, h => by
   rw [vals] at h
   split at h
   ·rcases List.mem_cons.1 h with rfl | h
    ·exact ⟨x, List.mem_cons_self .., rfl⟩
    ·obtain ⟨y, hy, e⟩ := vals_mem h
     exact ⟨y, List.mem_cons_of_mem _ hy, e⟩
   ·obtain ⟨y, hy, e⟩ := vals_mem h
    exact ⟨y, List.mem_cons_of_mem _ hy, e⟩
theorem vaR_bd (s what : ByteArray) : (vaR s what).1.length ≤ 4000 ∧ ∀ i, i < (vaR s what).1.length → -1000000000 ≤ num (vaR s what).1 i ∧ num (vaR s what).1 i ≤ 1000000000 := by
 by_cases h : codeL s = 0
 ·cases h2 : nameB what with
  | false => rw [vaR_2 h h2]; exact ⟨by simp, fun i hi => absurd hi (by simp)⟩
  | true =>
    rw [vaR_0 h h2]
    refine ⟨Nat.le_trans (vals_len _ _) (entsL_len h), fun i hi => ?_⟩
    have hm : num (vals what (entsL s)) i ∈ vals what (entsL s) := by
     rw [← num_eq hi]; exact List.getElem_mem hi
    obtain ⟨x, hx, e⟩ := vals_mem hm
    have hv := entsL_ok s x hx
    simp only [vEntry, Bool.and_eq_true] at hv
    have := btw_true hv.2
    rw [e] at this
    show -1000000000 ≤ num (vals what (entsL s)) i ∧ num (vals what (entsL s)) i ≤ 1000000000
    omega
 ·rw [vaR_1 h]; exact ⟨by simp, fun i hi => absurd hi (by simp)⟩
theorem adR_size {s : ByteArray} {x : Entry} (h : (adR s x).2 = 0) : (adR s x).1.size ≤ 4000 := by
 by_cases h1 : codeL s = 0
 ·cases h2 : vEntry x with
  | false => rw [adR_7 h1 h2]; decide
  | true =>
    by_cases h3 : x.day < dayL (entsL s)
    ·rw [adR_6 h1 h2 h3]; decide
    ·by_cases h4 : (s ++ newLine (stL s) x).size ≤ 4000
     ·rw [adR_0 h1 h2 h3 h4]; exact h4
     ·rw [adR_5 h1 h2 h3 h4]; decide
 ·rw [adR_1 h1] at h; exact absurd h h1
def entPost (d : DeskD) (sn : ByteArray) (o : Option (List Int)) (A B : Option Addr) (c e : Nat) (w : World) (r : Ending) (w' : World) : Prop := match o with
 | none => mdPost d [errL 7] A B c e w r w'
 | some l => if (adR d.log ⟨num l 0, sn, num l 1⟩).2 = 0 then mdPost { d with log := (adR d.log ⟨num l 0, sn, num l 1⟩).1 } (nmb (sumI (vaR (adR d.log ⟨num l 0, sn, num l 1⟩).1 sn).1, (vaR (adR d.log ⟨num l 0, sn, num l 1⟩).1 sn).2)) A B c e w r w'
   else mdPost d [errL (adR d.log ⟨num l 0, sn, num l 1⟩).2] A B c e w r w'
theorem enter_any (d : DeskD) (A B : Option Addr) (c e : Nat) (sd sn sv : ByteArray) (w : World) (h1 : sd.size ≤ 1048576) (h2 : sn.size ≤ 1048576) (h3 : sv.size ≤ 1048576) (hz : DkSz d e) (ht : Tab w) :
 Calls Tryz.prog 38 #[dkv d A B c e, .string sd, .string sn, .string sv] w fun r w' => entPost d sn (numsOf [sd, sv]) A B c e w r w' := by
 have HZ := hd_ hz
 have HT := hd_ ht
 have HF : Hid (∀ i, i < [sd, sv].length → (wd [sd, sv] i).size ≤ 100000000) := hd_ fun i hi => by
  match i, hi with
  | 0, _ => show sd.size ≤ _; omega
  | 1, _ => show sv.size ≤ _; omega
 clear hz ht
 cases hno : numsOf [sd, sv] with
 | none =>
   show Calls _ _ _ _ fun r w' => mdPost d [errL 7] A B c e w r w'
   go_enter Tryz.func38, Tryz.ntmps38
   go_upto_region 1 with (fail)
   refine wpg (R := fun V => Hid (MD w V w.heap.size (w.heap.size + 1) (dkcs d A B c e))) (hd_ (MD.new _ _)) (fun V z => ?_)
   generalize hp9 : w.heap.size = p at z ⊢
   generalize hq9 : p + 1 = q at z ⊢
   clear hp9 hq9
   go_wp2_with fail
   refine (readNumbers_any _ 2 [sd, sv] _ (rds_new V #[.string sd, .string sv] 9 1 2 rfl) (by simp) HF.out (HT.out.below (z.out.up.tr bw_).below)).mono ?_
   rintro r w' hr
   unfold rnPost at hr
   rw [hno] at hr
   obtain ⟨rfl, g1, rfl⟩ := hr
   go_upto_region 3 with (fail)
   refine wpg (R := fun U => Hid (MD w U p q (dkcs d A B c e))) (hd_ (z.out.below bw_)) (fun U z => ?_)
   have hC : cel8 U.drew p d A B c e := z.out.cel
   refine wp_region_T (fun U => U.cell? ⟨p, 0, none⟩ = some (i64 (d).b.bars) ∧ U.cell? ⟨p, 1, none⟩ = some (i64 (d).b.rise) ∧ U.cell? ⟨p, 2, none⟩ = some (i64 (d).b.fall) ∧ U.cell? ⟨p, 3, none⟩ = some (i64 (d).b.clr) ∧ U.cell? ⟨p, 4, none⟩ = some (i64 (d).b.near) ∧ U.cell? ⟨p, 5, none⟩ = some (.slice A (d).stops.length c) ∧ U.cell? ⟨p, 6, none⟩ = some (.slice B (d).drills.length e) ∧ U.cell? ⟨p, 7, none⟩ = some (.string (d).log)) 2 (by kernel_rfl) ?_
   refine wtl 0 (hC) ?_
   refine wto 1 fun K hK => ?_
   go_simp
   go_at_call 70
   refine (report_any 7 _).mono ?_
   rintro r w' ⟨X, n, rfl, ox, gx, rfl⟩
   have z2 := hd_ (z.out.below (V' := up U.drew gx) (bl_up (Below.drew (Below.refl _ _)) gx))
   have OX := hd_ ox
   clear ox
   refine hK.out _ _ (fun _ => z2.out.cel) (wtn ?_)
   clear hK K
   obtain ⟨hqT, r0, r1, r2, r3, r4, r5, r6, r7⟩ := z2.out.rs.eight
   obtain ⟨f0, f1, f2, f3, f4, f5, f6, f7⟩ := z2.out.rs.open8
   refine wto 2 fun K hK => ?_
   go_simp
   refine hK.out _ _ tf_ (wtn ?_)
   clear hK K
   refine wtp 3 tf_ ?_
   refine wtd ?_
   have hqU := z.out.rs.lt
   go_wp2_with fail
   refine bodyPost_ret (v := .tuple #[dkv (d) A B c e, .slice X 1 n]) (by simp [results, Tryz.results38, go_sem, hqT, r0, r1, r2, r3, r4, r5, r6, r7]) rfl ?_
   exact ⟨X, n, rfl, om_ (oa_ OX.out hqU _ _ _ _ _ _ _ _) z.out.up.below.size, put8_up z2.out.up z2.out.hq _ _ _ _ _ _ _ _⟩
 | some l =>
   have hl : l.length = 2 := by
    unfold numsOf at hno
    split at hno
    ·injection hno with hno; rw [← hno]; rfl
    ·cases hno
   obtain ⟨x, hx⟩ : ∃ x : Entry, (⟨num l 0, sn, num l 1⟩ : Entry) = x := ⟨_, rfl⟩
   obtain ⟨L, hL⟩ := nm_ ((adR d.log x).1)
   obtain ⟨C, hC⟩ := nm_ ((adR d.log x).2)
   have HAD : Hid (∀ V, Tab V → Calls Tryz.prog 85 #[.string d.log, .agg #[i64 (num l 0), .string sn, i64 (num l 1)]] V fun e w' => e = .returned (.tuple #[.string L, i64 C]) ∧ UpOf V w') := hd_ fun V hV => by
    have := addEntryI_any d.log x V HZ.out.l (by rw [← hx]; show sn.size ≤ _; omega) hV
    rw [hL, hC, ← hx] at this
    exact this
   have HLS : Hid (C = 0 → L.size ≤ 4000) := hd_ fun h => by rw [← hL]; exact adR_size (by rw [hC]; exact h)
   obtain ⟨N0, hN0⟩ := nm_ (num l 0)
   obtain ⟨N1, hN1⟩ := nm_ (num l 1)
   have hpost : ∀ r w', (if C = 0 then mdPost { d with log := L } (nmb (sumI (vaR L sn).1, (vaR L sn).2)) A B c e w r w' else mdPost d [errL C] A B c e w r w') → entPost d sn (some l) A B c e w r w' := fun r w' h => by
    show if (adR d.log ⟨num l 0, sn, num l 1⟩).2 = 0 then _ else _
    rw [hx, hL, hC]
    exact h
   rw [hN0, hN1] at HAD
   have HN0 := hd_ hN0
   have HN1 := hd_ hN1
   clear hx hL hC hN0 hN1
   refine (show Calls Tryz.prog 38 #[dkv d A B c e, .string sd, .string sn, .string sv] w fun r w' => (if C = 0 then mdPost { d with log := L } (nmb (sumI (vaR L sn).1, (vaR L sn).2)) A B c e w r w' else mdPost d [errL C] A B c e w r w') from ?_).mono hpost
   clear hpost
   by_cases h0 : C = 0
   ·subst h0
    have hLs := HLS.out rfl
    obtain ⟨D, hD⟩ : ∃ D : DeskD, { d with log := L } = D := ⟨_, rfl⟩
    have HDE := hd_ (show d.b = D.b ∧ d.stops = D.stops ∧ d.drills = D.drills ∧ L = D.log from by rw [← hD]; exact ⟨rfl, rfl, rfl, rfl⟩)
    rw [hD]
    clear hD
    obtain ⟨VL, hVL⟩ := nm_ ((vaR L sn).1)
    obtain ⟨VC, hVC⟩ := nm_ ((vaR L sn).2)
    have hvb := vaR_bd L sn
    rw [hVL] at hvb
    have HVB := hd_ hvb
    have HVO : Hid (∀ V, Tab V → Calls Tryz.prog 86 #[.string L, .string sn] V fun e w' => ∃ A' c', e = .returned (.tuple #[.slice A' VL.length c', i64 VC]) ∧ w'.ownsRow V.heap.size 2 1 (.slice A' VL.length c') VL.length (ics VL) ∧ UpOf V w') := hd_ fun V hV => by
     have := valuesOfI_any L sn V (by omega) (by omega) hV
     rw [hVL, hVC] at this
     exact this
    have hsum : -4000000000000 ≤ sumI VL ∧ sumI VL ≤ 4000000000000 := by
     have := sumI'_bd (l := VL) (B := 1000000000) (by omega) hvb.2 VL.length (Nat.le_refl _)
     rw [sumI', List.take_length] at this
     have := hvb.1
     omega
    obtain ⟨SV, hSV⟩ := nm_ (sumI VL)
    have HSO : Hid (∀ V A1 c1, Rds V 1 A1 VL.length (ics VL) → Calls Tryz.prog 87 #[.slice A1 VL.length c1] V fun e w' => e = .returned (i64 SV) ∧ V = w') := hd_ fun V A1 c1 hr => by
     have := sumOf_any A1 c1 VL V hr (by have := HVB.out.1; omega) HVB.out.2
     rw [hSV] at this
     exact this
    rw [hSV] at hsum
    rw [hVL, hVC, hSV]
    obtain ⟨hs1, hs2⟩ := hsum
    clear hVL hVC hvb hSV
    refine (show Calls Tryz.prog 38 #[dkv d A B c e, .string sd, .string sn, .string sv] w fun r w' => mdPost D (nmb (SV, VC)) A B c e w r w' from ?_).mono (fun r w' h => by rw [if_pos rfl]; exact h)
    go_enter Tryz.func38, Tryz.ntmps38
    go_upto_region 1 with (fail)
    refine wpg (R := fun V => Hid (MD w V w.heap.size (w.heap.size + 1) (dkcs d A B c e))) (hd_ (MD.new _ _)) (fun V z => ?_)
    generalize hp9 : w.heap.size = p at z ⊢
    generalize hq9 : p + 1 = q at z ⊢
    clear hp9 hq9
    go_wp2_with fail
    refine (readNumbers_any _ 2 [sd, sv] _ (rds_new V #[.string sd, .string sv] 9 1 2 rfl) (by simp) HF.out (HT.out.below (z.out.up.tr bw_).below)).mono ?_
    rintro r w' hr
    unfold rnPost at hr
    rw [hno] at hr
    obtain ⟨AN, cn, rfl, on, g1, rfl⟩ := hr
    have hpos2 : 0 < l.length := by omega
    obtain ⟨bN, rfl⟩ : ∃ g, AN = some ⟨g, 0, none⟩ := by
     obtain ⟨_, ⟨_, h2⟩ | ⟨g, cap, cur, h1, _⟩⟩ := on
     ·omega
     ·injection h1 with h1
      exact ⟨g, h1⟩
    have hbN := on.lt bN rfl
    have hcc : ∀ (T : World), (h : Rds T 1 (some ⟨bN, 0, none⟩) l.length (ics l)) → ∀ i, i < 2 → T.cell? ⟨bN, i, none⟩ = some (i64 (num l i)) := fun T hT i hi => by
     obtain ⟨b9, o9, e9, _, hc9⟩ := hT.at (by omega)
     injection e9 with e9
     injection e9 with e91 e92
     subst e91 e92
     have := hc9 i (i64 (num l i)) (by rw [ics, List.getElem?_map, List.getElem?_eq_getElem (by omega), num_eq (by omega)]; rfl)
     rwa [Nat.zero_add] at this
    have HC2 := hd_ (hcc _ (Rds.of_own on))
    have HBN := hd_ hbN.2
    clear on hcc hbN
    rw [hl]
    go_upto_region 4 with (fail)
    refine wpg (R := fun U => Hid (MD w U p q (dkcs d A B c e)) ∧ U.cell? ⟨bN, 0, none⟩ = some (i64 N0) ∧ U.cell? ⟨bN, 1, none⟩ = some (i64 N1) ∧ bN < U.heap.size) ⟨hd_ (z.out.below bw_), by rw [← HN0.out]; exact HC2.out 0 (by omega), by rw [← HN1.out]; exact HC2.out 1 (by omega), HBN.out⟩ (fun U y => ?_)
    obtain ⟨z, n0, n1, hbU⟩ := y
    clear HC2 HBN
    obtain ⟨hpU, x0, x1, x2, x3, x4, x5, x6, x7⟩ := z.out.bx.eight
    obtain ⟨f0, f1, f2, f3, f4, f5, f6, f7⟩ := z.out.bx.open8
    go_wp2_with (first | ((with_reducible refine wru ?_); (repeat (go_big_quiet_step (first | (go_at_call 85; exact uq_ (HAD.out _ (HT.out.below (z.out.up.tr bw_).below)))))); refine wqn fun nq => ?_))
    have key : Hid (∀ g : Up U, MD w ((up U g).setCell ⟨p, 7, none⟩ (.string L)) p q (dkcs D A B c e)) := hd_ fun g => by
     have h := (z.out.below (ub_ U g)).put 7 (.string L)
     have e1 := HDE.out
     have e2 : (dkcs d A B c e).setIfInBounds 7 (.string L) = dkcs D A B c e := by
      unfold dkcs
      rw [← e1.1, ← e1.2.1, ← e1.2.2.1, ← e1.2.2.2]; rfl
     rw [e2] at h
     exact h
    refine cg (R := fun T => Hid (MD w T p q (dkcs D A B c e))) (hd_ (key.out _)) (fun T z => ?_)
    clear key
    clear x0 x1 x2 x3 x4 x5 x6 x7 f0 f1 f2 f3 f4 f5 f6 f7 hpU n0 n1 hbU
    refine (HVO.out _ (HT.out.below z.out.up.below)).mono ?_
    rintro r w' ⟨AV, cv, rfl, ov, g5, rfl⟩
    go_upto_region 9 with (fail)
    refine wpg (R := fun U => Hid (MD w U p q (dkcs D A B c e)) ∧ Hid (Rds U 1 AV VL.length (ics VL))) ⟨hd_ (z.out.below bw_), hd_ (Rds.of_own ov)⟩ (fun U y => ?_)
    obtain ⟨z, HRV⟩ := y
    clear ov
    have hC : cel8 U.drew p D A B c e := z.out.cel
    refine wp_region_T (fun U => U.cell? ⟨p, 0, none⟩ = some (i64 (D).b.bars) ∧ U.cell? ⟨p, 1, none⟩ = some (i64 (D).b.rise) ∧ U.cell? ⟨p, 2, none⟩ = some (i64 (D).b.fall) ∧ U.cell? ⟨p, 3, none⟩ = some (i64 (D).b.clr) ∧ U.cell? ⟨p, 4, none⟩ = some (i64 (D).b.near) ∧ U.cell? ⟨p, 5, none⟩ = some (.slice A (D).stops.length c) ∧ U.cell? ⟨p, 6, none⟩ = some (.slice B (D).drills.length e) ∧ U.cell? ⟨p, 7, none⟩ = some (.string (D).log)) 6 (by kernel_rfl) ?_
    refine wtl 0 (hC) ?_
    refine wtp 1 (fun _ => hC) ?_
    refine wtp 3 (fun _ => hC) ?_
    refine wto 2 fun K hK => ?_
    go_simp
    go_at_call 87
    refine cs_ (HSO.out _ AV cv (HRV.out.below (Below.drew (Below.refl _ _)))) ?_
    refine hK.out _ _ (fun _ => hC) (wtn ?_)
    clear hK K
    refine wpAnyT_gen (R := fun U1 => Hid (MD w U1 p q (dkcs D A B c e))) (hd_ (z.out.below (V' := U.drew) (Below.drew (Below.refl _ _)))) (fun U1 z1 => ?_)
    clear hC
    refine wto 4 fun K hK => ?_
    go_simp
    go_at_call 35
    refine (number_any SV VC _ (by omega) (by omega) (HT.out.below z1.out.up.below)).mono ?_
    rintro r w' ⟨X, n, rfl, ox, gx, rfl⟩
    have z2 := hd_ ((z1).out.below (V' := up U1 gx) (bl_up (Below.refl _ _) gx))
    have OX := hd_ ox
    clear ox
    refine hK.out _ _ (fun _ => z2.out.cel) (wtn ?_)
    clear hK K
    obtain ⟨hqT, r0, r1, r2, r3, r4, r5, r6, r7⟩ := z2.out.rs.eight
    obtain ⟨f0, f1, f2, f3, f4, f5, f6, f7⟩ := z2.out.rs.open8
    refine wto 5 fun K hK => ?_
    go_simp
    refine hK.out _ _ (fun _ => (blk_far8 z2.out.bx z2.out.ne _ _ _ _ _ _ _ _).eight.2) (wtn ?_)
    clear hK K
    refine wto 6 fun K hK => ?_
    go_simp
    refine hK.out _ _ tf_ (wtn ?_)
    clear hK K
    refine wtd ?_
    have hqW0 := (z1).out.rs.lt
    have HLE0 := hd_ (z1).out.up.below.size
    go_wp2_with fail
    refine post_gen (R := fun W => Blk W q 31 (dkcs (D) A B c e) ∧ W.ownsRow w.heap.size 9 1 (.slice X (nmb (SV, VC)).length n) (nmb (SV, VC)).length (strs (nmb (SV, VC))) ∧ UpOf w W) ⟨blk_put8 z2.out.rs _ _ _ _ _ _ _ _, om_ (oa_ OX.out hqW0 _ _ _ _ _ _ _ _) HLE0.out, put8_up z2.out.up z2.out.hq _ _ _ _ _ _ _ _⟩ (fun W st => ?_)
    obtain ⟨s1, s2, s3⟩ := st
    obtain ⟨hqW, w0, w1, w2, w3, w4, w5, w6, w7⟩ := s1.eight
    clear s1 r0 r1 r2 r3 r4 r5 r6 r7 f0 f1 f2 f3 f4 f5 f6 f7
    exact bodyPost_ret (v := .tuple #[dkv (D) A B c e, .slice X (nmb (SV, VC)).length n]) (by simp [results, Tryz.results38, go_sem, hqW, w0, w1, w2, w3, w4, w5, w6, w7]) rfl ⟨_, _, rfl, s2, s3⟩
   ·have h0' : (C != 0) = true := by rw [bne_iff_ne]; exact h0
    refine (show Calls Tryz.prog 38 #[dkv d A B c e, .string sd, .string sn, .string sv] w fun r w' => mdPost d [errL C] A B c e w r w' from ?_).mono (fun r w' h => by rw [if_neg h0]; exact h)
    clear h0
    go_enter Tryz.func38, Tryz.ntmps38
    go_upto_region 1 with (fail)
    refine wpg (R := fun V => Hid (MD w V w.heap.size (w.heap.size + 1) (dkcs d A B c e))) (hd_ (MD.new _ _)) (fun V z => ?_)
    generalize hp9 : w.heap.size = p at z ⊢
    generalize hq9 : p + 1 = q at z ⊢
    clear hp9 hq9
    go_wp2_with fail
    refine (readNumbers_any _ 2 [sd, sv] _ (rds_new V #[.string sd, .string sv] 9 1 2 rfl) (by simp) HF.out (HT.out.below (z.out.up.tr bw_).below)).mono ?_
    rintro r w' hr
    unfold rnPost at hr
    rw [hno] at hr
    obtain ⟨AN, cn, rfl, on, g1, rfl⟩ := hr
    have hpos2 : 0 < l.length := by omega
    obtain ⟨bN, rfl⟩ : ∃ g, AN = some ⟨g, 0, none⟩ := by
     obtain ⟨_, ⟨_, h2⟩ | ⟨g, cap, cur, h1, _⟩⟩ := on
     ·omega
     ·injection h1 with h1
      exact ⟨g, h1⟩
    have hbN := on.lt bN rfl
    have hcc : ∀ (T : World), (h : Rds T 1 (some ⟨bN, 0, none⟩) l.length (ics l)) → ∀ i, i < 2 → T.cell? ⟨bN, i, none⟩ = some (i64 (num l i)) := fun T hT i hi => by
     obtain ⟨b9, o9, e9, _, hc9⟩ := hT.at (by omega)
     injection e9 with e9
     injection e9 with e91 e92
     subst e91 e92
     have := hc9 i (i64 (num l i)) (by rw [ics, List.getElem?_map, List.getElem?_eq_getElem (by omega), num_eq (by omega)]; rfl)
     rwa [Nat.zero_add] at this
    have HC2 := hd_ (hcc _ (Rds.of_own on))
    have HBN := hd_ hbN.2
    clear on hcc hbN
    rw [hl]
    go_upto_region 4 with (fail)
    refine wpg (R := fun U => Hid (MD w U p q (dkcs d A B c e)) ∧ U.cell? ⟨bN, 0, none⟩ = some (i64 N0) ∧ U.cell? ⟨bN, 1, none⟩ = some (i64 N1) ∧ bN < U.heap.size) ⟨hd_ (z.out.below bw_), by rw [← HN0.out]; exact HC2.out 0 (by omega), by rw [← HN1.out]; exact HC2.out 1 (by omega), HBN.out⟩ (fun U y => ?_)
    obtain ⟨z, n0, n1, hbU⟩ := y
    clear HC2 HBN
    obtain ⟨hpU, x0, x1, x2, x3, x4, x5, x6, x7⟩ := z.out.bx.eight
    go_wp2_with (first | ((with_reducible refine wru ?_); (repeat (go_big_quiet_step (first | (go_at_call 85; exact uq_ (HAD.out _ (HT.out.below (z.out.up.tr bw_).below)))))); refine wqn fun nq => ?_))
    refine wpg (R := fun U => Hid (MD w U p q (dkcs d A B c e))) (hd_ (z.out.below bw_)) (fun U z => ?_)
    have hC : cel8 U.drew p d A B c e := z.out.cel
    refine wp_region_T (fun U => U.cell? ⟨p, 0, none⟩ = some (i64 (d).b.bars) ∧ U.cell? ⟨p, 1, none⟩ = some (i64 (d).b.rise) ∧ U.cell? ⟨p, 2, none⟩ = some (i64 (d).b.fall) ∧ U.cell? ⟨p, 3, none⟩ = some (i64 (d).b.clr) ∧ U.cell? ⟨p, 4, none⟩ = some (i64 (d).b.near) ∧ U.cell? ⟨p, 5, none⟩ = some (.slice A (d).stops.length c) ∧ U.cell? ⟨p, 6, none⟩ = some (.slice B (d).drills.length e) ∧ U.cell? ⟨p, 7, none⟩ = some (.string (d).log)) 3 (by kernel_rfl) ?_
    refine wtl 0 (hC) ?_
    refine wtp 1 (fun _ => hC) ?_
    refine wto 2 fun K hK => ?_
    go_simp
    go_at_call 70
    refine (report_any C _).mono ?_
    rintro r w' ⟨X, n, rfl, ox, gx, rfl⟩
    have z2 := hd_ (z.out.below (V' := up U.drew gx) (bl_up (Below.drew (Below.refl _ _)) gx))
    have OX := hd_ ox
    clear ox
    refine hK.out _ _ (fun _ => z2.out.cel) (wtn ?_)
    clear hK K
    obtain ⟨hqT, r0, r1, r2, r3, r4, r5, r6, r7⟩ := z2.out.rs.eight
    obtain ⟨f0, f1, f2, f3, f4, f5, f6, f7⟩ := z2.out.rs.open8
    refine wto 3 fun K hK => ?_
    go_simp
    refine hK.out _ _ tf_ (wtn ?_)
    clear hK K
    refine wtp 4 tf_ ?_
    refine wtd ?_
    have hqU := z.out.rs.lt
    go_wp2_with fail
    refine bodyPost_ret (v := .tuple #[dkv (d) A B c e, .slice X 1 n]) (by simp [results, Tryz.results38, go_sem, hqT, r0, r1, r2, r3, r4, r5, r6, r7]) rfl ?_
    exact ⟨X, n, rfl, om_ (oa_ OX.out hqU _ _ _ _ _ _ _ _) z.out.up.below.size, put8_up z2.out.up z2.out.hq _ _ _ _ _ _ _ _⟩
end Go.Proofs.YtbianlkenallaaaGreatDoor
