/-
  DeskCommand of the program: basket, fast, stops, wait. The bounds stand at each.
-/
import Derived.Test.YtbianlkenallaaaGreatDoorMgK
set_option linter.all false
set_option maxHeartbeats 8000000
set_option maxRecDepth 10000
namespace Go.Proofs.YtbianlkenallaaaGreatDoor
open Go.RowKit
theorem dcKN_any {two : List ByteArray → ByteArray × Int} (h2 : TwoOk two) (d : DeskD) (A B : Option Addr) (c e : Nat) (s : ByteArray) (w : World) (W : List ByteArray) (hs : s.size ≤ 1048576) (hS : DSee w d A B) (hz : DkSz d e) (hv : vDesk d = true) (ht : Tab w) (hW : splitA 32 [] s.data.toList = W)
 (hf : fitK (kindOf (wd W 0)) W.length = true) (k : Nat) (hk4 : k = 1 ∨ k = 6 ∨ k = 12 ∨ k = 13) (hk : kindOf (wd W 0) = k) :
 Calls Tryz.prog 9 #[dkv d A B c e, .string s] w fun r w' => dcYes (doK two d W k).1 (doK two d W k).2 w r w' := by
 have HK := hd_ hk
 have HLEN := hd_ (show 2 ≤ W.length by rw [hk] at hf; rcases hk4 with rfl | rfl | rfl | rfl <;> simp [fitK] at hf <;> omega)
 have HWS9 := hd_ (show ∀ i, i < W.length → (wd W i).size ≤ 1048576 from fun i hi => by
  have := split_size 32 s.data.toList [] (wd W i) (by rw [hW, ← wd_eq hi]; exact List.getElem_mem hi)
  rw [bsz] at this
  simp at this
  omega)
 obtain ⟨D2, hD2⟩ := nm_ ((doK two d W k).1)
 obtain ⟨L2, hL2⟩ := nm_ ((doK two d W k).2)
 rw [hD2, hL2]
 have HNP : Hid (∀ (base : Nat) (A1 B1 : Option Addr) (c1 e1 : Nat) (WA : Option Addr) (wc : Nat) (V : World), Rds V 1 WA (W.length - 1) (strs (W.drop 1)) → Tab V → DkSz d e1 → DOwn base V d A1 B1 c1 e1 → base ≤ V.heap.size →
  Calls Tryz.prog 30 #[dkv d A1 B1 c1 e1, .string (wd W 0), .slice WA (W.length - 1) wc] V fun r w' => NP base D2 L2 V r w') := hd_ fun base A1 B1 c1 e1 WA wc V h1 h2 h3 h4 h5 => by
  rw [show W.length - 1 = (W.drop 1).length from List.length_drop.symm] at h1 ⊢
  have hwl : W.length ≤ 2000001 := by
   have := split_len 32 s.data.toList []
   rw [hW, bsz] at this
   omega
  have := bn_np two base d A1 B1 c1 e1 W WA wc V h1 hwl HWS9.out h2 hf (by rw [hk]; omega) (DOwn.see h4) h3 hv h4 h5
  rw [hk, hD2, hL2] at this
  exact this
 clear hD2 hL2
 clear hk
 have HS := hd_ hS
 have HZ := hd_ hz
 have HV := hd_ hv
 have HT := hd_ ht
 have HSP : Hid (∀ V, Calls Tryz.prog 27 #[.string s, .int .i64 ((s.size : Int) + 2)] V fun e w' => txPost W V e w') := hd_ fun V => by
  have := splitAt_any s (s.size + 1) V (by omega) (by omega)
  rw [spl_all, hW, show (((s.size + 1 : Nat) : Int) + 1) = (s.size : Int) + 2 by omega] at this
  exact this
 have hW1 : 0 < W.length := by rw [← hW]; exact List.length_pos_iff.2 (splitA_ne 32 _ _)
 have hWl : W.length ≤ 2000000 := by
  have := split_len 32 s.data.toList []
  rw [hW, bsz] at this
  omega
 have hno := fit_yes (kind_le _) hf
 obtain ⟨L, hL⟩ := nm_ ((wcR (kindOf (wd W 0))).1)
 obtain ⟨M, hM⟩ := nm_ ((wcR (kindOf (wd W 0))).2)
 have HWC : Hid (∀ V, Calls Tryz.prog 28 #[.string (wd W 0)] V fun e w' => e = .returned (.tuple #[i64 L, .bool M]) ∧ V = w') := hd_ fun V => by
  have := wordCounts_any (wd W 0) V
  rw [hL, hM] at this
  exact this
 rw [hL, hM] at hno
 clear hS hz hv ht hW hf hL hM
 go_enter Tryz.func9, Tryz.ntmps9
 go_upto_region 1 with (fail)
 refine wpg (R := fun V => Hid (MD w V w.heap.size (w.heap.size + 1) (dkcs d A B c e))) (hd_ (MD.new _ _)) (fun V z => ?_)
 generalize hp9 : w.heap.size = p at z ⊢
 generalize hq9 : p + 1 = q at z ⊢
 clear hp9 hq9
 obtain ⟨hpV, x0, x1, x2, x3, x4, x5, x6, x7⟩ := z.out.bx.eight
 go_wp2_with fail
 refine cu_ (ra_ (validDeskI_any d A B c e _ (HS.out.below z.out.up.below) HZ.out (HT.out.below z.out.up.below)) HV.out) fun g1 => ?_
 go_wp2_with fail
 refine (HSP.out _).mono ?_
 rintro r w' ⟨AW, cW, rfl, ow, g2, rfl⟩
 have z2 := hd_ (z.out.below (V' := up V (g1.tr g2)) (ub_ V _))
 have OW : Hid ((up V (g1.tr g2)).ownsRow (up V g1).heap.size 9 1 (.slice AW W.length cW) W.length (strs W)) := hd_ ow
 have HBV := hd_ (show p < (up V g1).heap.size ∧ q < (up V g1).heap.size ∧ w.heap.size ≤ (up V g1).heap.size from ⟨Nat.lt_of_lt_of_le z.out.bx.lt (ub_ V g1).size, Nat.lt_of_lt_of_le z.out.rs.lt (ub_ V g1).size, Nat.le_trans z.out.up.below.size (ub_ V g1).size⟩)
 generalize (up V g1).heap.size = base at OW HBV
 obtain ⟨bW, oW, eW, hbW, cw⟩ := wd_at (Rds.of_own OW.out) (i := 0) hW1
 subst eW
 have cw0 := cw 0 hW1
 rw [Nat.add_zero] at cw0
 clear ow cw x0 x1 x2 x3 x4 x5 x6 x7 hpV z
 go_upto_region 6 with (go_at_call 28; refine cs_ (HWC.out _) ?_)
 have HNO := hd_ hno
 have t1' : (L == 0) = false := by rw [beq_eq_false_iff_ne]; omega
 have t2' : decide ((W.length : Int) < L) = false := decide_eq_false (by omega)
 go_cut [46] (fun x U => x = .bool false ∧ Hid (MD w U p q (dkcs d A B c e)) ∧ Hid (U.ownsRow base 9 1 (.slice (some ⟨bW, oW, none⟩) W.length cW) W.length (strs W)))
 case first =>
  by_cases t3 : L < (W.length : Int)
  ·have t3' : decide (L < (W.length : Int)) = true := decide_eq_true t3
   have hM : M = true := hno.2.2.resolve_left (by omega)
   subst hM
   clear hno t3
   go_wp2_with fail
   go_meet
   exact ⟨rfl, z2, OW⟩
  ·have t3' : decide (L < (W.length : Int)) = false := decide_eq_false t3
   clear hno t3
   go_wp2_with fail
   go_meet
   exact ⟨rfl, z2, OW⟩
 case rest =>
  obtain ⟨rfl, z, OW⟩ := hcut
  clear z2 hno t1' t2' cw0
  obtain ⟨hpV, x0, x1, x2, x3, x4, x5, x6, x7⟩ := z.out.bx.eight
  obtain ⟨f0, f1, f2, f3, f4, f5, f6, f7⟩ := z.out.bx.open8
  go_wp2_with fail
  refine (copied_any d A B c e _ (HS.out.below z.out.up.below) HZ.out.s HZ.out.n).mono ?_
  rintro r w' ⟨A1, B1, c1, e1, rfl, hdo, g3, rfl⟩
  have z3 := hd_ (z.out.below (ub_ wc g3))
  have HDO := hd_ hdo
  have OW3 := hd_ (ob_ OW.out (ub_ wc g3))
  have HWS := hd_ (show base ≤ wc.heap.size from by
   have := OW.out.lt bW rfl
   omega)
  clear hdo x0 x1 x2 x3 x4 x5 x6 x7 f0 f1 f2 f3 f4 f5 f6 f7 hpV OW
  obtain ⟨hpV, x0, x1, x2, x3, x4, x5, x6, x7⟩ := z3.out.bx.eight
  obtain ⟨f0, f1, f2, f3, f4, f5, f6, f7⟩ := z3.out.bx.open8
  go_upto_region 10 with (fail)
  obtain ⟨g9, e9⟩ := own_some OW3.out hW1
  injection e9 with e9
  injection e9 with e9a e9 e9b
  clear e9a e9b
  subst e9
  have hpw : p < wc.heap.size := z.out.bx.lt
  have m8 := hd_ (z3.out.put8 (i64 d.b.bars) (i64 d.b.rise) (i64 d.b.fall) (i64 d.b.clr) (i64 d.b.near) (.slice A1 d.stops.length c1) (.slice B1 d.drills.length e1) (.string d.log))
  have o81 := hd_ (om_ (oa_ HDO.out.1 hpw (i64 d.b.bars) (i64 d.b.rise) (i64 d.b.fall) (i64 d.b.clr) (i64 d.b.near) (.slice A1 d.stops.length c1) (.slice B1 d.drills.length e1) (.string d.log)) HWS.out)
  have o82 := hd_ (om_ (oa_ HDO.out.2 hpw (i64 d.b.bars) (i64 d.b.rise) (i64 d.b.fall) (i64 d.b.clr) (i64 d.b.near) (.slice A1 d.stops.length c1) (.slice B1 d.drills.length e1) (.string d.log)) HWS.out)
  have o83 := hd_ (oa_ OW3.out HBV.out.1 (i64 d.b.bars) (i64 d.b.rise) (i64 d.b.fall) (i64 d.b.clr) (i64 d.b.near) (.slice A1 d.stops.length c1) (.slice B1 d.drills.length e1) (.string d.log))
  refine wpg (R := fun U => Hid (DC w U p q d A1 B1 c1 e1 base W bW cW)) (hd_ ⟨m8.out.below ((Below.refl _ _).alloc (Nat.le_refl _) _), ⟨o81.out.alloc _, o82.out.alloc _⟩, o83.out.alloc _, HBV.out⟩) (fun U C => ?_)
  clear x0 x1 x2 x3 x4 x5 x6 x7 f0 f1 f2 f3 f4 f5 f6 f7 hpV z3 HDO OW3 z HWS m8 o81 o82 o83
  obtain ⟨-, q1, -, -, -, -, q6, -, -, -, -, -, q12, q13⟩ := kts HK.out
  go_upto_if 55 with (fail)
  go_cut [55] (fun x V => x = .bool true ∧ Hid (DC w V p q d A1 B1 c1 e1 base W bW cW))
  case first =>
   rcases hk4 with rfl | rfl | rfl | rfl
   all_goals
    simp only [Nat.reduceEqDiff, eq_self, decide_true, decide_false] at q1 q6 q12 q13
    simp only [Nat.reduceEqDiff, eq_self, decide_true, decide_false]
    go_wp2_with fail
    go_meet
    exact ⟨rfl, C⟩
  case rest =>
  clear q1 q6 q12 q13 C
  obtain ⟨rfl, C⟩ := hcut
  generalize wc = U at C ⊢
  have HTU : Hid (∀ V, Below U.heap.size U V → Tab V) := hd_ fun V hV => (HT.out.below C.out.m.up.below).below hV
  have hbU : base ≤ U.heap.size := by have := C.out.wo.lt bW rfl; omega
  have HPB : Hid (p < base ∧ base ≤ U.heap.size) := hd_ ⟨C.out.hb.1, hbU⟩
  obtain ⟨hl1, hcW⟩ : (1 : Nat) ≤ W.length ∧ W.length ≤ cW := ⟨by have := HLEN.out; omega, own_capD C.out.wo⟩
  have hcW1 : (1 : Int) < cW := by have := HLEN.out; omega
  have hl1' : (1 : Int) ≤ W.length := by omega
  have hcW' : (W.length : Int) ≤ cW := by omega
  have z := hd_ C.out.m
  have HZ1 : Hid (DkSz d e1) := hd_ ⟨HZ.out.s, HZ.out.n, HZ.out.b, HZ.out.l, own_capD C.out.o.2⟩
  have HRW : Hid (Rds U.drew 1 (some ⟨bW, 1, none⟩) (W.length - 1) (strs (W.drop 1))) := hd_ (by
   have := (Rds.of_own C.out.wo).suf (i := 1) hl1
   rw [show (strs W).drop (1 * 1) = strs (W.drop 1) from (List.map_drop ..).symm] at this
   exact Rds.below (show Rds U 1 (some ⟨bW, 1, none⟩) (W.length - 1) (strs (W.drop 1)) from this) bw_)
  go_upto_region 16 with (fail)
  have hC : cel8 U.drew p d A1 B1 c1 e1 := z.out.cel
  refine wp_region_T (fun U => U.cell? ⟨p, 0, none⟩ = some (i64 (d).b.bars) ∧ U.cell? ⟨p, 1, none⟩ = some (i64 (d).b.rise) ∧ U.cell? ⟨p, 2, none⟩ = some (i64 (d).b.fall) ∧ U.cell? ⟨p, 3, none⟩ = some (i64 (d).b.clr) ∧ U.cell? ⟨p, 4, none⟩ = some (i64 (d).b.near) ∧ U.cell? ⟨p, 5, none⟩ = some (.slice A1 (d).stops.length c1) ∧ U.cell? ⟨p, 6, none⟩ = some (.slice B1 (d).drills.length e1) ∧ U.cell? ⟨p, 7, none⟩ = some (.string (d).log)) 8 (by kernel_rfl) ?_
  refine wtl 0 (hC) ?_
  refine wtp 1 (fun _ => hC) ?_
  refine wtp 2 (fun _ => hC) ?_
  refine wtp 3 (fun _ => hC) ?_
  refine wto 4 fun K hK => ?_
  go_simp
  rw [if_neg (show ¬ cW = 1 from by omega)]
  go_at_call 30
  refine (HNP.out base A1 B1 c1 e1 _ _ _ HRW.out (HTU.out _ bw_) HZ1.out ⟨ob_ C.out.o.1 bw_, ob_ C.out.o.2 bw_⟩ HPB.out.2).mono ?_
  rintro r w' ⟨A2, B2, c2, e2, X, n, rfl, do2, ox2, gx, rfl⟩
  have C2 := hd_ (C.out.m.below (V' := up U.drew gx) (bl_up (Below.drew (Below.refl _ _)) gx))
  have DO2 := hd_ do2
  have OX2 := hd_ ox2
  clear do2 ox2
  obtain ⟨hpV, x0, x1, x2, x3, x4, x5, x6, x7⟩ := C2.out.bx.eight
  obtain ⟨f0, f1, f2, f3, f4, f5, f6, f7⟩ := C2.out.bx.open8
  refine hK.out _ _ (fun _ => C2.out.cel) (wtn ?_)
  clear hK K
  refine wtp 5 (fun _ => C2.out.cel) ?_
  refine wtp 6 (fun _ => C2.out.cel) ?_
  refine wtp 7 (fun _ => C2.out.cel) ?_
  refine wto 8 fun K hK => ?_
  go_simp
  refine hK.out _ _ tf_ (wtn ?_)
  clear hK K
  refine wtp 9 tf_ ?_
  refine wtd ?_
  refine exit_genD (R := fun U1 => Hid (MD w U1 p q (dkcs D2 A2 B2 c2 e2)) ∧ Hid (DOwn base U1 D2 A2 B2 c2 e2) ∧ Hid (U1.ownsRow base 9 1 (.slice X L2.length n) L2.length (strs L2))) ⟨hd_ (C2.out.put8 _ _ _ _ _ _ _ _), hd_ ⟨oa_ DO2.out.1 HPB.out.1 _ _ _ _ _ _ _ _, oa_ DO2.out.2 HPB.out.1 _ _ _ _ _ _ _ _⟩, hd_ (oa_ OX2.out HPB.out.1 _ _ _ _ _ _ _ _)⟩ (fun U1 y => ?_)
  obtain ⟨z, DO, OX⟩ := y
  clear C2 DO2 OX2 C
  obtain ⟨hpV, x0, x1, x2, x3, x4, x5, x6, x7⟩ := z.out.bx.eight
  obtain ⟨hqT, r0, r1, r2, r3, r4, r5, r6, r7⟩ := z.out.rs.eight
  obtain ⟨f0, f1, f2, f3, f4, f5, f6, f7⟩ := z.out.rs.open8
  go_wp2_with fail
  refine post_gen (R := fun W => Blk W q 31 (dkcs (D2) A2 B2 c2 e2) ∧ DOwn w.heap.size W (D2) A2 B2 c2 e2 ∧ W.ownsRow w.heap.size 9 1 (.slice X L2.length n) L2.length (strs (L2)) ∧ UpOf w W) ⟨blk_put8 z.out.rs _ _ _ _ _ _ _ _, ⟨om_ (oa_ DO.out.1 HBV.out.2.1 _ _ _ _ _ _ _ _) HBV.out.2.2, om_ (oa_ DO.out.2 HBV.out.2.1 _ _ _ _ _ _ _ _) HBV.out.2.2⟩, om_ (oa_ OX.out HBV.out.2.1 _ _ _ _ _ _ _ _) HBV.out.2.2, put8_up z.out.up z.out.hq _ _ _ _ _ _ _ _⟩ (fun W st => ?_)
  obtain ⟨s1, s4, s2, s3⟩ := st
  obtain ⟨hqW, w0, w1, w2, w3, w4, w5, w6, w7⟩ := s1.eight
  clear s1 r0 r1 r2 r3 r4 r5 r6 r7 f0 f1 f2 f3 f4 f5 f6 f7 x0 x1 x2 x3 x4 x5 x6 x7
  exact bodyPost_ret (v := .tuple #[dkv (D2) A2 B2 c2 e2, .slice X L2.length n, i64 0]) (by simp [results, Tryz.results9, go_sem, hqW, w0, w1, w2, w3, w4, w5, w6, w7]) rfl ⟨_, _, _, _, _, _, rfl, s4, s2, s3⟩
end Go.Proofs.YtbianlkenallaaaGreatDoor
