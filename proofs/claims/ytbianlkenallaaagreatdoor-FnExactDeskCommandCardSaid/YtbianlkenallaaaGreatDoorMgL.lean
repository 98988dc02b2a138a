/-
  Common parts, put together: DcAll, CmdR, ConsRM.
-/
import Derived.Test.YtbianlkenallaaaGreatDoorMgK
import Derived.Test.YtbianlkenallaaaGreatDoorDcKN
import Derived.Test.YtbianlkenallaaaGreatDoorDcKT
import Derived.Test.YtbianlkenallaaaGreatDoorDcK5
import Derived.Test.YtbianlkenallaaaGreatDoorDcK11
import Derived.Test.YtbianlkenallaaaGreatDoorMgG
import Derived.Test.YtbianlkenallaaaGreatDoorConsRL
set_option linter.all false
set_option maxHeartbeats 8000000
set_option maxRecDepth 10000
namespace Go.Proofs.YtbianlkenallaaaGreatDoor
open Go.RowKit
def dcPost (o : Option (DeskD × List ByteArray)) (w : World) (r : Ending) (w' : World) : Prop := match o with
 | none => dcNo w r w'
 | some x => dcYes x.1 x.2 w r w'
theorem deskCmd_any {two : List ByteArray → ByteArray × Int} (h2 : TwoOk two) (d : DeskD) (A B : Option Addr) (c e : Nat) (s : ByteArray) (w : World) (hs : s.size ≤ 1048576) (hS : DSee w d A B) (hz : DkSz d e) (hv : vDesk d = true) (ht : Tab w) :
 Calls Tryz.prog 9 #[dkv d A B c e, .string s] w fun r w' => dcPost (doL two d s) w r w' := by
 cases hf : fitK (kindOf (wd (splitA 32 [] s.data.toList) 0)) (splitA 32 [] s.data.toList).length with
 | false =>
   have hd : doL two d s = none := by rw [doL, hf]; rfl
   rw [hd]
   exact dcNo_any d A B c e s w hs hS hz hv ht hf
 | true =>
   have hd : doL two d s = some (doK two d (splitA 32 [] s.data.toList) (kindOf (wd (splitA 32 [] s.data.toList) 0))) := by rw [doL, hf]; rfl
   rw [hd]
   show Calls Tryz.prog 9 #[dkv d A B c e, .string s] w fun r w' => dcYes (doK two d (splitA 32 [] s.data.toList) (kindOf (wd (splitA 32 [] s.data.toList) 0))).1 (doK two d (splitA 32 [] s.data.toList) (kindOf (wd (splitA 32 [] s.data.toList) 0))).2 w r w'
   obtain ⟨W, hW⟩ := nm_ (splitA 32 [] s.data.toList)
   rw [hW] at hf ⊢
   obtain ⟨k, hk⟩ := nm_ (kindOf (wd W 0))
   have hle := kind_le (wd W 0)
   rw [hk] at hle ⊢
   have h15 : k = 0 ∨ k = 1 ∨ k = 2 ∨ k = 3 ∨ k = 4 ∨ k = 5 ∨ k = 6 ∨ k = 7 ∨ k = 8 ∨ k = 9 ∨ k = 10 ∨ k = 11 ∨ k = 12 ∨ k = 13 ∨ k = 14 := by omega
   rcases h15 with rfl | rfl | rfl | rfl | rfl | rfl | rfl | rfl | rfl | rfl | rfl | rfl | rfl | rfl | rfl
   ·exact dcAlign_any d A B c e s w W hs hS hz hv ht hW hf hk
   ·exact dcKN_any h2 d A B c e s w W hs hS hz hv ht hW hf 1 (by omega) hk
   ·exact dcKT_any h2 d A B c e s w W hs hS hz hv ht hW hf 2 (by omega) hk
   ·exact dcKT_any h2 d A B c e s w W hs hS hz hv ht hW hf 3 (by omega) hk
   ·exact dcList_any d A B c e s w W hs hS hz hv ht hW hf 4 (.inl rfl) hk _ fun A1 B1 c1 e1 V h1 h2 h3 => listDrills_any d A1 B1 c1 e1 _ V h1 h2 hk h3
   ·exact dcK5_any h2 d A B c e s w W hs hS hz hv ht hW hf hk
   ·exact dcKN_any h2 d A B c e s w W hs hS hz hv ht hW hf 6 (by omega) hk
   ·have e7 : doK two d W 7 = (d, lineR d.drills (wd W 1) (wd W 2)) := by
     simp only [doK, lineR]
     cases numB (wd W 2) with
     | false => rfl
     | true => cases findD d.drills (wd W 1) <;> rfl
    rw [e7]
    exact dcK7_any h2 d A B c e s w W hs hS hz hv ht hW hf hk
   ·exact dcList_any d A B c e s w W hs hS hz hv ht hW hf 8 (.inr rfl) hk _ fun A1 B1 c1 e1 V h1 h2 h3 => listLog_any d A1 B1 c1 e1 _ V h2 hk hv h3
   ·exact dcMark_any d A B c e s w W hs hS hz hv ht hW hf hk
   ·exact dcKT_any h2 d A B c e s w W hs hS hz hv ht hW hf 10 (by omega) hk
   ·have e11 : doK two d W 11 = (d, if numB (wd W 1) then sent (setR (wordsA [] (restW W 2).data.toList) (sval (wd W 1))) else [errL 7]) := by
     simp only [doK]
     cases numB (wd W 1) <;> rfl
    rw [e11]
    exact dcK11_any h2 d A B c e s w W hs hS hz hv ht hW hf hk
   ·exact dcKN_any h2 d A B c e s w W hs hS hz hv ht hW hf 12 (by omega) hk
   ·exact dcKN_any h2 d A B c e s w W hs hS hz hv ht hW hf 13 (by omega) hk
   ·rw [hk] at hf
    simp [fitK] at hf
def dz : DeskD := ⟨⟨0, 0, 0, 0, 0⟩, [], [], ⟨#[]⟩⟩
def cmdR (two : List ByteArray → ByteArray × Int) (d : DeskD) (s : ByteArray) : DeskD × List ByteArray × Int :=
 if vDesk d then (match doL two d s with | none => (dz, [], 7) | some r => (r.1, r.2, 0)) else (dz, [], 1)
def cmdPost (D : DeskD) (L : List ByteArray) (cd : Int) (w : World) (r : Ending) (w' : World) : Prop :=
 ∃ A B c e X n, r = .returned (.tuple #[dkv D A B c e, .slice X L.length n, i64 cd]) ∧ DOwn w.heap.size w' D A B c e ∧ w'.ownsRow w.heap.size 9 1 (.slice X L.length n) L.length (strs L) ∧ UpOf w w'
theorem cmdPost_z {cd : Int} {w w' : World} {r : Ending} (hr : r = .returned (.tuple #[.agg zc, .slice none 0 0, i64 cd])) (hu : UpOf w w') : cmdPost dz [] cd w r w' :=
 ⟨none, none, 0, 0, none, 0, hr, ⟨World.ownsRow_nil _ _ _ _, World.ownsRow_nil _ _ _ _⟩, World.ownsRow_nil _ _ _ _, hu⟩
theorem dcBad_any (d : DeskD) (A B : Option Addr) (c e : Nat) (s : ByteArray) (w : World) (hS : DSee w d A B) (hz : DkSz d e) (hv : vDesk d = false) (ht : Tab w) :
 Calls Tryz.prog 9 #[dkv d A B c e, .string s] w fun r w' => r = .returned (.tuple #[.agg zc, .slice none 0 0, i64 1]) ∧ UpOf w w' := by
 have HS := hd_ hS
 have HZ := hd_ hz
 have HV := hd_ hv
 have HT := hd_ ht
 clear hS hz hv ht
 go_enter Tryz.func9, Tryz.ntmps9
 go_upto_region 1 with (fail)
 refine wpg (R := fun V => Hid (MD w V w.heap.size (w.heap.size + 1) (dkcs d A B c e))) (hd_ (MD.new _ _)) (fun V z => ?_)
 generalize hp9 : w.heap.size = p at z ⊢
 generalize hq9 : p + 1 = q at z ⊢
 clear hp9 hq9
 obtain ⟨hpV, x0, x1, x2, x3, x4, x5, x6, x7⟩ := z.out.bx.eight
 go_wp2_with fail
 refine cu_ (ra_ (validDeskI_any d A B c e _ (HS.out.below z.out.up.below) HZ.out (HT.out.below z.out.up.below)) HV.out) fun g1 => ?_
 have z2 := hd_ (z.out.below (V' := up V g1) (ub_ V _))
 clear x0 x1 x2 x3 x4 x5 x6 x7 hpV z
 obtain ⟨hqT, r0, r1, r2, r3, r4, r5, r6, r7⟩ := z2.out.rs.eight
 obtain ⟨f0, f1, f2, f3, f4, f5, f6, f7⟩ := z2.out.rs.open8
 go_wp2_with fail
 refine post_gen (R := fun W => Blk W q 31 zc ∧ UpOf w W) ⟨blk_put8 z2.out.rs _ _ _ _ _ _ _ _, put8_up z2.out.up z2.out.hq _ _ _ _ _ _ _ _⟩ (fun W st => ?_)
 obtain ⟨s1, s3⟩ := st
 obtain ⟨hqW, w0, w1, w2, w3, w4, w5, w6, w7⟩ := s1.eight
 exact bodyPost_ret (v := .tuple #[.agg zc, .slice none 0 0, i64 1]) (by simp [results, Tryz.results9, go_sem, hqW, w0, w1, w2, w3, w4, w5, w6, w7]) rfl ⟨rfl, s3⟩
theorem cmdI_any {two : List ByteArray → ByteArray × Int} (h2 : TwoOk two) (d : DeskD) (A B : Option Addr) (c e : Nat) (s : ByteArray) (w : World) (hs : s.size ≤ 1048576) (hS : DSee w d A B) (hz : DkSz d e) (ht : Tab w) :
 Calls Tryz.prog 9 #[dkv d A B c e, .string s] w fun r w' => cmdPost (cmdR two d s).1 (cmdR two d s).2.1 (cmdR two d s).2.2 w r w' := by
 cases hv : vDesk d with
 | false =>
   rw [show cmdR two d s = (dz, [], 1) by rw [cmdR, hv]; rfl]
   exact (dcBad_any d A B c e s w hS hz hv ht).mono fun r w' h => cmdPost_z h.1 h.2
 | true =>
   have h9 := deskCmd_any h2 d A B c e s w hs hS hz hv ht
   cases hd : doL two d s with
   | none =>
     rw [show cmdR two d s = (dz, [], 7) by rw [cmdR, hv, hd]; rfl]
     rw [hd] at h9
     exact h9.mono fun r w' h => cmdPost_z h.1 h.2
   | some x =>
     rw [show cmdR two d s = (x.1, x.2, 0) by rw [cmdR, hv, hd]; rfl]
     rw [hd] at h9
     exact h9
theorem Blk.nine {V : World} {p : Nat} {t : TypeId} {x0 x1 x2 x3 x4 x5 x6 x7 x8 x9 x10 : Value} (h : Blk V p t #[x0, x1, x2, x3, x4, x5, x6, x7, x8, x9, x10]) : V.cell? ⟨p, 0, none⟩ = some x0 ∧ V.cell? ⟨p, 1, none⟩ = some x1 ∧ V.cell? ⟨p, 2, none⟩ = some x2 ∧ V.cell? ⟨p, 3, none⟩ = some x3 ∧
 V.cell? ⟨p, 4, none⟩ = some x4 ∧ V.cell? ⟨p, 5, none⟩ = some x5 ∧ V.cell? ⟨p, 6, none⟩ = some x6 ∧ V.cell? ⟨p, 7, none⟩ = some x7 ∧ V.cell? ⟨p, 8, none⟩ = some x8 :=
 ⟨h.cell 0, h.cell 1, h.cell 2, h.cell 3, h.cell 4, h.cell 5, h.cell 6, h.cell 7, h.cell 8⟩
theorem cmdS_any {two : List ByteArray → ByteArray × Int} (h2 : TwoOk two) (d : DeskD) (A B : Option Addr) (c e : Nat) (s : ByteArray) (w : World) (hs : s.size ≤ 1048576) (hS : DSee w d A B) (hz : DkSz d e) :
 Calls Tryz.prog 15 #[dkv d A B c e, .string s] w fun r w' => cmdPost (cmdR two d s).1 (cmdR two d s).2.1 (cmdR two d s).2.2 w r w' := by
 have HS := hd_ hS
 have HZ := hd_ hz
 clear hS hz
 cases hv : vDesk d with
 | false =>
   rw [show cmdR two d s = (dz, [], 1) by rw [cmdR, hv]; rfl]
   have HV := hd_ hv
   clear hv
   go_enter Tryz.func15, Tryz.ntmps15
   go_upto_region 1 with (fail)
   refine wpg (R := fun V => Hid (MD w V w.heap.size (w.heap.size + 1) (dkcs d A B c e))) (hd_ (MD.new _ _)) (fun V z => ?_)
   generalize hp9 : w.heap.size = p at z ⊢
   generalize hq9 : p + 1 = q at z ⊢
   clear hp9 hq9
   go_wp2_with fail
   refine cu_ (ra_ (l28Ok_any d A B c e p _ ⟨z.out.bx.lt, fun i u hu => by rw [z.out.bx.cell]; exact hu⟩ (HS.out.below z.out.up.below) HZ.out) HV.out) fun g1 => ?_
   have z2 := hd_ (z.out.below (V' := up V g1) (ub_ V _))
   have HB := hd_ z2.out.rs
   have HU := hd_ z2.out.up
   have HQ := hd_ z2.out.hq
   clear z z2
   obtain ⟨hqT, r0, r1, r2, r3, r4, r5, r6, r7⟩ := HB.out.eight
   obtain ⟨f0, f1, f2, f3, f4, f5, f6, f7⟩ := HB.out.open8
   go_wp2_with fail
   refine post_gen (R := fun W => Blk W q 31 zc ∧ UpOf w W) ⟨blk_put8 HB.out _ _ _ _ _ _ _ _, put8_up HU.out HQ.out _ _ _ _ _ _ _ _⟩ (fun W st => ?_)
   obtain ⟨s1, s3⟩ := st
   obtain ⟨hqW, w0, w1, w2, w3, w4, w5, w6, w7⟩ := s1.eight
   exact bodyPost_ret (v := .tuple #[.agg zc, .slice none 0 0, i64 1]) (by simp [results, Tryz.results15, go_sem, hqW, w0, w1, w2, w3, w4, w5, w6, w7]) rfl (cmdPost_z rfl s3)
 | true =>
   have HV := hd_ hv
   have HRR : Hid (cmdR two d s = match doL two d s with | none => (dz, [], 7) | some r => (r.1, r.2, 0)) := hd_ (by rw [cmdR, hv]; rfl)
   obtain ⟨RS, hRS⟩ := nm_ (doL two d s)
   rw [hRS] at HRR
   obtain ⟨CR, hCR⟩ := nm_ (cmdR two d s)
   rw [hCR] at HRR
   rw [hCR]
   have HDS := hd_ hRS
   clear hv hRS hCR
   go_enter Tryz.func15, Tryz.ntmps15
   go_upto_region 1 with (fail)
   refine wpg (R := fun V => Hid (MD w V w.heap.size (w.heap.size + 1) (dkcs d A B c e))) (hd_ (MD.new _ _)) (fun V z => ?_)
   generalize hp9 : w.heap.size = p at z ⊢
   generalize hq9 : p + 1 = q at z ⊢
   clear hp9 hq9
   go_wp2_with fail
   refine cu_ (ra_ (l28Ok_any d A B c e p _ ⟨z.out.bx.lt, fun i u hu => by rw [z.out.bx.cell]; exact hu⟩ (HS.out.below z.out.up.below) HZ.out) HV.out) fun g1 => ?_
   go_wp2_with fail
   refine cg (R := fun W0 => Hid (MD w W0 p q (dkcs d A B c e))) (hd_ (z.out.below (ub_ V g1))) (fun W0 z1 => ?_)
   clear z g1
   refine (l28Copy_any d A B c e p _ z1.out.bx (HS.out.below z1.out.up.below) (by have := HZ.out.s; have := (vStops_inv (vDesk_inv HV.out).2.1).1; omega) HZ.out.n).mono ?_
   rintro r w' ⟨A1, B1, c1, e1, rfl, hdo, g2, rfl⟩
   have HDO := hd_ hdo
   clear hdo
   go_upto_region 4 with (fail)
   have hb0 : Blk ((up W0 g2).alloc (.cells #[i64 d.b.bars, i64 d.b.rise, i64 d.b.fall, i64 d.b.clr, i64 d.b.near, .slice A1 d.stops.length c1, .slice B1 d.drills.length e1, .string d.log, .slice none 0 0, .slice none 0 0, .slice none 0 0] 77)) (up W0 g2).heap.size 77 #[i64 d.b.bars, i64 d.b.rise, i64 d.b.fall, i64 d.b.clr, i64 d.b.near, .slice A1 d.stops.length c1, .slice B1 d.drills.length e1, .string d.log, .slice none 0 0, .slice none 0 0, .slice none 0 0] := Blk.new _ _ _
   have HL1 := hd_ (show LE W0 _ (up W0 g2).heap.size d A1 B1 c1 e1 none 0 [] (.slice none 0 0) (.slice none 0 0) from ⟨hb0, ⟨ob_ HDO.out.1 bw_, ob_ HDO.out.2 bw_⟩, ⟨rfl, .inl ⟨rfl, rfl⟩⟩, UpX.of bw_, trivial⟩)
   refine wpg (R := fun V => Hid (LE W0 V (up W0 g2).heap.size d A1 B1 c1 e1 none 0 [] (.slice none 0 0) (.slice none 0 0))) HL1 (fun V1 HL2 => ?_)
   have HSB := hd_ (show W0.heap.size ≤ (up W0 g2).heap.size from (ub_ W0 g2).size)
   clear hb0 HL1 HDO
   generalize (up W0 g2).heap.size = sb at HL2 HSB ⊢
   clear g2
   go_wp2_with fail
   refine (do_any h2 (k0 two) (k9 two) W0 sb d A1 B1 c1 e1 none 0 [] _ _ s _ (HL2.out.below bw_) hs (DoH.of HV.out (by simp) hs)).mono ?_
   rintro r w' hr
   rw [HDS.out] at hr
   have HQW := hd_ (show q < W0.heap.size ∧ w.heap.size ≤ W0.heap.size from ⟨z1.out.rs.lt, z1.out.up.below.size⟩)
   cases RS with
   | none =>
     obtain ⟨rfl, x1, y1, A2, B2, c2, e2, O2, oc2, hle⟩ := hr
     have hcr : CR = (dz, [], 7) := HRR.out
     subst hcr
     have HB : Hid (Blk w' q 31 zc) := hd_ ((hle.up.block q HQW.out.1 (by have := HSB.out; have := HQW.out.1; omega)).trans z1.out.rs)
     have HU := hd_ (UpX.past z1.out.up hle.up (Nat.le_trans HQW.out.2 HSB.out))
     have HQ := hd_ z1.out.hq
     clear hle HL2 z1
     obtain ⟨hqT, r0, r1, r2, r3, r4, r5, r6, r7⟩ := HB.out.eight
     obtain ⟨f0, f1, f2, f3, f4, f5, f6, f7⟩ := HB.out.open8
     go_wp2_with fail
     refine post_gen (R := fun W => Blk W q 31 zc ∧ UpOf w W) ⟨blk_put8 HB.out _ _ _ _ _ _ _ _, put8_up HU.out HQ.out _ _ _ _ _ _ _ _⟩ (fun W st => ?_)
     obtain ⟨s1, s3⟩ := st
     obtain ⟨hqW, w0, w1, w2, w3, w4, w5, w6, w7⟩ := s1.eight
     exact bodyPost_ret (v := .tuple #[.agg zc, .slice none 0 0, i64 7]) (by simp [results, Tryz.results15, go_sem, hqW, w0, w1, w2, w3, w4, w5, w6, w7]) rfl (cmdPost_z rfl s3)
   | some RP =>
     obtain ⟨D2, L2⟩ := RP
     obtain ⟨rfl, x1, y1, A2, B2, c2, e2, O2, oc2, hle⟩ := hr
     have hcr : CR = (D2, L2, 0) := HRR.out
     subst hcr
     rw [List.nil_append] at hle
     have HLE := hd_ hle
     have hne : q ≠ sb := by have := HSB.out; have := HQW.out.1; omega
     have HB : Hid (Blk w' q 31 zc) := hd_ ((hle.up.block q HQW.out.1 hne).trans z1.out.rs)
     have HU := hd_ (UpX.past z1.out.up hle.up (Nat.le_trans HQW.out.2 HSB.out))
     have HQ := hd_ z1.out.hq
     have hC := (show Blk w'.drew sb 77 _ from hle.bk).nine
     clear hle HL2 z1
     go_upto_region 6 with (fail)
     refine wp_region_T (fun U => U.cell? ⟨sb, 0, none⟩ = some (i64 D2.b.bars) ∧ U.cell? ⟨sb, 1, none⟩ = some (i64 D2.b.rise) ∧ U.cell? ⟨sb, 2, none⟩ = some (i64 D2.b.fall) ∧ U.cell? ⟨sb, 3, none⟩ = some (i64 D2.b.clr) ∧ U.cell? ⟨sb, 4, none⟩ = some (i64 D2.b.near) ∧ U.cell? ⟨sb, 5, none⟩ = some (.slice A2 D2.stops.length c2) ∧ U.cell? ⟨sb, 6, none⟩ = some (.slice B2 D2.drills.length e2) ∧ U.cell? ⟨sb, 7, none⟩ = some (.string D2.log) ∧ U.cell? ⟨sb, 8, none⟩ = some (.slice O2 L2.length oc2)) 9 (by kernel_rfl) ?_
     refine wtp 0 (fun _ => hC) ?_
     refine wtp 1 (fun _ => hC) ?_
     refine wtp 2 (fun _ => hC) ?_
     refine wtl 3 (hC) ?_
     refine wtp 4 (fun _ => hC) ?_
     refine wtp 5 (fun _ => hC) ?_
     refine wtp 6 (fun _ => hC) ?_
     refine wtl 7 (hC) ?_
     obtain ⟨hqT, r0, r1, r2, r3, r4, r5, r6, r7⟩ := HB.out.eight
     obtain ⟨f0, f1, f2, f3, f4, f5, f6, f7⟩ := HB.out.open8
     clear hC
     refine wto 8 fun K hK => ?_
     go_simp
     have hC8 := (blk_far8 HLE.out.bk hne.symm (i64 D2.b.bars) (i64 D2.b.rise) (i64 D2.b.fall) (i64 D2.b.clr) (i64 D2.b.near) (.slice A2 D2.stops.length c2) (.slice B2 D2.drills.length e2) (.string D2.log)).drew.nine
     refine hK.out _ _ (fun _ => hC8) (wtn ?_)
     clear hK K
     clear hC8
     refine wto 9 fun K hK => ?_
     go_simp
     refine hK.out _ _ tf_ (wtn ?_)
     clear hK K
     refine wtp 10 tf_ ?_
     refine wtd ?_
     go_wp2_with fail
     refine post_gen (R := fun W => Blk W q 31 (dkcs D2 A2 B2 c2 e2) ∧ DOwn w.heap.size W D2 A2 B2 c2 e2 ∧ W.ownsRow w.heap.size 9 1 (.slice O2 L2.length oc2) L2.length (strs L2) ∧ UpOf w W) ⟨(blk_put8 HB.out _ _ _ _ _ _ _ _).drew, ⟨ob_ (om_ (oa_ HLE.out.dw.1 HQW.out.1 _ _ _ _ _ _ _ _) HQW.out.2) (Below.drew (Below.refl _ _)), ob_ (om_ (oa_ HLE.out.dw.2 HQW.out.1 _ _ _ _ _ _ _ _) HQW.out.2) (Below.drew (Below.refl _ _))⟩, ob_ (om_ (oa_ HLE.out.ow HQW.out.1 _ _ _ _ _ _ _ _) HQW.out.2) (Below.drew (Below.refl _ _)), (put8_up HU.out HQ.out _ _ _ _ _ _ _ _).tr (Below.drew (Below.refl _ _))⟩ (fun W st => ?_)
     obtain ⟨s1, s2, s4, s3⟩ := st
     obtain ⟨hqW, w0, w1, w2, w3, w4, w5, w6, w7⟩ := s1.eight
     clear s1 r0 r1 r2 r3 r4 r5 r6 r7 f0 f1 f2 f3 f4 f5 f6 f7
     exact bodyPost_ret (v := .tuple #[dkv D2 A2 B2 c2 e2, .slice O2 L2.length oc2, i64 0]) (by simp [results, Tryz.results15, go_sem, w0, w1, w2, w3, w4, w5, w6, w7]) rfl ⟨A2, B2, c2, e2, O2, oc2, rfl, s2, s4, s3⟩
end Go.Proofs.YtbianlkenallaaaGreatDoor
