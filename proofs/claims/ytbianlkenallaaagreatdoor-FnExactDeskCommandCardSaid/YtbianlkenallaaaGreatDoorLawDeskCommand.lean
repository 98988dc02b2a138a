/-
  The law on DeskCommand: its walk. Premise on the world: the laid table.
-/
import Derived.Test.YtbianlkenallaaaGreatDoorMgL
import Derived.Test.YtbianlkenallaaaGreatDoorMgG
set_option linter.all false
set_option maxHeartbeats 8000000
set_option maxRecDepth 10000
namespace Go.Proofs.YtbianlkenallaaaGreatDoor
open Go.RowKit
theorem cmdR_bd (two : List ByteArray → ByteArray × Int) (d : DeskD) (s : ByteArray) : (cmdR two d s).1.stops.length ≤ 1000 ∧ (cmdR two d s).1.drills.length ≤ 10 ∧ (cmdR two d s).2.1.length ≤ 4001 := by
 unfold cmdR
 split
 ·rename_i hv
  cases hd : doL two d s with
  | none => simp [dz]
  | some r =>
    have h1 := vDesk_inv (doL_ok two hv hd).1
    have h2 := (vStops_inv h1.2.1).1
    have h3 := (vDrills_inv h1.2.2.1).1
    have h4 : r.2.length ≤ 4001 := by
     unfold doL at hd
     split at hd
     ·injection hd with hd
      have h8 := doK_lines (two := two) hv (splitA 32 [] s.data.toList) (kindOf (wd (splitA 32 [] s.data.toList) 0))
      rw [hd] at h8
      exact h8
     ·cases hd
    exact ⟨Nat.le_trans h2 (by omega), h3, h4⟩
 ·simp [dz]
theorem drTotN_le (l : List Drill) {i : Nat} (h : i < l.length) : drTot1 l[i] ≤ drTotN l l.length := by
 have h1 : drTotN l (i + 1) = drTotN l i + drTot1 l[i] := by rw [drTotN, List.getElem?_eq_getElem h]
 have h2 := drTotN_mono l (i + 1) (l.length - (i + 1))
 rw [show i + 1 + (l.length - (i + 1)) = l.length by omega] at h2
 omega
theorem dkSz_tot {d : DeskD} (h : (dkTot d : Int) ≤ 1048576) : DkSz d d.drills.length := by
 have h1 := dkTot_lens h (by omega)
 unfold dkTot drTot at h
 refine ⟨h1.1, h1.2, fun i hi => ?_, by omega, Nat.le_refl _⟩
 have h2 := drTotN_le d.drills hi
 rw [drl_eq hi, drTot1] at h2
 omega
theorem Blk.only {lo hi b : Nat} {t : TypeId} {cs : Array Value} {V V' : World} (h : Blk V b t cs) (ho : Only lo hi V V') (hb : b < lo ∨ hi ≤ b) : Blk V' b t cs := (ho.block b h.lt hb).trans h
theorem UpOf.only {w V V' : World} {lo hi : Nat} (h : UpOf w V) (ho : Only lo hi V V') (hlo : w.heap.size ≤ lo) : UpOf w V' := ho.upOf h.below hlo
structure LB (w V : World) (p : Nat) (x : DeskD) (A B : Option Addr) (c e : Nat) : Prop where
 bp : Blk V p 43 (dkcs x A B c e)
 up : UpOf w V
 hp : w.heap.size ≤ p
structure RDk (V : World) (base b : Nat) (D : DeskD) (A B : Option Addr) (c e : Nat) (X : Option Addr) (n : Nat) (L : List ByteArray) : Prop where
 bx : Blk V b 31 (dkcs D A B c e)
 dw : DOwn base V D A B c e
 lw : V.ownsRow base 9 1 (.slice X L.length n) L.length (strs L)
 lt : (∀ k, (Value.slice A D.stops.length c).ownBlock = some k → k < b) ∧ (∀ k, (Value.slice B D.drills.length e).ownBlock = some k → k < b) ∧ ∀ k, (Value.slice X L.length n).ownBlock = some k → k < b
structure XDk (V : World) (base b : Nat) (D : DeskD) (A B : Option Addr) (c e : Nat) : Prop where
 bx : Blk V b 31 (dkcs D A B c e)
 dw : DOwn base V D A B c e
 lt : (∀ k, (Value.slice A D.stops.length c).ownBlock = some k → k < b) ∧ ∀ k, (Value.slice B D.drills.length e).ownBlock = some k → k < b
structure MKd (V : World) (base b : Nat) (D : DeskD) (A B : Option Addr) (c e : Nat) (X : Option Addr) (n : Nat) (L : List ByteArray) (K : Nat) : Prop where
 bx : Blk V b 31 (dkcs D A B c e)
 md : MkD base V D A B c e 1
 ms : V.ownsRow base 9 1 (.slice X L.length n) L.length (strs (marks K L.length))
section
variable {w V V' : World} {p base b lo hi : Nat} {x D : DeskD} {A B X : Option Addr} {c e n K : Nat} {L : List ByteArray}
theorem LB.below (h : LB w V p x A B c e) (hb : Below V.heap.size V V') : LB w V' p x A B c e := ⟨h.bp.up ⟨V', hb⟩, h.up.tr hb, h.hp⟩
theorem LB.only (h : LB w V p x A B c e) (ho : Only lo hi V V') (hl : p < lo) : LB w V' p x A B c e := ⟨h.bp.only ho (.inl hl), h.up.only ho (by have := h.hp; omega), h.hp⟩
theorem RDk.below (h : RDk V base b D A B c e X n L) (hb : Below V.heap.size V V') : RDk V' base b D A B c e X n L := ⟨h.bx.up ⟨V', hb⟩, ⟨ob_ h.dw.1 hb, ob_ h.dw.2 hb⟩, ob_ h.lw hb, h.lt⟩
theorem RDk.only (h : RDk V base b D A B c e X n L) (ho : Only lo hi V V') (hl : b < lo ∨ hi ≤ base ∧ hi ≤ b) : RDk V' base b D A B c e X n L := by
 refine ⟨h.bx.only ho (by omega), ⟨ho.own h.dw.1 ?_, ho.own h.dw.2 ?_⟩, ho.own h.lw ?_, h.lt⟩
 ·rcases hl with hl | hl
  ·exact .inr fun k hk => Nat.lt_trans (h.lt.1 k hk) hl
  ·exact .inl hl.1
 ·rcases hl with hl | hl
  ·exact .inr fun k hk => Nat.lt_trans (h.lt.2.1 k hk) hl
  ·exact .inl hl.1
 ·rcases hl with hl | hl
  ·exact .inr fun k hk => Nat.lt_trans (h.lt.2.2 k hk) hl
  ·exact .inl hl.1
theorem RDk.see (h : RDk V base b D A B c e X n L) : DSee V D A B := DOwn.see h.dw
theorem RDk.lines (h : RDk V base b D A B c e X n L) : Rds V 1 X L.length (strs L) := Rds.of_own h.lw
theorem XDk.below (h : XDk V base b D A B c e) (hb : Below V.heap.size V V') : XDk V' base b D A B c e := ⟨h.bx.up ⟨V', hb⟩, ⟨ob_ h.dw.1 hb, ob_ h.dw.2 hb⟩, h.lt⟩
theorem MKd.below (h : MKd V base b D A B c e X n L K) (hb : Below V.heap.size V V') : MKd V' base b D A B c e X n L K := ⟨h.bx.up ⟨V', hb⟩, h.md.below hb, ob_ h.ms hb⟩
theorem RDk.new (hd : DOwn base V D A B c e) (hl : V.ownsRow base 9 1 (.slice X L.length n) L.length (strs L)) : RDk (V.alloc (.cells (dkcs D A B c e) 31)) base V.heap.size D A B c e X n L :=
 ⟨Blk.new _ _ _, ⟨hd.1.alloc _, hd.2.alloc _⟩, hl.alloc _, fun k hk => (hd.1.lt k hk).2, fun k hk => (hd.2.lt k hk).2, fun k hk => (hl.lt k hk).2⟩
theorem XDk.new (hd : DOwn base V D A B c e) : XDk (V.alloc (.cells (dkcs D A B c e) 31)) base V.heap.size D A B c e :=
 ⟨Blk.new _ _ _, ⟨hd.1.alloc _, hd.2.alloc _⟩, fun k hk => (hd.1.lt k hk).2, fun k hk => (hd.2.lt k hk).2⟩
end
theorem law_deskCommand (x : DeskD) (A B : Option Addr) (c e : Nat) (s : ByteArray) (w : World) (hx : DSee w x A B) (bx : DkBnd x) (hn : s.size ≤ 9223372036854775807) (ht : Tab w) :
 Calls Tryz.prog 5 #[dkv x A B c e, .string s] w fun r w' => r = .returned (.bool true) ∧ UpOf w w' := by
 obtain ⟨two, h2⟩ := two_ex
 have X := hd_ hx
 have BX := hd_ bx
 have HT := hd_ ht
 clear hx bx ht
 by_cases hl : (1048576 : Int) < (s.size : Int)
 ·go_enter Tryz.func5, Tryz.ntmps5
  go_wp2_with fail
  go_ret
  exact ⟨rfl, uw_⟩
 have hs : s.size ≤ 1048576 := by omega
 by_cases q1 : (1048576 : Int) < ((dkTot x : Nat) : Int)
 ·go_enter Tryz.func5, Tryz.ntmps5
  go_wp2_with fail
  refine calls_gen (R := fun V => Hid (LB w V w.heap.size x A B c e)) (hd_ ⟨Blk.new _ _ _, uw_, Nat.le_refl _⟩) (fun V HL => ?_)
  refine cu_ (szDesk_any x A B c e _ _ (by omega) (by omega) BX.out (X.out.below HL.out.up.below)) fun g1 => ?_
  rw [szR_no q1]
  go_wp2_with fail
  go_ret
  exact ⟨rfl, HL.out.up.tr bw_⟩
 obtain ⟨n1, n2⟩ := dkTot_lens (d := x) (k := 1048576) (by omega) (by omega)
 have HZ := hd_ (dkSz_tot (d := x) (by omega))
 obtain ⟨D, hD⟩ := nm_ ((cmdR two x s).1)
 obtain ⟨L, hL⟩ := nm_ ((cmdR two x s).2.1)
 obtain ⟨cd, hcd⟩ := nm_ ((cmdR two x s).2.2)
 have hbd := cmdR_bd two x s
 rw [hD, hL] at hbd
 obtain ⟨d1, d2, d3⟩ := hbd
 have HSP := hd_ (fun (A B : Option Addr) (c e : Nat) (V : World) (h : DSee V x A B) (hz : DkSz x e) => cmdS_any h2 x A B c e s V hs h hz)
 have HIM := hd_ (fun (A B : Option Addr) (c e : Nat) (V : World) (h : DSee V x A B) (hz : DkSz x e) (ht : Tab V) => cmdI_any h2 x A B c e s V hs h hz ht)
 rw [hD, hL, hcd] at HSP HIM
 have htest : (cd != cd) = false := by simp
 obtain ⟨KX, hKX⟩ := nm_ (1 + x.stops.length + 3 * x.drills.length)
 obtain ⟨K1, hK1⟩ := nm_ (1 + D.stops.length + 3 * D.drills.length)
 obtain ⟨K2, hK2⟩ := nm_ (K1 + L.length)
 have HKX := hd_ hKX
 have HK1 := hd_ hK1
 have HK2 := hd_ hK2
 have b0 : KX < 1000000000 := by omega
 have b1 : K1 < 1000000000 := by omega
 have b2 : K2 < 1000000000 := by omega
 have b3 : 1 ≤ K1 := by omega
 have tX : decide ((KX : Int) < 0) = false := decide_eq_false (by omega)
 have t1 : decide ((K1 : Int) < 0) = false := decide_eq_false (by omega)
 have t2 : decide ((K2 : Int) < 0) = false := decide_eq_false (by omega)
 have t3 : ((K2 : Int) != (K2 : Int)) = false := by simp
 have t4 : decide ((1048576 : Int) - ((dkTot x : Nat) : Int) < 0) = false := decide_eq_false (by omega)
 have HSR := hd_ (szR_ok q1)
 clear hD hL hcd hKX hK1 hK2
 go_enter Tryz.func5, Tryz.ntmps5
 go_wp2_with fail
 refine calls_gen (R := fun V => Hid (LB w V w.heap.size x A B c e)) (hd_ ⟨Blk.new _ _ _, uw_, Nat.le_refl _⟩) (fun V HL => ?_)
 obtain ⟨p, hp⟩ := nm_ (w.heap.size)
 rw [hp] at HL
 rw [hp]
 clear hp
 refine (szDesk_any x A B c e _ _ (by omega) (by omega) BX.out (X.out.below HL.out.up.below)).mono ?_
 rintro r W1 ⟨rfl, hu1⟩
 rw [HSR.out]
 have HL1 := hd_ (HL.out.below hu1.below)
 obtain ⟨k, k0, k1, k2, k3, k4, k5, k6, k7⟩ := HL1.out.bp.eight
 go_wp2_with fail
 refine (toDeskO_any x A B c e _ (X.out.below HL1.out.up.below) n1 n2).mono ?_
 rintro r W2 ⟨As, Bs, rfl, os, hu2⟩
 have HL2 := hd_ (HL1.out.below hu2.below)
 have HS2 := hd_ os.see
 clear k k0 k1 k2 k3 k4 k5 k6 k7
 clear os HL1 HL hu1 hu2
 go_wp2_with fail
 refine (HSP.out _ _ _ _ _ HS2.out HZ.out).mono ?_
 rintro r W3 ⟨Aw, Bw, cw, ew, Xw, nw, rfl, dw, lw, hu3⟩
 have HL3 := hd_ (HL2.out.below hu3.below)
 have HDW := hd_ dw
 have HLW := hd_ lw
 clear dw lw HS2 HL2 hu3
 go_upto_region 8 with (fail)
 refine wpg (R := fun U => Hid (LB w U p x A B c e) ∧ Hid (RDk U W2.heap.size W3.heap.size D Aw Bw cw ew Xw nw L)) ⟨hd_ (HL3.out.below (bl_alloc (Below.refl _ _) _)), hd_ (RDk.new HDW.out HLW.out)⟩ (fun W4 y => ?_)
 obtain ⟨HL4, HR4⟩ := y
 clear HL3 HDW HLW
 generalize W3.heap.size = b6 at HR4 ⊢
 generalize W2.heap.size = q6 at HR4
 obtain ⟨k, k0, k1, k2, k3, k4, k5, k6, k7⟩ := HL4.out.bp.eight
 go_wp2_with fail
 refine (toDeskO_any x A B c e _ (X.out.below HL4.out.up.below) n1 n2).mono ?_
 rintro r W5 ⟨A9, B9, rfl, o9, hu5⟩
 have HLO := hd_ (show p < W4.heap.size ∧ b6 < W4.heap.size from ⟨HL4.out.bp.lt, HR4.out.bx.lt⟩)
 have HL5 := hd_ (HL4.out.below hu5.below)
 have HR5 := hd_ (HR4.out.below hu5.below)
 clear HL4 HR4
 have HO9 := hd_ o9
 have HLE := hd_ hu5.below.size
 clear k k0 k1 k2 k3 k4 k5 k6 k7
 clear o9 hu5
 go_upto_region 9 with (fail)
 refine wpg (R := fun U => Hid (LB w U p x A B c e) ∧ Hid (RDk U q6 b6 D Aw Bw cw ew Xw nw L) ∧ Hid (XDk U W4.heap.size W5.heap.size x A9 B9 x.stops.length x.drills.length)) ⟨hd_ (HL5.out.below (bl_alloc (Below.refl _ _) _)), hd_ (HR5.out.below (bl_alloc (Below.refl _ _) _)), hd_ (XDk.new HO9.out)⟩ (fun W6 y => ?_)
 obtain ⟨HL6, HR6, HX6⟩ := y
 clear HL5 HR5 HO9
 generalize W5.heap.size = b9 at HX6 HLE ⊢
 generalize W4.heap.size = lo at HX6 HLO HLE
 obtain ⟨k, k0, k1, k2, k3, k4, k5, k6, k7⟩ := HX6.out.bx.eight
 go_wp2_with fail
 refine (HIM.out _ _ _ _ _ (DOwn.see HX6.out.dw) HZ.out (HT.out.below HL6.out.up.below)).mono ?_
 rintro r W7 ⟨Ag, Bg, cg, eg, Xg, ng, rfl, dg, lg, hu7⟩
 have HL9 := hd_ (show b9 < W6.heap.size ∧ W6.heap.size ≤ W7.heap.size from ⟨HX6.out.bx.lt, hu7.below.size⟩)
 have HL7 := hd_ (HL6.out.below hu7.below)
 have HR7 := hd_ (HR6.out.below hu7.below)
 clear HL6 HR6
 have HX7 := hd_ (HX6.out.below hu7.below)
 have HDG := hd_ dg
 have HLG := hd_ lg
 clear k k0 k1 k2 k3 k4 k5 k6 k7
 clear dg lg hu7 HX6
 go_upto_region 10 with (fail)
 refine wpg (R := fun U => Hid (LB w U p x A B c e) ∧ Hid (RDk U q6 b6 D Aw Bw cw ew Xw nw L) ∧ Hid (XDk U lo b9 x A9 B9 x.stops.length x.drills.length) ∧ Hid (RDk U W6.heap.size W7.heap.size D Ag Bg cg eg Xg ng L)) ⟨hd_ (HL7.out.below (bl_alloc (Below.refl _ _) _)), hd_ (HR7.out.below (bl_alloc (Below.refl _ _) _)), hd_ (HX7.out.below (bl_alloc (Below.refl _ _) _)), hd_ (RDk.new HDG.out HLG.out)⟩ (fun W8 y => ?_)
 obtain ⟨HL8, HR8, HX8, HG8⟩ := y
 clear HL7 HR7 HX7 HDG HLG
 generalize W7.heap.size = b10 at HG8 HL9 ⊢
 generalize W6.heap.size = q10 at HG8 HL9
 obtain ⟨k, k0, k1, k2, k3, k4, k5, k6, k7⟩ := HG8.out.bx.eight
 obtain ⟨l, l0, l1, l2, l3, l4, l5, l6, l7⟩ := HR8.out.bx.eight
 go_wp2_with fail
 refine (eqDesk_any D _ _ _ _ _ _ _ _ _ HG8.out.see HR8.out.see (by omega) (by omega)).mono ?_
 rintro r W9 ⟨rfl, hu9⟩
 have HL9a := hd_ (HL8.out.below hu9.below)
 have HR9a := hd_ (HR8.out.below hu9.below)
 clear HL8 HR8
 have HX9a := hd_ (HX8.out.below hu9.below)
 have HG9a := hd_ (HG8.out.below hu9.below)
 clear HX8 HG8
 clear k k0 k1 k2 k3 k4 k5 k6 k7
 clear l l0 l1 l2 l3 l4 l5 l6 l7
 clear hu9
 go_wp2_with fail
 refine (eqStringS_any _ _ _ _ _ L _ HG9a.out.lines HR9a.out.lines (by omega)).mono ?_
 rintro r W10 ⟨rfl, hu10⟩
 have HL10 := hd_ (HL9a.out.below hu10.below)
 have HR10 := hd_ (HR9a.out.below hu10.below)
 clear HL9a HR9a
 have HX10 := hd_ (HX9a.out.below hu10.below)
 have HG10 := hd_ (HG9a.out.below hu10.below)
 clear HX9a HG9a
 clear hu10
 go_upto_region 12 with (fail)
 refine wpg (R := fun U => Hid (LB w U p x A B c e) ∧ Hid (RDk U q6 b6 D Aw Bw cw ew Xw nw L) ∧ Hid (XDk U lo b9 x A9 B9 x.stops.length x.drills.length) ∧ Hid (RDk U q10 b10 D Ag Bg cg eg Xg ng L)) ⟨HL10, HR10, HX10, HG10⟩ (fun W11 y => ?_)
 clear HL10 HR10 HX10 HG10
 obtain ⟨HL11, HR11, HX11, HG11⟩ := y
 obtain ⟨k, k0, k1, k2, k3, k4, k5, k6, k7⟩ := HX11.out.bx.eight
 obtain ⟨l, l0, l1, l2, l3, l4, l5, l6, l7⟩ := HL11.out.bp.eight
 have KW := hd_ HL11.out.up.below
 have KX11 := hd_ (DOwn.see HX11.out.dw)
 go_region_held3 (fun w' => (W11).heap.size ≤ w'.heap.size ∧ ∀ b o, b < (W11).heap.size → w'.cell? ⟨b, o, none⟩ = (W11).cell? ⟨b, o, none⟩) (exact sm_of bw_) (first | (go_at_call 17; refine cu_ (eqDesk_any x _ _ _ _ _ _ _ _ _ (DSee.below KX11.out bw_) (DSee.below (by assumption) bw_) n1 n2) fun g5 => ?_) | (go_at_call 16; refine (toDesk_any x _ _ _ _ _ ((X.out.below KW.out).below bw_) n1 n2).mono ?_; rintro r w' ⟨Ad, Bd, cd9, ed, rfl, sd, g4, rfl⟩))
 go_wp2_with fail
 refine calls_gen (R := fun U => Hid (LB w U p x A B c e) ∧ Hid (RDk U q6 b6 D Aw Bw cw ew Xw nw L) ∧ Hid (XDk U lo b9 x A9 B9 x.stops.length x.drills.length) ∧ Hid (RDk U q10 b10 D Ag Bg cg eg Xg ng L)) ⟨hd_ (HL11.out.below bw_), hd_ (HR11.out.below bw_), hd_ (HX11.out.below bw_), hd_ (HG11.out.below bw_)⟩ (fun W12 y => ?_)
 clear k k0 k1 k2 k3 k4 k5 k6 k7
 clear l l0 l1 l2 l3 l4 l5 l6 l7
 clear HL11 HR11 HX11 HG11 KW KX11
 obtain ⟨HL12, HR12, HX12, HG12⟩ := y
 refine (markDesk1_any x A9 B9 _ _ lo b9 KX _ HX12.out.dw HX12.out.lt.1 HX12.out.lt.2 HKX.out b0).mono ?_
 rintro r W13 ⟨rfl, -, ho, -⟩
 have HL13 := hd_ (HL12.out.only ho HLO.out.1)
 have HR13 := hd_ (HR12.out.only ho (.inl HLO.out.2))
 have HG13 := hd_ (HG12.out.only ho (.inr (by have := HL9.out; omega)))
 clear HL12 HR12 HX12 HG12 ho
 obtain ⟨k, k0, k1, k2, k3, k4, k5, k6, k7⟩ := HG13.out.bx.eight
 obtain ⟨l, l0, l1, l2, l3, l4, l5, l6, l7⟩ := HR13.out.bx.eight
 go_wp2_with fail
 refine (eqDesk_any D _ _ _ _ _ _ _ _ _ HG13.out.see HR13.out.see (by omega) (by omega)).mono ?_
 rintro r W14 ⟨rfl, hu14⟩
 have HL14 := hd_ (HL13.out.below hu14.below)
 have HR14 := hd_ (HR13.out.below hu14.below)
 clear HL13 HR13
 have HG14 := hd_ (HG13.out.below hu14.below)
 clear HG13
 clear k k0 k1 k2 k3 k4 k5 k6 k7
 clear l l0 l1 l2 l3 l4 l5 l6 l7
 clear hu14
 go_wp2_with fail
 refine (eqStringS_any _ _ _ _ _ L _ HG14.out.lines HR14.out.lines (by omega)).mono ?_
 rintro r W15 ⟨rfl, hu15⟩
 have HL15 := hd_ (HL14.out.below hu15.below)
 have HR15 := hd_ (HR14.out.below hu15.below)
 clear HL14 HR14
 have HG15 := hd_ (HG14.out.below hu15.below)
 clear HG14
 clear hu15
 obtain ⟨k, k0, k1, k2, k3, k4, k5, k6, k7⟩ := HG15.out.bx.eight
 go_wp2_with fail
 refine (markDesk1_any D Ag Bg _ _ q10 b10 K1 _ HG15.out.dw HG15.out.lt.1 HG15.out.lt.2.1 HK1.out b1).mono ?_
 rintro r W16 ⟨rfl, mk, ho, hst⟩
 have HPQ := hd_ (show p < q10 ∧ b6 < q10 from by have h1 := HL9.out; have h2 := HLO.out; have h3 := HLE.out; omega)
 have HL16 := hd_ (HL15.out.only ho HPQ.out.1)
 have HR16 := hd_ (HR15.out.only ho (.inl HPQ.out.2))
 have HB16 := hd_ (HG15.out.bx.only ho (.inr (Nat.le_refl _)))
 have HS16 := hd_ (hst _ _ _ HG15.out.lw)
 have HM16 := hd_ mk
 have HLT := hd_ HG15.out.lt.2.2
 clear k k0 k1 k2 k3 k4 k5 k6 k7
 clear HL15 HR15 HG15 ho hst mk
 go_wp2_with fail
 refine (markStrK_any q10 Xg ng K1 K2 L _ HS16.out b3 HK2.out b2).mono ?_
 rintro r W17 ⟨rfl, ms, hg⟩
 have ho := Only.of_grown (lo := q10) (hi := b10) hg fun k hk => ⟨(HS16.out.lt k hk).1, HLT.out k hk⟩
 have HL17 := hd_ (HL16.out.only ho HPQ.out.1)
 have HR17 := hd_ (HR16.out.only ho (.inl HPQ.out.2))
 have HG17 : Hid (MKd W17 q10 b10 D Ag Bg cg eg Xg ng L K1) := hd_ ⟨HB16.out.only ho (.inr (Nat.le_refl _)), ⟨HM16.out.1.kept hg (own_tne HM16.out.1 HS16.out (by decide)), HM16.out.2.kept hg (own_tne HM16.out.2 HS16.out (by decide))⟩, ms⟩
 clear HL16 HR16 HB16 HS16 HM16 HLT ho ms hg
 obtain ⟨k, k0, k1, k2, k3, k4, k5, k6, k7⟩ := HG17.out.bx.eight
 go_wp2_with fail
 refine (heldDesk1_any D Ag Bg _ _ q10 K1 _ HG17.out.md HK1.out b1).mono ?_
 rintro r W18 ⟨rfl, hu18⟩
 have HL18 := hd_ (HL17.out.below hu18.below)
 have HR18 := hd_ (HR17.out.below hu18.below)
 clear HL17 HR17
 have HG18 := hd_ (HG17.out.below hu18.below)
 clear HG17
 clear k k0 k1 k2 k3 k4 k5 k6 k7
 clear hu18
 go_wp2_with fail
 refine (heldStrK_any Xg L.length ng K1 K2 _ (Rds.of_own HG18.out.ms) b3 HK2.out b2).mono ?_
 rintro r W19 ⟨rfl, hu19⟩
 have HL19 := hd_ (HL18.out.below hu19.below)
 have HR19 := hd_ (HR18.out.below hu19.below)
 clear HL18 HR18
 have HG19 := hd_ (HG18.out.below hu19.below)
 clear HG18
 clear hu19
 obtain ⟨k, k0, k1, k2, k3, k4, k5, k6, k7⟩ := HL19.out.bp.eight
 go_wp2_with fail
 refine (toDeskO_any x A B c e _ (X.out.below HL19.out.up.below) n1 n2).mono ?_
 rintro r W20 ⟨Ah, Bh, rfl, oh, hu20⟩
 have HL20 := hd_ (HL19.out.below hu20.below)
 have HR20 := hd_ (HR19.out.below hu20.below)
 clear HL19 HR19
 have HG20 := hd_ (HG19.out.below hu20.below)
 clear HG19
 have HS20 := hd_ oh.see
 clear k k0 k1 k2 k3 k4 k5 k6 k7
 clear oh hu20
 go_wp2_with fail
 refine (HIM.out _ _ _ _ _ HS20.out HZ.out (HT.out.below HL20.out.up.below)).mono ?_
 rintro r W21 ⟨Ai, Bi, ci, ei, Xi, ni, rfl, di, li, hu21⟩
 have HL21 := hd_ (HL20.out.below hu21.below)
 have HR21 := hd_ (HR20.out.below hu21.below)
 clear HL20 HR20
 have HG21 := hd_ (HG20.out.below hu21.below)
 clear HG20
 have HDI := hd_ di
 have HLI := hd_ li
 clear di li hu21 HS20
 go_upto_region 31 with (fail)
 refine wpg (R := fun U => Hid (LB w U p x A B c e) ∧ Hid (RDk U q6 b6 D Aw Bw cw ew Xw nw L) ∧ Hid (MKd U q10 b10 D Ag Bg cg eg Xg ng L K1) ∧ Hid (RDk U W20.heap.size W21.heap.size D Ai Bi ci ei Xi ni L)) ⟨hd_ (HL21.out.below (bl_alloc (Below.refl _ _) _)), hd_ (HR21.out.below (bl_alloc (Below.refl _ _) _)), hd_ (HG21.out.below (bl_alloc (Below.refl _ _) _)), hd_ (RDk.new HDI.out HLI.out)⟩ (fun W22 y => ?_)
 clear HL21 HR21 HG21 HDI HLI
 obtain ⟨HL22, HR22, HG22, HI22⟩ := y
 generalize W21.heap.size = b16 at HI22 ⊢
 generalize W20.heap.size = q16 at HI22
 obtain ⟨k, k0, k1, k2, k3, k4, k5, k6, k7⟩ := HI22.out.bx.eight
 obtain ⟨l, l0, l1, l2, l3, l4, l5, l6, l7⟩ := HR22.out.bx.eight
 go_wp2_with fail
 refine (eqDesk_any D _ _ _ _ _ _ _ _ _ HI22.out.see HR22.out.see (by omega) (by omega)).mono ?_
 rintro r W23 ⟨rfl, hu23⟩
 have HI23 := hd_ (HI22.out.below hu23.below)
 have HL23 := hd_ (HL22.out.below hu23.below)
 have HR23 := hd_ (HR22.out.below hu23.below)
 clear HL22 HR22
 have HG23 := hd_ (HG22.out.below hu23.below)
 clear HG22
 clear k k0 k1 k2 k3 k4 k5 k6 k7
 clear l l0 l1 l2 l3 l4 l5 l6 l7
 clear hu23 HI22
 go_wp2_with fail
 refine (eqStringS_any _ _ _ _ _ L _ HI23.out.lines HR23.out.lines (by omega)).mono ?_
 rintro r W24 ⟨rfl, hu24⟩
 have HL24 := hd_ (HL23.out.below hu24.below)
 have HR24 := hd_ (HR23.out.below hu24.below)
 clear HL23 HR23
 have HG24 := hd_ (HG23.out.below hu24.below)
 clear HG23
 clear hu24 HI23
 obtain ⟨k, k0, k1, k2, k3, k4, k5, k6, k7⟩ := HG24.out.bx.eight
 go_wp2_with fail
 refine (heldDesk1_any D Ag Bg _ _ q10 K1 _ HG24.out.md HK1.out b1).mono ?_
 rintro r W25 ⟨rfl, hu25⟩
 have HL25 := hd_ (HL24.out.below hu25.below)
 have HR25 := hd_ (HR24.out.below hu25.below)
 clear HL24 HR24
 have HG25 := hd_ (HG24.out.below hu25.below)
 clear HG24
 clear k k0 k1 k2 k3 k4 k5 k6 k7
 clear hu25
 go_wp2_with fail
 refine (heldStrK_any Xg L.length ng K1 K2 _ (Rds.of_own HG25.out.ms) b3 HK2.out b2).mono ?_
 rintro r W26 ⟨rfl, hu26⟩
 have HL26 := hd_ (HL25.out.below hu26.below)
 have HR26 := hd_ (HR25.out.below hu26.below)
 clear HL25 HR25
 have HG26 := hd_ (HG25.out.below hu26.below)
 clear HG25
 clear hu26
 go_wp2_with fail
 go_ret
 exact ⟨rfl, HL26.out.up⟩
end Go.Proofs.YtbianlkenallaaaGreatDoor
