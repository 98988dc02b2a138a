/-
  The reference's console: its methods stops and basket. The bounds stand at each.
-/
import Derived.Test.YtbianlkenallaaaGreatDoorMgI
import Derived.Test.YtbianlkenallaaaGreatDoorDeskOk
import Derived.Test.YtbianlkenallaaaGreatDoorMgG
set_option linter.all false
set_option maxHeartbeats 2000000
set_option maxRecDepth 10000
namespace Go.Proofs.YtbianlkenallaaaGreatDoor
open Go.RowKit
section
variable {w0 V : World} {sb : Nat} {D : DeskD} {A B O A' : Option Addr} {c e oc c' : Nat} {L : List ByteArray} {x y : Value}
theorem LE.box (h : LE w0 V sb D A B c e O oc L x y) : Box V sb (dkcs D A B c e) := by
 obtain ⟨a, ⟨b0, b1, b2, b3, b4, b5, b6, b7⟩, _⟩ := h.cel
 refine ⟨a, fun i u hu => ?_⟩
 match i with
 | 0 | 1 | 2 | 3 | 4 | 5 | 6 | 7 => simp [dkcs] at hu; subst hu; assumption
 | i + 8 => simp [dkcs] at hu
theorem LE.putS {l : List Int} (h : LE w0 V sb D A B c e O oc L x y) (ho : V.ownsRow w0.heap.size 2 1 (.slice A' l.length c') l.length (ics l)) : LE w0 (V.setCell ⟨sb, 5, none⟩ (.slice A' l.length c')) sb { D with stops := l } A' B c' e O oc L x y :=
 ⟨h.bk.put 5 _, ⟨own_set1 ho h.bk (by decide) 5 _, own_set1 h.dw.2 h.bk (by decide) 5 _⟩, own_set1 h.ow h.bk (by decide) 5 _, h.up.set 5 _, h.lo⟩
theorem LE.putD {l : List Drill} (h : LE w0 V sb D A B c e O oc L x y) (ho : V.ownsRow w0.heap.size 112 3 (.slice A' l.length c') l.length (drcs l)) : LE w0 (V.setCell ⟨sb, 6, none⟩ (.slice A' l.length c')) sb { D with drills := l } A A' c c' O oc L x y :=
 ⟨h.bk.put 6 _, ⟨own_set1 h.dw.1 h.bk (by decide) 6 _, own_set1 ho h.bk (by decide) 6 _⟩, own_set1 h.ow h.bk (by decide) 6 _, h.up.set 6 _, h.lo⟩
theorem LE.putL (h : LE w0 V sb D A B c e O oc L x y) (s : ByteArray) : LE w0 (V.setCell ⟨sb, 7, none⟩ (.string s)) sb { D with log := s } A B c e O oc L x y :=
 ⟨h.bk.put 7 _, ⟨own_set1 h.dw.1 h.bk (by decide) 7 _, own_set1 h.dw.2 h.bk (by decide) 7 _⟩, own_set1 h.ow h.bk (by decide) 7 _, h.up.set 7 _, h.lo⟩
theorem LE.put1 (h : LE w0 V sb D A B c e O oc L x y) {k : Nat} (v : Int) {b : Bsk} (hk : k < 5) (hb : (#[i64 D.b.bars, i64 D.b.rise, i64 D.b.fall, i64 D.b.clr, i64 D.b.near].setIfInBounds k (i64 v)) = #[i64 b.bars, i64 b.rise, i64 b.fall, i64 b.clr, i64 b.near]) : LE w0 (V.setCell ⟨sb, k, none⟩ (i64 v)) sb { D with b := b } A B c e O oc L x y := by
 have hp := h.bk.put k (i64 v)
 refine ⟨?_, ⟨own_set1 h.dw.1 h.bk (by decide) k _, own_set1 h.dw.2 h.bk (by decide) k _⟩, own_set1 h.ow h.bk (by decide) k _, h.up.set k _, h.lo⟩
 match k, hk with
 | 0, _ | 1, _ | 2, _ | 3, _ | 4, _ => simp at hb hp; obtain ⟨z0, z1, z2, z3, z4⟩ := hb; simpa [← z0, ← z1, ← z2, ← z3, ← z4] using hp
end
section
variable (w0 : World) (sb : Nat) (D : DeskD) (A B : Option Addr) (c e : Nat) (O : Option Addr) (oc : Nat) (L : List ByteArray) (NA : Option Addr) (nc : Nat) (ns : List Int) (TA : Option Addr) (tc : Nat) (ts : List ByteArray) (w : World)
theorem stopsM_any (h : ME w0 w sb D A B c e O oc L NA nc ns TA tc ts)
 (hl : ns.length ≤ 100000000) (hv : vDesk D = true) (hdd : D.drills.length ≤ 100000000) (hn : L.length ≤ 1000000) :
 Calls Tryz.prog 112 #[.pointer (some ⟨sb, 0, none⟩)] w fun r w' => mePost w0 sb (if vStops ns then { D with stops := ns } else D) (L ++ (if vStops ns then [dkText { D with stops := ns }] else [errL 1])) r w' := by
 have HM := hd_ h
 obtain ⟨hsb, ⟨x0, x1, x2, x3, x4, x5, x6, x7⟩, -, k9, k10⟩ := h.le.cel
 have f5 := h.le.bk.free 5
 have hbb : 2 ≤ D.b.bars ∧ D.b.bars ≤ 60 := (vDesk_inv hv).1 |> vBsk_bars
 have hss := hl
 cases q1 : vStops ns with
 | false =>
   rw [if_neg (by simp), if_neg (by simp)]
   clear h
   go_enter Tryz.func112, Tryz.ntmps112
   go_wp2_with fail
   refine cu_ (ra_ (l11Ok_any NA nc ns _ ((Rds.of_own HM.out.nr).below bw_) hl) q1) fun g1 => ?_
   go_wp2_with fail
   refine (reportR_any w0 sb D A B c e O oc L _ _ 1 _ (HM.out.le.below bw_) hn (by decide)).mono ?_
   rintro r w' ⟨rfl, hp⟩
   go_wp2_with fail
   go_end0
   exact ⟨rfl, _, _, hp⟩
 | true =>
   rw [if_pos rfl, if_pos rfl]
   have hvd : vDesk { D with stops := ns } = true := by
    obtain ⟨v1, v2, v3, v4⟩ := vDesk_inv hv
    exact vDesk_of v1 q1 v3 v4
   rw [dkText_ok hvd]
   clear h hvd hv
   go_enter Tryz.func112, Tryz.ntmps112
   go_wp2_with fail
   refine cu_ (ra_ (l11Ok_any NA nc ns _ ((Rds.of_own HM.out.nr).below bw_) hl) q1) fun g1 => ?_
   have HL8 := hd_ ((HM.out.le.below (V' := up w g1) bw_).putS (ob_ HM.out.nr (show Below w.heap.size w (up w g1) from bw_)))
   go_upto_region 3 with (fail)
   refine wpg (R := fun V => Hid (LE w0 V sb { D with stops := ns } NA B nc e O oc L (.slice NA ns.length nc) (.slice TA ts.length tc))) HL8 (fun V HL9 => ?_)
   clear HL8 hsb x0 x1 x2 x3 x4 x5 x6 x7 k9 k10 f5
   go_wp2_with fail
   refine cu_ (l28Text_any { D with stops := ns } _ _ _ _ sb _ (HL9.out.below bw_).box hbb hss hdd) fun g9 => ?_
   go_wp2_with fail
   refine (say_any w0 sb { D with stops := ns } _ _ _ _ O oc L _ _ _ _ (HL9.out.below bw_) hn).mono ?_
   rintro r w' ⟨rfl, hp⟩
   go_wp2_with fail
   go_end0
   exact ⟨rfl, _, _, hp⟩
theorem LE.putB {w0 V : World} {sb : Nat} {D : DeskD} {A B O : Option Addr} {c e oc : Nat} {L : List ByteArray} {x y : Value} (h : LE w0 V sb D A B c e O oc L x y) (n0 n1 n2 n3 n4 : Int) : LE w0 (((((V.setCell ⟨sb, 0, none⟩ (i64 n0)).setCell ⟨sb, 1, none⟩ (i64 n1)).setCell ⟨sb, 2, none⟩ (i64 n2)).setCell ⟨sb, 3, none⟩ (i64 n3)).setCell ⟨sb, 4, none⟩ (i64 n4)) sb { D with b := ⟨n0, n1, n2, n3, n4⟩ } A B c e O oc L x y := by
 have h1 := h.put1 (k := 0) n0 (b := ⟨n0, D.b.rise, D.b.fall, D.b.clr, D.b.near⟩) (by omega) rfl
 have h2 := h1.put1 (k := 1) n1 (b := ⟨n0, n1, D.b.fall, D.b.clr, D.b.near⟩) (by omega) rfl
 have h3 := h2.put1 (k := 2) n2 (b := ⟨n0, n1, n2, D.b.clr, D.b.near⟩) (by omega) rfl
 have h4 := h3.put1 (k := 3) n3 (b := ⟨n0, n1, n2, n3, D.b.near⟩) (by omega) rfl
 exact h4.put1 (k := 4) n4 (b := ⟨n0, n1, n2, n3, n4⟩) (by omega) rfl
theorem basketM_any (h : ME w0 w sb D A B c e O oc L NA nc ns TA tc ts)
 (hl : ns.length = 5) (hv : vDesk D = true) (hss : D.stops.length ≤ 100000000) (hdd : D.drills.length ≤ 100000000) (hn : L.length ≤ 1000000) (n0 n1 n2 n3 n4 : Int) (e0 : num ns 0 = n0) (e1 : num ns 1 = n1) (e2 : num ns 2 = n2) (e3 : num ns 3 = n3) (e4 : num ns 4 = n4) :
 Calls Tryz.prog 101 #[.pointer (some ⟨sb, 0, none⟩)] w fun r w' => mePost w0 sb (if vBsk ⟨n0, n1, n2, n3, n4⟩ then { D with b := ⟨n0, n1, n2, n3, n4⟩ } else D) (L ++ (if vBsk ⟨n0, n1, n2, n3, n4⟩ then [dkText { D with b := ⟨n0, n1, n2, n3, n4⟩ }] else [errL 1])) r w' := by
 obtain ⟨D9, hD9⟩ := nm_ ((if vBsk ⟨n0, n1, n2, n3, n4⟩ then { D with b := ⟨n0, n1, n2, n3, n4⟩ } else D))
 obtain ⟨L9, hL9⟩ := nm_ ((if vBsk ⟨n0, n1, n2, n3, n4⟩ then [dkText { D with b := ⟨n0, n1, n2, n3, n4⟩ }] else [errL 1]))
 rw [hD9, hL9]
 have HD9 := hd_ hD9
 have HL9 := hd_ hL9
 clear hD9 hL9
 obtain ⟨nb, rfl, hnb, hc⟩ := h.num0 (by omega)
 have c0 := hc 0 (by omega)
 have c1 := hc 1 (by omega)
 have c2 := hc 2 (by omega)
 have c3 := hc 3 (by omega)
 have c4 := hc 4 (by omega)
 rw [e0] at c0
 rw [e1] at c1
 rw [e2] at c2
 rw [e3] at c3
 rw [e4] at c4
 clear hc e0 e1 e2 e3 e4
 have HM := hd_ h
 obtain ⟨hsb, ⟨x0, x1, x2, x3, x4, x5, x6, x7⟩, -, k9, k10⟩ := h.le.cel
 rw [hl] at k9
 go_enter Tryz.func101, Tryz.ntmps101
 go_upto_region 0 with (fail)
 go_region_held3 (fun w' => (w).heap.size ≤ w'.heap.size ∧ ∀ b o, b < (w).heap.size → w'.cell? ⟨b, o, none⟩ = (w).cell? ⟨b, o, none⟩) (exact sm_of bw_) (first | fail)
 refine exit_genD (R := fun U => Box U w.heap.size #[i64 n0, i64 n1, i64 n2, i64 n3, i64 n4] ∧ UpOf w U) ⟨(Box.new w _ _).below (Below.drew (Below.refl _ _)), uw_⟩ (fun U z => ?_)
 obtain ⟨⟨hp3, hbx⟩, hU⟩ := z
 have HLU := hd_ (HM.out.le.below hU.below)
 have p0 := hbx 0 _ rfl
 have p1 := hbx 1 _ rfl
 have p2 := hbx 2 _ rfl
 have p3 := hbx 3 _ rfl
 have p4 := hbx 4 _ rfl
 clear hbx hU hsb x0 x1 x2 x3 x4 x5 x6 x7 k9 k10 c0 c1 c2 c3 c4 hnb h
 obtain ⟨hsb, ⟨x0, x1, x2, x3, x4, x5, x6, x7⟩, -, -, -⟩ := HLU.out.cel
 have f0 := HLU.out.bk.free 0
 have f1 := HLU.out.bk.free 1
 have f2 := HLU.out.bk.free 2
 have f3 := HLU.out.bk.free 3
 have f4 := HLU.out.bk.free 4
 clear HM
 generalize w.heap.size = p at *
 cases q1 : vBsk ⟨n0, n1, n2, n3, n4⟩ with
 | false =>
   have HE9 := hd_ (show D9 = D by rw [← HD9.out, if_neg (by rw [q1]; simp)])
   obtain rfl : L9 = [errL 1] := by rw [← HL9.out, if_neg (by rw [q1]; simp)]
   go_wp2_with fail
   refine cu_ (ra_ (l03Ok_any ⟨n0, n1, n2, n3, n4⟩ _) q1) fun g1 => ?_
   go_wp2_with fail
   refine (reportR_any w0 sb D A B c e O oc L _ _ 1 _ (HLU.out.below bw_) hn (by decide)).mono ?_
   rintro r w' ⟨rfl, hp⟩
   go_wp2_with fail
   go_end0
   rw [HE9.out]
   exact ⟨rfl, _, _, hp⟩
 | true =>
   have hbb := vBsk_bars q1
   have HVD : Hid (vDesk { D with b := ⟨n0, n1, n2, n3, n4⟩ } = true) := hd_ (by
    obtain ⟨v1, v2, v3, v4⟩ := vDesk_inv hv
    exact vDesk_of q1 v2 v3 v4)
   obtain rfl : D9 = { D with b := ⟨n0, n1, n2, n3, n4⟩ } := by rw [← HD9.out, if_pos q1]
   obtain rfl : L9 = [dkTextV { D with b := ⟨n0, n1, n2, n3, n4⟩ }] := by rw [← HL9.out, if_pos q1, dkText_ok HVD.out]
   go_wp2_with fail
   refine cu_ (ra_ (l03Ok_any ⟨n0, n1, n2, n3, n4⟩ _) q1) fun g1 => ?_
   have HL8 := hd_ ((HLU.out.below (V' := up U g1) bw_).putB n0 n1 n2 n3 n4)
   go_upto_region 4 with (fail)
   refine wpg (R := fun V => Hid (LE w0 V sb { D with b := ⟨n0, n1, n2, n3, n4⟩ } A B c e O oc L (.slice (some ⟨nb, 0, none⟩) ns.length nc) (.slice TA ts.length tc))) HL8 (fun V HL9 => ?_)
   clear HL8 hsb x0 x1 x2 x3 x4 x5 x6 x7 f0 f1 f2 f3 f4 p0 p1 p2 p3 p4 hv hp3
   go_wp2_with fail
   refine cu_ (l28Text_any { D with b := ⟨n0, n1, n2, n3, n4⟩ } _ _ _ _ sb _ (HL9.out.below bw_).box hbb hss hdd) fun g9 => ?_
   go_wp2_with fail
   refine (say_any w0 sb { D with b := ⟨n0, n1, n2, n3, n4⟩ } _ _ _ _ O oc L _ _ _ _ (HL9.out.below bw_) hn).mono ?_
   rintro r w' ⟨rfl, hp⟩
   go_wp2_with fail
   go_end0
   exact ⟨rfl, _, _, hp⟩
end
end Go.Proofs.YtbianlkenallaaaGreatDoor
