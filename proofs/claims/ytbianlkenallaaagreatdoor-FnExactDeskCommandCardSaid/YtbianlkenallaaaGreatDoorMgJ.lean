/-
  Common parts, put together: ConsRC, ConsRE, ConsRF.
-/
import Derived.Test.YtbianlkenallaaaGreatDoorConsRA
import Derived.Test.YtbianlkenallaaaGreatDoorMgG
import Derived.Test.YtbianlkenallaaaGreatDoorConsR5
import Derived.Test.YtbianlkenallaaaGreatDoorMgE
import Derived.Test.YtbianlkenallaaaGreatDoorMgF
import Derived.Test.YtbianlkenallaaaGreatDoorMgB
set_option linter.all false
set_option maxHeartbeats 4000000
set_option maxRecDepth 10000
namespace Go.Proofs.YtbianlkenallaaaGreatDoor
open Go.RowKit
theorem drillM_any (w0 : World) (sb : Nat) (D : DeskD) (A B : Option Addr) (c e : Nat) (O : Option Addr) (oc : Nat) (L : List ByteArray) (NA : Option Addr) (nc : Nat) (ns : List Int) (TA : Option Addr) (tc : Nat) (ts : List ByteArray) (w : World) (h : ME w0 w sb D A B c e O oc L NA nc ns TA tc ts)
 (ht : ts.length = 1) (hs : (wd ts 0).size ≤ 1048576) (hn : L.length ≤ 1000000) (hv : vDesk D = true) (hss : D.stops.length ≤ 100000000) (hd : D.drills.length ≤ 10) (hf : DBd D.drills) (D9 : DeskD) (L9 : List ByteArray)
 (h9 : (match rdDrill (wd ts 0) with | none => (D, [errL 7]) | some x => if (addD D.drills x).2 = 0 then ({ D with drills := (addD D.drills x).1 }, [dkText { D with drills := (addD D.drills x).1 }]) else (D, [errL (addD D.drills x).2])) = (D9, L9)) :
 Calls Tryz.prog 103 #[.pointer (some ⟨sb, 0, none⟩)] w fun r w' => mePost w0 sb D9 (L ++ L9) r w' := by
 obtain ⟨tb, rfl, htb, hc⟩ := h.txt0 (by omega)
 have c0 := hc 0 (by omega)
 have HM := hd_ h
 obtain ⟨hsb, ⟨x0, x1, x2, x3, x4, x5, x6, x7⟩, -, k9, k10⟩ := h.le.cel
 obtain ⟨s, hs9⟩ := nm_ (wd ts 0)
 rw [hs9] at c0 hs h9
 rw [ht] at k10
 have hbb := vBsk_bars (vDesk_inv hv).1
 have HVI := hd_ (vDesk_inv hv)
 clear hs9 hc h
 have HRR := hd_ (fun V => readDrillS_any s V hs)
 cases hr : rdDrill s with
 | none =>
   rw [hr] at h9 HRR
   injection h9 with h91 h92
   subst h92
   have HE9 := hd_ h91
   clear h91 hr
   have HR : Hid (∀ V, Calls Tryz.prog 151 #[.string s] V fun e w' => e = .returned (.tuple #[drv dr0, .bool false]) ∧ UpOf V w') := hd_ HRR.out
   clear HRR
   go_enter Tryz.func103, Tryz.ntmps103
   go_wp2_with fail
   refine cu_ (HR.out _) fun g1 => ?_
   go_wp2_with fail
   refine (reportR_any w0 sb D _ _ _ _ _ _ L _ _ 7 _ (HM.out.le.below bw_) hn (by decide)).mono ?_
   rintro r w' ⟨rfl, hp⟩
   go_wp2_with fail
   go_end0
   rw [← HE9.out]
   exact ⟨rfl, _, _, hp⟩
 | some x =>
   rw [hr] at h9 HRR
   have hvx : x.name.size ≤ 100000000 ∧ x.letters.size ≤ 100000000 := by
    have hb : drillB s (wordsA [] s.data.toList) = true := by
     cases hb : drillB s (wordsA [] s.data.toList)
     ·rw [rdDrill_no hb] at hr; cases hr
     ·rfl
    rw [rdDrill_ok hb] at hr
    injection hr with hr
    obtain ⟨_, _, hvd, _⟩ := drillB_inv hb
    rw [hr] at hvd
    obtain ⟨a, _, b, _⟩ := vDrill_inv hvd
    have s1 := (nameB_bd a).2
    have s2 := (txtB_inv b).1
    omega
   obtain ⟨R, hR⟩ := nm_ (addD D.drills x)
   have HR9 : Hid ((if R.2 = 0 then ({ D with drills := R.1 }, [dkText { D with drills := R.1 }]) else (D, [errL R.2])) = (D9, L9)) := hd_ (by rw [← hR]; exact h9)
   have HR : Hid (∀ V, Calls Tryz.prog 151 #[.string s] V fun e w' => e = .returned (.tuple #[drv x, .bool true]) ∧ UpOf V w') := hd_ HRR.out
   have HVR : Hid (R.2 = 0 → vDrills R.1 = true) := hd_ (by rw [← hR]; exact addD_valid)
   clear h9 HRR hr
   obtain ⟨R1, cd⟩ := R
   have HAD : Hid (∀ V B e, V.ownsRow w0.heap.size 112 3 (.slice B D.drills.length e) D.drills.length (drcs D.drills) → Calls Tryz.prog 152 #[.slice B D.drills.length e, drv x] V fun r w' => drsPost R1.length R1 cd V r w') := hd_ fun V B e ho => by
    have := addDrillS_any B e D.drills x V (Rds.of_own ho) (own_capD ho) (by omega) hf hvx.1 hvx.2
    rw [hR] at this
    exact this
   clear hR hvx
   go_enter Tryz.func103, Tryz.ntmps103
   go_wp2_with fail
   refine cu_ (HR.out _) fun g1 => ?_
   go_upto_region 3 with (fail)
   have HB1 : Box ((up w g1).alloc (.cells #[.string x.name, .string x.letters, i64 x.minutes] 112)) (up w g1).heap.size #[.string x.name, .string x.letters, i64 x.minutes] := Box.new _ _ _
   have HL1 := hd_ (HM.out.le.below (V' := (up w g1).alloc (.cells #[.string x.name, .string x.letters, i64 x.minutes] 112)) bw_)
   refine wpg (R := fun V => Hid (LE w0 V sb D A B c e O oc L (.slice NA ns.length nc) (.slice (some ⟨tb, 0, none⟩) ts.length tc)) ∧ Box V (up w g1).heap.size #[.string x.name, .string x.letters, i64 x.minutes]) ⟨HL1, HB1⟩ (fun V z => ?_)
   obtain ⟨HL2, hbx0⟩ := z
   clear HB1 HL1 hsb x0 x1 x2 x3 x4 x5 x6 x7 k9 k10 c0 htb HM HR
   generalize (up w g1).heap.size = q at *
   obtain ⟨hq, hbx⟩ := hbx0
   have p0 := hbx 0 _ rfl
   have p1 := hbx 1 _ rfl
   have p2 := hbx 2 _ rfl
   obtain ⟨hsb, ⟨x0, x1, x2, x3, x4, x5, x6, x7⟩, -, -, -⟩ := HL2.out.cel
   clear hbx
   go_region_held3 (fun w' => (V).heap.size ≤ w'.heap.size ∧ ∀ b o, b < (V).heap.size → w'.cell? ⟨b, o, none⟩ = (V).cell? ⟨b, o, none⟩) (exact sm_of bw_) (first | (go_at_call 152; refine (HAD.out _ _ _ (ob_ HL2.out.dw.2 bw_)).mono ?_; rintro r w' ⟨A2, c2, rfl, hcap, o1, g2, rfl⟩))
   have HL3 := hd_ (HL2.out.below (V' := up V.drew g2) bw_)
   have OR := hd_ (om_ o1 (show w0.heap.size ≤ V.drew.heap.size from Nat.le_trans HL2.out.up.below.size (show Below V.heap.size V V.drew from bw_).size))
   refine exit_genD (R := fun U => Hid (LE w0 U sb D A B c e O oc L (.slice NA ns.length nc) (.slice (some ⟨tb, 0, none⟩) ts.length tc)) ∧ Hid (U.ownsRow w0.heap.size 112 3 (.slice A2 R1.length c2) R1.length (drcs R1))) ⟨HL3, OR⟩ (fun U z => ?_)
   obtain ⟨HL4, OR4⟩ := z
   clear HL3 OR o1 hcap HL2 hq p0 p1 p2 hsb x0 x1 x2 x3 x4 x5 x6 x7 HAD
   obtain ⟨hsb, ⟨x0, x1, x2, x3, x4, x5, x6, x7⟩, -, -, -⟩ := HL4.out.cel
   have f6 := HL4.out.bk.free 6
   by_cases h0 : cd = 0
   ·subst h0
    have hvr := HVR.out rfl
    have hdd : R1.length ≤ 100000000 := by have := (vDrills_inv hvr).1; omega
    have h9 := HR9.out
    rw [if_pos rfl, dkText_ok (vDesk_of (d := { D with drills := R1 }) HVI.out.1 HVI.out.2.1 hvr HVI.out.2.2.2)] at h9
    injection h9 with h91 h92
    subst h91 h92
    clear HR9 hvr HVR
    go_wp2_with fail
    refine cs_ (reportR0_any _ _) ?_
    have HL8 := hd_ (HL4.out.putD OR4.out)
    go_upto_region 6 with (fail)
    refine wpg (R := fun V => Hid (LE w0 V sb { D with drills := R1 } A A2 c c2 O oc L (.slice NA ns.length nc) (.slice (some ⟨tb, 0, none⟩) ts.length tc))) HL8 (fun V HL9 => ?_)
    clear HL8 hsb x0 x1 x2 x3 x4 x5 x6 x7 f6 HL4 OR4
    go_wp2_with fail
    refine cu_ (l28Text_any { D with drills := R1 } _ _ _ _ sb _ (HL9.out.below bw_).box hbb hss hdd) fun g9 => ?_
    go_wp2_with fail
    refine (say_any w0 sb { D with drills := R1 } _ _ _ _ O oc L _ _ _ _ (HL9.out.below bw_) hn).mono ?_
    rintro r w' ⟨rfl, hp⟩
    go_wp2_with fail
    go_end0
    exact ⟨rfl, _, _, hp⟩
   ·have h9 := HR9.out
    rw [if_neg h0] at h9
    injection h9 with h91 h92
    subst h92
    have HE9 := hd_ h91
    clear h91 HR9 HVR
    go_wp2_with fail
    refine (reportR_any w0 sb D _ _ _ _ _ _ L _ _ cd _ (HL4.out.below bw_) hn h0).mono ?_
    rintro r w' ⟨rfl, hp⟩
    go_wp2_with fail
    go_end0
    rw [← HE9.out]
    exact ⟨rfl, _, _, hp⟩
theorem drillsM_any (w0 : World) (sb : Nat) (D : DeskD) (A B : Option Addr) (c e : Nat) (O : Option Addr) (oc : Nat) (L : List ByteArray) (x y : Value) (w : World) (h : LE w0 w sb D A B c e O oc L x y) (hn : L.length ≤ 800000) (hv : vDesk D = true) :
 Calls Tryz.prog 104 #[.pointer (some ⟨sb, 0, none⟩)] w fun r w' => mePost w0 sb D (L ++ (D.drills.map drText ++ [okLine D.drills.length])) r w' := by
 have hvd := vDrills_inv (vDesk_inv hv).2.2.1
 have h10 := hvd.1
 have HVX : Hid (∀ i, i < D.drills.length → vDrill (drl D.drills i) = true) := hd_ fun i hi => (hvd.2 i hi).1
 obtain ⟨R, hR⟩ := nm_ (D.drills.map drText)
 have hRl : R.length = D.drills.length := by rw [← hR, List.length_map]
 have HRX : Hid (∀ i, i < D.drills.length → R.take (i + 1) = R.take i ++ [drTextV (drl D.drills i)]) := hd_ fun i hi => by
  rw [List.take_add_one, ← hR, List.getElem?_map, List.getElem?_eq_getElem hi, Option.map_some, Option.toList_some]
  have e1 : D.drills[i] = drl D.drills i := by rw [drl, List.getD_eq_getElem?_getD, List.getElem?_eq_getElem hi]; rfl
  rw [e1, drText, HVX.out i hi, if_pos rfl]
 rw [hR, ← hRl]
 have HM := hd_ h
 obtain ⟨hsb, ⟨x0, x1, x2, x3, x4, x5, x6, x7⟩, -, k9, k10⟩ := h.cel
 have HRD := hd_ (Rds.of_own h.dw.2)
 have HRL := hd_ hRl
 have HOw := hd_ (World.ownsRow_lit (base := w.heap.size) (e := 9) (size := 1) w #[] 0 (Nat.le_refl _) (by unfold maxLen; omega) rfl)
 clear h hvd hR hRl hv x0 x1 x2 x3 x4 x5 x7 k9 k10
 go_enter Tryz.func104, Tryz.ntmps104
 go_wp2_with fail
 go_loopw [2, 3] (fun t2 t3 wr => ∃ (k : Nat) (T : List ByteArray) (A1 : Option Addr) (c1 : Nat), k ≤ D.drills.length ∧ t3 = i64 k ∧ t2 = .slice A1 T.length c1 ∧ Hid (T = R.take k) ∧ Hid (wr.ownsRow w.heap.size 9 1 (.slice A1 T.length c1) T.length (strs T)) ∧ ∃ g : Up w, wr = up w g) (fun _ t3 _ => D.drills.length - (intOf t3).toNat)
 case atStart => exact ⟨0, [], _, _, by omega, rfl, rfl, hd_ rfl, hd_ HOw.out, ex_up bw_⟩
 case round =>
  clear HOw
  obtain ⟨k, T, A1, c1, hk, rfl, rfl, HE, HO, g, rfl⟩ := hrel
  by_cases hlt : k < D.drills.length
  ·have hki : (k : Int) < (D.drills.length : Int) := by omega
   obtain ⟨b, off, rfl, hb, y0, y1, y2⟩ := drl_at HRD.out hlt
   have HVk := HVX.out k hlt
   obtain ⟨a1, a2, a3, a4, _⟩ := vDrill_inv HVk
   have s1 := (nameB_bd a1).2
   have s2 := (txtB_inv a3).1
   have HE2 := hd_ (show T ++ [drTextV (drl D.drills k)] = R.take (k + 1) by rw [HRX.out k hlt, HE.out])
   have hTl : T.length ≤ 10 := by rw [HE.out, List.length_take]; omega
   obtain ⟨X, hX⟩ := nm_ (drl D.drills k)
   rw [hX] at y0 y1 y2 s1 s2 a4 HE2
   obtain ⟨S, hS⟩ := nm_ (drTextV X)
   have HLT : Hid (∀ V, Calls Tryz.prog 153 #[drv X] V fun e w' => e = .returned (.string S) ∧ UpOf V w') := hd_ fun V => by
    have := l21Text_any X V (by omega) (by omega) (by omega) (by omega)
    rw [hS] at this
    exact this
   rw [hS] at HE2
   clear hS hX HVk a1 a2 a3 a4 s1 s2 HE
   go_wp2_with fail
   refine cu_ (HLT.out _) fun g2 => ?_
   go_wp2_with (at_builtin; go_must (refine wpl_appU rfl _ _ 24 rfl w w.heap.size 9 _ 1 16 el_str (.slice A1 T.length c1) T.length (strs T) rfl (ob_ HO.out bw_) _ 1 1 [.string S] rfl (rds_new _ #[.string S] _ 1 1 rfl) (fun u hu => by simp at hu; subst hu; rfl) (by unfold maxLen; omega) (by omega) (show Below w.heap.size w _ from bw_).size bw_ (Nat.le_refl _) ?_; intro A3 c3 g5 o5))
   go_roundw
   case rel => exact ⟨k + 1, T ++ [S], A3, c3, by omega, by go_num, congrArg (fun n => Value.slice A3 n c3) (by simp), HE2, hd_ (by rw [List.length_append]; simpa [strs] using o5), ex_up bw_⟩
   case measure => simp [intOf]; try omega
  ·obtain rfl : k = D.drills.length := by omega
   have hT : T = R := by rw [HE.out, ← HRL.out, List.take_length]
   subst hT
   have hT10 : T.length ≤ 10 := by rw [HRL.out]; exact h10
   clear HE HRL HRX
   go_wp2_with fail
   refine (listR_any w0 sb D _ _ _ _ _ _ L x y A1 c1 T _ (HM.out.below bw_) (Rds.of_own HO.out) (by omega)).mono ?_
   rintro r w' ⟨rfl, hp⟩
   go_wp2_with fail
   go_end0
   rw [List.append_assoc] at hp
   exact ⟨rfl, _, _, hp⟩
theorem logM_any (w0 : World) (sb : Nat) (D : DeskD) (A B : Option Addr) (c e : Nat) (O : Option Addr) (oc : Nat) (L : List ByteArray) (x y : Value) (w : World) (h : LE w0 w sb D A B c e O oc L x y) (hn : L.length ≤ 800000) (hv : vDesk D = true) :
 Calls Tryz.prog 108 #[.pointer (some ⟨sb, 0, none⟩)] w fun r w' => mePost w0 sb D (L ++ ((entsL D.log).map ewords ++ [okLine (entsL D.log).length])) r w' := by
 have hc0 := (vDesk_inv hv).2.2.2
 have hEl := entsL_len hc0
 have HEV := hd_ (entsL_ok D.log)
 have HCO := hd_ (fun V => codeS_ok D.log V hc0)
 obtain ⟨E, hE⟩ := nm_ (entsL D.log)
 rw [hE] at hEl HEV HCO ⊢
 obtain ⟨R, hR⟩ := nm_ (E.map ewords)
 have hRl : R.length = E.length := by rw [← hR, List.length_map]
 have HRX : Hid (∀ i (hi : i < E.length), R.take (i + 1) = R.take i ++ [ewords E[i]]) := hd_ fun i hi => by
  rw [List.take_add_one, ← hR, List.getElem?_map, List.getElem?_eq_getElem hi, Option.map_some, Option.toList_some]
 rw [hR, ← hRl]
 have HM := hd_ h
 obtain ⟨hsb, ⟨x0, x1, x2, x3, x4, x5, x6, x7⟩, -, k9, k10⟩ := h.cel
 have HRL := hd_ hRl
 clear h hR hRl hv x0 x1 x2 x3 x4 x5 x6 k9 k10 hc0 hE
 go_enter Tryz.func108, Tryz.ntmps108
 go_wp2_with fail
 refine (HCO.out _).mono ?_
 rintro r w' ⟨rb, rfl, hls, g0, rfl⟩
 obtain ⟨AE, cE, hc3, hrb, hown⟩ := hls.list
 have HRE := hd_ (Rds.of_own hown)
 have HM2 := hd_ (HM.out.below (V' := up w g0) bw_)
 obtain ⟨V0, hV0⟩ := nm_ (up w g0)
 rw [hV0] at HRE HM2 hc3 hrb ⊢
 clear hV0 hls hown HCO HM g0 hsb x7
 have HOw := hd_ (World.ownsRow_lit (base := V0.heap.size) (e := 9) (size := 1) V0 #[] 0 (Nat.le_refl _) (by unfold maxLen; omega) rfl)
 go_wp2_with fail
 go_loopw [4, 5] (fun t2 t3 wr => ∃ (k : Nat) (T : List ByteArray) (A1 : Option Addr) (c1 : Nat), k ≤ E.length ∧ t3 = i64 k ∧ t2 = .slice A1 T.length c1 ∧ Hid (T = R.take k) ∧ Hid (wr.ownsRow V0.heap.size 9 1 (.slice A1 T.length c1) T.length (strs T)) ∧ ∃ g : Up V0, wr = up V0 g) (fun _ t3 _ => E.length - (intOf t3).toNat)
 case atStart => exact ⟨0, [], _, _, by omega, rfl, rfl, hd_ rfl, hd_ HOw.out, ex_up bw_⟩
 case round =>
  clear HOw
  obtain ⟨k, T, A1, c1, hk, rfl, rfl, HE, HO, g, rfl⟩ := hrel
  by_cases hlt : k < E.length
  ·have hki : (k : Int) < (E.length : Int) := by omega
   obtain ⟨b, off, rfl, hb, y0, y1, y2⟩ := en_at HRE.out hlt
   have hvX : vEntry E[k] = true := HEV.out _ (List.getElem_mem hlt)
   have HE2 := hd_ (show T ++ [ewords E[k]] = R.take (k + 1) by rw [HRX.out k hlt, HE.out])
   have hTl : T.length ≤ 4000 := by rw [HE.out, List.length_take]; omega
   obtain ⟨X, hX⟩ := nm_ (E[k])
   rw [hX] at y0 y1 y2 hvX HE2
   obtain ⟨S, hS⟩ := nm_ (ewords X)
   have HEA : Hid (EAt V0 b (off + k * 3) X) := hd_ ⟨hb, y0, y1, y2⟩
   have HLT : Hid (∀ V, EAt V b (off + k * 3) X → Calls Tryz.prog 161 #[.pointer (some ⟨b, off + k * 3, none⟩)] V fun e w' => e = .returned (.string S) ∧ UpOf V w') := hd_ fun V hV => by
    have := l27Words_any X hvX b (off + k * 3) V hV
    rw [hS] at this
    exact this
   rw [hS] at HE2
   clear hS hX hvX HE y0 y1 y2
   go_wp2_with fail
   refine cu_ (HLT.out _ (HEA.out.below bw_)) fun g2 => ?_
   go_wp2_with (at_builtin; go_must (refine wpl_appU rfl _ _ 24 rfl V0 V0.heap.size 9 _ 1 16 el_str (.slice A1 T.length c1) T.length (strs T) rfl (ob_ HO.out bw_) _ 1 1 [.string S] rfl (rds_new _ #[.string S] _ 1 1 rfl) (fun u hu => by simp at hu; subst hu; rfl) (by unfold maxLen; omega) (by omega) (show Below V0.heap.size V0 _ from bw_).size bw_ (Nat.le_refl _) ?_; intro A3 c3 g5 o5))
   go_roundw
   case rel => exact ⟨k + 1, T ++ [S], A3, c3, by omega, by go_num, congrArg (fun n => Value.slice A3 n c3) (by simp), HE2, hd_ (by rw [List.length_append]; simpa [strs] using o5), ex_up bw_⟩
   case measure => simp [intOf]; try omega
  ·obtain rfl : k = E.length := by omega
   have hT : T = R := by rw [HE.out, ← HRL.out, List.take_length]
   subst hT
   have hT10 : T.length ≤ 4000 := by rw [HRL.out]; exact hEl
   clear HE HRL HRX
   go_wp2_with fail
   refine (listR_any w0 sb D _ _ _ _ _ _ L x y A1 c1 T _ (HM2.out.below bw_) (Rds.of_own HO.out) (by omega)).mono ?_
   rintro r w' ⟨rfl, hp⟩
   go_wp2_with fail
   go_end0
   rw [List.append_assoc] at hp
   exact ⟨rfl, _, _, hp⟩
end Go.Proofs.YtbianlkenallaaaGreatDoor
