/-
  The least text that leaves each rest: the program's. The bounds stand at it.
-/
import Derived.Test.YtbianlkenallaaaGreatDoorMgC
import Derived.Deep.LoopGhost
import Derived.Deep.DeepCutAuto
set_option linter.all false
set_option maxHeartbeats 8000000
set_option maxRecDepth 10000
namespace Go.Proofs.YtbianlkenallaaaGreatDoor
open Go.RowKit
theorem zeroStr (w : World) : (zeroValue 9).run Tryz.prog w = .ok (.string ⟨#[]⟩) w := by kernel_rfl
def rtPost (ws : List ByteArray) (w : World) (e : Ending) (w' : World) : Prop := ∃ mb R, e = .returned (.map (some mb)) ∧ TxtAt w' Tryz.prog 9 9 mb R.length R ∧ Dij (lists ws) [] R ∧ UpOf w w'
theorem restTexts_any (A : Option Addr) (c : Nat) (ws : List ByteArray) (w : World) (h : Rds w 1 A ws.length (strs ws)) (hn : ws.length ≤ 10) (h8 : ∀ i, i < ws.length → (wd ws i).size ≤ 8) :
 Calls Tryz.prog 129 #[.slice A ws.length c] w fun e w' => rtPost ws w e w' := by
 have HR := hd_ h
 have H8 := hd_ h8
 have HF : Hid (∀ V, Below w.heap.size w V → Calls Tryz.prog 169 #[.slice A ws.length c] V fun e w' => ∃ g cp O, e = .returned (.slice g O.length cp) ∧ FR (lists ws) O ws.length 0 ∧ w'.ownsRow V.heap.size 186 2 (.slice g O.length cp) O.length (ambC O) ∧ UpOf V w') := hd_ fun V hV => firstRests_any A c ws V (HR.out.below hV) hn H8.out
 have HW8 : Hid (∀ x ∈ lists ws, x.length ≤ 8) := hd_ fun x hx => by
  rw [lists, List.mem_map] at hx
  obtain ⟨y, hy, rfl⟩ := hx
  obtain ⟨i, hi, rfl⟩ := List.getElem_of_mem hy
  have := H8.out i hi
  rw [← wd_eq hi] at this
  exact this
 have HW10 : Hid ((lists ws).length ≤ 10) := hd_ (by rw [lists_len]; exact hn)
 have hmm := @run_makeMap Tryz.prog
 clear h h8
 go_enter Tryz.func129, Tryz.ntmps129
 go_wp2_with fail
 refine (HF.out _ bw_).mono ?_
 rintro e w' ⟨g, cp, O, rfl, hfr, hown, hup⟩
 have HJ := hd_ (JW.start HW8.out HW10.out (by rw [lists_len]; exact hfr))
 have HS0 := hd_ (show RS w (w'.alloc (.map #[] 0)) g cp w'.heap.size O [] from
  ⟨ob_ (om_ hown (Nat.le_refl _)) bw_, TxtAt.made _ _ _ _, hup.below.size, fun e => by have := (hown.lt _ e).2; omega, hup.below.alloc hup.below.size _⟩)
 clear hfr hown HF
 go_upto_region 2 with (fail)
 obtain ⟨mb, hmb⟩ := nm_ (w'.heap.size)
 rw [hmb] at HS0
 rw [hmb]
 clear hmb hmm hup
 go_loopg [3] 3000 (fun gk t3 wr => ∃ (g : Option Addr) (cp : Nat) (O R : List Amb), t3 = .slice g O.length cp ∧ Hid (RS w wr g cp mb O R) ∧ Hid (JW (lists ws) O R) ∧ (90 - R.length) * 20 + O.length ≤ gk)
 case atStart => exact ⟨g, cp, O, [], rfl, HS0, HJ, by have := HJ.out.ol; simp at this ⊢; omega⟩
 case round =>
  obtain ⟨g, cp, O, R, rfl, HS, HJ, hgk⟩ := hrel
  clear HS0
  by_cases h0 : O.length = 0
  ·have h0' : ¬ (0 : Int) < (O.length : Int) := by omega
   have hO : Hid (O = []) := hd_ (List.eq_nil_of_length_eq_zero h0)
   clear h0
   go_wp2_with fail
   go_ret
   refine ⟨mb, R, rfl, HS.out.map, ?_, UpOf.of HS.out.bel⟩
   have := HJ.out.d
   rw [hO.out] at this
   exact this
  ·obtain ⟨g0, rfl⟩ := own_some HS.out.own (by omega)
   have hpos : (0 : Int) < (O.length : Int) := by omega
   have hposN : 0 < O.length := by omega
   have hposD : decide (0 < O.length) = true := decide_eq_true hposN
   have hOl : O.length ≤ 1000 := by have := HJ.out.ol; have := HJ.out.rl HW8.out HW10.out; omega
   have hcapO : O.length ≤ cp := own_capR HS.out.own
   have HB := hd_ (show ∀ i, i < O.length → (⟨(om O i).1.toArray⟩ : ByteArray).size ≤ 1000 ∧ (⟨(om O i).2.toArray⟩ : ByteArray).size ≤ 8 from fun i hi => by
    have h1 := HJ.out.ob (om O i) (om_mem hi)
    have h2 := HJ.out.rest HW8.out (om_mem hi)
    have h3 := HJ.out.rl HW8.out HW10.out
    show (om O i).1.length ≤ 1000 ∧ (om O i).2.length ≤ 8
    omega)
   go_wp2_with fail
   go_loopw [5, 23] (fun t5 t23 wr => ∃ i b : Nat, i ≤ O.length ∧ b < O.length ∧ t23 = i64 i ∧ t5 = i64 b ∧ Hid (∀ x, x < i → leT (om O b).1 (om O x).1) ∧ Hid (RS w wr (some ⟨g0, 0, none⟩) cp mb O R)) (fun _ t23 _ => O.length - (intOf t23).toNat)
   case atStart => exact ⟨0, 0, by omega, by omega, rfl, rfl, hd_ (fun x hx => by omega), HS⟩
   case round =>
    obtain ⟨i, b, hi, hb, rfl, rfl, HM, HT⟩ := hrel
    clear HS
    by_cases hlt : i < O.length
    ·obtain ⟨y0, y1, y2⟩ := am_at HT.out hlt
     obtain ⟨_, z1, z2⟩ := am_at HT.out hb
     have HL : Hid (∀ V : World, Calls Tryz.prog 170 #[.string ⟨(om O i).1.toArray⟩, .string ⟨(om O b).1.toArray⟩] V fun e w' => e = .returned (.bool (lessT (om O i).1 (om O b).1)) ∧ V = w') := hd_ fun V => by
      have := isLess_any ⟨(om O i).1.toArray⟩ ⟨(om O b).1.toArray⟩ V (by have := (HB.out i hlt).1; omega) (by have := (HB.out b hb).1; omega)
      simpa using this
     cases hls : lessT (om O i).1 (om O b).1 with
     | true =>
       have HL2 : Hid (∀ V : World, Calls Tryz.prog 170 #[.string ⟨(om O i).1.toArray⟩, .string ⟨(om O b).1.toArray⟩] V fun e w' => e = .returned (.bool true) ∧ V = w') := hd_ (by rw [← hls]; exact HL.out)
       have HM2 := hd_ (lt_ext (P := fun x => leT (om O i).1 (om O x).1) (fun x hx => leT_trans (leT_of_less hls) (HM.out x hx)) (leT_refl _))
       clear HL hls HM
       go_wp2_with (first | ((with_reducible refine wru ?_); (repeat (go_big_quiet_step (first | (go_at_call 170; exact uqs_ (HL2.out _))))); refine wqn fun nq => ?_))
       go_roundw
       case rel => exact ⟨i + 1, i, by omega, hlt, by go_num, rfl, HM2, hd_ (HT.out.below bw_)⟩
       case measure => simp [intOf]; try omega
     | false =>
       have HL2 : Hid (∀ V : World, Calls Tryz.prog 170 #[.string ⟨(om O i).1.toArray⟩, .string ⟨(om O b).1.toArray⟩] V fun e w' => e = .returned (.bool false) ∧ V = w') := hd_ (by rw [← hls]; exact HL.out)
       have HM2 := hd_ (lt_ext (P := fun x => leT (om O b).1 (om O x).1) HM.out hls)
       clear HL hls HM
       go_wp2_with (first | ((with_reducible refine wru ?_); (repeat (go_big_quiet_step (first | (go_at_call 170; exact uqs_ (HL2.out _))))); refine wqn fun nq => ?_))
       go_roundw
       case rel => exact ⟨i + 1, b, by omega, hb, by go_num, rfl, HM2, hd_ (HT.out.below bw_)⟩
       case measure => simp [intOf]; try omega
    ·obtain rfl : i = O.length := by omega
     obtain ⟨y0, z1, z2⟩ := am_at HT.out hb
     have hcapb : ¬ cp < b := by omega
     go_upto_region 11 with (fail)
     refine wpg (R := fun V => RS w V (some ⟨g0, 0, none⟩) cp mb O R ∧ Box V wr.heap.size #[.string ⟨(om O b).1.toArray⟩, .string ⟨(om O b).2.toArray⟩] ∧ Hid (g0 ≠ wr.heap.size ∧ mb ≠ wr.heap.size ∧ w.heap.size ≤ wr.heap.size)) ⟨HT.out.below bw_, Box.new _ _ _, hd_ ⟨by omega, by have := HT.out.map.lt; omega, HT.out.bel.size⟩⟩ (fun V z => ?_)
     obtain ⟨zr, zb, zn⟩ := z
     have HT := hd_ zr
     have HX := hd_ zb
     clear zr zb y0 z1 z2
     generalize wr.heap.size = p8 at *
     have hcut : O.length - (b + 1) = (O.drop (b + 1)).length := by rw [List.length_drop]
     have hxs : (ambC O).take (b * 2) ++ (ambC O).drop ((b + 1) * 2) = ambC (O.take b ++ O.drop (b + 1)) := by rw [ambC_app, ambC_take, ambC_drop]
     have hlen : b + (O.length - (b + 1)) = (O.take b ++ O.drop (b + 1)).length := by rw [List.length_append, List.length_take, List.length_drop]; omega
     have HP := hd_ (own_pre HT.out.own (m := b) (by omega)).drew
     have HSf : Hid (Rds V.drew 2 (some ⟨g0, (b + 1) * 2, none⟩) (O.length - (b + 1)) ((ambC O).drop ((b + 1) * 2))) := hd_ (by
      have := ((Rds.of_own HT.out.own).suf (i := b + 1) (by omega)).below (w' := V.drew) bw_
      rw [Nat.zero_add] at this
      exact this)
     have HX1 := hd_ hxs
     have HL1 := hd_ hlen
     clear hcut hxs hlen
     obtain ⟨O', hO'⟩ : ∃ O', O.take b ++ O.drop (b + 1) = O' := ⟨_, rfl⟩
     have HO' := hd_ hO'
     have HLEN : Hid (O'.length = O.length - 1) := hd_ (by rw [← hO', List.length_append, List.length_take, List.length_drop]; omega)
     rw [hO'] at HL1 HX1
     clear hO'
     go_cut [3] (fun z V => z = .slice (some ⟨g0, 0, none⟩) O'.length cp ∧ Hid (RS w V (some ⟨g0, 0, none⟩) cp mb O' R) ∧ Hid (Box V p8 #[.string ⟨(om O b).1.toArray⟩, .string ⟨(om O b).2.toArray⟩]))
     case first =>
      have hb1 : (b : Int) + 1 ≤ (O.length : Int) := by omega
      have k0 : (0 : Int) ≤ (b : Int) := by omega
      have k1 : (b : Int) ≤ (cp : Int) := by omega
      have k2 : (0 : Int) ≤ (b : Int) + 1 := by omega
      have k3 : (O.length : Int) ≤ (cp : Int) := by omega
      have k4 : (b : Int) + 1 ≤ (cp : Int) := by omega
      have k5 : ((b : Int) + 1).toNat = b + 1 := by omega
      have k6 : IntKind.i64.wrap ((b : Int) + 1) = (b : Int) + 1 := by rw [IntKind.wrap_i64]; omega
      have HFIN : Hid (∀ w9 : World, w9.ownsRow w.heap.size 186 2 (.slice (some ⟨g0, 0, none⟩) (b + (O.length - (b + 1))) cp) (b + (O.length - (b + 1))) ((ambC O).take (b * 2) ++ (ambC O).drop ((b + 1) * 2)) → V.drew.grownBy w9 (some g0) → RS w w9 (some ⟨g0, 0, none⟩) cp mb O' R ∧ Box w9 p8 #[.string ⟨(om O b).1.toArray⟩, .string ⟨(om O b).2.toArray⟩]) := hd_ fun w9 o9 hg9 => by
       have hg8 : V.grownBy w9 (some g0) := ⟨hg9.os, hg9.tape, hg9.output, hg9.size, hg9.block⟩
       have h1 := HT.out.cut (i := b) (m := b + (O.length - (b + 1))) hb o9 (by rw [HO'.out]; exact HL1.out) (by rw [HO'.out]; exact HX1.out) hg8
       rw [HO'.out] at h1
       exact ⟨h1, Nat.lt_of_lt_of_le HX.out.1 hg8.size, fun i u hu => hg8.cell (HX.out.2 i u hu) (by intro e; injection e with e; exact zn.out.1 e.symm)⟩
      have HL2 : Hid (b + (O.length - (b + 1)) = O'.length) := hd_ (by rw [HL1.out])
      by_cases hcb : cp = b + 1
      ·subst hcb
       have hm0 : O.length - (b + 1) = 0 := by omega
       have hR0 : Hid (Rds V.drew 2 (some ⟨g0, 0, none⟩) (O.length - (b + 1)) ((ambC O).drop ((b + 1) * 2))) := hd_ (by
        rw [hm0, List.drop_eq_nil_of_le (by rw [ambC_len]; omega)]; exact Rds.empty _ _ _)
       have hF := HFIN.out V.drew (by
        rw [hm0, Nat.add_zero, (List.drop_eq_nil_of_le (by rw [ambC_len]; omega) : (ambC O).drop ((b + 1) * 2) = []), List.append_nil]
        exact HP.out) (World.grownBy.refl _ _)
       have hb9 : b = O'.length := by have := HLEN.out; omega
       have HF9 := hd_ hF
       have HB9 := hd_ hb9
       clear hm0 hR0 hF hb9
       have k7 : (b : Int) ≤ (b : Int) + 1 := by omega
       have k8 : (O.length : Int) ≤ (b : Int) + 1 := by omega
       go_region_held3 (fun _ => True) (trivial) (first | fail)
       go_wp2_with fail
       go_meet
       exact ⟨by rw [← HB9.out], hd_ HF9.out.1, hd_ HF9.out.2⟩
      ·go_region_held3 (fun _ => True) (trivial) (first | (refine step_fits rfl _ _ 183 (by rfl) w.heap.size 186 _ 2 32 el_amb g0 b cp _ (by rfl) HP.out g0 _ (O.length - (b + 1)) _ _ (by rfl) HSf.out (fun u hu => ambC_one O u (List.mem_of_mem_drop hu)) (by omega) ?_; intro w9 o9 hg9))
       obtain ⟨f1, f2⟩ := HFIN.out w9 o9 hg9
       go_wp2_with fail
       go_meet
       exact ⟨by rw [HL2.out], hd_ f1, hd_ f2⟩
     case rest =>
      obtain ⟨rfl, HU, HXV⟩ := hcut
      have HZ := hd_ (show p8 < wc.heap.size ∧ p8 ≠ g0 ∧ p8 ≠ mb ∧ w.heap.size ≤ p8 from ⟨HXV.out.1, fun e => zn.out.1 e.symm, fun e => zn.out.2.1 e.symm, zn.out.2.2⟩)
      have x0 : wc.cell? ⟨p8, 0, none⟩ = some (.string ⟨(om O b).1.toArray⟩) := HXV.out.2 0 _ rfl
      have x1 : wc.cell? ⟨p8, 1, none⟩ = some (.string ⟨(om O b).2.toArray⟩) := HXV.out.2 1 _ rfl
      have hp8 := HXV.out.1
      have hbs := (HB.out b hb).2
      have hbt := (HB.out b hb).1
      have hRl := HJ.out.rl HW8.out HW10.out
      have hbl := hd_ hb
      have hgk1 : 0 < gk := by omega
      clear HT HX HL1 HX1 HSf HP zn HB
      by_cases hin : ∃ t, ((om O b).2, t) ∈ R
      ·obtain ⟨t, ht⟩ := hin
       have hlook : (Instr.lookup 160 (.map (some mb)) (.string ⟨(om O b).2.toArray⟩) true).run Tryz.prog wc = .ok (.tuple #[.string ⟨t.toArray⟩, .bool true]) wc :=
        HU.out.map.look Tryz.underlying160 Tryz.underlying9 Tryz.underlying9 zeroStr ⟨(om O b).2.toArray⟩ (by unfold maxLen; omega) (by simpa using ht) ⟨wc, Below.refl _ _⟩
       have HJ2 := hd_ (HJ.out.drop hb ht)
       rw [HO'.out] at HJ2
       clear ht
       go_wp2_with fail
       go_roundg (gk - 1)
       case measure => omega
       case rel => exact ⟨some ⟨g0, 0, none⟩, cp, O', R, rfl, HU, HJ2, by have := HLEN.out; omega⟩
      ·have hni : ∀ t, ((om O b).2, t) ∉ R := fun t ht => hin ⟨t, ht⟩
       obtain ⟨y, hy⟩ := HU.out.map.look_no Tryz.underlying160 Tryz.underlying9 Tryz.underlying9 zeroStr ⟨(om O b).2.toArray⟩ (by unfold maxLen; omega) (by simpa using hni)
       have hlook : (Instr.lookup 160 (.map (some mb)) (.string ⟨(om O b).2.toArray⟩) true).run Tryz.prog wc = .ok (.tuple #[.string y, .bool false]) wc := hy ⟨wc, Below.refl _ _⟩
       have HS1 := hd_ (show (⟨(om O b).2.toArray⟩ : ByteArray).size ≤ maxLen by unfold maxLen; omega)
       have HS2 := hd_ (show (⟨(om O b).1.toArray⟩ : ByteArray).size ≤ maxLen by unfold maxLen; omega)
       have HN := hd_ (show ∀ z, ((⟨(om O b).2.toArray⟩ : ByteArray).data.toList, z) ∉ R by simpa using hni)
       have HM3 := hd_ (show R.length < maxLen by unfold maxLen; omega)
       have hmin := HM.out
       have HJ2 := hd_ (HJ.out.take HW8.out HW10.out hb (fun q hq => by
        obtain ⟨j, hj, rfl⟩ := List.getElem_of_mem hq
        have := hmin j hj
        rw [om, om, List.getD_eq_getElem?_getD, List.getD_eq_getElem?_getD, List.getElem?_eq_getElem hj] at this
        rw [om, List.getD_eq_getElem?_getD]
        exact this) hni)
       rw [HO'.out] at HJ2
       have hRl2 : R.length + 1 ≤ 90 := by have := HJ2.out.rl HW8.out HW10.out; simpa using this
       clear hy hin hni hmin
       go_upto_region 15 with (at_mapUpdate; refine wpl_txtPut _ rfl _ _ _ 160 rfl 9 9 Tryz.underlying160 Tryz.underlying9 Tryz.underlying9 mb R.length R rfl HU.out.map HM3.out ⟨(om O b).2.toArray⟩ ⟨(om O b).1.toArray⟩ HS1.out HS2.out HN.out rfl rfl ?_; intro w9 hset9 hgr9)
       have HU9 := hd_ (HU.out.put (r := (om O b).2) (t := (om O b).1) (by simpa using hset9) hgr9)
       have y0 := hgr9.cell x0 (by intro e; injection e with e; exact HZ.out.2.2.1 e)
       have y1 := hgr9.cell x1 (by intro e; injection e with e; exact HZ.out.2.2.1 e)
       have HZ9 := hd_ (show p8 < w9.heap.size ∧ p8 ≠ g0 ∧ p8 ≠ mb ∧ w.heap.size ≤ p8 from ⟨Nat.lt_of_lt_of_le hp8 hgr9.size, HZ.out.2⟩)
       have hp9 := HZ9.out.1
       clear hset9 hgr9 x0 x1 hlook HU HXV HZ hp8 HM HM3 HS1 HS2 HN
       by_cases hr0 : (om O b).2 = []
       ·have he : (⟨(om O b).2.toArray⟩ : ByteArray).toList.isEmpty = true := isEmpty_yes (by show (om O b).2.length = 0; rw [hr0]; rfl)
        have he2 : (om O b).2.isEmpty = true := by rw [hr0]; rfl
        rw [if_pos hr0, List.append_nil] at HJ2
        clear hr0
        go_wp2_with fail
        go_roundg (gk - 1)
        case measure => omega
        case rel => exact ⟨some ⟨g0, 0, none⟩, cp, O', _, rfl, HU9, HJ2, by have := HLEN.out; rw [List.length_cons]; omega⟩
       ·have he : (⟨(om O b).2.toArray⟩ : ByteArray).toList.isEmpty = false := isEmpty_no (by
         show 0 < (om O b).2.length
         exact List.length_pos_iff.2 hr0)
        have he2 : (om O b).2.isEmpty = false := by simpa using hr0
        rw [if_neg hr0] at HJ2
        have HR0 := hd_ hr0
        clear hr0
        go_wp2_with fail
        go_loopw [3, 68] (fun t3 t68 wr => ∃ (k : Nat) (g1 : Option Addr) (c1 : Nat) (O1 : List Amb), k ≤ ws.length ∧ t68 = i64 k ∧ t3 = .slice g1 O1.length c1 ∧ Hid (O1 = O' ++ succs (om O b) ((lists ws).take k)) ∧ Hid (RS w wr g1 c1 mb O1 (((om O b).2, (om O b).1) :: R)) ∧ Hid (Box wr p8 #[.string ⟨(om O b).1.toArray⟩, .string ⟨(om O b).2.toArray⟩] ∧ (Value.slice g1 O1.length c1).ownBlock ≠ some p8)) (fun _ t68 _ => ws.length - (intOf t68).toNat)
        case atStart => exact ⟨0, some ⟨g0, 0, none⟩, cp, O', by omega, rfl, rfl, hd_ (by simp [succs]), HU9, hd_ ⟨⟨hp9, fun i u hu => by
         match i, hu with
         | 0, hu => injection hu with hu; subst hu; exact y0
         | 1, hu => injection hu with hu; subst hu; exact y1⟩, fun e => by injection e with e; exact HZ9.out.2.1 e.symm⟩⟩
        case round =>
         obtain ⟨k, g1, c1, O1, hk, rfl, rfl, HE, HV, HX⟩ := hrel
         clear HU9 y0 y1 hp9
         by_cases hlk : k < ws.length
         ·obtain ⟨bw, ow, rfl, hbw, cw⟩ := wd_at (HR.out.below HV.out.bel) hlk
          have cw := cw k hlk
          have sw := H8.out k hlk
          have v0 : wr.cell? ⟨p8, 0, none⟩ = some (.string ⟨(om O b).1.toArray⟩) := HX.out.1.2 0 _ rfl
          have v1 : wr.cell? ⟨p8, 1, none⟩ = some (.string ⟨(om O b).2.toArray⟩) := HX.out.1.2 1 _ rfl
          have hv := HX.out.1.1
          have hOl1 : O1.length ≤ 2000 := by
           have h0 := HLEN.out
           rw [HE.out, List.length_append]
           have h1 := succs_len (om O b) ((lists ws).take k)
           have h2 := HW10.out
           rw [List.length_take] at h1
           omega
          have hstep : succs (om O b) ((lists ws).take (k + 1)) = succs (om O b) ((lists ws).take k) ++ (match exR (om O b).2 (wd ws k).data.toList with | some q => [((om O b).1 ++ q.1, q.2)] | none => []) := by
           have e : (lists ws).take (k + 1) = (lists ws).take k ++ [(wd ws k).data.toList] := by rw [List.take_succ, lists_get hlk]; rfl
           rw [e, succs_snoc]
           cases exR (om O b).2 (wd ws k).data.toList <;> rfl
          have haf : ∀ V : World, Calls Tryz.prog 171 #[amv ⟨(om O b).1.toArray⟩ ⟨(om O b).2.toArray⟩, .string (wd ws k)] V fun e w' => e = .returned (amO ⟨(om O b).1.toArray⟩ ⟨(om O b).2.toArray⟩ (exR (om O b).2 (wd ws k).data.toList)) ∧ UpOf V w' := fun V => by
           have := after_any ⟨(om O b).1.toArray⟩ ⟨(om O b).2.toArray⟩ (wd ws k) V (by omega) (by omega) (by omega)
           simpa using this
          cases hx : exR (om O b).2 (wd ws k).data.toList with
          | none =>
            have HA : Hid (∀ V : World, Calls Tryz.prog 171 #[amv ⟨(om O b).1.toArray⟩ ⟨(om O b).2.toArray⟩, .string (wd ws k)] V fun e w' => e = .returned (.tuple #[amv ⟨#[]⟩ ⟨#[]⟩, .bool false]) ∧ UpOf V w') := hd_ (by rw [hx] at haf; exact haf)
            have HE2 := hd_ (show O1 = O' ++ succs (om O b) ((lists ws).take (k + 1)) by rw [hstep, hx, List.append_nil, HE.out])
            clear haf hx hstep HE
            go_wp2_with (first | (go_at_call 171; refine cu_ (HA.out _) fun g => ?_) | ((with_reducible refine wru ?_); refine wrz fun _ => ?_))
            go_roundw
            case rel => exact ⟨k + 1, g1, c1, O1, by omega, by go_num, rfl, HE2, hd_ (HV.out.below bw_), hd_ ⟨HX.out.1.below bw_, HX.out.2⟩⟩
            case measure => simp [intOf]; try omega
          | some q =>
            obtain ⟨T, hT⟩ : ∃ T : ByteArray, (⟨((om O b).1 ++ q.1).toArray⟩ : ByteArray) = T := ⟨_, rfl⟩
            obtain ⟨X, hX⟩ : ∃ X : ByteArray, (⟨q.2.toArray⟩ : ByteArray) = X := ⟨_, rfl⟩
            have HA : Hid (∀ V : World, Calls Tryz.prog 171 #[amv ⟨(om O b).1.toArray⟩ ⟨(om O b).2.toArray⟩, .string (wd ws k)] V fun e w' => e = .returned (.tuple #[amv T X, .bool true]) ∧ UpOf V w') := hd_ (by
             rw [hx] at haf
             rw [← hT, ← hX]
             simpa [amO] using haf)
            have HE2 := hd_ (show O1 ++ [(T.data.toList, X.data.toList)] = O' ++ succs (om O b) ((lists ws).take (k + 1)) by
             rw [hstep, hx, HE.out, List.append_assoc, ← hT, ← hX])
            clear haf hx hstep HE hT hX
            go_upto_region 21 with (go_at_call 171; refine cu_ (HA.out _) fun g5 => ?_)
            obtain ⟨C, hC⟩ := nm_ (Obj.cells #[Value.string T, Value.string X] 186)
            have hrds : Rds (up wr ((g5.al (.cells #[.string T, .string X] 186)).al (.cells #[.string T, .string X] 186))) 2 (some ⟨(up wr g5).heap.size + 1, 0, none⟩) 1 [.string T, .string X] := by
             have := rds_new (up wr (g5.al (.cells #[.string T, .string X] 186))) #[.string T, .string X] 186 2 1 rfl
             rw [size_al] at this
             exact this
            have hbel : Below wr.heap.size wr (up wr ((g5.al (.cells #[.string T, .string X] 186)).al (.cells #[.string T, .string X] 186))) := ub_ _ _
            have HV2 := hd_ (HV.out.below hbel)
            have HX2 := hd_ (show Box (up wr ((g5.al (.cells #[.string T, .string X] 186)).al (.cells #[.string T, .string X] 186))) p8 #[.string ⟨(om O b).1.toArray⟩, .string ⟨(om O b).2.toArray⟩] ∧ (Value.slice g1 O1.length c1).ownBlock ≠ some p8 from ⟨HX.out.1.below hbel, HX.out.2⟩)
            have hone : ∀ u ∈ [Value.string T, Value.string X], u.oneCell' = true := fun u hu => by
             simp only [List.mem_cons, List.not_mem_nil, or_false] at hu
             obtain rfl | rfl := hu <;> rfl
            have HRD := hd_ hrds
            have HONE := hd_ hone
            have HOWN := hd_ HV2.out.own
            have hm1 : O1.length + 1 ≤ maxLen := by unfold maxLen; omega
            have hm2 : (O1.length + 1) * 32 ≤ 140737488355328 := by omega
            have hm3 := hd_ HV2.out.bel.size
            clear hrds hbel hone HV HX v0 v1 hv cw hC C
            go_wp2_with (at_builtin; refine wpl_appAt rfl _ _ 183 rfl w.heap.size 186 _ 2 32 el_amb (.slice g1 O1.length c1) O1.length (ambC O1) rfl HOWN.out _ 1 1 _ rfl HRD.out HONE.out (by omega) hm1 hm2 hm3.out ?_; intro g9 c9 wq o9 hg9 hat9; have HG9 := hd_ hg9; have O9 := hd_ o9; have HAT := hd_ hat9; clear hg9 o9 hat9)
            go_roundw
            case rel => exact ⟨k + 1, some ⟨g9, 0, none⟩, c9, O1 ++ [(T.data.toList, X.data.toList)], by omega, by go_num, congrArg (fun n => Value.slice (some ⟨g9, 0, none⟩) n c9) (by simp), HE2, hd_ (HV2.out.add (by rw [amb_cells]; exact O9.out) HG9.out HAT.out),
             hd_ ⟨⟨Nat.lt_of_lt_of_le HX2.out.1.1 HG9.out.size, fun i u hu => HG9.out.cell (HX2.out.1.2 i u hu) (fun e => HX2.out.2 e.symm)⟩, fun e => by
              injection e with e
              rcases HAT.out with h | h
              ·exact HX2.out.2 (by rw [h]; exact congrArg some e)
              ·have := HX2.out.1.1
               have e' : g9 = p8 := e
               omega⟩⟩
            case measure => simp [intOf]; try omega
         ·obtain rfl : k = ws.length := by omega
          have HE2 := hd_ (show O1 = O' ++ succs (om O b) (lists ws) by rw [HE.out, List.take_of_length_le (by rw [lists_len]; exact Nat.le_refl _)])
          have HJ3 := hd_ (show JW (lists ws) O1 (((om O b).2, (om O b).1) :: R) by rw [HE2.out]; exact HJ2.out)
          have hOl3 : O1.length ≤ O'.length + 10 := by
           rw [HE2.out, List.length_append]
           have h1 := succs_len (om O b) (lists ws)
           have h2 := HW10.out
           omega
          go_wp2_with fail
          go_roundg (gk - 1)
          case measure => omega
          case rel => exact ⟨g1, c1, O1, _, rfl, HV, HJ3, by have := HLEN.out; rw [List.length_cons]; omega⟩
end Go.Proofs.YtbianlkenallaaaGreatDoor
