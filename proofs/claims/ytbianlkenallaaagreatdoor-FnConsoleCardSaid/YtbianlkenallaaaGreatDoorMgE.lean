/-
  Common parts, put together: CodeW3, CodeV, CodeW4, Dk7, Dk8, Vals2, Dk9, Dk10, DkCopy.
-/
import Derived.Test.YtbianlkenallaaaGreatDoorMgD
import Derived.Deep.LoopGhost
import Derived.Deep.DeepCutAuto
import Derived.Test.YtbianlkenallaaaGreatDoorMgA
import Derived.Test.YtbianlkenallaaaGreatDoorMgC
import Derived.Test.YtbianlkenallaaaGreatDoorMgB
set_option linter.all false
namespace Go.Proofs.YtbianlkenallaaaGreatDoor
open Go.RowKit
theorem zeroStr (w : World) : (zeroValue 9).run Tryz.prog w = .ok (.string ⟨#[]⟩) w := by kernel_rfl
def rtPost (ws : List ByteArray) (w : World) (e : Ending) (w' : World) : Prop := ∃ mb R, e = .returned (.map (some mb)) ∧ TxtAt w' Tryz.prog 9 9 mb R.length R ∧ Dij (lists ws) [] R ∧ UpOf w w'
set_option maxRecDepth 10000 in
set_option maxHeartbeats 8000000 in
theorem restTexts_any (A : Option Addr) (c : Nat) (ws : List ByteArray) (w : World) (h : Rds w 1 A ws.length (strs ws)) (hn : ws.length ≤ 10) (h8 : ∀ i, i < ws.length → (wd ws i).size ≤ 8) :
    Calls Tryz.prog 129 #[.slice A ws.length c] w fun e w' => rtPost ws w e w' := by
  have HR := Lib.hid h
  have H8 := Lib.hid h8
  have HF : Hid (∀ V, Below w.heap.size w V → Calls Tryz.prog 169 #[.slice A ws.length c] V fun e w' => ∃ g cp O, e = .returned (.slice g O.length cp) ∧ FR (lists ws) O ws.length 0 ∧ w'.ownsRow V.heap.size 186 2 (.slice g O.length cp) O.length (ambC O) ∧ UpOf V w') := Lib.hid fun V hV => firstRests_any A c ws V (HR.out.below hV) hn H8.out
  have HW8 : Hid (∀ x ∈ lists ws, x.length ≤ 8) := Lib.hid fun x hx => by
    rw [lists, List.mem_map] at hx
    obtain ⟨y, hy, rfl⟩ := hx
    obtain ⟨i, hi, rfl⟩ := List.getElem_of_mem hy
    have := H8.out i hi
    rw [← wd_eq hi] at this
    exact this
  have HW10 : Hid ((lists ws).length ≤ 10) := Lib.hid (by rw [lists_len]; exact hn)
  have hmm := @run_makeMap Tryz.prog
  clear h h8
  go_enter Tryz.func129, Tryz.ntmps129
  go_wp2_with fail
  refine (HF.out _ (BL.o (by repeat constructor))).mono ?_
  rintro e w' ⟨g, cp, O, rfl, hfr, hown, hup⟩
  have HJ := Lib.hid (JW.start HW8.out HW10.out (by rw [lists_len]; exact hfr))
  have HS0 := Lib.hid (show RS w (w'.alloc (.map #[] 0)) g cp w'.heap.size O [] from
    ⟨own_below (own_mono hown (Nat.le_refl _)) (BL.o (by repeat constructor)), TxtAt.made _ _ _ _, hup.below.size, fun e => by have := (hown.lt _ e).2; omega, hup.below.alloc hup.below.size _⟩)
  clear hfr hown HF
  go_upto_region 2 with (fail)
  obtain ⟨mb, hmb⟩ : ∃ mb, w'.heap.size = mb := ⟨_, rfl⟩
  rw [hmb] at HS0
  rw [hmb]
  clear hmb hmm hup
  go_loopg [3] 3000 (fun gk t3 wr => ∃ (g : Option Addr) (cp : Nat) (O R : List Amb), t3 = .slice g O.length cp ∧ Hid (RS w wr g cp mb O R) ∧ Hid (JW (lists ws) O R) ∧ (90 - R.length) * 20 + O.length ≤ gk)
  case atStart => exact ⟨g, cp, O, [], rfl, HS0, HJ, by have := HJ.out.ol; simp at this ⊢; omega⟩
  case round =>
    obtain ⟨g, cp, O, R, rfl, HS, HJ, hgk⟩ := hrel
    clear HS0
    by_cases h0 : O.length = 0
    · have h0' : ¬ (0 : Int) < (O.length : Int) := by omega
      have hO : Hid (O = []) := Lib.hid (List.eq_nil_of_length_eq_zero h0)
      clear h0
      go_wp2_with fail
      go_ret
      refine ⟨mb, R, rfl, HS.out.map, ?_, UpOf.of HS.out.bel⟩
      have := HJ.out.d
      rw [hO.out] at this
      exact this
    · obtain ⟨g0, rfl⟩ := own_some HS.out.own (by omega)
      have hpos : (0 : Int) < (O.length : Int) := by omega
      have hposN : 0 < O.length := by omega
      have hposD : decide (0 < O.length) = true := decide_eq_true hposN
      have hOl : O.length ≤ 1000 := by have := HJ.out.ol; have := HJ.out.rl HW8.out HW10.out; omega
      have hcapO : O.length ≤ cp := own_capR HS.out.own
      have HB := Lib.hid (show ∀ i, i < O.length → (⟨(om O i).1.toArray⟩ : ByteArray).size ≤ 1000 ∧ (⟨(om O i).2.toArray⟩ : ByteArray).size ≤ 8 from fun i hi => by
        have h1 := HJ.out.ob (om O i) (om_mem hi)
        have h2 := HJ.out.rest HW8.out (om_mem hi)
        have h3 := HJ.out.rl HW8.out HW10.out
        show (om O i).1.length ≤ 1000 ∧ (om O i).2.length ≤ 8
        omega)
      go_wp2_with fail
      go_loopw [5, 23] (fun t5 t23 wr => ∃ i b : Nat, i ≤ O.length ∧ b < O.length ∧ t23 = i64 i ∧ t5 = i64 b ∧ Hid (∀ x, x < i → leT (om O b).1 (om O x).1) ∧ Hid (RS w wr (some ⟨g0, 0, none⟩) cp mb O R)) (fun _ t23 _ => O.length - (intOf t23).toNat)
      case atStart => exact ⟨0, 0, by omega, by omega, rfl, rfl, Lib.hid (fun x hx => by omega), HS⟩
      case round =>
        obtain ⟨i, b, hi, hb, rfl, rfl, HM, HT⟩ := hrel
        clear HS
        by_cases hlt : i < O.length
        · obtain ⟨y0, y1, y2⟩ := am_at HT.out hlt
          obtain ⟨_, z1, z2⟩ := am_at HT.out hb
          have HL : Hid (∀ V : World, Calls Tryz.prog 170 #[.string ⟨(om O i).1.toArray⟩, .string ⟨(om O b).1.toArray⟩] V fun e w' => e = .returned (.bool (lessT (om O i).1 (om O b).1)) ∧ V = w') := Lib.hid fun V => by
            have := isLess_any ⟨(om O i).1.toArray⟩ ⟨(om O b).1.toArray⟩ V (by have := (HB.out i hlt).1; omega) (by have := (HB.out b hb).1; omega)
            simpa using this
          cases hls : lessT (om O i).1 (om O b).1 with
          | true =>
            have HL2 : Hid (∀ V : World, Calls Tryz.prog 170 #[.string ⟨(om O i).1.toArray⟩, .string ⟨(om O b).1.toArray⟩] V fun e w' => e = .returned (.bool true) ∧ V = w') := Lib.hid (by rw [← hls]; exact HL.out)
            have HM2 := Lib.hid (lt_ext (P := fun x => leT (om O i).1 (om O x).1) (fun x hx => leT_trans (leT_of_less hls) (HM.out x hx)) (leT_refl _))
            clear HL hls HM
            go_wp2_with (first | (go_at_call 170; refine (HL2.out _).mono ?_; rintro e w' ⟨rfl, rfl⟩) | ((with_reducible refine wp_region_up (by kernel_rfl) (by kernel_rfl) ?_); (repeat (go_big_quiet_step (first | (go_at_call 170; first | exact upq_tr_same (HL2.out _) | exact upq_same (HL2.out _))))); refine wpQuiet_nil ?_; intro _ hw'; obtain ⟨nq, hw''⟩ := hw'; subst hw''))
            go_roundw
            case rel => exact ⟨i + 1, i, by omega, hlt, by go_num, rfl, HM2, Lib.hid (HT.out.below (BL.o (by repeat constructor)))⟩
            case measure => simp [intOf]; try omega
          | false =>
            have HL2 : Hid (∀ V : World, Calls Tryz.prog 170 #[.string ⟨(om O i).1.toArray⟩, .string ⟨(om O b).1.toArray⟩] V fun e w' => e = .returned (.bool false) ∧ V = w') := Lib.hid (by rw [← hls]; exact HL.out)
            have HM2 := Lib.hid (lt_ext (P := fun x => leT (om O b).1 (om O x).1) HM.out hls)
            clear HL hls HM
            go_wp2_with (first | (go_at_call 170; refine (HL2.out _).mono ?_; rintro e w' ⟨rfl, rfl⟩) | ((with_reducible refine wp_region_up (by kernel_rfl) (by kernel_rfl) ?_); (repeat (go_big_quiet_step (first | (go_at_call 170; first | exact upq_tr_same (HL2.out _) | exact upq_same (HL2.out _))))); refine wpQuiet_nil ?_; intro _ hw'; obtain ⟨nq, hw''⟩ := hw'; subst hw''))
            go_roundw
            case rel => exact ⟨i + 1, b, by omega, hb, by go_num, rfl, HM2, Lib.hid (HT.out.below (BL.o (by repeat constructor)))⟩
            case measure => simp [intOf]; try omega
        · obtain rfl : i = O.length := by omega
          obtain ⟨y0, z1, z2⟩ := am_at HT.out hb
          have hcapb : ¬ cp < b := by omega
          go_upto_region 11 with (fail)
          refine wpg (R := fun V => RS w V (some ⟨g0, 0, none⟩) cp mb O R ∧ Box V wr.heap.size #[.string ⟨(om O b).1.toArray⟩, .string ⟨(om O b).2.toArray⟩] ∧ Hid (g0 ≠ wr.heap.size ∧ mb ≠ wr.heap.size ∧ w.heap.size ≤ wr.heap.size)) ⟨HT.out.below (BL.o (by repeat constructor)), Box.new _ _ _, Lib.hid ⟨by omega, by have := HT.out.map.lt; omega, HT.out.bel.size⟩⟩ (fun V z => ?_)
          obtain ⟨zr, zb, zn⟩ := z
          have HT := Lib.hid zr
          have HX := Lib.hid zb
          clear zr zb y0 z1 z2
          generalize wr.heap.size = p8 at *
          have hcut : O.length - (b + 1) = (O.drop (b + 1)).length := by rw [List.length_drop]
          have hxs : (ambC O).take (b * 2) ++ (ambC O).drop ((b + 1) * 2) = ambC (O.take b ++ O.drop (b + 1)) := by rw [ambC_app, ambC_take, ambC_drop]
          have hlen : b + (O.length - (b + 1)) = (O.take b ++ O.drop (b + 1)).length := by rw [List.length_append, List.length_take, List.length_drop]; omega
          have HP := Lib.hid (own_pre HT.out.own (m := b) (by omega)).drew
          have HSf : Hid (Rds V.drew 2 (some ⟨g0, (b + 1) * 2, none⟩) (O.length - (b + 1)) ((ambC O).drop ((b + 1) * 2))) := Lib.hid (by
            have := ((Rds.of_own HT.out.own).suf (i := b + 1) (by omega)).below (w' := V.drew) (BL.o (by repeat constructor))
            rw [Nat.zero_add] at this
            exact this)
          have HX1 := Lib.hid hxs
          have HL1 := Lib.hid hlen
          clear hcut hxs hlen
          obtain ⟨O', hO'⟩ : ∃ O', O.take b ++ O.drop (b + 1) = O' := ⟨_, rfl⟩
          have HO' := Lib.hid hO'
          have HLEN : Hid (O'.length = O.length - 1) := Lib.hid (by rw [← hO', List.length_append, List.length_take, List.length_drop]; omega)
          rw [hO'] at HL1 HX1
          clear hO'
          go_cut [3] (fun z V => z = .slice (some ⟨g0, 0, none⟩) O'.length cp ∧ Hid (RS w V (some ⟨g0, 0, none⟩) cp mb O' R) ∧ Hid (Box V p8 #[.string ⟨(om O b).1.toArray⟩, .string ⟨(om O b).2.toArray⟩]))
          case first =>
            have hb1 : (b : Int) + 1 ≤ (O.length : Int) := by omega
            have k0 : (0 : Int) ≤ (b : Int) := by omega
            have k1 : (b : Int) ≤ (cp : Int) := by omega
            have k2 : (0 : Int) ≤ (b : Int) + 1 := by omega
            have k3 : (O.length : Int) ≤ (cp : Int) := by omega
            have k4 : (b : Int) + 1 ≤ (cp : Int) := by omega
            have k5 : ((b : Int) + 1).toNat = b + 1 := by omega
            have k6 : IntKind.i64.wrap ((b : Int) + 1) = (b : Int) + 1 := by rw [IntKind.wrap_i64]; omega
            have HFIN : Hid (∀ w9 : World, w9.ownsRow w.heap.size 186 2 (.slice (some ⟨g0, 0, none⟩) (b + (O.length - (b + 1))) cp) (b + (O.length - (b + 1))) ((ambC O).take (b * 2) ++ (ambC O).drop ((b + 1) * 2)) → V.drew.grownBy w9 (some g0) → RS w w9 (some ⟨g0, 0, none⟩) cp mb O' R ∧ Box w9 p8 #[.string ⟨(om O b).1.toArray⟩, .string ⟨(om O b).2.toArray⟩]) := Lib.hid fun w9 o9 hg9 => by
              have hg8 : V.grownBy w9 (some g0) := ⟨hg9.os, hg9.tape, hg9.output, hg9.size, hg9.block⟩
              have h1 := HT.out.cut (i := b) (m := b + (O.length - (b + 1))) hb o9 (by rw [HO'.out]; exact HL1.out) (by rw [HO'.out]; exact HX1.out) hg8
              rw [HO'.out] at h1
              exact ⟨h1, Nat.lt_of_lt_of_le HX.out.1 hg8.size, fun i u hu => hg8.cell (HX.out.2 i u hu) (by intro e; injection e with e; exact zn.out.1 e.symm)⟩
            have HL2 : Hid (b + (O.length - (b + 1)) = O'.length) := Lib.hid (by rw [HL1.out])
            by_cases hcb : cp = b + 1
            · subst hcb
              have hm0 : O.length - (b + 1) = 0 := by omega
              have hR0 : Hid (Rds V.drew 2 (some ⟨g0, 0, none⟩) (O.length - (b + 1)) ((ambC O).drop ((b + 1) * 2))) := Lib.hid (by
                rw [hm0, List.drop_eq_nil_of_le (by rw [ambC_len]; omega)]; exact Rds.empty _ _ _)
              have hF := HFIN.out V.drew (by
                rw [hm0, Nat.add_zero, (List.drop_eq_nil_of_le (by rw [ambC_len]; omega) : (ambC O).drop ((b + 1) * 2) = []), List.append_nil]
                exact HP.out) (World.grownBy.refl _ _)
              have hb9 : b = O'.length := by have := HLEN.out; omega
              have HF9 := Lib.hid hF
              have HB9 := Lib.hid hb9
              clear hm0 hR0 hF hb9
              have k7 : (b : Int) ≤ (b : Int) + 1 := by omega
              have k8 : (O.length : Int) ≤ (b : Int) + 1 := by omega
              go_region_held3 (fun _ => True) (trivial) (first | fail)
              go_wp2_with fail
              go_meet
              exact ⟨by rw [← HB9.out], Lib.hid HF9.out.1, Lib.hid HF9.out.2⟩
            · go_region_held3 (fun _ => True) (trivial) (first | (refine step_fits rfl _ _ 183 (by rfl) w.heap.size 186 _ 2 32 el_amb g0 b cp _ (by rfl) HP.out g0 _ (O.length - (b + 1)) _ _ (by rfl) HSf.out (fun u hu => ambC_one O u (List.mem_of_mem_drop hu)) (by omega) ?_; intro w9 o9 hg9))
              obtain ⟨f1, f2⟩ := HFIN.out w9 o9 hg9
              go_wp2_with fail
              go_meet
              exact ⟨by rw [HL2.out], Lib.hid f1, Lib.hid f2⟩
          case rest =>
            obtain ⟨rfl, HU, HXV⟩ := hcut
            have HZ := Lib.hid (show p8 < wc.heap.size ∧ p8 ≠ g0 ∧ p8 ≠ mb ∧ w.heap.size ≤ p8 from ⟨HXV.out.1, fun e => zn.out.1 e.symm, fun e => zn.out.2.1 e.symm, zn.out.2.2⟩)
            have x0 : wc.cell? ⟨p8, 0, none⟩ = some (.string ⟨(om O b).1.toArray⟩) := HXV.out.2 0 _ rfl
            have x1 : wc.cell? ⟨p8, 1, none⟩ = some (.string ⟨(om O b).2.toArray⟩) := HXV.out.2 1 _ rfl
            have hp8 := HXV.out.1
            have hbs := (HB.out b hb).2
            have hbt := (HB.out b hb).1
            have hRl := HJ.out.rl HW8.out HW10.out
            have hbl := Lib.hid hb
            have hgk1 : 0 < gk := by omega
            clear HT HX HL1 HX1 HSf HP zn HB
            by_cases hin : ∃ t, ((om O b).2, t) ∈ R
            · obtain ⟨t, ht⟩ := hin
              have hlook : (Instr.lookup 160 (.map (some mb)) (.string ⟨(om O b).2.toArray⟩) true).run Tryz.prog wc = .ok (.tuple #[.string ⟨t.toArray⟩, .bool true]) wc :=
                HU.out.map.look Tryz.underlying160 Tryz.underlying9 Tryz.underlying9 zeroStr ⟨(om O b).2.toArray⟩ (by unfold maxLen; omega) (by simpa using ht) ⟨wc, Below.refl _ _⟩
              have HJ2 := Lib.hid (HJ.out.drop hb ht)
              rw [HO'.out] at HJ2
              clear ht
              go_wp2_with fail
              go_roundg (gk - 1)
              case measure => omega
              case rel => exact ⟨some ⟨g0, 0, none⟩, cp, O', R, rfl, HU, HJ2, by have := HLEN.out; omega⟩
            · have hni : ∀ t, ((om O b).2, t) ∉ R := fun t ht => hin ⟨t, ht⟩
              obtain ⟨y, hy⟩ := HU.out.map.look_no Tryz.underlying160 Tryz.underlying9 Tryz.underlying9 zeroStr ⟨(om O b).2.toArray⟩ (by unfold maxLen; omega) (by simpa using hni)
              have hlook : (Instr.lookup 160 (.map (some mb)) (.string ⟨(om O b).2.toArray⟩) true).run Tryz.prog wc = .ok (.tuple #[.string y, .bool false]) wc := hy ⟨wc, Below.refl _ _⟩
              have HS1 := Lib.hid (show (⟨(om O b).2.toArray⟩ : ByteArray).size ≤ maxLen by unfold maxLen; omega)
              have HS2 := Lib.hid (show (⟨(om O b).1.toArray⟩ : ByteArray).size ≤ maxLen by unfold maxLen; omega)
              have HN := Lib.hid (show ∀ z, ((⟨(om O b).2.toArray⟩ : ByteArray).data.toList, z) ∉ R by simpa using hni)
              have HM3 := Lib.hid (show R.length < maxLen by unfold maxLen; omega)
              have hmin := HM.out
              have HJ2 := Lib.hid (HJ.out.take HW8.out HW10.out hb (fun q hq => by
                obtain ⟨j, hj, rfl⟩ := List.getElem_of_mem hq
                have := hmin j hj
                rw [om, om, List.getD_eq_getElem?_getD, List.getD_eq_getElem?_getD, List.getElem?_eq_getElem hj] at this
                rw [om, List.getD_eq_getElem?_getD]
                exact this) hni)
              rw [HO'.out] at HJ2
              have hRl2 : R.length + 1 ≤ 90 := by have := HJ2.out.rl HW8.out HW10.out; simpa using this
              clear hy hin hni hmin
              go_upto_region 15 with (at_mapUpdate; refine wpl_txtPut _ rfl _ _ _ 160 rfl 9 9 Tryz.underlying160 Tryz.underlying9 Tryz.underlying9 mb R.length R rfl HU.out.map HM3.out ⟨(om O b).2.toArray⟩ ⟨(om O b).1.toArray⟩ HS1.out HS2.out HN.out rfl rfl ?_; intro w9 hset9 hgr9)
              have HU9 := Lib.hid (HU.out.put (r := (om O b).2) (t := (om O b).1) (by simpa using hset9) hgr9)
              have y0 := hgr9.cell x0 (by intro e; injection e with e; exact HZ.out.2.2.1 e)
              have y1 := hgr9.cell x1 (by intro e; injection e with e; exact HZ.out.2.2.1 e)
              have HZ9 := Lib.hid (show p8 < w9.heap.size ∧ p8 ≠ g0 ∧ p8 ≠ mb ∧ w.heap.size ≤ p8 from ⟨Nat.lt_of_lt_of_le hp8 hgr9.size, HZ.out.2⟩)
              have hp9 := HZ9.out.1
              clear hset9 hgr9 x0 x1 hlook HU HXV HZ hp8 HM HM3 HS1 HS2 HN
              by_cases hr0 : (om O b).2 = []
              · have he : (⟨(om O b).2.toArray⟩ : ByteArray).toList.isEmpty = true := isEmpty_yes (by show (om O b).2.length = 0; rw [hr0]; rfl)
                have he2 : (om O b).2.isEmpty = true := by rw [hr0]; rfl
                rw [if_pos hr0, List.append_nil] at HJ2
                clear hr0
                go_wp2_with fail
                go_roundg (gk - 1)
                case measure => omega
                case rel => exact ⟨some ⟨g0, 0, none⟩, cp, O', _, rfl, HU9, HJ2, by have := HLEN.out; rw [List.length_cons]; omega⟩
              · have he : (⟨(om O b).2.toArray⟩ : ByteArray).toList.isEmpty = false := isEmpty_no (by
                  show 0 < (om O b).2.length
                  exact List.length_pos_iff.2 hr0)
                have he2 : (om O b).2.isEmpty = false := by simpa using hr0
                rw [if_neg hr0] at HJ2
                have HR0 := Lib.hid hr0
                clear hr0
                go_wp2_with fail
                go_loopw [3, 68] (fun t3 t68 wr => ∃ (k : Nat) (g1 : Option Addr) (c1 : Nat) (O1 : List Amb), k ≤ ws.length ∧ t68 = i64 k ∧ t3 = .slice g1 O1.length c1 ∧ Hid (O1 = O' ++ succs (om O b) ((lists ws).take k)) ∧ Hid (RS w wr g1 c1 mb O1 (((om O b).2, (om O b).1) :: R)) ∧ Hid (Box wr p8 #[.string ⟨(om O b).1.toArray⟩, .string ⟨(om O b).2.toArray⟩] ∧ (Value.slice g1 O1.length c1).ownBlock ≠ some p8)) (fun _ t68 _ => ws.length - (intOf t68).toNat)
                case atStart => exact ⟨0, some ⟨g0, 0, none⟩, cp, O', by omega, rfl, rfl, Lib.hid (by simp [succs]), HU9, Lib.hid ⟨⟨hp9, fun i u hu => by
                  match i, hu with
                  | 0, hu => injection hu with hu; subst hu; exact y0
                  | 1, hu => injection hu with hu; subst hu; exact y1⟩, fun e => by injection e with e; exact HZ9.out.2.1 e.symm⟩⟩
                case round =>
                  obtain ⟨k, g1, c1, O1, hk, rfl, rfl, HE, HV, HX⟩ := hrel
                  clear HU9 y0 y1 hp9
                  by_cases hlk : k < ws.length
                  · obtain ⟨bw, ow, rfl, hbw, cw⟩ := wd_at (HR.out.below HV.out.bel) hlk
                    have cw := cw k hlk
                    have sw := H8.out k hlk
                    have v0 : wr.cell? ⟨p8, 0, none⟩ = some (.string ⟨(om O b).1.toArray⟩) := HX.out.1.2 0 _ rfl
                    have v1 : wr.cell? ⟨p8, 1, none⟩ = some (.string ⟨(om O b).2.toArray⟩) := HX.out.1.2 1 _ rfl
                    have hv := HX.out.1.1
                    have hOl1 : O1.length ≤ 2000 := by
                      have h0 := HLEN.out
                      rw [HE.out, List.length_append]
                      have h1 := succs_len (om O b) ((lists ws).take k)
                      have h2 := HW10.out
                      rw [List.length_take] at h1
                      omega
                    have hstep : succs (om O b) ((lists ws).take (k + 1)) = succs (om O b) ((lists ws).take k) ++ (match exR (om O b).2 (wd ws k).data.toList with | some q => [((om O b).1 ++ q.1, q.2)] | none => []) := by
                      have e : (lists ws).take (k + 1) = (lists ws).take k ++ [(wd ws k).data.toList] := by rw [List.take_succ, lists_get hlk]; rfl
                      rw [e, succs_snoc]
                      cases exR (om O b).2 (wd ws k).data.toList <;> rfl
                    have haf : ∀ V : World, Calls Tryz.prog 171 #[amv ⟨(om O b).1.toArray⟩ ⟨(om O b).2.toArray⟩, .string (wd ws k)] V fun e w' => e = .returned (amO ⟨(om O b).1.toArray⟩ ⟨(om O b).2.toArray⟩ (exR (om O b).2 (wd ws k).data.toList)) ∧ UpOf V w' := fun V => by
                      have := after_any ⟨(om O b).1.toArray⟩ ⟨(om O b).2.toArray⟩ (wd ws k) V (by omega) (by omega) (by omega)
                      simpa using this
                    cases hx : exR (om O b).2 (wd ws k).data.toList with
                    | none =>
                      have HA : Hid (∀ V : World, Calls Tryz.prog 171 #[amv ⟨(om O b).1.toArray⟩ ⟨(om O b).2.toArray⟩, .string (wd ws k)] V fun e w' => e = .returned (.tuple #[amv ⟨#[]⟩ ⟨#[]⟩, .bool false]) ∧ UpOf V w') := Lib.hid (by rw [hx] at haf; exact haf)
                      have HE2 := Lib.hid (show O1 = O' ++ succs (om O b) ((lists ws).take (k + 1)) by rw [hstep, hx, List.append_nil, HE.out])
                      clear haf hx hstep HE
                      go_wp2_with (first | (go_at_call 171; refine (HA.out _).mono ?_; rintro e w' ⟨rfl, g, rfl⟩) | ((with_reducible refine wp_region_up (by kernel_rfl) (by kernel_rfl) ?_); (repeat (go_big_quiet_step (first | (go_at_call 171; first | exact upq_tr (HA.out _) | exact upq (HA.out _))))); refine wpQuiet_nil ?_; intro _ hw'; obtain ⟨nq, hw''⟩ := hw'; subst hw''))
                      go_roundw
                      case rel => exact ⟨k + 1, g1, c1, O1, by omega, by go_num, rfl, HE2, Lib.hid (HV.out.below (BL.o (by repeat constructor))), Lib.hid ⟨HX.out.1.below (BL.o (by repeat constructor)), HX.out.2⟩⟩
                      case measure => simp [intOf]; try omega
                    | some q =>
                      obtain ⟨T, hT⟩ : ∃ T : ByteArray, (⟨((om O b).1 ++ q.1).toArray⟩ : ByteArray) = T := ⟨_, rfl⟩
                      obtain ⟨X, hX⟩ : ∃ X : ByteArray, (⟨q.2.toArray⟩ : ByteArray) = X := ⟨_, rfl⟩
                      have HA : Hid (∀ V : World, Calls Tryz.prog 171 #[amv ⟨(om O b).1.toArray⟩ ⟨(om O b).2.toArray⟩, .string (wd ws k)] V fun e w' => e = .returned (.tuple #[amv T X, .bool true]) ∧ UpOf V w') := Lib.hid (by
                        rw [hx] at haf
                        rw [← hT, ← hX]
                        simpa [amO] using haf)
                      have HE2 := Lib.hid (show O1 ++ [(T.data.toList, X.data.toList)] = O' ++ succs (om O b) ((lists ws).take (k + 1)) by
                        rw [hstep, hx, HE.out, List.append_assoc, ← hT, ← hX])
                      clear haf hx hstep HE hT hX
                      go_upto_region 21 with (go_at_call 171; refine (HA.out _).mono ?_; rintro e w' ⟨rfl, g5, rfl⟩)
                      obtain ⟨C, hC⟩ : ∃ C, Obj.cells #[Value.string T, Value.string X] 186 = C := ⟨_, rfl⟩
                      have hrds : Rds (up wr ((g5.al (.cells #[.string T, .string X] 186)).al (.cells #[.string T, .string X] 186))) 2 (some ⟨(up wr g5).heap.size + 1, 0, none⟩) 1 [.string T, .string X] := by
                        have := rds_new (up wr (g5.al (.cells #[.string T, .string X] 186))) #[.string T, .string X] 186 2 1 rfl
                        rw [size_al] at this
                        exact this
                      have hbel : Below wr.heap.size wr (up wr ((g5.al (.cells #[.string T, .string X] 186)).al (.cells #[.string T, .string X] 186))) := up_below _ _
                      have HV2 := Lib.hid (HV.out.below hbel)
                      have HX2 := Lib.hid (show Box (up wr ((g5.al (.cells #[.string T, .string X] 186)).al (.cells #[.string T, .string X] 186))) p8 #[.string ⟨(om O b).1.toArray⟩, .string ⟨(om O b).2.toArray⟩] ∧ (Value.slice g1 O1.length c1).ownBlock ≠ some p8 from ⟨HX.out.1.below hbel, HX.out.2⟩)
                      have hone : ∀ u ∈ [Value.string T, Value.string X], u.oneCell' = true := fun u hu => by
                        simp only [List.mem_cons, List.not_mem_nil, or_false] at hu
                        obtain rfl | rfl := hu <;> rfl
                      have HRD := Lib.hid hrds
                      have HONE := Lib.hid hone
                      have HOWN := Lib.hid HV2.out.own
                      have hm1 : O1.length + 1 ≤ maxLen := by unfold maxLen; omega
                      have hm2 : (O1.length + 1) * 32 ≤ 140737488355328 := by omega
                      have hm3 := Lib.hid HV2.out.bel.size
                      clear hrds hbel hone HV HX v0 v1 hv cw hC C
                      go_wp2_with (at_builtin; refine wpl_appAt rfl _ _ 183 rfl w.heap.size 186 _ 2 32 el_amb (.slice g1 O1.length c1) O1.length (ambC O1) rfl HOWN.out _ 1 1 _ rfl HRD.out HONE.out (by omega) hm1 hm2 hm3.out ?_; intro g9 c9 wq o9 hg9 hat9; have HG9 := Lib.hid hg9; have O9 := Lib.hid o9; have HAT := Lib.hid hat9; clear hg9 o9 hat9)
                      go_roundw
                      case rel => exact ⟨k + 1, some ⟨g9, 0, none⟩, c9, O1 ++ [(T.data.toList, X.data.toList)], by omega, by go_num, congrArg (fun n => Value.slice (some ⟨g9, 0, none⟩) n c9) (by simp), HE2, Lib.hid (HV2.out.add (by rw [amb_cells]; exact O9.out) HG9.out HAT.out),
                        Lib.hid ⟨⟨Nat.lt_of_lt_of_le HX2.out.1.1 HG9.out.size, fun i u hu => HG9.out.cell (HX2.out.1.2 i u hu) (fun e => HX2.out.2 e.symm)⟩, fun e => by
                          injection e with e
                          rcases HAT.out with h | h
                          · exact HX2.out.2 (by rw [h]; exact congrArg some e)
                          · have := HX2.out.1.1
                            have e' : g9 = p8 := e
                            omega⟩⟩
                      case measure => simp [intOf]; try omega
                  · obtain rfl : k = ws.length := by omega
                    have HE2 := Lib.hid (show O1 = O' ++ succs (om O b) (lists ws) by rw [HE.out, List.take_of_length_le (by rw [lists_len]; exact Nat.le_refl _)])
                    have HJ3 := Lib.hid (show JW (lists ws) O1 (((om O b).2, (om O b).1) :: R) by rw [HE2.out]; exact HJ2.out)
                    have hOl3 : O1.length ≤ O'.length + 10 := by
                      rw [HE2.out, List.length_append]
                      have h1 := succs_len (om O b) (lists ws)
                      have h2 := HW10.out
                      omega
                    go_wp2_with fail
                    go_roundg (gk - 1)
                    case measure => omega
                    case rel => exact ⟨g1, c1, O1, _, rfl, HV, HJ3, by have := HLEN.out; rw [List.length_cons]; omega⟩
end Go.Proofs.YtbianlkenallaaaGreatDoor
namespace Go.Proofs.YtbianlkenallaaaGreatDoor
open Go.RowKit
set_option maxRecDepth 10000 in
set_option maxHeartbeats 2000000 in
theorem validCode_any (A : Option Addr) (c : Nat) (ws : List ByteArray) (w : World) (h : Rds w 1 A ws.length (strs ws)) (hn : ws.length ≤ 100000000) (hf : ∀ i, i < ws.length → (wd ws i).size ≤ 100000000) :
    Calls Tryz.prog 128 #[.slice A ws.length c] w fun e w' => e = .returned (.bool (vCode ws)) ∧ UpOf w w' := by
  have HF := Lib.hid hf
  clear hf
  have hmm := @run_makeMap Tryz.prog
  go_enter Tryz.func128, Tryz.ntmps128
  go_wp2_with (first | ((with_reducible refine wp_region_up (by kernel_rfl) (by kernel_rfl) ?_); (repeat (go_big_quiet_step (fail))); refine wpQuiet_nil ?_; intro _ hw'; obtain ⟨nq, hw''⟩ := hw'; subst hw''))
  go_loopw [9] (fun i wr => ∃ k : Nat, k ≤ ws.length ∧ i = i64 k ∧ Hid (∀ j, j < k → wdOk ws j = true) ∧ ∃ S, SetAt wr Tryz.prog 9 4 w.heap.size k S ∧ Hid (namesW ws k S) ∧ Below w.heap.size w wr) (fun i _ => ws.length - (intOf i).toNat)
  case atStart => exact ⟨0, by omega, rfl, fun i hi => by omega, [], SetAt.made _ _ _ _, fun s => by simp, (BL.o (by repeat constructor))⟩
  case round =>
    obtain ⟨k, hk, rfl, hok, S, hset, hnm, hbel⟩ := hrel
    by_cases hlt : k < ws.length
    · obtain ⟨b, off, rfl, hb, c0⟩ := wd_at (h.below hbel) hlt
      have c0 := c0 k hlt
      have f1 := HF.out k hlt
      have hBl := hset.lt
      have HSET := Lib.hid hset
      have HBEL := Lib.hid hbel
      by_cases z : (wd ws k).size = 0
      · have hz := isEmpty_yes z
        have hf := Lib.hid (vCode_at hlt (wdOk_1 z))
        clear h hset hbel z
        refine as_up fun g0 => ?_
        go_wp2_with fail
        go_ret
        exact ⟨ret_bool hf.out.symm, UpOf.of (HBEL.out.trans (Below.mono (BL.o (by repeat constructor)) HBEL.out.size))⟩
      have hz := isEmpty_no (s := wd ws k) (by omega)
      cases b1 : txtB 33 8 (wd ws k)
      · have hf := Lib.hid (vCode_at hlt (wdOk_2 b1))
        clear h hset hbel
        refine as_up fun g0 => ?_
        go_wp2_with (first | (go_at_call 134; refine (ret_as (isText_any (wd ws k) 33 8 _ (by omega) (by omega) (by omega)) b1).mono ?_; rintro e w' ⟨rfl, rfl⟩))
        go_ret
        exact ⟨ret_bool hf.out.symm, UpOf.of (HBEL.out.trans (Below.mono (BL.o (by repeat constructor)) HBEL.out.size))⟩
      · cases b2 : memB S (wd ws k)
        · have hq := Lib.hid (wdOk_fresh hnm.out (by omega) b1 b2)
          have hlook : ∀ g : Up wr, (Instr.lookup 146 (.map (some w.heap.size)) (.string (wd ws k)) false).run Tryz.prog (up wr g) = .ok (.bool false) (up wr g) := fun g => ((HSET.out.up g).look Tryz.underlying146 Tryz.underlying9 Tryz.underlying4 (zeroBoolD _) (wd ws k) (by unfold maxLen; omega)).trans (by rw [b2])
          clear h hset hbel
          refine as_up fun g0 => ?_
          go_wp2_with (first | (go_at_call 134; refine (ret_as (isText_any (wd ws k) 33 8 _ (by omega) (by omega) (by omega)) b1).mono ?_; rintro e w' ⟨rfl, rfl⟩) | (at_mapUpdate; refine wpl_setPut _ rfl _ _ _ 146 rfl 9 4 Tryz.underlying146 Tryz.underlying9 Tryz.underlying4 w.heap.size k S rfl (HSET.out.below (BL.o (by repeat constructor))) (by unfold maxLen; omega) (wd ws k) (by unfold maxLen; omega) rfl rfl ?_; intro w1 hset1 hgr1))
          go_roundw
          case rel =>
            have hx := lt_ext (P := fun j => wdOk ws j = true) hok.out hq.out
            exact ⟨k + 1, by omega, by go_num, hx, _, hset1, namesW_step hnm.out, (HBEL.out.trans (Below.mono (BL.o (by repeat constructor)) HBEL.out.size)).grown hgr1 (Nat.le_trans HBEL.out.size (up_below _ _).size) (fun j hj => by injection hj with hj; omega)⟩
          case measure => (simp [intOf]; try omega)
        · have hf := Lib.hid (vCode_at hlt (wdOk_memB hnm.out b2))
          have hlook : ∀ g : Up wr, (Instr.lookup 146 (.map (some w.heap.size)) (.string (wd ws k)) false).run Tryz.prog (up wr g) = .ok (.bool true) (up wr g) := fun g => ((HSET.out.up g).look Tryz.underlying146 Tryz.underlying9 Tryz.underlying4 (zeroBoolD _) (wd ws k) (by unfold maxLen; omega)).trans (by rw [b2])
          clear h hset hbel
          refine as_up fun g0 => ?_
          go_wp2_with (first | (go_at_call 134; refine (ret_as (isText_any (wd ws k) 33 8 _ (by omega) (by omega) (by omega)) b1).mono ?_; rintro e w' ⟨rfl, rfl⟩))
          go_ret
          exact ⟨ret_bool hf.out.symm, UpOf.of (HBEL.out.trans (Below.mono (BL.o (by repeat constructor)) HBEL.out.size))⟩
    · obtain rfl : k = ws.length := by omega
      by_cases q : ws.length ≤ 10
      · have hf := Lib.hid (vCode_true q hok.out)
        go_wp2_with (first | ((with_reducible refine wp_region_up (by kernel_rfl) (by kernel_rfl) ?_); (repeat (go_big_quiet_step (fail))); refine wpQuiet_nil ?_; intro _ hw'; obtain ⟨nq, hw''⟩ := hw'; subst hw''))
        go_ret
        exact ⟨ret_bool (by rw [hf.out]; exact decide_eq_true (by omega)), UpOf.of hbel⟩
      · have hf := Lib.hid (vCode_len (ws := ws) (by omega))
        have q' : decide (ws.length ≤ 10) = false := decide_eq_false q
        go_wp2_with (first | ((with_reducible refine wp_region_up (by kernel_rfl) (by kernel_rfl) ?_); (repeat (go_big_quiet_step (fail))); refine wpQuiet_nil ?_; intro _ hw'; obtain ⟨nq, hw''⟩ := hw'; subst hw''))
        go_ret
        exact ⟨ret_bool (by rw [hf.out]; exact decide_eq_false (by omega)), UpOf.of hbel⟩
end Go.Proofs.YtbianlkenallaaaGreatDoor
namespace Go.Proofs.YtbianlkenallaaaGreatDoor
open Go.RowKit
theorem vCode_8 {ws : List ByteArray} (h : vCode ws = true) : ws.length ≤ 10 ∧ ∀ i, i < ws.length → (wd ws i).size ≤ 8 := by
  obtain ⟨h1, h2⟩ := vCode_inv h
  exact ⟨h1, fun i hi => (txtB_inv (h2 i hi).2.1).1⟩
set_option maxRecDepth 10000 in
set_option maxHeartbeats 2000000 in
theorem twoReadings_any {two : List ByteArray → ByteArray × Int} (h2 : TwoOk two) (A : Option Addr) (c : Nat) (ws : List ByteArray) (w : World) (h : Rds w 1 A ws.length (strs ws)) (hn : ws.length ≤ 100000000) (hf : ∀ i, i < ws.length → (wd ws i).size ≤ 100000000) :
    Calls Tryz.prog 75 #[.slice A ws.length c] w fun e w' => e = .returned (.tuple #[.string (two ws).1, i64 (two ws).2]) ∧ UpOf w w' := by
  have HR := Lib.hid h
  have HF := Lib.hid hf
  clear h hf
  cases hv : vCode ws with
  | false =>
    have hr := Lib.hid ((h2 ws).2 hv)
    go_enter Tryz.func75, Tryz.ntmps75
    go_wp2_with (first | (go_at_call 128; refine (ret_as (validCode_any A c ws _ (HR.out.below (BL.o (by repeat constructor))) hn HF.out) hv).mono ?_; rintro e w' ⟨rfl, g, rfl⟩) | ((with_reducible refine wp_region_up (by kernel_rfl) (by kernel_rfl) ?_); (repeat (go_big_quiet_step (first | (go_at_call 128; first | exact upq_tr (ret_as (validCode_any A c ws _ (HR.out.below (BL.o (by repeat constructor))) hn HF.out) hv) | exact upq (ret_as (validCode_any A c ws _ (HR.out.below (BL.o (by repeat constructor))) hn HF.out) hv))))); refine wpQuiet_nil ?_; intro _ hw'; obtain ⟨nq, hw''⟩ := hw'; subst hw''))
    go_ret2
    rw [hr.out]
    exact ⟨rfl, UpOf.of (BL.o (by repeat constructor))⟩
  | true =>
    have h8 := vCode_8 hv
    have HT := Lib.hid ((h2 ws).1 hv)
    have HRT : Hid (∀ V, Below w.heap.size w V → Calls Tryz.prog 129 #[.slice A ws.length c] V fun e w' => rtPost ws V e w') := Lib.hid fun V hV => restTexts_any A c ws V (HR.out.below hV) h8.1 h8.2
    clear h8
    go_enter Tryz.func75, Tryz.ntmps75
    go_wp2_with fail
    refine (ret_as (validCode_any A c ws _ (HR.out.below (BL.o (by repeat constructor))) hn HF.out) hv).mono ?_
    rintro e w' ⟨rfl, g1, rfl⟩
    go_wp2_with fail
    refine (HRT.out _ (BL.o (by repeat constructor))).mono ?_
    rintro e w' ⟨mb, R, rfl, hm, hd, g2, rfl⟩
    have h3 := hd.two
    by_cases hin : ∃ t, (([] : List UInt8), t) ∈ R
    · obtain ⟨t, ht⟩ := hin
      have hlook := hm.look Tryz.underlying160 Tryz.underlying9 Tryz.underlying9 zeroStr ⟨#[]⟩ (by unfold maxLen; decide) ht ⟨_, Below.refl _ _⟩
      have hres := Lib.hid (show ((two ws).1, (two ws).2) = (⟨t.toArray⟩, 0) by
        obtain ⟨e1, e2⟩ := HT.out.uniq (h3.1 t ht)
        rw [← e1, e2, show (⟨(two ws).1.data.toList.toArray⟩ : ByteArray) = (two ws).1 from bs_of _])
      have HL := Lib.hid hlook
      clear h3 hd hm ht hlook
      replace HL : (Instr.lookup 160 (.map (some mb)) (.string ⟨#[]⟩) true).run Tryz.prog (up w (g1.tr g2)) = .ok (.tuple #[.string ⟨t.toArray⟩, .bool true]) (up w (g1.tr g2)) := HL.out
      go_wp2_with fail
      go_ret2
      have e := hres.out
      rw [Prod.mk.injEq] at e
      rw [e.1, e.2]
      exact ⟨rfl, UpOf.of (BL.o (by repeat constructor))⟩
    · have hni : ∀ t, (([] : List UInt8), t) ∉ R := fun t ht => hin ⟨t, ht⟩
      obtain ⟨y, hy⟩ := hm.look_no Tryz.underlying160 Tryz.underlying9 Tryz.underlying9 zeroStr ⟨#[]⟩ (by unfold maxLen; decide) hni
      have hres := Lib.hid (show ((two ws).1, (two ws).2) = (⟨#[]⟩, 3) by
        obtain ⟨e1, e2⟩ := HT.out.uniq (h3.2 hni)
        rw [e2, ← bs_of (two ws).1, e1])
      have HL := Lib.hid (hy ⟨_, Below.refl _ _⟩)
      clear h3 hd hm hy hni hin
      replace HL : (Instr.lookup 160 (.map (some mb)) (.string ⟨#[]⟩) true).run Tryz.prog (up w (g1.tr g2)) = .ok (.tuple #[.string y, .bool false]) (up w (g1.tr g2)) := HL.out
      go_wp2_with fail
      go_ret2
      have e := hres.out
      rw [Prod.mk.injEq] at e
      rw [e.1, e.2]
      exact ⟨rfl, UpOf.of (BL.o (by repeat constructor))⟩
/-- a text as a number: less is less -/
def valB : List UInt8 → Nat
  | [] => 0
  | c :: t => c.toNat * 256 ^ t.length + valB t
theorem valB_lt : ∀ l, valB l < 256 ^ l.length
  | [] => by simp [valB]
  | c :: t => by
    have h1 := valB_lt t
    have h2 := UInt8.toNat_lt c
    rw [valB, List.length_cons, Nat.pow_succ]
    have : c.toNat * 256 ^ t.length ≤ 255 * 256 ^ t.length := Nat.mul_le_mul_right _ (by omega)
    omega
theorem valB_less : ∀ a b : List UInt8, a.length = b.length → Op.bytesLess a b = true → valB a < valB b
  | [], [], _, h => by simp [Op.bytesLess] at h
  | [], _ :: _, h, _ => by simp at h
  | _ :: _, [], h, _ => by simp at h
  | a :: x, b :: y, hl, h => by
    have hl' : x.length = y.length := by simpa using hl
    simp only [Op.bytesLess, Bool.or_eq_true, Bool.and_eq_true, decide_eq_true_eq, beq_iff_eq] at h
    rw [valB, valB, hl']
    rcases h with h | ⟨rfl, h⟩
    · have h1 := valB_lt x
      rw [hl'] at h1
      rw [UInt8.lt_iff_toNat_lt] at h
      have : (a.toNat + 1) * 256 ^ y.length ≤ b.toNat * 256 ^ y.length := Nat.mul_le_mul_right _ h
      rw [Nat.add_mul] at this
      omega
    · have := valB_less x y hl' h
      omega
def valN (l : List UInt8) : Nat := 256 ^ l.length + valB l
theorem valN_less {a b : List UInt8} (h : lessT a b = true) : valN a < valN b := by
  rcases lessT_iff.1 h with h | ⟨h1, h2⟩
  · have h1 := valB_lt a
    have h2 : 256 ^ (a.length + 1) ≤ 256 ^ b.length := Nat.pow_le_pow_right (by omega) h
    rw [Nat.pow_succ] at h2
    unfold valN
    omega
  · have := valB_less a b h1 h2
    unfold valN
    rw [h1]
    omega
/-- what TwoReadings answers exists -/
theorem two_ex : ∃ two, TwoOk two := by
  have key : ∀ ws : List ByteArray, ∃ r : ByteArray × Int, (vCode ws = true → IsTwo (lists ws) r.1.data.toList r.2) ∧ (vCode ws = false → r = (⟨#[]⟩, 1)) := fun ws => by
    cases hv : vCode ws with
    | false => exact ⟨(⟨#[]⟩, 1), fun h => (by cases h), fun _ => rfl⟩
    | true =>
      by_cases hs : ∃ s, Rst (lists ws) [] s
      · obtain ⟨s, hs⟩ := hs
        obtain ⟨n, ⟨t, ht, hn⟩, hmin⟩ := exists_least (p := fun n => ∃ t, Rst (lists ws) [] t ∧ valN t = n) ⟨_, s, hs, rfl⟩
        refine ⟨(⟨t.toArray⟩, 0), fun _ => .inl ⟨rfl, ht, fun u hu => ?_⟩, fun h => (by cases h)⟩
        show lessT u t = false
        cases hl : lessT u t
        · rfl
        · have h1 := valN_less hl
          have h2 := hmin _ ⟨u, hu, rfl⟩
          omega
      · exact ⟨(⟨#[]⟩, 3), fun _ => .inr ⟨rfl, rfl, fun s h => hs ⟨s, h⟩⟩, fun h => (by cases h)⟩
  exact ⟨fun ws => Classical.choose (key ws), fun ws => Classical.choose_spec (key ws)⟩
end Go.Proofs.YtbianlkenallaaaGreatDoor
namespace Go.Proofs.YtbianlkenallaaaGreatDoor
open Go.RowKit
set_option maxRecDepth 10000 in
set_option maxHeartbeats 8000000 in
theorem btRow_any (d : DeskD) (A B : Option Addr) (c e : Nat) (s t : ByteArray) (w : World) (hts : t.size ≤ 1048576) (hk : kindOf s = 10) (hS : DSee w d A B) (hz : DkSz d e) :
    Calls Tryz.prog 31 #[dkv d A B c e, .string s, .string t] w fun r w' => mdPost d (sent (rowR d.stops t)) A B c e w r w' := by
  have HS := Lib.hid hS
  have HZ := Lib.hid hz
  have q10 : (s.toList == [114, 111, 119]) = true := by
    have := kind_test2 s (i := 10) (by omega)
    rw [hk] at this
    exact this
  obtain ⟨R1, hR1⟩ : ∃ R1, (rowR d.stops t).1 = R1 := ⟨_, rfl⟩
  obtain ⟨R2, hR2⟩ : ∃ R2, (rowR d.stops t).2 = R2 := ⟨_, rfl⟩
  have hRR : rowR d.stops t = (R1, R2) := by rw [← hR1, ← hR2]
  have HTF : Hid (∀ V, Rds V 1 A d.stops.length (ics d.stops) → Calls Tryz.prog 74 #[.slice A d.stops.length c, .string t] V fun e w' => e = .returned (.tuple #[.string R1, i64 R2]) ∧ UpOf V w') := Lib.hid fun V hr => by
    have := rowPlanR_any t A c d.stops V (by omega) hr HZ.out.s
    rw [hR1, hR2] at this
    exact this
  rw [hRR]
  clear hS hz hk hR1 hR2 hRR
  go_enter Tryz.func31, Tryz.ntmps31
  go_upto_region 1 with (fail)
  refine wpg (R := fun V => Hid (MD w V w.heap.size (w.heap.size + 1) (dkcs d A B c e))) (Lib.hid (MD.new _ _)) (fun V z => ?_)
  generalize hp9 : w.heap.size = p at z ⊢
  generalize hq9 : p + 1 = q at z ⊢
  clear hp9 hq9
  go_upto_region 3 with (fail)
  refine wpg (R := fun U => Hid (MD w U p q (dkcs d A B c e))) z (fun U z => ?_)
  have HL := Lib.hid (HS.out.1.below z.out.up.below)
  have hC : cel8 U.drew p d A B c e := z.out.cel
  refine wp_region_T (fun U => U.cell? ⟨p, 0, none⟩ = some (i64 (d).b.bars) ∧ U.cell? ⟨p, 1, none⟩ = some (i64 (d).b.rise) ∧ U.cell? ⟨p, 2, none⟩ = some (i64 (d).b.fall) ∧ U.cell? ⟨p, 3, none⟩ = some (i64 (d).b.clr) ∧ U.cell? ⟨p, 4, none⟩ = some (i64 (d).b.near) ∧ U.cell? ⟨p, 5, none⟩ = some (.slice A (d).stops.length c) ∧ U.cell? ⟨p, 6, none⟩ = some (.slice B (d).drills.length e) ∧ U.cell? ⟨p, 7, none⟩ = some (.string (d).log)) 9 (by kernel_rfl) ?_
  
  refine wpAnyT_load (i := 0) (v := ?_) rfl (by kernel_rfl) (by kernel_rfl) (by kernel_rfl) (by decide) (by kernel_rfl) (by kernel_rfl) (fun _ _ _ h => h) (Or.inl ⟨by rfl, ?_⟩) hC ?_
  rotate_left
  · intro w hSw; (try dsimp only at hSw); go_simp; try (with_reducible rfl)
  try simp only [Act.put, List.setIfInBounds_toArray, List.set_cons_zero, List.set_cons_succ]
  refine wpAnyT_pure (i := 1) (v := ?_) rfl (by kernel_rfl) (by kernel_rfl) (by kernel_rfl) (by decide) (fun _ _ _ h => h) (Or.inl ⟨by rfl, ?_⟩) (fun _ => hC) ?_
  rotate_left
  · intro w _; go_simp; try (with_reducible rfl)
  try simp only [Act.put, List.setIfInBounds_toArray, List.set_cons_zero, List.set_cons_succ]
  refine wpAnyT_load (i := 2) (v := ?_) rfl (by kernel_rfl) (by kernel_rfl) (by kernel_rfl) (by decide) (by kernel_rfl) (by kernel_rfl) (fun _ _ _ h => h) (Or.inl ⟨by rfl, ?_⟩) hC ?_
  rotate_left
  · intro w hSw; (try dsimp only at hSw); go_simp; try (with_reducible rfl)
  try simp only [Act.put, List.setIfInBounds_toArray, List.set_cons_zero, List.set_cons_succ]
  refine wpAnyT_pure (i := 3) (v := ?_) rfl (by kernel_rfl) (by kernel_rfl) (by kernel_rfl) (by decide) (fun _ _ _ h => h) (Or.inl ⟨by rfl, ?_⟩) (fun _ => hC) ?_
  rotate_left
  · intro w _; go_simp; try (with_reducible rfl)
  try simp only [Act.put, List.setIfInBounds_toArray, List.set_cons_zero, List.set_cons_succ]
  refine wpAnyT_one (i := 4) (by kernel_rfl) rfl (fun K hK => ?_)
  go_simp
  go_at_call 74
  refine (HTF.out _ (HL.out.below (BL.o (by repeat constructor)))).mono ?_
  rintro r w' ⟨rfl, gf, rfl⟩
  have z2 := Lib.hid (z.out.below (V' := up U.drew gf) (bl_up (Below.drew (Below.refl _ _)) gf))
  refine hK.out _ _ (fun _ => z2.out.cel) ?_
  clear hK K
  try simp only [Act.put, List.setIfInBounds_toArray, List.set_cons_zero, List.set_cons_succ]
  refine wpAnyT_gen (R := fun U1 => Hid (MD w U1 p q (dkcs d A B c e))) z2 (fun U1 z1 => ?_)
  clear z2 hC z HL
  refine wpAnyT_pure (i := 5) (v := ?_) rfl (by kernel_rfl) (by kernel_rfl) (by kernel_rfl) (by decide) (fun _ _ _ h => h) (Or.inl ⟨by rfl, ?_⟩) (fun _ => z1.out.cel) ?_
  rotate_left
  · intro w _; go_simp; try (with_reducible rfl)
  try simp only [Act.put, List.setIfInBounds_toArray, List.set_cons_zero, List.set_cons_succ]
  refine wpAnyT_pure (i := 6) (v := ?_) rfl (by kernel_rfl) (by kernel_rfl) (by kernel_rfl) (by decide) (fun _ _ _ h => h) (Or.inl ⟨by rfl, ?_⟩) (fun _ => z1.out.cel) ?_
  rotate_left
  · intro w _; go_simp; try (with_reducible rfl)
  try simp only [Act.put, List.setIfInBounds_toArray, List.set_cons_zero, List.set_cons_succ]
  refine wpAnyT_one (i := 7) (by kernel_rfl) rfl (fun K hK => ?_)
  go_simp
  go_at_call 33
  refine (sentence_any R1 R2 _).mono ?_
  rintro r w' ⟨X, n, rfl, ox, gx, rfl⟩
  have z2 := Lib.hid ((z1).out.below (V' := up U1 gx) (bl_up (Below.refl _ _) gx))
  have OX := Lib.hid ox
  clear ox
  refine hK.out _ _ (fun _ => z2.out.cel) ?_
  clear hK K
  try simp only [Act.put, List.setIfInBounds_toArray, List.set_cons_zero, List.set_cons_succ]
  obtain ⟨hqT, r0, r1, r2, r3, r4, r5, r6, r7⟩ := z2.out.rs.eight
  obtain ⟨f0, f1, f2, f3, f4, f5, f6, f7⟩ := z2.out.rs.open8
  refine wpAnyT_one (i := 8) (by kernel_rfl) rfl (fun K hK => ?_)
  go_simp
  refine hK.out _ _ (fun _ => (blk_far8 z2.out.bx z2.out.ne _ _ _ _ _ _ _ _).eight.2) ?_
  clear hK K
  try simp only [Act.put, List.setIfInBounds_toArray, List.set_cons_zero, List.set_cons_succ]
  refine wpAnyT_one (i := 9) (by kernel_rfl) rfl (fun K hK => ?_)
  go_simp
  refine hK.out _ _ (fun h9 => absurd (show true = false from h9) (by decide)) ?_
  clear hK K
  try simp only [Act.put, List.setIfInBounds_toArray, List.set_cons_zero, List.set_cons_succ]
  refine wpAnyT_done (by kernel_rfl) ?_ _
  (try simp only [Act.put, List.getElem_toArray, List.getElem_cons_succ, List.getElem_cons_zero, List.setIfInBounds_toArray, List.set_cons_zero, List.set_cons_succ])
  have hqW0 := (z1).out.rs.lt
  have HLE0 := Lib.hid (z1).out.up.below.size
  go_wp2_with fail
  refine post_gen (R := fun W => Blk W q 31 (dkcs (d) A B c e) ∧ W.ownsRow w.heap.size 9 1 (.slice X (sent (R1, R2)).length n) (sent (R1, R2)).length (strs (sent (R1, R2))) ∧ UpOf w W) ⟨blk_put8 z2.out.rs _ _ _ _ _ _ _ _, own_mono (own_all OX.out hqW0 _ _ _ _ _ _ _ _) HLE0.out, put8_up z2.out.up z2.out.hq _ _ _ _ _ _ _ _⟩ (fun W st => ?_)
  obtain ⟨s1, s2, s3⟩ := st
  obtain ⟨hqW, w0, w1, w2, w3, w4, w5, w6, w7⟩ := s1.eight
  clear s1 r0 r1 r2 r3 r4 r5 r6 r7 f0 f1 f2 f3 f4 f5 f6 f7
  exact bodyPost_ret (v := .tuple #[dkv (d) A B c e, .slice X (sent (R1, R2)).length n]) (by simp [results, Tryz.results31, go_sem, hqW, w0, w1, w2, w3, w4, w5, w6, w7]) rfl ⟨_, _, rfl, s2, s3⟩
set_option maxRecDepth 10000 in
set_option maxHeartbeats 8000000 in
theorem btCode_any {two : List ByteArray → ByteArray × Int} (h2 : TwoOk two) (d : DeskD) (A B : Option Addr) (c e : Nat) (s t : ByteArray) (w : World) (hts : t.size ≤ 1048576) (hk : kindOf s = 2) :
    Calls Tryz.prog 31 #[dkv d A B c e, .string s, .string t] w fun r w' => mdPost d (codeOut (two (wordsA [] t.data.toList))) A B c e w r w' := by
  have q10 : (s.toList == [114, 111, 119]) = false := by
    have := kind_test2 s (i := 10) (by omega)
    rw [hk] at this
    exact this
  have q2 : (s.toList == [99, 111, 100, 101]) = true := by
    have := kind_test2 s (i := 2) (by omega)
    rw [hk] at this
    exact this
  obtain ⟨W, hW⟩ : ∃ W, wordsA [] t.data.toList = W := ⟨_, rfl⟩
  have HW : Hid (∀ V, Calls Tryz.prog 76 #[.string t] V fun e w' => ∃ A c, e = .returned (.slice A W.length c) ∧ w'.ownsRow V.heap.size 9 1 (.slice A W.length c) W.length (strs W) ∧ UpOf V w') := Lib.hid fun V => by
    rw [← hW]; exact splitWords_any t V (by omega)
  have hWl : W.length ≤ 2000000 := by
    have := words_len t.data.toList []
    rw [hW, bsz] at this
    omega
  have HWB : Hid (∀ i, i < W.length → (wd W i).size ≤ 100000000) := Lib.hid fun i hi => by
    have := words_size t.data.toList [] (wd W i) (by rw [hW, ← wd_eq hi]; exact List.getElem_mem hi)
    rw [bsz] at this
    simp at this
    omega
  obtain ⟨R1, hR1⟩ : ∃ R1, (two W).1 = R1 := ⟨_, rfl⟩
  obtain ⟨R2, hR2⟩ : ∃ R2, (two W).2 = R2 := ⟨_, rfl⟩
  have hRR : two W = (R1, R2) := by rw [← hR1, ← hR2]
  have HTR : Hid (∀ V A1 c1, Rds V 1 A1 W.length (strs W) → Calls Tryz.prog 75 #[.slice A1 W.length c1] V fun e w' => e = .returned (.tuple #[.string R1, i64 R2]) ∧ UpOf V w') := Lib.hid fun V A1 c1 hr => by
    have := twoReadings_any h2 A1 c1 W V hr (by omega) HWB.out
    rw [hR1, hR2] at this
    exact this
  rw [hW, hRR]
  clear hk hR1 hR2 hRR hW
  by_cases h3 : R2 = 3
  · have h3' : (R2 == 3) = true := by rw [beq_iff_eq]; exact h3
    have hfin : codeOut (R1, R2) = sent (⟨#[117, 110, 105, 113, 117, 101]⟩, 0) := by rw [codeOut, if_pos h3]; rfl
    rw [hfin]
    clear h3 hfin
    go_enter Tryz.func31, Tryz.ntmps31
    go_upto_region 1 with (fail)
    refine wpg (R := fun V => Hid (MD w V w.heap.size (w.heap.size + 1) (dkcs d A B c e))) (Lib.hid (MD.new _ _)) (fun V z => ?_)
    generalize hp9 : w.heap.size = p at z ⊢
    generalize hq9 : p + 1 = q at z ⊢
    clear hp9 hq9
    go_upto_region 8 with (first | (go_at_call 76; refine (HW.out _).mono ?_; rintro r w' ⟨A1, c1, rfl, o1, g1, rfl⟩) | (go_at_call 75; refine (HTR.out _ A1 c1 (Rds.of_own o1)).mono ?_; rintro r w' ⟨rfl, g2, rfl⟩))
    refine wpg (R := fun U => Hid (MD w U p q (dkcs d A B c e))) (Lib.hid (z.out.below (BL.o (by repeat constructor)))) (fun U z => ?_)
    have hC : cel8 U.drew p d A B c e := z.out.cel
    refine wp_region_T (fun U => U.cell? ⟨p, 0, none⟩ = some (i64 (d).b.bars) ∧ U.cell? ⟨p, 1, none⟩ = some (i64 (d).b.rise) ∧ U.cell? ⟨p, 2, none⟩ = some (i64 (d).b.fall) ∧ U.cell? ⟨p, 3, none⟩ = some (i64 (d).b.clr) ∧ U.cell? ⟨p, 4, none⟩ = some (i64 (d).b.near) ∧ U.cell? ⟨p, 5, none⟩ = some (.slice A (d).stops.length c) ∧ U.cell? ⟨p, 6, none⟩ = some (.slice B (d).drills.length e) ∧ U.cell? ⟨p, 7, none⟩ = some (.string (d).log)) 5 (by kernel_rfl) ?_
    
    refine wpAnyT_load (i := 0) (v := ?_) rfl (by kernel_rfl) (by kernel_rfl) (by kernel_rfl) (by decide) (by kernel_rfl) (by kernel_rfl) (fun _ _ _ h => h) (Or.inl ⟨by rfl, ?_⟩) hC ?_
    rotate_left
    · intro w hSw; (try dsimp only at hSw); go_simp; try (with_reducible rfl)
    try simp only [Act.put, List.setIfInBounds_toArray, List.set_cons_zero, List.set_cons_succ]
    refine wpAnyT_pure (i := 1) (v := ?_) rfl (by kernel_rfl) (by kernel_rfl) (by kernel_rfl) (by decide) (fun _ _ _ h => h) (Or.inl ⟨by rfl, ?_⟩) (fun _ => hC) ?_
    rotate_left
    · intro w _; go_simp; try (with_reducible rfl)
    try simp only [Act.put, List.setIfInBounds_toArray, List.set_cons_zero, List.set_cons_succ]
    refine wpAnyT_pure (i := 2) (v := ?_) rfl (by kernel_rfl) (by kernel_rfl) (by kernel_rfl) (by decide) (fun _ _ _ h => h) (Or.inl ⟨by rfl, ?_⟩) (fun _ => hC) ?_
    rotate_left
    · intro w _; go_simp; try (with_reducible rfl)
    try simp only [Act.put, List.setIfInBounds_toArray, List.set_cons_zero, List.set_cons_succ]
    refine wpAnyT_gen (R := fun U1 => Hid (MD w U1 p q (dkcs d A B c e))) (Lib.hid (z.out.below (V' := U.drew) (Below.drew (Below.refl _ _)))) (fun U1 z1 => ?_)
    refine wpAnyT_one (i := 3) (by kernel_rfl) rfl (fun K hK => ?_)
    go_simp
    go_at_call 33
    refine (sentence_any ⟨#[117, 110, 105, 113, 117, 101]⟩ 0 _).mono ?_
    rintro r w' ⟨X, n, rfl, ox, gx, rfl⟩
    have z2 := Lib.hid ((z1).out.below (V' := up U1 gx) (bl_up (Below.refl _ _) gx))
    have OX := Lib.hid ox
    clear ox
    refine hK.out _ _ (fun _ => z2.out.cel) ?_
    clear hK K
    try simp only [Act.put, List.setIfInBounds_toArray, List.set_cons_zero, List.set_cons_succ]
    obtain ⟨hqT, r0, r1, r2, r3, r4, r5, r6, r7⟩ := z2.out.rs.eight
    obtain ⟨f0, f1, f2, f3, f4, f5, f6, f7⟩ := z2.out.rs.open8
    refine wpAnyT_one (i := 4) (by kernel_rfl) rfl (fun K hK => ?_)
    go_simp
    refine hK.out _ _ (fun _ => (blk_far8 z2.out.bx z2.out.ne _ _ _ _ _ _ _ _).eight.2) ?_
    clear hK K
    try simp only [Act.put, List.setIfInBounds_toArray, List.set_cons_zero, List.set_cons_succ]
    refine wpAnyT_one (i := 5) (by kernel_rfl) rfl (fun K hK => ?_)
    go_simp
    refine hK.out _ _ (fun h9 => absurd (show true = false from h9) (by decide)) ?_
    clear hK K
    try simp only [Act.put, List.setIfInBounds_toArray, List.set_cons_zero, List.set_cons_succ]
    refine wpAnyT_done (by kernel_rfl) ?_ _
    (try simp only [Act.put, List.getElem_toArray, List.getElem_cons_succ, List.getElem_cons_zero, List.setIfInBounds_toArray, List.set_cons_zero, List.set_cons_succ])
    have hqW0 := (z1).out.rs.lt
    have HLE0 := Lib.hid (z1).out.up.below.size
    go_wp2_with fail
    refine post_gen (R := fun W => Blk W q 31 (dkcs (d) A B c e) ∧ W.ownsRow w.heap.size 9 1 (.slice X (sent (⟨#[117, 110, 105, 113, 117, 101]⟩, 0)).length n) (sent (⟨#[117, 110, 105, 113, 117, 101]⟩, 0)).length (strs (sent (⟨#[117, 110, 105, 113, 117, 101]⟩, 0))) ∧ UpOf w W) ⟨blk_put8 z2.out.rs _ _ _ _ _ _ _ _, own_mono (own_all OX.out hqW0 _ _ _ _ _ _ _ _) HLE0.out, put8_up z2.out.up z2.out.hq _ _ _ _ _ _ _ _⟩ (fun W st => ?_)
    obtain ⟨s1, s2, s3⟩ := st
    obtain ⟨hqW, w0, w1, w2, w3, w4, w5, w6, w7⟩ := s1.eight
    clear s1 r0 r1 r2 r3 r4 r5 r6 r7 f0 f1 f2 f3 f4 f5 f6 f7
    exact bodyPost_ret (v := .tuple #[dkv (d) A B c e, .slice X (sent (⟨#[117, 110, 105, 113, 117, 101]⟩, 0)).length n]) (by simp [results, Tryz.results31, go_sem, hqW, w0, w1, w2, w3, w4, w5, w6, w7]) rfl ⟨_, _, rfl, s2, s3⟩
  · have h3' : (R2 == 3) = false := by rw [beq_eq_false_iff_ne]; exact h3
    have hfin : codeOut (R1, R2) = sent (R1, R2) := by rw [codeOut, if_neg h3]
    rw [hfin]
    clear h3 hfin
    go_enter Tryz.func31, Tryz.ntmps31
    go_upto_region 1 with (fail)
    refine wpg (R := fun V => Hid (MD w V w.heap.size (w.heap.size + 1) (dkcs d A B c e))) (Lib.hid (MD.new _ _)) (fun V z => ?_)
    generalize hp9 : w.heap.size = p at z ⊢
    generalize hq9 : p + 1 = q at z ⊢
    clear hp9 hq9
    go_upto_region 8 with (first | (go_at_call 76; refine (HW.out _).mono ?_; rintro r w' ⟨A1, c1, rfl, o1, g1, rfl⟩) | (go_at_call 75; refine (HTR.out _ A1 c1 (Rds.of_own o1)).mono ?_; rintro r w' ⟨rfl, g2, rfl⟩))
    refine wpg (R := fun U => Hid (MD w U p q (dkcs d A B c e))) (Lib.hid (z.out.below (BL.o (by repeat constructor)))) (fun U z => ?_)
    have hC : cel8 U.drew p d A B c e := z.out.cel
    refine wp_region_T (fun U => U.cell? ⟨p, 0, none⟩ = some (i64 (d).b.bars) ∧ U.cell? ⟨p, 1, none⟩ = some (i64 (d).b.rise) ∧ U.cell? ⟨p, 2, none⟩ = some (i64 (d).b.fall) ∧ U.cell? ⟨p, 3, none⟩ = some (i64 (d).b.clr) ∧ U.cell? ⟨p, 4, none⟩ = some (i64 (d).b.near) ∧ U.cell? ⟨p, 5, none⟩ = some (.slice A (d).stops.length c) ∧ U.cell? ⟨p, 6, none⟩ = some (.slice B (d).drills.length e) ∧ U.cell? ⟨p, 7, none⟩ = some (.string (d).log)) 5 (by kernel_rfl) ?_
    
    refine wpAnyT_load (i := 0) (v := ?_) rfl (by kernel_rfl) (by kernel_rfl) (by kernel_rfl) (by decide) (by kernel_rfl) (by kernel_rfl) (fun _ _ _ h => h) (Or.inl ⟨by rfl, ?_⟩) hC ?_
    rotate_left
    · intro w hSw; (try dsimp only at hSw); go_simp; try (with_reducible rfl)
    try simp only [Act.put, List.setIfInBounds_toArray, List.set_cons_zero, List.set_cons_succ]
    refine wpAnyT_pure (i := 1) (v := ?_) rfl (by kernel_rfl) (by kernel_rfl) (by kernel_rfl) (by decide) (fun _ _ _ h => h) (Or.inl ⟨by rfl, ?_⟩) (fun _ => hC) ?_
    rotate_left
    · intro w _; go_simp; try (with_reducible rfl)
    try simp only [Act.put, List.setIfInBounds_toArray, List.set_cons_zero, List.set_cons_succ]
    refine wpAnyT_pure (i := 2) (v := ?_) rfl (by kernel_rfl) (by kernel_rfl) (by kernel_rfl) (by decide) (fun _ _ _ h => h) (Or.inl ⟨by rfl, ?_⟩) (fun _ => hC) ?_
    rotate_left
    · intro w _; go_simp; try (with_reducible rfl)
    try simp only [Act.put, List.setIfInBounds_toArray, List.set_cons_zero, List.set_cons_succ]
    refine wpAnyT_gen (R := fun U1 => Hid (MD w U1 p q (dkcs d A B c e))) (Lib.hid (z.out.below (V' := U.drew) (Below.drew (Below.refl _ _)))) (fun U1 z1 => ?_)
    refine wpAnyT_one (i := 3) (by kernel_rfl) rfl (fun K hK => ?_)
    go_simp
    go_at_call 33
    refine (sentence_any R1 R2 _).mono ?_
    rintro r w' ⟨X, n, rfl, ox, gx, rfl⟩
    have z2 := Lib.hid ((z1).out.below (V' := up U1 gx) (bl_up (Below.refl _ _) gx))
    have OX := Lib.hid ox
    clear ox
    refine hK.out _ _ (fun _ => z2.out.cel) ?_
    clear hK K
    try simp only [Act.put, List.setIfInBounds_toArray, List.set_cons_zero, List.set_cons_succ]
    obtain ⟨hqT, r0, r1, r2, r3, r4, r5, r6, r7⟩ := z2.out.rs.eight
    obtain ⟨f0, f1, f2, f3, f4, f5, f6, f7⟩ := z2.out.rs.open8
    refine wpAnyT_one (i := 4) (by kernel_rfl) rfl (fun K hK => ?_)
    go_simp
    refine hK.out _ _ (fun _ => (blk_far8 z2.out.bx z2.out.ne _ _ _ _ _ _ _ _).eight.2) ?_
    clear hK K
    try simp only [Act.put, List.setIfInBounds_toArray, List.set_cons_zero, List.set_cons_succ]
    refine wpAnyT_one (i := 5) (by kernel_rfl) rfl (fun K hK => ?_)
    go_simp
    refine hK.out _ _ (fun h9 => absurd (show true = false from h9) (by decide)) ?_
    clear hK K
    try simp only [Act.put, List.setIfInBounds_toArray, List.set_cons_zero, List.set_cons_succ]
    refine wpAnyT_done (by kernel_rfl) ?_ _
    (try simp only [Act.put, List.getElem_toArray, List.getElem_cons_succ, List.getElem_cons_zero, List.setIfInBounds_toArray, List.set_cons_zero, List.set_cons_succ])
    have hqW0 := (z1).out.rs.lt
    have HLE0 := Lib.hid (z1).out.up.below.size
    go_wp2_with fail
    refine post_gen (R := fun W => Blk W q 31 (dkcs (d) A B c e) ∧ W.ownsRow w.heap.size 9 1 (.slice X (sent (R1, R2)).length n) (sent (R1, R2)).length (strs (sent (R1, R2))) ∧ UpOf w W) ⟨blk_put8 z2.out.rs _ _ _ _ _ _ _ _, own_mono (own_all OX.out hqW0 _ _ _ _ _ _ _ _) HLE0.out, put8_up z2.out.up z2.out.hq _ _ _ _ _ _ _ _⟩ (fun W st => ?_)
    obtain ⟨s1, s2, s3⟩ := st
    obtain ⟨hqW, w0, w1, w2, w3, w4, w5, w6, w7⟩ := s1.eight
    clear s1 r0 r1 r2 r3 r4 r5 r6 r7 f0 f1 f2 f3 f4 f5 f6 f7
    exact bodyPost_ret (v := .tuple #[dkv (d) A B c e, .slice X (sent (R1, R2)).length n]) (by simp [results, Tryz.results31, go_sem, hqW, w0, w1, w2, w3, w4, w5, w6, w7]) rfl ⟨_, _, rfl, s2, s3⟩
end Go.Proofs.YtbianlkenallaaaGreatDoor
namespace Go.Proofs.YtbianlkenallaaaGreatDoor
open Go.RowKit
def btDrPost (d : DeskD) (o : Option Drill) (A B : Option Addr) (c e : Nat) (w : World) (r : Ending) (w' : World) : Prop := match o with
  | none => mdPost d [errL 7] A B c e w r w'
  | some x => if (addD d.drills x).2 = 0 then ∃ B' e', w'.ownsRow w.heap.size 112 3 (.slice B' (addD d.drills x).1.length e') (addD d.drills x).1.length (drcs (addD d.drills x).1) ∧ mdPost { d with drills := (addD d.drills x).1 } [dkText { d with drills := (addD d.drills x).1 }] A B' c e' w r w'
    else mdPost d [errL (addD d.drills x).2] A B c e w r w'
theorem rdDrill_v {t : ByteArray} {x : Drill} (h : rdDrill t = some x) : vDrill x = true := by
  unfold rdDrill at h
  split at h
  · rename_i hb
    injection h with h
    rw [← h]
    exact (drillB_inv hb).2.2.1
  · cases h
theorem addD_bd {l : List Drill} {x : Drill} (hl : DBd l) (h1 : x.name.size ≤ 100000000) (h2 : x.letters.size ≤ 100000000) : DBd (addD l x).1 := by
  have h0 : DBd [] := fun i hi => absurd hi (by simp)
  have hm : DBd (l ++ [x]) := fun i hi => by
    rw [List.length_append] at hi
    by_cases h : i < l.length
    · have e : drl (l ++ [x]) i = drl l i := by rw [drl, drl, List.getD_eq_getElem?_getD, List.getD_eq_getElem?_getD, List.getElem?_append_left h]
      rw [e]; exact hl i h
    · have e : drl (l ++ [x]) i = x := by
        have hi' : i = l.length := by simp at hi; omega
        rw [drl, List.getD_eq_getElem?_getD, hi', List.getElem?_append_right (Nat.le_refl _)]; simp
      rw [e]; exact ⟨h1, h2⟩
  rw [addD]
  (repeat' split) <;> first | exact h0 | exact hm
theorem addD_len (l : List Drill) (x : Drill) : (addD l x).1.length ≤ l.length + 1 := by
  rw [addD]
  (repeat' split) <;> simp
set_option maxRecDepth 10000 in
set_option maxHeartbeats 8000000 in
theorem btDrill_any (d : DeskD) (A B : Option Addr) (c e : Nat) (s t : ByteArray) (w : World) (hts : t.size ≤ 1048576) (hk : kindOf s = 3) (hS : DSee w d A B) (hz : DkSz d e) (hz1 : d.drills.length ≤ 10000000) (ht : Tab w) :
    Calls Tryz.prog 31 #[dkv d A B c e, .string s, .string t] w fun r w' => btDrPost d (rdDrill t) A B c e w r w' := by
  have HS := Lib.hid hS
  have HZ := Lib.hid hz
  have HT := Lib.hid ht
  have q10 : (s.toList == [114, 111, 119]) = false := by
    have := kind_test2 s (i := 10) (by omega)
    rw [hk] at this
    exact this
  have q2 : (s.toList == [99, 111, 100, 101]) = false := by
    have := kind_test2 s (i := 2) (by omega)
    rw [hk] at this
    exact this
  clear hS hz hk ht
  cases hr : rdDrill t with
  | none =>
    have HRD : Hid (∀ V, Tab V → Calls Tryz.prog 77 #[.string t] V fun e w' => e = .returned (.tuple #[drv dr0, .bool false]) ∧ UpOf V w') := Lib.hid fun V hV => by
      have := readDrillI_any t V hts hV
      rw [hr] at this
      exact this
    show Calls _ _ _ _ fun r w' => mdPost d [errL 7] A B c e w r w'
    clear hr
    go_enter Tryz.func31, Tryz.ntmps31
    go_upto_region 1 with (fail)
    refine wpg (R := fun V => Hid (MD w V w.heap.size (w.heap.size + 1) (dkcs d A B c e))) (Lib.hid (MD.new _ _)) (fun V z => ?_)
    generalize hp9 : w.heap.size = p at z ⊢
    generalize hq9 : p + 1 = q at z ⊢
    clear hp9 hq9
    go_upto_region 11 with (go_at_call 77; refine (HRD.out _ (HT.out.below (z.out.up.tr (BL.o (by repeat constructor))).below)).mono ?_; rintro r w' ⟨rfl, g1, rfl⟩)
    refine wpg (R := fun U => Hid (MD w U p q (dkcs d A B c e))) (Lib.hid (z.out.below (BL.o (by repeat constructor)))) (fun U z => ?_)
    have hC : cel8 U.drew p d A B c e := z.out.cel
    refine wp_region_T (fun U => U.cell? ⟨p, 0, none⟩ = some (i64 (d).b.bars) ∧ U.cell? ⟨p, 1, none⟩ = some (i64 (d).b.rise) ∧ U.cell? ⟨p, 2, none⟩ = some (i64 (d).b.fall) ∧ U.cell? ⟨p, 3, none⟩ = some (i64 (d).b.clr) ∧ U.cell? ⟨p, 4, none⟩ = some (i64 (d).b.near) ∧ U.cell? ⟨p, 5, none⟩ = some (.slice A (d).stops.length c) ∧ U.cell? ⟨p, 6, none⟩ = some (.slice B (d).drills.length e) ∧ U.cell? ⟨p, 7, none⟩ = some (.string (d).log)) 2 (by kernel_rfl) ?_
    
    refine wpAnyT_load (i := 0) (v := ?_) rfl (by kernel_rfl) (by kernel_rfl) (by kernel_rfl) (by decide) (by kernel_rfl) (by kernel_rfl) (fun _ _ _ h => h) (Or.inl ⟨by rfl, ?_⟩) hC ?_
    rotate_left
    · intro w hSw; (try dsimp only at hSw); go_simp; try (with_reducible rfl)
    try simp only [Act.put, List.setIfInBounds_toArray, List.set_cons_zero, List.set_cons_succ]
    refine wpAnyT_one (i := 1) (by kernel_rfl) rfl (fun K hK => ?_)
    go_simp
    go_at_call 70
    refine (report_any 7 _).mono ?_
    rintro r w' ⟨X, n, rfl, ox, gx, rfl⟩
    have z2 := Lib.hid (z.out.below (V' := up U.drew gx) (bl_up (Below.drew (Below.refl _ _)) gx))
    have OX := Lib.hid ox
    clear ox
    refine hK.out _ _ (fun _ => z2.out.cel) ?_
    clear hK K
    try simp only [Act.put, List.setIfInBounds_toArray, List.set_cons_zero, List.set_cons_succ]
    obtain ⟨hqT, r0, r1, r2, r3, r4, r5, r6, r7⟩ := z2.out.rs.eight
    obtain ⟨f0, f1, f2, f3, f4, f5, f6, f7⟩ := z2.out.rs.open8
    refine wpAnyT_one (i := 2) (by kernel_rfl) rfl (fun K hK => ?_)
    go_simp
    refine hK.out _ _ (fun h9 => absurd (show true = false from h9) (by decide)) ?_
    clear hK K
    try simp only [Act.put, List.setIfInBounds_toArray, List.set_cons_zero, List.set_cons_succ]
    refine wpAnyT_pure (i := 3) (v := ?_) rfl (by kernel_rfl) (by kernel_rfl) (by kernel_rfl) (by decide) (fun _ _ _ h => h) (Or.inl ⟨by rfl, ?_⟩) (fun h9 => absurd (show true = false from h9) (by decide)) ?_
    rotate_left
    · intro w _; go_simp; try (with_reducible rfl)
    try simp only [Act.put, List.setIfInBounds_toArray, List.set_cons_zero, List.set_cons_succ]
    refine wpAnyT_done (by kernel_rfl) ?_ _
    (try simp only [Act.put, List.getElem_toArray, List.getElem_cons_succ, List.getElem_cons_zero, List.setIfInBounds_toArray, List.set_cons_zero, List.set_cons_succ])
    have hqU := z.out.rs.lt
    go_wp2_with fail
    refine bodyPost_ret (v := .tuple #[dkv (d) A B c e, .slice X 1 n]) (by simp [results, Tryz.results31, go_sem, hqT, r0, r1, r2, r3, r4, r5, r6, r7]) rfl ?_
    exact ⟨X, n, rfl, own_mono (own_all OX.out hqU _ _ _ _ _ _ _ _) z.out.up.below.size, put8_up z2.out.up z2.out.hq _ _ _ _ _ _ _ _⟩
  | some x =>
    have hv := rdDrill_v hr
    have hvi := vDrill_inv hv
    have s1 := (nameB_bd hvi.1).2
    have s2 := (txtB_inv hvi.2.2.1).1
    have HRD : Hid (∀ V, Tab V → Calls Tryz.prog 77 #[.string t] V fun e w' => e = .returned (.tuple #[drv x, .bool true]) ∧ UpOf V w') := Lib.hid fun V hV => by
      have := readDrillI_any t V hts hV
      rw [hr] at this
      exact this
    obtain ⟨L, hL⟩ : ∃ L, (addD d.drills x).1 = L := ⟨_, rfl⟩
    obtain ⟨C, hC⟩ : ∃ C, (addD d.drills x).2 = C := ⟨_, rfl⟩
    have HAD : Hid (∀ V, Rds V 3 B d.drills.length (drcs d.drills) → Calls Tryz.prog 78 #[.slice B d.drills.length e, .agg #[.string x.name, .string x.letters, i64 x.minutes]] V fun r w' => drsPost L.length L C V r w') := Lib.hid fun V hr => by
      have := addDrill_any B e d.drills x V hr HZ.out.n HZ.out.b (by omega) (by omega)
      rw [hL, hC] at this
      exact this
    have HLB : Hid (DBd L ∧ L.length ≤ d.drills.length + 1) := Lib.hid ⟨by rw [← hL]; exact addD_bd HZ.out.b (by omega) (by omega), by rw [← hL]; exact addD_len _ _⟩
    show Calls _ _ _ _ fun r w' => if (addD d.drills x).2 = 0 then ∃ B' e', w'.ownsRow w.heap.size 112 3 (.slice B' (addD d.drills x).1.length e') (addD d.drills x).1.length (drcs (addD d.drills x).1) ∧ mdPost { d with drills := (addD d.drills x).1 } [dkText { d with drills := (addD d.drills x).1 }] A B' c e' w r w'
      else mdPost d [errL (addD d.drills x).2] A B c e w r w'
    rw [hL, hC]
    clear hr hv hvi hL hC
    by_cases h0 : C = 0
    · subst h0
      obtain ⟨D, hD⟩ : ∃ D : DeskD, { d with drills := L } = D := ⟨_, rfl⟩
      rw [hD]
      have HDL := Lib.hid (show L = D.drills by rw [← hD])
      have HDE := Lib.hid (show d.b = D.b ∧ d.stops = D.stops ∧ d.log = D.log from by rw [← hD]; exact ⟨rfl, rfl, rfl⟩)
      clear hD
      show Calls _ _ _ _ fun r w' => ∃ B' e', w'.ownsRow w.heap.size 112 3 (.slice B' L.length e') L.length (drcs L) ∧ mdPost D [dkText D] A B' c e' w r w'
      rw [HDL.out] at HLB HAD ⊢
      go_enter Tryz.func31, Tryz.ntmps31
      go_upto_region 1 with (fail)
      refine wpg (R := fun V => Hid (MD w V w.heap.size (w.heap.size + 1) (dkcs d A B c e))) (Lib.hid (MD.new _ _)) (fun V z => ?_)
      generalize hp9 : w.heap.size = p at z ⊢
      generalize hq9 : p + 1 = q at z ⊢
      clear hp9 hq9
      go_upto_region 12 with (go_at_call 77; refine (HRD.out _ (HT.out.below (z.out.up.tr (BL.o (by repeat constructor))).below)).mono ?_; rintro r w' ⟨rfl, g1, rfl⟩)
      refine wpg (R := fun U9 => Hid (MD w U9 p q (dkcs d A B c e)) ∧ Box U9 (up V g1).heap.size #[.string x.name, .string x.letters, i64 x.minutes]) ⟨Lib.hid (z.out.below (BL.o (by repeat constructor))), Box.new _ _ _⟩ (fun U9 y => ?_)
      obtain ⟨z8, hbx⟩ := y
      generalize (up V g1).heap.size = p10 at *
      have b0 : U9.cell? ⟨p10, 0, none⟩ = some (.string x.name) := hbx.2 0 _ rfl
      have b1 : U9.cell? ⟨p10, 1, none⟩ = some (.string x.letters) := hbx.2 1 _ rfl
      have b2 : U9.cell? ⟨p10, 2, none⟩ = some (i64 x.minutes) := hbx.2 2 _ rfl
      have hb10 := hbx.1
      obtain ⟨hpU, x0, x1, x2, x3, x4, x5, x6, x7⟩ := z8.out.bx.eight
      clear hbx z
      go_wp2_with fail
      refine (HAD.out _ (HS.out.2.below z8.out.up.below)).mono ?_
      rintro r w' ⟨B', e', rfl, hcp, ob, g2, rfl⟩
      have z9 := Lib.hid (z8.out.below (up_below U9 g2))
      have ONB := Lib.hid ob
      have HCP := Lib.hid hcp
      have HPB := Lib.hid hpU
      have HQB := Lib.hid z8.out.rs.lt
      have HBW := Lib.hid z8.out.up.below.size
      clear x0 x1 x2 x3 x4 x5 x6 x7 hpU b0 b1 b2 hb10 ob hcp z8
      go_upto_region 15 with (fail)
      refine wpg (R := fun U => Hid (MD w U p q (dkcs d A B c e)) ∧ Hid (U.ownsRow U9.heap.size 112 3 (.slice B' D.drills.length e') D.drills.length (drcs D.drills))) ⟨z9, ONB⟩ (fun U y => ?_)
      obtain ⟨z, ONB⟩ := y
      clear z9
      obtain ⟨hpU, x0, x1, x2, x3, x4, x5, x6, x7⟩ := z.out.bx.eight
      obtain ⟨f0, f1, f2, f3, f4, f5, f6, f7⟩ := z.out.bx.open8
      go_upto_region 16 with (fail)
      have hpb : p < U9.heap.size := HPB.out
      have y6 := Lib.hid (z.out.put 6 (.slice B' D.drills.length e'))
      refine wpg (R := fun T => Hid (MD w T p q (dkcs D A B' c e')) ∧ Hid (T.ownsRow U9.heap.size 112 3 (.slice B' D.drills.length e') D.drills.length (drcs D.drills))) ⟨Lib.hid (by
        have h := y6.out
        have e1 := HDE.out
        have e2 : (dkcs d A B c e).setIfInBounds 6 (.slice B' D.drills.length e') = dkcs D A B' c e' := by
          unfold dkcs
          rw [← e1.1, ← e1.2.1, ← e1.2.2]; rfl
        rw [e2] at h
        exact h), Lib.hid (own_setOld (p := ⟨p, 6, none⟩) ONB.out hpb _)⟩ (fun U y => ?_)
      obtain ⟨z, ONB⟩ := y
      have HSD : Hid (∀ V, Below U.heap.size U V → DSee V D A B') := Lib.hid fun V hV => by
        have h1 := (HS.out.below z.out.up.below).1.below hV
        unfold DSee
        rw [← HDE.out.2.1]
        exact ⟨h1, (Rds.of_own ONB.out).below hV⟩
      have HZD : Hid (DkSz D e') := Lib.hid ⟨by rw [← HDE.out.2.1]; exact HZ.out.s, by have := HLB.out.2; omega, HLB.out.1, by rw [← HDE.out.2.2]; exact HZ.out.l, HCP.out⟩
      clear x0 x1 x2 x3 x4 x5 x6 x7 f0 f1 f2 f3 f4 f5 f6 f7 hpU y6 hpb
      have hC : cel8 U.drew p D A B' c e' := z.out.cel
      refine wp_region_T (fun U => U.cell? ⟨p, 0, none⟩ = some (i64 (D).b.bars) ∧ U.cell? ⟨p, 1, none⟩ = some (i64 (D).b.rise) ∧ U.cell? ⟨p, 2, none⟩ = some (i64 (D).b.fall) ∧ U.cell? ⟨p, 3, none⟩ = some (i64 (D).b.clr) ∧ U.cell? ⟨p, 4, none⟩ = some (i64 (D).b.near) ∧ U.cell? ⟨p, 5, none⟩ = some (.slice A (D).stops.length c) ∧ U.cell? ⟨p, 6, none⟩ = some (.slice B' (D).drills.length e') ∧ U.cell? ⟨p, 7, none⟩ = some (.string (D).log)) 5 (by kernel_rfl) ?_
      
      refine wpAnyT_load (i := 0) (v := ?_) rfl (by kernel_rfl) (by kernel_rfl) (by kernel_rfl) (by decide) (by kernel_rfl) (by kernel_rfl) (fun _ _ _ h => h) (Or.inl ⟨by rfl, ?_⟩) hC ?_
      rotate_left
      · intro w hSw; (try dsimp only at hSw); go_simp; try (with_reducible rfl)
      try simp only [Act.put, List.setIfInBounds_toArray, List.set_cons_zero, List.set_cons_succ]
      refine wpAnyT_load (i := 1) (v := ?_) rfl (by kernel_rfl) (by kernel_rfl) (by kernel_rfl) (by decide) (by kernel_rfl) (by kernel_rfl) (fun _ _ _ h => h) (Or.inl ⟨by rfl, ?_⟩) hC ?_
      rotate_left
      · intro w hSw; (try dsimp only at hSw); go_simp; try (with_reducible rfl)
      try simp only [Act.put, List.setIfInBounds_toArray, List.set_cons_zero, List.set_cons_succ]
      refine wpAnyT_one (i := 2) (by kernel_rfl) rfl (fun K hK => ?_)
      go_simp
      go_at_call 11
      refine (deskTextI_any D A B' c e' _ (HSD.out _ (Below.drew (Below.refl _ _))) HZD.out (HT.out.below (z.out.up.tr (BL.o (by repeat constructor))).below)).mono ?_
      rintro r w' ⟨rfl, gx, rfl⟩
      have z2 := Lib.hid (z.out.below (V' := up U.drew gx) (bl_up (Below.drew (Below.refl _ _)) gx))
      refine hK.out _ _ (fun _ => z2.out.cel) ?_
      clear hK K
      try simp only [Act.put, List.setIfInBounds_toArray, List.set_cons_zero, List.set_cons_succ]
      have hqU := z2.out.rs.lt
      have HLE := Lib.hid z2.out.up.below.size
      obtain ⟨hqT, r0, r1, r2, r3, r4, r5, r6, r7⟩ := z2.out.rs.eight
      obtain ⟨f0, f1, f2, f3, f4, f5, f6, f7⟩ := z2.out.rs.open8
      refine wpAnyT_ready (rs := [3, 4]) (by kernel_rfl) (by simp) (AllReadyT.cons rfl (fun K hK => ?_) (AllReadyT.cons rfl (fun K hK => ?_) AllReadyT.nil))
      · go_simp
        have z3 := Lib.hid (z2.out.below (V' := (up U.drew gx).alloc (.cells #[.string (dkText (D))] 9)) (BL.o (by repeat constructor)))
        have OX := Lib.hid (World.ownsRow_lit (base := (up U.drew gx).heap.size) (e := 9) (size := 1) (up U.drew gx) #[.string (dkText (D))] 1 (Nat.le_refl _) (by unfold maxLen; omega) rfl)
        refine hK.out _ _ (fun _ => z3.out.cel) ?_
        clear hK K
        try simp only [Act.put, List.setIfInBounds_toArray, List.set_cons_zero, List.set_cons_succ]
        refine wpAnyT_one (i := 4) (by kernel_rfl) rfl (fun K hK => ?_)
        go_simp
        refine hK.out _ _ (fun _ => (blk_far8 z3.out.bx z3.out.ne _ _ _ _ _ _ _ _).eight.2) ?_
        clear hK K
        try simp only [Act.put, List.setIfInBounds_toArray, List.set_cons_zero, List.set_cons_succ]
        refine wpAnyT_one (i := 5) (by kernel_rfl) rfl (fun K hK => ?_)
        go_simp
        refine hK.out _ _ (fun h9 => absurd (show true = false from h9) (by decide)) ?_
        clear hK K
        try simp only [Act.put, List.setIfInBounds_toArray, List.set_cons_zero, List.set_cons_succ]
        refine wpAnyT_done (by kernel_rfl) ?_ _
        (try simp only [Act.put, List.getElem_toArray, List.getElem_cons_succ, List.getElem_cons_zero, List.setIfInBounds_toArray, List.set_cons_zero, List.set_cons_succ])
        go_wp2_with fail
        refine post_gen (R := fun W => Blk W q 31 (dkcs (D) A B' c e') ∧ W.ownsRow w.heap.size 9 1 (.slice (some ⟨(up U.drew gx).heap.size, 0, none⟩) 1 1) 1 (strs [dkText (D)]) ∧ W.ownsRow w.heap.size 112 3 (.slice B' (D).drills.length e') (D).drills.length (drcs (D).drills) ∧ UpOf w W) ⟨blk_put8 z3.out.rs _ _ _ _ _ _ _ _, own_mono (own_all OX.out hqU _ _ _ _ _ _ _ _) HLE.out, own_mono (own_all (own_below ONB.out (show Below U.heap.size U _ from (BL.o (by repeat constructor)))) HQB.out _ _ _ _ _ _ _ _) HBW.out, put8_up z3.out.up z3.out.hq _ _ _ _ _ _ _ _⟩ (fun W st => ?_)
        obtain ⟨s1, s2, s4, s3⟩ := st
        obtain ⟨hqW, w0, w1, w2, w3, w4, w5, w6, w7⟩ := s1.eight
        clear s1 r0 r1 r2 r3 r4 r5 r6 r7 f0 f1 f2 f3 f4 f5 f6 f7
        exact bodyPost_ret (v := .tuple #[dkv (D) A B' c e', .slice (some ⟨(up U.drew gx).heap.size, 0, none⟩) 1 1]) (by simp [results, Tryz.results31, go_sem, hqW, w0, w1, w2, w3, w4, w5, w6, w7]) rfl ⟨_, _, s4, _, _, rfl, s2, s3⟩
      · go_simp
        refine hK.out _ _ (fun _ => (blk_far8 z2.out.bx z2.out.ne _ _ _ _ _ _ _ _).eight.2) ?_
        clear hK K
        try simp only [Act.put, List.setIfInBounds_toArray, List.set_cons_zero, List.set_cons_succ]
        refine wpAnyT_one (i := 3) (by kernel_rfl) rfl (fun K hK => ?_)
        go_simp
        refine hK.out _ _ (fun _ => ((blk_far8 z2.out.bx z2.out.ne _ _ _ _ _ _ _ _).alloc _).eight.2) ?_
        clear hK K
        try simp only [Act.put, List.setIfInBounds_toArray, List.set_cons_zero, List.set_cons_succ]
        refine wpAnyT_one (i := 5) (by kernel_rfl) rfl (fun K hK => ?_)
        go_simp
        refine hK.out _ _ (fun h9 => absurd (show true = false from h9) (by decide)) ?_
        clear hK K
        try simp only [Act.put, List.setIfInBounds_toArray, List.set_cons_zero, List.set_cons_succ]
        refine wpAnyT_done (by kernel_rfl) ?_ _
        (try simp only [Act.put, List.getElem_toArray, List.getElem_cons_succ, List.getElem_cons_zero, List.setIfInBounds_toArray, List.set_cons_zero, List.set_cons_succ])
        go_wp2_with fail
        refine post_gen (R := fun W => Blk W q 31 (dkcs (D) A B' c e') ∧ W.ownsRow w.heap.size 9 1 (.slice (some ⟨(up U.drew gx).heap.size, 0, none⟩) 1 1) 1 (strs [dkText (D)]) ∧ W.ownsRow w.heap.size 112 3 (.slice B' (D).drills.length e') (D).drills.length (drcs (D).drills) ∧ UpOf w W) ⟨(blk_put8 z2.out.rs _ _ _ _ _ _ _ _).alloc _, own_txt (put8_up z2.out.up z2.out.hq _ _ _ _ _ _ _ _) (dkText (D)) (by simp only [World.size_setCell]), (own_mono (own_all (own_below ONB.out (show Below U.heap.size U (up U.drew gx) from (BL.o (by repeat constructor)))) HQB.out _ _ _ _ _ _ _ _) HBW.out).alloc _, (put8_up z2.out.up z2.out.hq _ _ _ _ _ _ _ _).tr ((Below.refl _ _).alloc (Nat.le_refl _) _)⟩ (fun W st => ?_)
        obtain ⟨s1, s2, s4, s3⟩ := st
        obtain ⟨hqW, w0, w1, w2, w3, w4, w5, w6, w7⟩ := s1.eight
        clear s1 r0 r1 r2 r3 r4 r5 r6 r7 f0 f1 f2 f3 f4 f5 f6 f7
        exact bodyPost_ret (v := .tuple #[dkv (D) A B' c e', .slice (some ⟨(up U.drew gx).heap.size, 0, none⟩) 1 1]) (by simp [results, Tryz.results31, go_sem, hqW, w0, w1, w2, w3, w4, w5, w6, w7]) rfl ⟨_, _, s4, _, _, rfl, s2, s3⟩
    · have h0' : (C != 0) = true := by rw [bne_iff_ne]; exact h0
      have hfin : ∀ r w', mdPost d [errL C] A B c e w r w' → (if C = 0 then ∃ B' e', w'.ownsRow w.heap.size 112 3 (.slice B' L.length e') L.length (drcs L) ∧ mdPost { d with drills := L } [dkText { d with drills := L }] A B' c e' w r w' else mdPost d [errL C] A B c e w r w') := fun r w' h => by rw [if_neg h0]; exact h
      refine (show Calls Tryz.prog 31 #[dkv d A B c e, .string s, .string t] w fun r w' => mdPost d [errL C] A B c e w r w' from ?_).mono hfin
      clear hfin h0
      go_enter Tryz.func31, Tryz.ntmps31
      go_upto_region 1 with (fail)
      refine wpg (R := fun V => Hid (MD w V w.heap.size (w.heap.size + 1) (dkcs d A B c e))) (Lib.hid (MD.new _ _)) (fun V z => ?_)
      generalize hp9 : w.heap.size = p at z ⊢
      generalize hq9 : p + 1 = q at z ⊢
      clear hp9 hq9
      go_upto_region 12 with (go_at_call 77; refine (HRD.out _ (HT.out.below (z.out.up.tr (BL.o (by repeat constructor))).below)).mono ?_; rintro r w' ⟨rfl, g1, rfl⟩)
      refine wpg (R := fun U9 => Hid (MD w U9 p q (dkcs d A B c e)) ∧ Box U9 (up V g1).heap.size #[.string x.name, .string x.letters, i64 x.minutes]) ⟨Lib.hid (z.out.below (BL.o (by repeat constructor))), Box.new _ _ _⟩ (fun U9 y => ?_)
      obtain ⟨z8, hbx⟩ := y
      generalize (up V g1).heap.size = p10 at *
      have b0 : U9.cell? ⟨p10, 0, none⟩ = some (.string x.name) := hbx.2 0 _ rfl
      have b1 : U9.cell? ⟨p10, 1, none⟩ = some (.string x.letters) := hbx.2 1 _ rfl
      have b2 : U9.cell? ⟨p10, 2, none⟩ = some (i64 x.minutes) := hbx.2 2 _ rfl
      have hb10 := hbx.1
      obtain ⟨hpU, x0, x1, x2, x3, x4, x5, x6, x7⟩ := z8.out.bx.eight
      clear hbx z
      go_wp2_with fail
      refine (HAD.out _ (HS.out.2.below z8.out.up.below)).mono ?_
      rintro r w' ⟨B', e', rfl, hcp, ob, g2, rfl⟩
      have z9 := Lib.hid (z8.out.below (up_below U9 g2))
      have ONB := Lib.hid ob
      have HCP := Lib.hid hcp
      have HPB := Lib.hid hpU
      have HQB := Lib.hid z8.out.rs.lt
      have HBW := Lib.hid z8.out.up.below.size
      clear x0 x1 x2 x3 x4 x5 x6 x7 hpU b0 b1 b2 hb10 ob hcp z8
      go_upto_region 14 with (fail)
      refine wpg (R := fun U => Hid (MD w U p q (dkcs d A B c e))) z9 (fun U z => ?_)
      have hC : cel8 U.drew p d A B c e := z.out.cel
      refine wp_region_T (fun U => U.cell? ⟨p, 0, none⟩ = some (i64 (d).b.bars) ∧ U.cell? ⟨p, 1, none⟩ = some (i64 (d).b.rise) ∧ U.cell? ⟨p, 2, none⟩ = some (i64 (d).b.fall) ∧ U.cell? ⟨p, 3, none⟩ = some (i64 (d).b.clr) ∧ U.cell? ⟨p, 4, none⟩ = some (i64 (d).b.near) ∧ U.cell? ⟨p, 5, none⟩ = some (.slice A (d).stops.length c) ∧ U.cell? ⟨p, 6, none⟩ = some (.slice B (d).drills.length e) ∧ U.cell? ⟨p, 7, none⟩ = some (.string (d).log)) 3 (by kernel_rfl) ?_
      
      refine wpAnyT_load (i := 0) (v := ?_) rfl (by kernel_rfl) (by kernel_rfl) (by kernel_rfl) (by decide) (by kernel_rfl) (by kernel_rfl) (fun _ _ _ h => h) (Or.inl ⟨by rfl, ?_⟩) hC ?_
      rotate_left
      · intro w hSw; (try dsimp only at hSw); go_simp; try (with_reducible rfl)
      try simp only [Act.put, List.setIfInBounds_toArray, List.set_cons_zero, List.set_cons_succ]
      refine wpAnyT_pure (i := 1) (v := ?_) rfl (by kernel_rfl) (by kernel_rfl) (by kernel_rfl) (by decide) (fun _ _ _ h => h) (Or.inl ⟨by rfl, ?_⟩) (fun _ => hC) ?_
      rotate_left
      · intro w _; go_simp; try (with_reducible rfl)
      try simp only [Act.put, List.setIfInBounds_toArray, List.set_cons_zero, List.set_cons_succ]
      refine wpAnyT_one (i := 2) (by kernel_rfl) rfl (fun K hK => ?_)
      go_simp
      go_at_call 70
      refine (report_any C _).mono ?_
      rintro r w' ⟨X, n, rfl, ox, gx, rfl⟩
      have z2 := Lib.hid (z.out.below (V' := up U.drew gx) (bl_up (Below.drew (Below.refl _ _)) gx))
      have OX := Lib.hid ox
      clear ox
      refine hK.out _ _ (fun _ => z2.out.cel) ?_
      clear hK K
      try simp only [Act.put, List.setIfInBounds_toArray, List.set_cons_zero, List.set_cons_succ]
      obtain ⟨hqT, r0, r1, r2, r3, r4, r5, r6, r7⟩ := z2.out.rs.eight
      obtain ⟨f0, f1, f2, f3, f4, f5, f6, f7⟩ := z2.out.rs.open8
      refine wpAnyT_one (i := 3) (by kernel_rfl) rfl (fun K hK => ?_)
      go_simp
      refine hK.out _ _ (fun h9 => absurd (show true = false from h9) (by decide)) ?_
      clear hK K
      try simp only [Act.put, List.setIfInBounds_toArray, List.set_cons_zero, List.set_cons_succ]
      refine wpAnyT_pure (i := 4) (v := ?_) rfl (by kernel_rfl) (by kernel_rfl) (by kernel_rfl) (by decide) (fun _ _ _ h => h) (Or.inl ⟨by rfl, ?_⟩) (fun h9 => absurd (show true = false from h9) (by decide)) ?_
      rotate_left
      · intro w _; go_simp; try (with_reducible rfl)
      try simp only [Act.put, List.setIfInBounds_toArray, List.set_cons_zero, List.set_cons_succ]
      refine wpAnyT_done (by kernel_rfl) ?_ _
      (try simp only [Act.put, List.getElem_toArray, List.getElem_cons_succ, List.getElem_cons_zero, List.setIfInBounds_toArray, List.set_cons_zero, List.set_cons_succ])
      have hqU := z.out.rs.lt
      go_wp2_with fail
      refine bodyPost_ret (v := .tuple #[dkv (d) A B c e, .slice X 1 n]) (by simp [results, Tryz.results31, go_sem, hqT, r0, r1, r2, r3, r4, r5, r6, r7]) rfl ?_
      exact ⟨X, n, rfl, own_mono (own_all OX.out hqU _ _ _ _ _ _ _ _) z.out.up.below.size, put8_up z2.out.up z2.out.hq _ _ _ _ _ _ _ _⟩
end Go.Proofs.YtbianlkenallaaaGreatDoor
namespace Go.Proofs.YtbianlkenallaaaGreatDoor
open Go.RowKit
theorem rds_new2 {V : World} {g : Up V} {o : Obj} {cs : Array Value} {t : TypeId} (sz m : Nat) (h : cs.size = m * sz) : Rds (up V ((g.al o).al (.cells cs t))) sz (some ⟨(up V g).heap.size + 1, 0, none⟩) m cs.toList := by
  have := rds_new (up V (g.al o)) cs t sz m h
  rw [size_al] at this
  exact this
set_option maxRecDepth 10000 in
set_option maxHeartbeats 1000000 in
theorem valuesOfI_any (s what : ByteArray) (w : World) (hs : s.size ≤ 1048576) (hs2 : what.size ≤ 9223372036854775807) (ht : Tab w) :
    Calls Tryz.prog 86 #[.string s, .string what] w fun e w' => ∃ A' c', e = .returned (.tuple #[.slice A' (vaR s what).1.length c', i64 (vaR s what).2]) ∧ w'.ownsRow w.heap.size 2 1 (.slice A' (vaR s what).1.length c') (vaR s what).1.length (ics (vaR s what).1) ∧ UpOf w w' := by
  have HT := Lib.hid ht
  clear ht
  by_cases h1 : codeL s = 0
  · cases h2 : nameB what
    · have hf := Lib.hid (vaR_2 h1 h2)
      go_enter Tryz.func86, Tryz.ntmps86
      go_wp2_with fail
      refine (wholeI_ok s _ (HT.out.below (BL.o (by repeat constructor))) h1).mono ?_
      rintro e V ⟨rb, rfl, hl, hup⟩
      obtain ⟨A, c, hc, hrb, hown⟩ := hl.list
      have HO := Lib.hid (Rds.of_own hown)
      have HU := Lib.hid hup
      clear hl hown hup
      go_wp2_with (first | (go_at_call 139; refine (ret_as (isNameI_any _ _ hs2) h2).mono ?_; rintro e w' ⟨rfl, rfl⟩) | ((with_reducible refine wp_region_up (by kernel_rfl) (by kernel_rfl) ?_); (repeat (go_big_quiet_step (first | (go_at_call 139; first | exact upq_tr_same (ret_as (isNameI_any _ _ hs2) h2) | exact upq_same (ret_as (isNameI_any _ _ hs2) h2))))); refine wpQuiet_nil ?_; intro _ hw'; obtain ⟨nq, hw''⟩ := hw'; subst hw''))
      go_ret2
      rw [hf.out]
      exact ⟨none, 0, rfl, ⟨rfl, .inl ⟨rfl, rfl⟩⟩, HU.out.tr (BL.o (by repeat constructor))⟩
    · have hf := Lib.hid (vaR_0 h1 h2)
      go_enter Tryz.func86, Tryz.ntmps86
      go_wp2_with fail
      refine (wholeI_ok s _ (HT.out.below (BL.o (by repeat constructor))) h1).mono ?_
      rintro e V ⟨rb, rfl, hl, hup⟩
      obtain ⟨A, c, hc, hrb, hown⟩ := hl.list
      have HO := Lib.hid (Rds.of_own hown)
      have HU := Lib.hid hup
      clear hl hown hup
      go_wp2_with (first | (go_at_call 139; refine (ret_as (isNameI_any _ _ hs2) h2).mono ?_; rintro e w' ⟨rfl, rfl⟩) | ((with_reducible refine wp_region_up (by kernel_rfl) (by kernel_rfl) ?_); (repeat (go_big_quiet_step (first | (go_at_call 139; first | exact upq_tr_same (ret_as (isNameI_any _ _ hs2) h2) | exact upq_same (ret_as (isNameI_any _ _ hs2) h2))))); refine wpQuiet_nil ?_; intro _ hw'; obtain ⟨nq, hw''⟩ := hw'; subst hw''))
      have hl4 := entsL_len h1
      generalize entsL s = l at *
      have hOwn := Lib.hid (World.ownsRow_lit (base := V.heap.size) (e := 2) (size := 1) V #[] 0 (Nat.le_refl _) (by unfold maxLen; omega) rfl)
      go_loopw [8, 28] (fun o i wr => ∃ (k : Nat) (A' : Option Addr) (c' : Nat), k ≤ l.length ∧ i = i64 k ∧ o = .slice A' (vals what (l.take k)).length c' ∧ wr.ownsRow V.heap.size 2 1 (.slice A' (vals what (l.take k)).length c') (vals what (l.take k)).length (ics (vals what (l.take k))) ∧ ∃ g : Up V, wr = up V g) (fun _ i _ => l.length - (intOf i).toNat)
      case atStart => exact ⟨0, _, _, by omega, rfl, rfl, hOwn.out, ex_up (BL.o (by repeat constructor))⟩
      case round =>
        obtain ⟨k, A', c', hk, rfl, rfl, hown, g, rfl⟩ := hrel
        have hvl := Nat.le_trans (vals_len what (l.take k)) (by rw [List.length_take]; exact Nat.min_le_left _ _)
        by_cases hlt : k < l.length
        · obtain ⟨b, off, rfl, hb, x0, x1, x2⟩ := en_at HO.out hlt
          by_cases q : l[k].what = what
          · have qe := tl_teq q
            have hN := Lib.hid (vals_yes hlt q)
            clear q
            go_wp2_with (first | (at_builtin; go_must (refine wpl_appU rfl _ _ 28 rfl V V.heap.size 2 _ 1 8 el_int _ _ _ rfl (own_below hown (BL.o (by repeat constructor))) _ 1 1 [i64 l[k].value] rfl (rds_new2 1 1 rfl) (fun u hu => by simp at hu; subst hu; rfl) (by unfold maxLen; omega) (by omega) (up_below V _).size (BL.o (by repeat constructor)) (Nat.le_refl _) ?_; intro A2 c2 g2 o2)) | ((with_reducible refine wp_region_up (by kernel_rfl) (by kernel_rfl) ?_); (repeat (go_big_quiet_step (fail))); refine wpQuiet_nil ?_; intro _ hw'; obtain ⟨nq, hw''⟩ := hw'; subst hw''))
            go_roundw
            case rel => exact ⟨k + 1, A2, c2, by omega, by go_num, by rw [hN.out, List.length_append]; rfl, by rw [hN.out, List.length_append, ics_app]; exact o2, _, rfl⟩
            case measure => (simp [intOf]; try omega)
          · have qe := tl_tne q
            have hN := Lib.hid (vals_not hlt q)
            clear q
            go_wp2_with (first | ((with_reducible refine wp_region_up (by kernel_rfl) (by kernel_rfl) ?_); (repeat (go_big_quiet_step (fail))); refine wpQuiet_nil ?_; intro _ hw'; obtain ⟨nq, hw''⟩ := hw'; subst hw''))
            go_roundw
            case rel => exact ⟨k + 1, A', c', by omega, by go_num, by rw [hN.out], by rw [hN.out]; exact own_below hown (BL.o (by repeat constructor)), ex_up (BL.o (by repeat constructor))⟩
            case measure => (simp [intOf]; try omega)
        · obtain rfl : k = l.length := by omega
          rw [List.take_of_length_le (Nat.le_refl _)] at hown
          go_wp2_with (first | ((with_reducible refine wp_region_up (by kernel_rfl) (by kernel_rfl) ?_); (repeat (go_big_quiet_step (fail))); refine wpQuiet_nil ?_; intro _ hw'; obtain ⟨nq, hw''⟩ := hw'; subst hw''))
          go_ret2
          rw [hf.out]
          exact ⟨A', c', rfl, own_mono (own_below hown (BL.o (by repeat constructor))) HU.out.below.size, HU.out.tr (BL.o (by repeat constructor))⟩
  · have hf := Lib.hid (vaR_1 (what := what) h1)
    have z := code_ne h1
    go_enter Tryz.func86, Tryz.ntmps86
    go_wp2_with (first | (go_at_call 120; refine (wholeI_no s _ hs (HT.out.below (BL.o (by repeat constructor))) h1).mono ?_; rintro e w' ⟨rfl, g, rfl⟩) | ((with_reducible refine wp_region_up (by kernel_rfl) (by kernel_rfl) ?_); (repeat (go_big_quiet_step (first | (go_at_call 120; first | exact upq_tr (wholeI_no s _ hs (HT.out.below (BL.o (by repeat constructor))) h1) | exact upq (wholeI_no s _ hs (HT.out.below (BL.o (by repeat constructor))) h1))))); refine wpQuiet_nil ?_; intro _ hw'; obtain ⟨nq, hw''⟩ := hw'; subst hw''))
    go_ret2
    rw [hf.out]
    exact ⟨none, 0, rfl, ⟨rfl, .inl ⟨rfl, rfl⟩⟩, UpOf.of (BL.o (by repeat constructor))⟩
end Go.Proofs.YtbianlkenallaaaGreatDoor
namespace Go.Proofs.YtbianlkenallaaaGreatDoor
open Go.RowKit
theorem vals_mem {what : ByteArray} : ∀ {l : List Entry} {v : Int}, v ∈ vals what l → ∃ x ∈ l, x.value = v
  | [], v, h => by rw [vals] at h; cases h
  | x :: l, v, h => by
    rw [vals] at h
    split at h
    · rcases List.mem_cons.1 h with rfl | h
      · exact ⟨x, List.mem_cons_self .., rfl⟩
      · obtain ⟨y, hy, e⟩ := vals_mem h
        exact ⟨y, List.mem_cons_of_mem _ hy, e⟩
    · obtain ⟨y, hy, e⟩ := vals_mem h
      exact ⟨y, List.mem_cons_of_mem _ hy, e⟩
theorem vaR_bd (s what : ByteArray) : (vaR s what).1.length ≤ 4000 ∧ ∀ i, i < (vaR s what).1.length → -1000000000 ≤ num (vaR s what).1 i ∧ num (vaR s what).1 i ≤ 1000000000 := by
  by_cases h : codeL s = 0
  · cases h2 : nameB what with
    | false => rw [vaR_2 h h2]; exact ⟨by simp, fun i hi => absurd hi (by simp)⟩
    | true =>
      rw [vaR_0 h h2]
      refine ⟨Nat.le_trans (vals_len _ _) (entsL_len h), fun i hi => ?_⟩
      have hm : num (vals what (entsL s)) i ∈ vals what (entsL s) := by
        rw [← num_eq hi]; exact List.getElem_mem hi
      obtain ⟨x, hx, e⟩ := vals_mem hm
      have hv := entsL_ok s x hx
      simp only [vEntry, Bool.and_eq_true] at hv
      have := btw_true hv.2
      rw [e] at this
      show -1000000000 ≤ num (vals what (entsL s)) i ∧ num (vals what (entsL s)) i ≤ 1000000000
      omega
  · rw [vaR_1 h]; exact ⟨by simp, fun i hi => absurd hi (by simp)⟩
theorem adR_size {s : ByteArray} {x : Entry} (h : (adR s x).2 = 0) : (adR s x).1.size ≤ 4000 := by
  by_cases h1 : codeL s = 0
  · cases h2 : vEntry x with
    | false => rw [adR_7 h1 h2]; decide
    | true =>
      by_cases h3 : x.day < dayL (entsL s)
      · rw [adR_6 h1 h2 h3]; decide
      · by_cases h4 : (s ++ newLine (stL s) x).size ≤ 4000
        · rw [adR_0 h1 h2 h3 h4]; exact h4
        · rw [adR_5 h1 h2 h3 h4]; decide
  · rw [adR_1 h1] at h; exact absurd h h1
def entPost (d : DeskD) (sn : ByteArray) (o : Option (List Int)) (A B : Option Addr) (c e : Nat) (w : World) (r : Ending) (w' : World) : Prop := match o with
  | none => mdPost d [errL 7] A B c e w r w'
  | some l => if (adR d.log ⟨num l 0, sn, num l 1⟩).2 = 0 then mdPost { d with log := (adR d.log ⟨num l 0, sn, num l 1⟩).1 } (nmb (sumI (vaR (adR d.log ⟨num l 0, sn, num l 1⟩).1 sn).1, (vaR (adR d.log ⟨num l 0, sn, num l 1⟩).1 sn).2)) A B c e w r w'
    else mdPost d [errL (adR d.log ⟨num l 0, sn, num l 1⟩).2] A B c e w r w'
set_option maxRecDepth 10000 in
set_option maxHeartbeats 8000000 in
theorem enter_any (d : DeskD) (A B : Option Addr) (c e : Nat) (sd sn sv : ByteArray) (w : World) (h1 : sd.size ≤ 1048576) (h2 : sn.size ≤ 1048576) (h3 : sv.size ≤ 1048576) (hz : DkSz d e) (ht : Tab w) :
    Calls Tryz.prog 38 #[dkv d A B c e, .string sd, .string sn, .string sv] w fun r w' => entPost d sn (numsOf [sd, sv]) A B c e w r w' := by
  have HZ := Lib.hid hz
  have HT := Lib.hid ht
  have HF : Hid (∀ i, i < [sd, sv].length → (wd [sd, sv] i).size ≤ 100000000) := Lib.hid fun i hi => by
    match i, hi with
    | 0, _ => show sd.size ≤ _; omega
    | 1, _ => show sv.size ≤ _; omega
  clear hz ht
  cases hno : numsOf [sd, sv] with
  | none =>
    show Calls _ _ _ _ fun r w' => mdPost d [errL 7] A B c e w r w'
    go_enter Tryz.func38, Tryz.ntmps38
    go_upto_region 1 with (fail)
    refine wpg (R := fun V => Hid (MD w V w.heap.size (w.heap.size + 1) (dkcs d A B c e))) (Lib.hid (MD.new _ _)) (fun V z => ?_)
    generalize hp9 : w.heap.size = p at z ⊢
    generalize hq9 : p + 1 = q at z ⊢
    clear hp9 hq9
    go_wp2_with fail
    refine (readNumbers_any _ 2 [sd, sv] _ (rds_new V #[.string sd, .string sv] 9 1 2 rfl) (by simp) HF.out (HT.out.below (z.out.up.tr (BL.o (by repeat constructor))).below)).mono ?_
    rintro r w' hr
    unfold rnPost at hr
    rw [hno] at hr
    obtain ⟨rfl, g1, rfl⟩ := hr
    go_upto_region 3 with (fail)
    refine wpg (R := fun U => Hid (MD w U p q (dkcs d A B c e))) (Lib.hid (z.out.below (BL.o (by repeat constructor)))) (fun U z => ?_)
    have hC : cel8 U.drew p d A B c e := z.out.cel
    refine wp_region_T (fun U => U.cell? ⟨p, 0, none⟩ = some (i64 (d).b.bars) ∧ U.cell? ⟨p, 1, none⟩ = some (i64 (d).b.rise) ∧ U.cell? ⟨p, 2, none⟩ = some (i64 (d).b.fall) ∧ U.cell? ⟨p, 3, none⟩ = some (i64 (d).b.clr) ∧ U.cell? ⟨p, 4, none⟩ = some (i64 (d).b.near) ∧ U.cell? ⟨p, 5, none⟩ = some (.slice A (d).stops.length c) ∧ U.cell? ⟨p, 6, none⟩ = some (.slice B (d).drills.length e) ∧ U.cell? ⟨p, 7, none⟩ = some (.string (d).log)) 2 (by kernel_rfl) ?_
    
    refine wpAnyT_load (i := 0) (v := ?_) rfl (by kernel_rfl) (by kernel_rfl) (by kernel_rfl) (by decide) (by kernel_rfl) (by kernel_rfl) (fun _ _ _ h => h) (Or.inl ⟨by rfl, ?_⟩) hC ?_
    rotate_left
    · intro w hSw; (try dsimp only at hSw); go_simp; try (with_reducible rfl)
    try simp only [Act.put, List.setIfInBounds_toArray, List.set_cons_zero, List.set_cons_succ]
    refine wpAnyT_one (i := 1) (by kernel_rfl) rfl (fun K hK => ?_)
    go_simp
    go_at_call 70
    refine (report_any 7 _).mono ?_
    rintro r w' ⟨X, n, rfl, ox, gx, rfl⟩
    have z2 := Lib.hid (z.out.below (V' := up U.drew gx) (bl_up (Below.drew (Below.refl _ _)) gx))
    have OX := Lib.hid ox
    clear ox
    refine hK.out _ _ (fun _ => z2.out.cel) ?_
    clear hK K
    try simp only [Act.put, List.setIfInBounds_toArray, List.set_cons_zero, List.set_cons_succ]
    obtain ⟨hqT, r0, r1, r2, r3, r4, r5, r6, r7⟩ := z2.out.rs.eight
    obtain ⟨f0, f1, f2, f3, f4, f5, f6, f7⟩ := z2.out.rs.open8
    refine wpAnyT_one (i := 2) (by kernel_rfl) rfl (fun K hK => ?_)
    go_simp
    refine hK.out _ _ (fun h9 => absurd (show true = false from h9) (by decide)) ?_
    clear hK K
    try simp only [Act.put, List.setIfInBounds_toArray, List.set_cons_zero, List.set_cons_succ]
    refine wpAnyT_pure (i := 3) (v := ?_) rfl (by kernel_rfl) (by kernel_rfl) (by kernel_rfl) (by decide) (fun _ _ _ h => h) (Or.inl ⟨by rfl, ?_⟩) (fun h9 => absurd (show true = false from h9) (by decide)) ?_
    rotate_left
    · intro w _; go_simp; try (with_reducible rfl)
    try simp only [Act.put, List.setIfInBounds_toArray, List.set_cons_zero, List.set_cons_succ]
    refine wpAnyT_done (by kernel_rfl) ?_ _
    (try simp only [Act.put, List.getElem_toArray, List.getElem_cons_succ, List.getElem_cons_zero, List.setIfInBounds_toArray, List.set_cons_zero, List.set_cons_succ])
    have hqU := z.out.rs.lt
    go_wp2_with fail
    refine bodyPost_ret (v := .tuple #[dkv (d) A B c e, .slice X 1 n]) (by simp [results, Tryz.results38, go_sem, hqT, r0, r1, r2, r3, r4, r5, r6, r7]) rfl ?_
    exact ⟨X, n, rfl, own_mono (own_all OX.out hqU _ _ _ _ _ _ _ _) z.out.up.below.size, put8_up z2.out.up z2.out.hq _ _ _ _ _ _ _ _⟩
  | some l =>
    have hl : l.length = 2 := by
      unfold numsOf at hno
      split at hno
      · injection hno with hno; rw [← hno]; rfl
      · cases hno
    obtain ⟨x, hx⟩ : ∃ x : Entry, (⟨num l 0, sn, num l 1⟩ : Entry) = x := ⟨_, rfl⟩
    obtain ⟨L, hL⟩ : ∃ L, (adR d.log x).1 = L := ⟨_, rfl⟩
    obtain ⟨C, hC⟩ : ∃ C, (adR d.log x).2 = C := ⟨_, rfl⟩
    have HAD : Hid (∀ V, Tab V → Calls Tryz.prog 85 #[.string d.log, .agg #[i64 (num l 0), .string sn, i64 (num l 1)]] V fun e w' => e = .returned (.tuple #[.string L, i64 C]) ∧ UpOf V w') := Lib.hid fun V hV => by
      have := addEntryI_any d.log x V HZ.out.l (by rw [← hx]; show sn.size ≤ _; omega) hV
      rw [hL, hC, ← hx] at this
      exact this
    have HLS : Hid (C = 0 → L.size ≤ 4000) := Lib.hid fun h => by rw [← hL]; exact adR_size (by rw [hC]; exact h)
    obtain ⟨N0, hN0⟩ : ∃ n, num l 0 = n := ⟨_, rfl⟩
    obtain ⟨N1, hN1⟩ : ∃ n, num l 1 = n := ⟨_, rfl⟩
    have hpost : ∀ r w', (if C = 0 then mdPost { d with log := L } (nmb (sumI (vaR L sn).1, (vaR L sn).2)) A B c e w r w' else mdPost d [errL C] A B c e w r w') → entPost d sn (some l) A B c e w r w' := fun r w' h => by
      show if (adR d.log ⟨num l 0, sn, num l 1⟩).2 = 0 then _ else _
      rw [hx, hL, hC]
      exact h
    rw [hN0, hN1] at HAD
    have HN0 := Lib.hid hN0
    have HN1 := Lib.hid hN1
    clear hx hL hC hN0 hN1
    refine (show Calls Tryz.prog 38 #[dkv d A B c e, .string sd, .string sn, .string sv] w fun r w' => (if C = 0 then mdPost { d with log := L } (nmb (sumI (vaR L sn).1, (vaR L sn).2)) A B c e w r w' else mdPost d [errL C] A B c e w r w') from ?_).mono hpost
    clear hpost
    by_cases h0 : C = 0
    · subst h0
      have hLs := HLS.out rfl
      obtain ⟨D, hD⟩ : ∃ D : DeskD, { d with log := L } = D := ⟨_, rfl⟩
      have HDE := Lib.hid (show d.b = D.b ∧ d.stops = D.stops ∧ d.drills = D.drills ∧ L = D.log from by rw [← hD]; exact ⟨rfl, rfl, rfl, rfl⟩)
      rw [hD]
      clear hD
      obtain ⟨VL, hVL⟩ : ∃ VL, (vaR L sn).1 = VL := ⟨_, rfl⟩
      obtain ⟨VC, hVC⟩ : ∃ VC, (vaR L sn).2 = VC := ⟨_, rfl⟩
      have hvb := vaR_bd L sn
      rw [hVL] at hvb
      have HVB := Lib.hid hvb
      have HVO : Hid (∀ V, Tab V → Calls Tryz.prog 86 #[.string L, .string sn] V fun e w' => ∃ A' c', e = .returned (.tuple #[.slice A' VL.length c', i64 VC]) ∧ w'.ownsRow V.heap.size 2 1 (.slice A' VL.length c') VL.length (ics VL) ∧ UpOf V w') := Lib.hid fun V hV => by
        have := valuesOfI_any L sn V (by omega) (by omega) hV
        rw [hVL, hVC] at this
        exact this
      have hsum : -4000000000000 ≤ sumI VL ∧ sumI VL ≤ 4000000000000 := by
        have := sumI'_bd (l := VL) (B := 1000000000) (by omega) hvb.2 VL.length (Nat.le_refl _)
        rw [sumI', List.take_length] at this
        have := hvb.1
        omega
      obtain ⟨SV, hSV⟩ : ∃ SV, sumI VL = SV := ⟨_, rfl⟩
      have HSO : Hid (∀ V A1 c1, Rds V 1 A1 VL.length (ics VL) → Calls Tryz.prog 87 #[.slice A1 VL.length c1] V fun e w' => e = .returned (i64 SV) ∧ V = w') := Lib.hid fun V A1 c1 hr => by
        have := sumOf_any A1 c1 VL V hr (by have := HVB.out.1; omega) HVB.out.2
        rw [hSV] at this
        exact this
      rw [hSV] at hsum
      rw [hVL, hVC, hSV]
      obtain ⟨hs1, hs2⟩ := hsum
      clear hVL hVC hvb hSV
      refine (show Calls Tryz.prog 38 #[dkv d A B c e, .string sd, .string sn, .string sv] w fun r w' => mdPost D (nmb (SV, VC)) A B c e w r w' from ?_).mono (fun r w' h => by rw [if_pos rfl]; exact h)
      go_enter Tryz.func38, Tryz.ntmps38
      go_upto_region 1 with (fail)
      refine wpg (R := fun V => Hid (MD w V w.heap.size (w.heap.size + 1) (dkcs d A B c e))) (Lib.hid (MD.new _ _)) (fun V z => ?_)
      generalize hp9 : w.heap.size = p at z ⊢
      generalize hq9 : p + 1 = q at z ⊢
      clear hp9 hq9
      go_wp2_with fail
      refine (readNumbers_any _ 2 [sd, sv] _ (rds_new V #[.string sd, .string sv] 9 1 2 rfl) (by simp) HF.out (HT.out.below (z.out.up.tr (BL.o (by repeat constructor))).below)).mono ?_
      rintro r w' hr
      unfold rnPost at hr
      rw [hno] at hr
      obtain ⟨AN, cn, rfl, on, g1, rfl⟩ := hr
      have hpos2 : 0 < l.length := by omega
      obtain ⟨bN, rfl⟩ : ∃ g, AN = some ⟨g, 0, none⟩ := by
        obtain ⟨_, ⟨_, h2⟩ | ⟨g, cap, cur, h1, _⟩⟩ := on
        · omega
        · injection h1 with h1
          exact ⟨g, h1⟩
      have hbN := on.lt bN rfl
      have hcc : ∀ (T : World), (h : Rds T 1 (some ⟨bN, 0, none⟩) l.length (ics l)) → ∀ i, i < 2 → T.cell? ⟨bN, i, none⟩ = some (i64 (num l i)) := fun T hT i hi => by
        obtain ⟨b9, o9, e9, _, hc9⟩ := hT.at (by omega)
        injection e9 with e9
        injection e9 with e91 e92
        subst e91 e92
        have := hc9 i (i64 (num l i)) (by rw [ics, List.getElem?_map, List.getElem?_eq_getElem (by omega), num_eq (by omega)]; rfl)
        rwa [Nat.zero_add] at this
      have HC2 := Lib.hid (hcc _ (Rds.of_own on))
      have HBN := Lib.hid hbN.2
      clear on hcc hbN
      rw [hl]
      go_upto_region 4 with (fail)
      refine wpg (R := fun U => Hid (MD w U p q (dkcs d A B c e)) ∧ U.cell? ⟨bN, 0, none⟩ = some (i64 N0) ∧ U.cell? ⟨bN, 1, none⟩ = some (i64 N1) ∧ bN < U.heap.size) ⟨Lib.hid (z.out.below (BL.o (by repeat constructor))), by rw [← HN0.out]; exact HC2.out 0 (by omega), by rw [← HN1.out]; exact HC2.out 1 (by omega), HBN.out⟩ (fun U y => ?_)
      obtain ⟨z, n0, n1, hbU⟩ := y
      clear HC2 HBN
      obtain ⟨hpU, x0, x1, x2, x3, x4, x5, x6, x7⟩ := z.out.bx.eight
      obtain ⟨f0, f1, f2, f3, f4, f5, f6, f7⟩ := z.out.bx.open8
      go_wp2_with (first | (go_at_call 85; refine (HAD.out _ (HT.out.below (z.out.up.tr (BL.o (by repeat constructor))).below)).mono ?_; rintro e w' ⟨rfl, g, rfl⟩) | ((with_reducible refine wp_region_up (by kernel_rfl) (by kernel_rfl) ?_); (repeat (go_big_quiet_step (first | (go_at_call 85; first | exact upq_tr (HAD.out _ (HT.out.below (z.out.up.tr (BL.o (by repeat constructor))).below)) | exact upq (HAD.out _ (HT.out.below (z.out.up.tr (BL.o (by repeat constructor))).below)))))); refine wpQuiet_nil ?_; intro _ hw'; obtain ⟨nq, hw''⟩ := hw'; subst hw''))
      have key : Hid (∀ g : Up U, MD w ((up U g).setCell ⟨p, 7, none⟩ (.string L)) p q (dkcs D A B c e)) := Lib.hid fun g => by
        have h := (z.out.below (up_below U g)).put 7 (.string L)
        have e1 := HDE.out
        have e2 : (dkcs d A B c e).setIfInBounds 7 (.string L) = dkcs D A B c e := by
          unfold dkcs
          rw [← e1.1, ← e1.2.1, ← e1.2.2.1, ← e1.2.2.2]; rfl
        rw [e2] at h
        exact h
      refine cg (R := fun T => Hid (MD w T p q (dkcs D A B c e))) (Lib.hid (key.out _)) (fun T z => ?_)
      clear key
      clear x0 x1 x2 x3 x4 x5 x6 x7 f0 f1 f2 f3 f4 f5 f6 f7 hpU n0 n1 hbU
      refine (HVO.out _ (HT.out.below z.out.up.below)).mono ?_
      rintro r w' ⟨AV, cv, rfl, ov, g5, rfl⟩
      go_upto_region 9 with (fail)
      refine wpg (R := fun U => Hid (MD w U p q (dkcs D A B c e)) ∧ Hid (Rds U 1 AV VL.length (ics VL))) ⟨Lib.hid (z.out.below (BL.o (by repeat constructor))), Lib.hid (Rds.of_own ov)⟩ (fun U y => ?_)
      obtain ⟨z, HRV⟩ := y
      clear ov
      have hC : cel8 U.drew p D A B c e := z.out.cel
      refine wp_region_T (fun U => U.cell? ⟨p, 0, none⟩ = some (i64 (D).b.bars) ∧ U.cell? ⟨p, 1, none⟩ = some (i64 (D).b.rise) ∧ U.cell? ⟨p, 2, none⟩ = some (i64 (D).b.fall) ∧ U.cell? ⟨p, 3, none⟩ = some (i64 (D).b.clr) ∧ U.cell? ⟨p, 4, none⟩ = some (i64 (D).b.near) ∧ U.cell? ⟨p, 5, none⟩ = some (.slice A (D).stops.length c) ∧ U.cell? ⟨p, 6, none⟩ = some (.slice B (D).drills.length e) ∧ U.cell? ⟨p, 7, none⟩ = some (.string (D).log)) 6 (by kernel_rfl) ?_
      
      refine wpAnyT_load (i := 0) (v := ?_) rfl (by kernel_rfl) (by kernel_rfl) (by kernel_rfl) (by decide) (by kernel_rfl) (by kernel_rfl) (fun _ _ _ h => h) (Or.inl ⟨by rfl, ?_⟩) hC ?_
      rotate_left
      · intro w hSw; (try dsimp only at hSw); go_simp; try (with_reducible rfl)
      try simp only [Act.put, List.setIfInBounds_toArray, List.set_cons_zero, List.set_cons_succ]
      refine wpAnyT_pure (i := 1) (v := ?_) rfl (by kernel_rfl) (by kernel_rfl) (by kernel_rfl) (by decide) (fun _ _ _ h => h) (Or.inl ⟨by rfl, ?_⟩) (fun _ => hC) ?_
      rotate_left
      · intro w _; go_simp; try (with_reducible rfl)
      try simp only [Act.put, List.setIfInBounds_toArray, List.set_cons_zero, List.set_cons_succ]
      refine wpAnyT_pure (i := 3) (v := ?_) rfl (by kernel_rfl) (by kernel_rfl) (by kernel_rfl) (by decide) (fun _ _ _ h => h) (Or.inl ⟨by rfl, ?_⟩) (fun _ => hC) ?_
      rotate_left
      · intro w _; go_simp; try (with_reducible rfl)
      try simp only [Act.put, List.setIfInBounds_toArray, List.set_cons_zero, List.set_cons_succ]
      refine wpAnyT_one (i := 2) (by kernel_rfl) rfl (fun K hK => ?_)
      go_simp
      go_at_call 87
      refine (HSO.out _ AV cv (HRV.out.below (Below.drew (Below.refl _ _)))).mono ?_
      rintro r w' ⟨rfl, rfl⟩
      refine hK.out _ _ (fun _ => hC) ?_
      clear hK K
      try simp only [Act.put, List.setIfInBounds_toArray, List.set_cons_zero, List.set_cons_succ]
      refine wpAnyT_gen (R := fun U1 => Hid (MD w U1 p q (dkcs D A B c e))) (Lib.hid (z.out.below (V' := U.drew) (Below.drew (Below.refl _ _)))) (fun U1 z1 => ?_)
      clear hC
      refine wpAnyT_one (i := 4) (by kernel_rfl) rfl (fun K hK => ?_)
      go_simp
      go_at_call 35
      refine (number_any SV VC _ (by omega) (by omega) (HT.out.below z1.out.up.below)).mono ?_
      rintro r w' ⟨X, n, rfl, ox, gx, rfl⟩
      have z2 := Lib.hid ((z1).out.below (V' := up U1 gx) (bl_up (Below.refl _ _) gx))
      have OX := Lib.hid ox
      clear ox
      refine hK.out _ _ (fun _ => z2.out.cel) ?_
      clear hK K
      try simp only [Act.put, List.setIfInBounds_toArray, List.set_cons_zero, List.set_cons_succ]
      obtain ⟨hqT, r0, r1, r2, r3, r4, r5, r6, r7⟩ := z2.out.rs.eight
      obtain ⟨f0, f1, f2, f3, f4, f5, f6, f7⟩ := z2.out.rs.open8
      refine wpAnyT_one (i := 5) (by kernel_rfl) rfl (fun K hK => ?_)
      go_simp
      refine hK.out _ _ (fun _ => (blk_far8 z2.out.bx z2.out.ne _ _ _ _ _ _ _ _).eight.2) ?_
      clear hK K
      try simp only [Act.put, List.setIfInBounds_toArray, List.set_cons_zero, List.set_cons_succ]
      refine wpAnyT_one (i := 6) (by kernel_rfl) rfl (fun K hK => ?_)
      go_simp
      refine hK.out _ _ (fun h9 => absurd (show true = false from h9) (by decide)) ?_
      clear hK K
      try simp only [Act.put, List.setIfInBounds_toArray, List.set_cons_zero, List.set_cons_succ]
      refine wpAnyT_done (by kernel_rfl) ?_ _
      (try simp only [Act.put, List.getElem_toArray, List.getElem_cons_succ, List.getElem_cons_zero, List.setIfInBounds_toArray, List.set_cons_zero, List.set_cons_succ])
      have hqW0 := (z1).out.rs.lt
      have HLE0 := Lib.hid (z1).out.up.below.size
      go_wp2_with fail
      refine post_gen (R := fun W => Blk W q 31 (dkcs (D) A B c e) ∧ W.ownsRow w.heap.size 9 1 (.slice X (nmb (SV, VC)).length n) (nmb (SV, VC)).length (strs (nmb (SV, VC))) ∧ UpOf w W) ⟨blk_put8 z2.out.rs _ _ _ _ _ _ _ _, own_mono (own_all OX.out hqW0 _ _ _ _ _ _ _ _) HLE0.out, put8_up z2.out.up z2.out.hq _ _ _ _ _ _ _ _⟩ (fun W st => ?_)
      obtain ⟨s1, s2, s3⟩ := st
      obtain ⟨hqW, w0, w1, w2, w3, w4, w5, w6, w7⟩ := s1.eight
      clear s1 r0 r1 r2 r3 r4 r5 r6 r7 f0 f1 f2 f3 f4 f5 f6 f7
      exact bodyPost_ret (v := .tuple #[dkv (D) A B c e, .slice X (nmb (SV, VC)).length n]) (by simp [results, Tryz.results38, go_sem, hqW, w0, w1, w2, w3, w4, w5, w6, w7]) rfl ⟨_, _, rfl, s2, s3⟩
    · have h0' : (C != 0) = true := by rw [bne_iff_ne]; exact h0
      refine (show Calls Tryz.prog 38 #[dkv d A B c e, .string sd, .string sn, .string sv] w fun r w' => mdPost d [errL C] A B c e w r w' from ?_).mono (fun r w' h => by rw [if_neg h0]; exact h)
      clear h0
      go_enter Tryz.func38, Tryz.ntmps38
      go_upto_region 1 with (fail)
      refine wpg (R := fun V => Hid (MD w V w.heap.size (w.heap.size + 1) (dkcs d A B c e))) (Lib.hid (MD.new _ _)) (fun V z => ?_)
      generalize hp9 : w.heap.size = p at z ⊢
      generalize hq9 : p + 1 = q at z ⊢
      clear hp9 hq9
      go_wp2_with fail
      refine (readNumbers_any _ 2 [sd, sv] _ (rds_new V #[.string sd, .string sv] 9 1 2 rfl) (by simp) HF.out (HT.out.below (z.out.up.tr (BL.o (by repeat constructor))).below)).mono ?_
      rintro r w' hr
      unfold rnPost at hr
      rw [hno] at hr
      obtain ⟨AN, cn, rfl, on, g1, rfl⟩ := hr
      have hpos2 : 0 < l.length := by omega
      obtain ⟨bN, rfl⟩ : ∃ g, AN = some ⟨g, 0, none⟩ := by
        obtain ⟨_, ⟨_, h2⟩ | ⟨g, cap, cur, h1, _⟩⟩ := on
        · omega
        · injection h1 with h1
          exact ⟨g, h1⟩
      have hbN := on.lt bN rfl
      have hcc : ∀ (T : World), (h : Rds T 1 (some ⟨bN, 0, none⟩) l.length (ics l)) → ∀ i, i < 2 → T.cell? ⟨bN, i, none⟩ = some (i64 (num l i)) := fun T hT i hi => by
        obtain ⟨b9, o9, e9, _, hc9⟩ := hT.at (by omega)
        injection e9 with e9
        injection e9 with e91 e92
        subst e91 e92
        have := hc9 i (i64 (num l i)) (by rw [ics, List.getElem?_map, List.getElem?_eq_getElem (by omega), num_eq (by omega)]; rfl)
        rwa [Nat.zero_add] at this
      have HC2 := Lib.hid (hcc _ (Rds.of_own on))
      have HBN := Lib.hid hbN.2
      clear on hcc hbN
      rw [hl]
      go_upto_region 4 with (fail)
      refine wpg (R := fun U => Hid (MD w U p q (dkcs d A B c e)) ∧ U.cell? ⟨bN, 0, none⟩ = some (i64 N0) ∧ U.cell? ⟨bN, 1, none⟩ = some (i64 N1) ∧ bN < U.heap.size) ⟨Lib.hid (z.out.below (BL.o (by repeat constructor))), by rw [← HN0.out]; exact HC2.out 0 (by omega), by rw [← HN1.out]; exact HC2.out 1 (by omega), HBN.out⟩ (fun U y => ?_)
      obtain ⟨z, n0, n1, hbU⟩ := y
      clear HC2 HBN
      obtain ⟨hpU, x0, x1, x2, x3, x4, x5, x6, x7⟩ := z.out.bx.eight
      go_wp2_with (first | (go_at_call 85; refine (HAD.out _ (HT.out.below (z.out.up.tr (BL.o (by repeat constructor))).below)).mono ?_; rintro e w' ⟨rfl, g, rfl⟩) | ((with_reducible refine wp_region_up (by kernel_rfl) (by kernel_rfl) ?_); (repeat (go_big_quiet_step (first | (go_at_call 85; first | exact upq_tr (HAD.out _ (HT.out.below (z.out.up.tr (BL.o (by repeat constructor))).below)) | exact upq (HAD.out _ (HT.out.below (z.out.up.tr (BL.o (by repeat constructor))).below)))))); refine wpQuiet_nil ?_; intro _ hw'; obtain ⟨nq, hw''⟩ := hw'; subst hw''))
      refine wpg (R := fun U => Hid (MD w U p q (dkcs d A B c e))) (Lib.hid (z.out.below (BL.o (by repeat constructor)))) (fun U z => ?_)
      have hC : cel8 U.drew p d A B c e := z.out.cel
      refine wp_region_T (fun U => U.cell? ⟨p, 0, none⟩ = some (i64 (d).b.bars) ∧ U.cell? ⟨p, 1, none⟩ = some (i64 (d).b.rise) ∧ U.cell? ⟨p, 2, none⟩ = some (i64 (d).b.fall) ∧ U.cell? ⟨p, 3, none⟩ = some (i64 (d).b.clr) ∧ U.cell? ⟨p, 4, none⟩ = some (i64 (d).b.near) ∧ U.cell? ⟨p, 5, none⟩ = some (.slice A (d).stops.length c) ∧ U.cell? ⟨p, 6, none⟩ = some (.slice B (d).drills.length e) ∧ U.cell? ⟨p, 7, none⟩ = some (.string (d).log)) 3 (by kernel_rfl) ?_
      
      refine wpAnyT_load (i := 0) (v := ?_) rfl (by kernel_rfl) (by kernel_rfl) (by kernel_rfl) (by decide) (by kernel_rfl) (by kernel_rfl) (fun _ _ _ h => h) (Or.inl ⟨by rfl, ?_⟩) hC ?_
      rotate_left
      · intro w hSw; (try dsimp only at hSw); go_simp; try (with_reducible rfl)
      try simp only [Act.put, List.setIfInBounds_toArray, List.set_cons_zero, List.set_cons_succ]
      refine wpAnyT_pure (i := 1) (v := ?_) rfl (by kernel_rfl) (by kernel_rfl) (by kernel_rfl) (by decide) (fun _ _ _ h => h) (Or.inl ⟨by rfl, ?_⟩) (fun _ => hC) ?_
      rotate_left
      · intro w _; go_simp; try (with_reducible rfl)
      try simp only [Act.put, List.setIfInBounds_toArray, List.set_cons_zero, List.set_cons_succ]
      refine wpAnyT_one (i := 2) (by kernel_rfl) rfl (fun K hK => ?_)
      go_simp
      go_at_call 70
      refine (report_any C _).mono ?_
      rintro r w' ⟨X, n, rfl, ox, gx, rfl⟩
      have z2 := Lib.hid (z.out.below (V' := up U.drew gx) (bl_up (Below.drew (Below.refl _ _)) gx))
      have OX := Lib.hid ox
      clear ox
      refine hK.out _ _ (fun _ => z2.out.cel) ?_
      clear hK K
      try simp only [Act.put, List.setIfInBounds_toArray, List.set_cons_zero, List.set_cons_succ]
      obtain ⟨hqT, r0, r1, r2, r3, r4, r5, r6, r7⟩ := z2.out.rs.eight
      obtain ⟨f0, f1, f2, f3, f4, f5, f6, f7⟩ := z2.out.rs.open8
      refine wpAnyT_one (i := 3) (by kernel_rfl) rfl (fun K hK => ?_)
      go_simp
      refine hK.out _ _ (fun h9 => absurd (show true = false from h9) (by decide)) ?_
      clear hK K
      try simp only [Act.put, List.setIfInBounds_toArray, List.set_cons_zero, List.set_cons_succ]
      refine wpAnyT_pure (i := 4) (v := ?_) rfl (by kernel_rfl) (by kernel_rfl) (by kernel_rfl) (by decide) (fun _ _ _ h => h) (Or.inl ⟨by rfl, ?_⟩) (fun h9 => absurd (show true = false from h9) (by decide)) ?_
      rotate_left
      · intro w _; go_simp; try (with_reducible rfl)
      try simp only [Act.put, List.setIfInBounds_toArray, List.set_cons_zero, List.set_cons_succ]
      refine wpAnyT_done (by kernel_rfl) ?_ _
      (try simp only [Act.put, List.getElem_toArray, List.getElem_cons_succ, List.getElem_cons_zero, List.setIfInBounds_toArray, List.set_cons_zero, List.set_cons_succ])
      have hqU := z.out.rs.lt
      go_wp2_with fail
      refine bodyPost_ret (v := .tuple #[dkv (d) A B c e, .slice X 1 n]) (by simp [results, Tryz.results38, go_sem, hqT, r0, r1, r2, r3, r4, r5, r6, r7]) rfl ?_
      exact ⟨X, n, rfl, own_mono (own_all OX.out hqU _ _ _ _ _ _ _ _) z.out.up.below.size, put8_up z2.out.up z2.out.hq _ _ _ _ _ _ _ _⟩
end Go.Proofs.YtbianlkenallaaaGreatDoor
namespace Go.Proofs.YtbianlkenallaaaGreatDoor
open Go.RowKit
theorem rds_grown {w w' : World} {sz n : Nat} {A : Option Addr} {xs : List Value} {row : Option Nat} (h : Rds w sz A n xs) (hg : w.grownBy w' row) (hne : ∀ b off, A = some ⟨b, off, none⟩ → some b ≠ row) : Rds w' sz A n xs :=
  ⟨h.1, fun h0 => by
    obtain ⟨b, off, e, hb, hc⟩ := h.2 h0
    exact ⟨b, off, e, Nat.lt_of_lt_of_le hb hg.size, fun j u hu => hg.cell (hc j u hu) (hne b off e)⟩⟩
set_option maxRecDepth 10000 in
set_option maxHeartbeats 4000000 in
theorem listDrills_any (d : DeskD) (A B : Option Addr) (c e : Nat) (s : ByteArray) (w : World) (hS : DSee w d A B) (hz : DkSz d e) (hk : kindOf s = 4) (ht : Tab w) :
    Calls Tryz.prog 39 #[dkv d A B c e, .string s] w fun r w' => txPost (d.drills.map drText ++ [okLine d.drills.length]) w r w' := by
  have HS := Lib.hid hS
  have HZ := Lib.hid hz
  have HT := Lib.hid ht
  have q4 : (s.toList == [100, 114, 105, 108, 108, 115]) = true := by
    have := kind_test2 s (i := 4) (by omega)
    rw [hk] at this
    exact this
  obtain ⟨R, hR⟩ : ∃ R, d.drills.map drText ++ [okLine d.drills.length] = R := ⟨_, rfl⟩
  have HR := Lib.hid hR
  rw [hR]
  clear hS hz hk ht hR
  go_enter Tryz.func39, Tryz.ntmps39
  go_upto_region 1 with (fail)
  refine wpg (R := fun V => Box V w.heap.size (dkcs d A B c e) ∧ UpOf w V) ⟨Box.new _ _ _, UpOf.of (BL.o (by repeat constructor))⟩ (fun V z => ?_)
  obtain ⟨hb, hB⟩ := z
  have HU := Lib.hid hB
  obtain ⟨hpV, x0, x1, x2, x3, x4, x5, x6, x7⟩ := hb.eight
  clear hb hB
  generalize w.heap.size = p at *
  have hOwn := Lib.hid (World.ownsRow_lit (base := V.heap.size) (e := 9) (size := 1) V #[] 0 (Nat.le_refl _) (by unfold maxLen; omega) rfl)
  go_wp2_with (first | ((with_reducible refine wp_region_up (by kernel_rfl) (by kernel_rfl) ?_); (repeat (go_big_quiet_step (fail))); refine wpQuiet_nil ?_; intro _ hw'; obtain ⟨nq, hw''⟩ := hw'; subst hw''))
  have hdn := HZ.out.n
  clear x0 x1 x2 x3 x4 x5 x6 x7 hpV
  go_loopw [5, 18] (fun t5 t18 wr => ∃ (k : Nat) (L : List ByteArray) (A1 : Option Addr) (c1 : Nat), k ≤ d.drills.length ∧ t18 = i64 k ∧ t5 = .slice A1 L.length c1 ∧ Hid (L = (d.drills.take k).map drText) ∧ Hid (wr.ownsRow V.heap.size 9 1 (.slice A1 L.length c1) L.length (strs L)) ∧ ∃ g : Up V, wr = up V g) (fun _ t18 _ => d.drills.length - (intOf t18).toNat)
  case atStart => exact ⟨0, [], _, _, by omega, rfl, rfl, Lib.hid rfl, Lib.hid hOwn.out, ex_up (BL.o (by repeat constructor))⟩
  case round =>
    obtain ⟨k, L, A1, c1, hk, rfl, rfl, HE, HO, g, rfl⟩ := hrel
    clear hOwn
    have hLl : L.length ≤ 100000000 := by rw [HE.out, List.length_map, List.length_take]; omega
    by_cases hlt : k < d.drills.length
    · obtain ⟨b, off, rfl, hb, x0, x1, x2⟩ := drl_at ((HS.out.2.below HU.out.below).below (up_below V g)) hlt
      obtain ⟨f1, f2⟩ := HZ.out.b k hlt
      obtain ⟨T, hT⟩ : ∃ T, drText (drl d.drills k) = T := ⟨_, rfl⟩
      have HDT : Hid (∀ V, Tab V → Calls Tryz.prog 88 #[.agg #[.string (drl d.drills k).name, .string (drl d.drills k).letters, i64 (drl d.drills k).minutes]] V fun e w' => e = .returned (.string T) ∧ UpOf V w') := Lib.hid fun V hV => by
        rw [← hT]; exact drillText_any (drl d.drills k) V (by omega) (by omega) hV
      have HE2 := Lib.hid (show L ++ [T] = (d.drills.take (k + 1)).map drText by
        rw [List.take_succ, List.map_append, ← HE.out, List.getElem?_eq_getElem hlt, drl_eq hlt, ← hT]; rfl)
      clear hT HE
      go_wp2_with (first | (go_at_call 88; refine (HDT.out _ (HT.out.below (HU.out.tr (BL.o (by repeat constructor))).below)).mono ?_; rintro e w' ⟨rfl, g, rfl⟩) | (at_builtin; go_must (refine wpl_appU rfl _ _ 24 rfl V V.heap.size 9 _ 1 16 el_str (.slice A1 L.length c1) L.length (strs L) rfl (own_below HO.out (BL.o (by repeat constructor))) _ 1 1 [.string T] rfl (rds_new _ _ _ 1 1 rfl) (fun u hu => by simp at hu; subst hu; rfl) (by unfold maxLen; omega) (by omega) (show Below V.heap.size V _ from (BL.o (by repeat constructor))).size (BL.o (by repeat constructor)) (Nat.le_refl _) ?_; intro A2 c2 g2 o2)) | ((with_reducible refine wp_region_up (by kernel_rfl) (by kernel_rfl) ?_); (repeat (go_big_quiet_step (first | (go_at_call 88; first | exact upq_tr (HDT.out _ (HT.out.below (HU.out.tr (BL.o (by repeat constructor))).below)) | exact upq (HDT.out _ (HT.out.below (HU.out.tr (BL.o (by repeat constructor))).below)))))); refine wpQuiet_nil ?_; intro _ hw'; obtain ⟨nq, hw''⟩ := hw'; subst hw''))
      go_roundw
      case rel => exact ⟨k + 1, L ++ [T], A2, c2, by omega, by go_num, congrArg (fun n => Value.slice A2 n c2) (by simp), HE2, Lib.hid (by rw [List.length_append, strs_app]; exact o2), ex_up (BL.o (by repeat constructor))⟩
      case measure => simp [intOf]; try omega
    · obtain rfl : k = d.drills.length := by omega
      have HF := Lib.hid (show R = L ++ [okLine L.length] by rw [← HR.out, HE.out, List.take_length, List.length_map])
      clear HE
      go_wp2_with fail
      refine (listed_any V.heap.size A1 c1 L (up V g) (up_below V g).size HO.out (by omega) (HT.out.below (HU.out.tr (up_below V g)).below) V (up_below V g) (Nat.le_refl _)).mono ?_
      rintro r w' ⟨A2, c2, rfl, o2, g2, rfl⟩
      go_wp2_with fail
      go_ret
      refine ⟨A2, c2, ?_, ?_, HU.out.tr (BL.o (by repeat constructor))⟩
      · rw [HF.out, List.length_append]; rfl
      · rw [HF.out, List.length_append]; exact own_mono o2 HU.out.below.size
set_option maxRecDepth 10000 in
set_option maxHeartbeats 4000000 in
theorem listLog_any (d : DeskD) (A B : Option Addr) (c e : Nat) (s : ByteArray) (w : World) (hz : DkSz d e) (hk : kindOf s = 8) (hv : vDesk d = true) (ht : Tab w) :
    Calls Tryz.prog 39 #[dkv d A B c e, .string s] w fun r w' => txPost ((entsL d.log).map ewords ++ [okLine (entsL d.log).length]) w r w' := by
  have HZ := Lib.hid hz
  have HT := Lib.hid ht
  have q4 : (s.toList == [100, 114, 105, 108, 108, 115]) = false := by
    have := kind_test2 s (i := 4) (by omega)
    rw [hk] at this
    exact this
  have hcl := (vDesk_inv hv).2.2.2
  obtain ⟨E, hE⟩ : ∃ E, entsL d.log = E := ⟨_, rfl⟩
  have hEl : E.length ≤ 4000 := by rw [← hE]; exact entsL_len hcl
  have HEV : Hid (∀ i (h : i < E.length), vEntry E[i] = true) := Lib.hid fun i h => by
    have := entsL_ok d.log E[i] (by rw [hE]; exact List.getElem_mem h)
    exact this
  have HEO : Hid (∀ V, Tab V → Calls Tryz.prog 68 #[.string d.log] V fun e w' => ∃ A' c', e = .returned (.tuple #[.slice A' E.length c', i64 0]) ∧ w'.ownsRow V.heap.size 127 3 (.slice A' E.length c') E.length (encs E) ∧ UpOf V w') := Lib.hid fun V hV => by
    have := entriesOfI_any d.log V HZ.out.l hV
    rw [enR, if_pos hcl, hE] at this
    exact this
  rw [hE]
  obtain ⟨R, hR⟩ : ∃ R, E.map ewords ++ [okLine E.length] = R := ⟨_, rfl⟩
  have HR := Lib.hid hR
  rw [hR]
  clear hz hk ht hR hv hcl hE
  go_enter Tryz.func39, Tryz.ntmps39
  go_upto_region 1 with (fail)
  refine wpg (R := fun V => Box V w.heap.size (dkcs d A B c e) ∧ UpOf w V) ⟨Box.new _ _ _, UpOf.of (BL.o (by repeat constructor))⟩ (fun V z => ?_)
  obtain ⟨hb, hB⟩ := z
  have HU := Lib.hid hB
  obtain ⟨hpV, x0, x1, x2, x3, x4, x5, x6, x7⟩ := hb.eight
  clear hb hB
  generalize w.heap.size = p at *
  have hOwn := Lib.hid (World.ownsRow_lit (base := V.heap.size) (e := 9) (size := 1) V #[] 0 (Nat.le_refl _) (by unfold maxLen; omega) rfl)
  go_wp2_with fail
  refine (HEO.out _ (HT.out.below (HU.out.tr (BL.o (by repeat constructor))).below)).mono ?_
  rintro r w' ⟨AE, cE, rfl, oe, g0, rfl⟩
  have HNE : Hid (∀ b off, AE = some ⟨b, off, none⟩ → b ≠ V.heap.size) := Lib.hid fun b off hb => by
    subst hb
    have := (oe.lt b rfl).1
    rw [World.size_alloc] at this
    omega
  have HRE := Lib.hid (Rds.of_own oe)
  have hup : Hid (Below V.heap.size V (up (V.alloc (.cells #[] 9)) g0)) := Lib.hid (BL.o (by repeat constructor))
  have HO0 := Lib.hid (own_below hOwn.out (up_below _ g0))
  clear oe hOwn x0 x1 x2 x3 x4 x5 x6 x7 hpV
  go_wp2_with fail
  generalize up (V.alloc (.cells #[] 9)) g0 = V2 at *
  go_loopw [5, 38] (fun t5 t38 wr => ∃ (k : Nat) (L : List ByteArray) (ga c1 : Nat), k ≤ E.length ∧ t38 = i64 k ∧ t5 = .slice (some ⟨ga, 0, none⟩) L.length c1 ∧ Hid (L = (E.take k).map ewords) ∧ Hid (wr.ownsRow V.heap.size 9 1 (.slice (some ⟨ga, 0, none⟩) L.length c1) L.length (strs L)) ∧ Hid (Rds wr 3 AE E.length (encs E) ∧ ∀ b off, AE = some ⟨b, off, none⟩ → b ≠ ga) ∧ Hid (Below V.heap.size V wr)) (fun _ t38 _ => E.length - (intOf t38).toNat)
  case atStart => exact ⟨0, [], _, _, by omega, rfl, rfl, Lib.hid rfl, HO0, Lib.hid ⟨HRE.out, HNE.out⟩, hup⟩
  case round =>
    obtain ⟨k, L, ga, c1, hk, rfl, rfl, HE, HO, HRr, HBv⟩ := hrel
    clear HRE hup HO0 HNE
    have hLl : L.length ≤ 4000 := by rw [HE.out, List.length_map, List.length_take]; omega
    by_cases hlt : k < E.length
    · obtain ⟨b, off, rfl, hb, x0, x1, x2⟩ := en_at HRr.out.1 hlt
      have hbne := HRr.out.2 b off rfl
      obtain ⟨X, hX⟩ : ∃ X, E[k] = X := ⟨_, rfl⟩
      have hvX : vEntry X = true := by rw [← hX]; exact HEV.out k hlt
      rw [hX] at x0 x1 x2
      obtain ⟨T, hT⟩ : ∃ T, ewords X = T := ⟨_, rfl⟩
      have HDT : Hid (∀ V, Tab V → Calls Tryz.prog 90 #[.agg #[i64 X.day, .string X.what, i64 X.value]] V fun e w' => e = .returned (.string T) ∧ UpOf V w') := Lib.hid fun V hV => by
        rw [← hT]; exact words_any X hvX V hV
      have HE2 := Lib.hid (show L ++ [T] = (E.take (k + 1)).map ewords by
        rw [List.take_succ, List.map_append, ← HE.out, List.getElem?_eq_getElem hlt, hX, ← hT]; rfl)
      have HTw := Lib.hid (HT.out.below (HU.out.tr HBv.out).below)
      have HGA := Lib.hid (HO.out.lt ga rfl).1
      clear hT HE hX hvX
      go_wp2_with (first | (go_at_call 90; refine (HDT.out _ (HTw.out.below (BL.o (by repeat constructor)))).mono ?_; rintro e w' ⟨rfl, g, rfl⟩) | (at_builtin; go_must (refine wpl_appAt rfl _ _ 24 rfl V.heap.size 9 _ 1 16 el_str (.slice (some ⟨ga, 0, none⟩) L.length c1) L.length (strs L) rfl (own_below HO.out (BL.o (by repeat constructor))) _ 1 1 [.string T] rfl (rds_new _ _ _ 1 1 rfl) (fun u hu => by simp at hu; subst hu; rfl) (by omega) (by unfold maxLen; omega) (by omega) (Nat.le_trans HBv.out.size (show Below wr.heap.size wr _ from (BL.o (by repeat constructor))).size) ?_; intro g9 c9 w9 o9 hg9 hat9; have HG9 := Lib.hid hg9; have O9 := Lib.hid o9; have HAT := Lib.hid hat9; clear hg9 o9 hat9)) | ((with_reducible refine wp_region_up (by kernel_rfl) (by kernel_rfl) ?_); (repeat (go_big_quiet_step (first | (go_at_call 90; first | exact upq_tr (HDT.out _ (HTw.out.below (BL.o (by repeat constructor)))) | exact upq (HDT.out _ (HTw.out.below (BL.o (by repeat constructor)))))))); refine wpQuiet_nil ?_; intro _ hw'; obtain ⟨nq, hw''⟩ := hw'; subst hw''))
      go_roundw
      case rel => exact ⟨k + 1, L ++ [T], g9, c9, by omega, by go_num, congrArg (fun n => Value.slice (some ⟨g9, 0, none⟩) n c9) (by simp), HE2, Lib.hid (by rw [List.length_append, strs_app]; exact O9.out),
        Lib.hid ⟨rds_grown (HRr.out.1.below (BL.o (by repeat constructor))) HG9.out (fun b' off' e9 e8 => by
          injection e9 with e9
          injection e9 with e9
          injection e8 with e8
          exact hbne (by rw [e9]; exact e8)), fun b' off' e9 e8 => by
          injection e9 with e9
          injection e9 with e9
          rcases HAT.out with h | h
          · injection h with h
            have h' : ga = g9 := h
            exact hbne (by rw [e9, e8, ← h'])
          · have hlt9 : b < g9 := by
              rw [h]
              exact Nat.lt_of_lt_of_le hb (show Below wr.heap.size wr _ from (BL.o (by repeat constructor))).size
            omega⟩,
        Lib.hid ((HBv.out.trans (Below.mono (BL.o (by repeat constructor)) HBv.out.size)).grown HG9.out (Nat.le_trans HBv.out.size (show Below wr.heap.size wr _ from (BL.o (by repeat constructor))).size) (fun k hk => by injection hk with hk; rw [← hk]; exact HGA.out))⟩
      case measure => simp [intOf]; try omega
    · obtain rfl : k = E.length := by omega
      have HF := Lib.hid (show R = L ++ [okLine L.length] by rw [← HR.out, HE.out, List.take_length, List.length_map])
      clear HE
      go_wp2_with fail
      refine (listed_any V.heap.size (some ⟨ga, 0, none⟩) c1 L wr HBv.out.size HO.out (by omega) (HT.out.below (HU.out.tr HBv.out).below) V HBv.out (Nat.le_refl _)).mono ?_
      rintro r w' ⟨A2, c2, rfl, o2, g2, rfl⟩
      go_wp2_with fail
      go_ret
      refine ⟨A2, c2, ?_, ?_, HU.out.tr (BL.o (by repeat constructor))⟩
      · rw [HF.out, List.length_append]; rfl
      · rw [HF.out, List.length_append]; exact own_mono o2 HU.out.below.size
end Go.Proofs.YtbianlkenallaaaGreatDoor
namespace Go.Proofs.YtbianlkenallaaaGreatDoor
open Go.RowKit
set_option maxRecDepth 10000 in
set_option maxHeartbeats 2000000 in
theorem copied_any (d : DeskD) (A B : Option Addr) (c e : Nat) (w : World) (h : DSee w d A B) (hn : d.stops.length ≤ 100000000) (hm : d.drills.length ≤ 100000000) :
    Calls Tryz.prog 29 #[dkv d A B c e] w fun r w' => ∃ A' B' c' e', r = .returned (dkv d A' B' c' e') ∧ DOwn w.heap.size w' d A' B' c' e' ∧ UpOf w w' := by
  have HR := Lib.hid h
  clear h
  go_enter Tryz.func29, Tryz.ntmps29
  go_upto_region 1 with (fail)
  refine wpg (R := fun V => Hid (MD w V w.heap.size (w.heap.size + 1) (dkcs d A B c e))) (Lib.hid (MD.new _ _)) (fun V z => ?_)
  generalize hp9 : w.heap.size = p at z ⊢
  generalize hq9 : p + 1 = q at z ⊢
  obtain ⟨hpV, x0, x1, x2, x3, x4, x5, x6, x7⟩ := z.out.bx.eight
  obtain ⟨f0, f1, f2, f3, f4, f5, f6, f7⟩ := z.out.bx.open8
  have HQ : Hid (q < V.heap.size) := Lib.hid z.out.rs.lt
  have hst := Lib.hid (World.ownsRow_lit (base := V.heap.size) (e := 2) (size := 1) V #[] 0 (Nat.le_refl _) (by unfold maxLen; omega) rfl)
  have HSt := Lib.hid (HR.out.1.below z.out.up.below)
  go_upto_region 2 with (at_builtin; go_must (refine wpl_appU rfl _ _ 28 rfl V V.heap.size 2 _ 1 8 el_int64 (.slice (some ⟨V.heap.size, 0, none⟩) 0 0) 0 [] rfl hst.out _ d.stops.length _ (ics d.stops) rfl (HSt.out.below (BL.o (by repeat constructor))) (fun u hu => by simp only [ics, List.mem_map] at hu; obtain ⟨_, _, rfl⟩ := hu; rfl) (by unfold maxLen; omega) (by omega) (show Below V.heap.size V _ from (BL.o (by repeat constructor))).size (BL.o (by repeat constructor)) (Nat.le_refl _) ?_; intro A1 c1 g1 o1))
  have HPV := Lib.hid hpV
  have HQV := HQ
  have HVW := Lib.hid z.out.up.below.size
  refine wpg (R := fun U => Hid (MD w U p q (dkcs d A1 B c1 e)) ∧ Hid (U.ownsRow V.heap.size 2 1 (.slice A1 d.stops.length c1) d.stops.length (ics d.stops)) ∧ V.heap.size ≤ U.heap.size) ⟨Lib.hid (by
      have := (z.out.below (up_below V g1)).put 5 (.slice A1 d.stops.length c1)
      exact this), Lib.hid (own_setOld (p := ⟨p, 5, none⟩) (by simpa using o1) hpV _), by rw [World.size_setCell]; exact (up_below V g1).size⟩ (fun U y => ?_)
  obtain ⟨y1, y2, y3⟩ := y
  clear x0 x1 x2 x3 x4 x5 x6 x7 f0 f1 f2 f3 f4 f5 f6 f7 hpV hst HSt HQ z
  obtain ⟨hpU, x0, x1, x2, x3, x4, x5, x6, x7⟩ := y1.out.bx.eight
  obtain ⟨f0, f1, f2, f3, f4, f5, f6, f7⟩ := y1.out.bx.open8
  have hst := Lib.hid (World.ownsRow_lit (base := U.heap.size) (e := 112) (size := 3) U #[] 0 (Nat.le_refl _) (by unfold maxLen; omega) rfl)
  have HSt := Lib.hid (HR.out.2.below y1.out.up.below)
  go_upto_region 3 with (at_builtin; go_must (refine wpl_appU rfl _ _ 29 rfl U U.heap.size 112 _ 3 40 el_drl (.slice (some ⟨U.heap.size, 0, none⟩) 0 0) 0 [] rfl hst.out _ d.drills.length _ (drcs d.drills) rfl (HSt.out.below (BL.o (by repeat constructor))) (dr_one d.drills) (by unfold maxLen; omega) (by omega) (show Below U.heap.size U _ from (BL.o (by repeat constructor))).size (BL.o (by repeat constructor)) (Nat.le_refl _) ?_; intro A2 c2 g2 o2))
  refine wpg (R := fun T => Hid (MD w T p q (dkcs d A1 A2 c1 c2)) ∧ Hid (T.ownsRow V.heap.size 2 1 (.slice A1 d.stops.length c1) d.stops.length (ics d.stops)) ∧ Hid (T.ownsRow U.heap.size 112 3 (.slice A2 d.drills.length c2) d.drills.length (drcs d.drills))) ⟨Lib.hid (by
      have := (y1.out.below (up_below U g2)).put 6 (.slice A2 d.drills.length c2)
      exact this), Lib.hid (own_setOld (p := ⟨p, 6, none⟩) (own_below y2.out (up_below U g2)) HPV.out _), Lib.hid (own_setOld (p := ⟨p, 6, none⟩) (by simpa using o2) hpU _)⟩ (fun T s => ?_)
  obtain ⟨s1, s2, s3⟩ := s
  have hqV := HQV.out
  clear x0 x1 x2 x3 x4 x5 x6 x7 f0 f1 f2 f3 f4 f5 f6 f7 hpU hst HSt y1 y2
  obtain ⟨hpT, x0, x1, x2, x3, x4, x5, x6, x7⟩ := s1.out.bx.eight
  obtain ⟨hqT, r0, r1, r2, r3, r4, r5, r6, r7⟩ := s1.out.rs.eight
  obtain ⟨f0, f1, f2, f3, f4, f5, f6, f7⟩ := s1.out.rs.open8
  have hne := s1.out.ne
  go_wp2_with fail
  refine bodyPost_ret (v := dkv d A1 A2 c1 c2) (by simp [results, Tryz.results29, go_sem, hqT, r0, r1, r2, r3, r4, r5, r6, r7]) rfl ?_
  exact ⟨A1, A2, c1, c2, rfl, ⟨own_mono (own_all s2.out (by omega) _ _ _ _ _ _ _ _) HVW.out, own_mono (own_all s3.out (by omega) _ _ _ _ _ _ _ _) (Nat.le_trans HVW.out y3)⟩, put8_up s1.out.up s1.out.hq _ _ _ _ _ _ _ _⟩
end Go.Proofs.YtbianlkenallaaaGreatDoor
