/-
  ReadWare of the reference. The bound stands at it.
-/
import Derived.Test.YtiibpldfnnhhlaaDoorReadWareI
import Derived.Test.YtiibpldfnnhhlaaDoorSplitS
import Derived.Test.YtiibpldfnnhhlaaDoorNumS
namespace Go.Proofs.YtiibpldfnnhhlaaDoor
open Go.RowKit
theorem words2w {w : World} {A : Option Addr} {W : List ByteArray} (h : Rds w 1 A W.length (strs W)) (h4 : W.length = 2) :
    ∃ b off, A = some ⟨b, off, none⟩ ∧ b < w.heap.size ∧ w.cell? ⟨b, off, none⟩ = some (.string (W.getD 0 ByteArray.empty)) ∧ w.cell? ⟨b, off + 1, none⟩ = some (.string (W.getD 1 ByteArray.empty)) := by
  obtain ⟨b, off, e, hb, hc⟩ := str_at h (i := 0) (by omega)
  exact ⟨b, off, e, hb, hc 0 (by omega), hc 1 (by omega)⟩
theorem vAt_size (x : ByteArray) (i : Nat) : (vAt x i).size ≤ x.size := by
  unfold vAt vS
  rw [List.getD_eq_getElem?_getD]
  cases h : (splitA 58 [] x.data.toList)[i]? with
  | none => exact Nat.zero_le _
  | some p =>
    have := split_size 58 x.data.toList [] p (List.mem_of_getElem? h)
    rw [bsz] at this
    simpa using this
theorem okRS_all {s : ByteArray} (h : allW (wS s).tail = false) : okRS s = false := by simp [okRS, h]
theorem okRS_bad {s : ByteArray} (h : vWare (xWS s) = false) : okRS s = false := by simp [okRS, h]
theorem okRS_mk {s : ByteArray} (h : allW (wS s).tail = true) (h2 : vWare (xWS s) = true) : okRS s = true := by rw [okRS, h, h2]; rfl
set_option maxRecDepth 10000 in
set_option maxHeartbeats 4000000 in
theorem readWareS_any (s : ByteArray) (w : World) (hs : s.size ≤ 1048576) :
    Calls Tryd.prog 11 #[.string s] w (rwPost s w) := by
  go_enter Tryd.func11, Tryd.ntmps11
  go_wp2_with fail
  refine cg (R := fun V => Blk V w.heap.size 29 #[.string ⟨#[]⟩, .slice none 0 0] ∧ UpOf w V) ⟨Blk.new _ _ _, UpOf.of (by repeat (first | exact Below.refl _ _ | refine bl_tr ?_ _ | refine bl_al ?_ _ | refine bl_dr ?_ | refine bl_up ?_ _ | refine Below.drew ?_ | refine bl_alloc ?_ _ | refine Below.setCell ?_ (by first | (simp; done) | (simp; omega)) _))⟩ (fun V z => ?_)
  have HU := Lib.hid z.2
  have HQ2 := Lib.hid z.1
  clear z
  obtain ⟨q2, hqq⟩ : ∃ q, w.heap.size = q := ⟨_, rfl⟩
  have HQ := Lib.hid (show w.heap.size ≤ q2 from Nat.le_of_eq hqq)
  rw [hqq] at HQ2 ⊢
  clear hqq
  have hwl := split_len 32 s.data.toList []
  rw [bsz] at hwl
  have hwz := split_size 32 s.data.toList []
  refine (l01Split_any s 32 32 rfl V (by omega)).mono ?_
  rintro e V1 ⟨Aw, cw, rfl, ow, hu⟩
  have HW := Lib.hid (Rds.of_own ow)
  have HQ1 := Lib.hid (show Blk V1 q2 29 #[.string ⟨#[]⟩, .slice none 0 0] from (hu.below.block q2 HQ2.out.lt).trans HQ2.out)
  have HU1 := Lib.hid (HU.out.tr hu.below)
  clear ow hu HQ2 HU
  obtain ⟨W, hW⟩ : ∃ W, splitA 32 [] s.data.toList = W := ⟨_, rfl⟩
  have hne := splitA_ne 32 s.data.toList []
  rw [hW] at HW hwl hwz hne ⊢
  have HWW := Lib.hid (show wS s = W from hW)
  clear hW
  cases W with
  | nil => exact absurd rfl hne
  | cons p ws =>
    obtain ⟨bw, ow, rfl, hbw, hwc⟩ := str_at HW.out (i := 0) (by simp)
    have w0 := hwc 0 (by simp)
    simp only [List.getD_cons_zero, Nat.add_zero] at w0
    have hwlen : (p :: ws).length = ws.length + 1 := rfl
    have hwsl : ws.length ≤ 1048577 := by simp at hwl; omega
    have HWZ := Lib.hid hwz
    have HWC := Lib.hid (show ∀ i, i < ws.length → V1.cell? ⟨bw, ow + (i + 1), none⟩ = some (.string (ws.getD i ByteArray.empty)) from fun i hi => hwc (i + 1) (by simp; omega))
    have hz1 : (0 : Int) < (ws.length : Int) + 1 := by omega
    clear hwc hwz hwl hne
    rw [hwlen]
    go_wp2_with fail
    refine wpg (R := fun V => OBox V1 V (V1.heap.size + 1) V1.heap.size p (some ⟨V1.heap.size, 0, none⟩) 0 []) ⟨?_, ?_, .inr ?_, ((Below.refl _ _).alloc (Nat.le_refl _) _).alloc (by simp) _⟩ (fun V2 hB2 => ?_)
    · have := Blk.new (V1.alloc (.cells #[] 69)) 29 #[.string p, .slice (some ⟨V1.heap.size, 0, none⟩) 0 0]
      simpa using this
    · exact own_below (World.ownsRow_lit (base := V1.heap.size) (e := 69) (size := 2) V1 #[] 0 (Nat.le_refl _) (by unfold maxLen; omega) rfl) ((Below.refl _ _).alloc (Nat.le_refl _) _)
    · intro e; injection e with e; have e : V1.heap.size = V1.heap.size + 1 := e; omega
    have HB2 := Lib.hid hB2
    clear hB2 w0
    obtain ⟨q4, hq4e⟩ : ∃ q4, V1.heap.size = q4 := ⟨_, rfl⟩
    have HQ4 := Lib.hid hq4e
    have hq25 : ¬ q2 = q4 + 1 := by have := HQ1.out.lt; omega
    rw [hq4e] at HB2 ⊢
    clear hq4e
    go_loopw [6] (fun ii wr => ∃ (i : Nat) (A : Option Addr) (c : Nat), ii = i64 ((i : Int) + 1) ∧ i ≤ ws.length ∧ Hid (OBox V1 wr (q4 + 1) q4 p A c (brsW (ws.take i))) ∧ Hid (allW (ws.take i) = true)) (fun ii _ => ws.length + 1 - (intOf ii).toNat)
    case atStart => exact ⟨0, some ⟨q4, 0, none⟩, 0, rfl, by omega, (show OBox V1 V2 (q4 + 1) q4 p (some ⟨q4, 0, none⟩) 0 (brsW (ws.take 0)) from HB2.out), (by show allW (ws.take 0) = true; rfl)⟩
    case round =>
      obtain ⟨i, A, c, rfl, hi, hB, hal⟩ := hrel
      clear HB2
      have hbx := hB.out.box.lt
      have b0 := hB.out.c0
      have b1 := hB.out.c1
      have bf := hB.out.box.free 1
      have HQ3 := Lib.hid (show Blk wr q2 29 #[.string ⟨#[]⟩, .slice none 0 0] from (hB.out.bel.block q2 HQ1.out.lt).trans HQ1.out)
      have q2l := HQ3.out.lt
      have q20 := HQ3.out.cell 0
      have q21 := HQ3.out.cell 1
      have q2f0 := HQ3.out.free 0
      have q2f1 := HQ3.out.free 1
      simp only [List.getElem?_toArray, List.getElem?_cons_zero, List.getElem?_cons_succ] at q20 q21
      have HUW := Lib.hid (show Below w.heap.size w wr from HU1.out.below.trans (hB.out.bel.mono HU1.out.below.size))
      by_cases hil : i < ws.length
      · have w0 := (hB.out.bel.cell (p := ⟨bw, ow + (i + 1), none⟩) hbw).trans (HWC.out i hil)
        have hbw2 : bw < wr.heap.size := Nat.lt_of_lt_of_le hbw hB.out.bel.size
        rw [show ws.getD i ByteArray.empty = ws[i] by simp [hil]] at w0
        have hxz := HWZ.out ws[i] (List.mem_cons_of_mem _ (List.getElem_mem hil))
        rw [List.length_nil, bsz, Nat.zero_add] at hxz
        have HAT := Lib.hid (fun h => allW_at hil h)
        have HTK := Lib.hid (fun h => allW_take hil hal.out h)
        have HBT := Lib.hid (brsW_take hil)
        have hbl : Hid ((brsW (ws.take i)).length = i) := by show (brsW (ws.take i)).length = i; rw [brsW, List.length_map, List.length_take]; omega
        generalize ws[i] = x at *
        have hoi : (i : Int) + 1 < (ws.length : Int) + 1 := by omega
        have hsame := okW_same x
        have hok : okWS x = (decide ((vS x).length = 2) && ((rdR (vAt x 0)).2 && (rdR (vAt x 1)).2)) := rfl
        have hbw9 : bWS x = ⟨(rdR (vAt x 0)).1, (rdR (vAt x 1)).1⟩ := rfl
        have z0 := vAt_size x 0
        have z1 := vAt_size x 1
        have hvl := split_len 58 x.data.toList []
        rw [bsz] at hvl
        go_wp2_with fail
        refine (l01Split_any x 58 58 rfl wr (by omega)).mono ?_
        rintro e W4 ⟨Av, cv, rfl, ov, hu4⟩
        obtain ⟨g4, rfl⟩ := hu4
        have HV := Lib.hid (Rds.of_own ov)
        rw [show splitA 58 [] x.data.toList = vS x from rfl] at HV hvl ⊢
        clear ov
        by_cases hv2 : (vS x).length = 2
        · obtain ⟨bv, fv, rfl, hbv, v0, v1⟩ := words2w HV.out hv2
          rw [show (vS x).getD 0 ByteArray.empty = vAt x 0 from rfl] at v0
          rw [show (vS x).getD 1 ByteArray.empty = vAt x 1 from rfl] at v1
          rw [hv2] at hok ⊢
          have hv3 : decide ((2 : Nat) = 2) = true := rfl
          rw [hv3, Bool.true_and] at hok
          generalize vAt x 0 = f at *
          generalize vAt x 1 = g at *
          have DF := Lib.hid (fun V => l01Number_any f V (by omega))
          have DG := Lib.hid (fun V => l01Number_any g V (by omega))
          obtain ⟨⟨a1, k1⟩, hr1⟩ : ∃ r, rdR f = r := ⟨_, rfl⟩
          obtain ⟨⟨a2, k2⟩, hr2⟩ : ∃ r, rdR g = r := ⟨_, rfl⟩
          rw [hr1] at hok hbw9 DF
          rw [hr2] at hok hbw9 DG
          dsimp only at hok hbw9 DF DG
          clear hr1 hr2 hv2 hv3
          have hkk : (k1 = false ∨ (k1 = true ∧ k2 = false)) ∨ (k1 = true ∧ k2 = true) := by
            cases k1 <;> cases k2 <;> simp
          rcases hkk with (rfl | ⟨rfl, rfl⟩) | ⟨rfl, rfl⟩
          · have hf := Lib.hid (rwS_no (okRS_all (by rw [HWW.out]; exact HAT.out (by rw [← hsame.1]; exact hok))))
            clear hok hbw9 hsame
            go_wp2_with fail
            refine (DF.out _).mono ?_
            rintro e w' ⟨rfl, g2, rfl⟩
            go_wp2_with fail
            refine (DG.out _).mono ?_
            rintro e w' ⟨rfl, g3, rfl⟩
            go_wp2_with fail
            exact bodyPost_ret (v := .tuple #[.agg #[.string ⟨#[]⟩, .slice none 0 0], .bool false]) (by simp [results, Tryd.results11, go_sem, q20, q21, q2l]) rfl ⟨none, 0, by rw [hf.out]; rfl, by rw [hf.out]; exact ⟨rfl, .inl ⟨rfl, rfl⟩⟩, .of (Below.sets2h HQ.out HUW.out (by repeat (first | exact Below.refl _ _ | refine bl_tr ?_ _ | refine bl_al ?_ _ | refine bl_dr ?_ | refine bl_up ?_ _ | refine Below.drew ?_ | refine bl_alloc ?_ _ | refine Below.setCell ?_ (by first | (simp; done) | (simp; omega)) _)) _ _)⟩
          · have hf := Lib.hid (rwS_no (okRS_all (by rw [HWW.out]; exact HAT.out (by rw [← hsame.1]; exact hok))))
            clear hok hbw9 hsame
            go_wp2_with fail
            refine (DF.out _).mono ?_
            rintro e w' ⟨rfl, g2, rfl⟩
            go_wp2_with fail
            refine (DG.out _).mono ?_
            rintro e w' ⟨rfl, g3, rfl⟩
            go_wp2_with fail
            exact bodyPost_ret (v := .tuple #[.agg #[.string ⟨#[]⟩, .slice none 0 0], .bool false]) (by simp [results, Tryd.results11, go_sem, q20, q21, q2l]) rfl ⟨none, 0, by rw [hf.out]; rfl, by rw [hf.out]; exact ⟨rfl, .inl ⟨rfl, rfl⟩⟩, .of (Below.sets2h HQ.out HUW.out (by repeat (first | exact Below.refl _ _ | refine bl_tr ?_ _ | refine bl_al ?_ _ | refine bl_dr ?_ | refine bl_up ?_ _ | refine Below.drew ?_ | refine bl_alloc ?_ _ | refine Below.setCell ?_ (by first | (simp; done) | (simp; omega)) _)) _ _)⟩
          · have hoki : okWI x = true := by rw [← hsame.1]; exact hok
            have HK := Lib.hid (HTK.out hoki)
            have HBB := Lib.hid ((hsame.2 hoki).symm.trans hbw9)
            clear hok hbw9 hsame hoki
            go_wp2_with fail
            refine (DF.out _).mono ?_
            rintro e w' ⟨rfl, g2, rfl⟩
            go_wp2_with fail
            refine (DG.out _).mono ?_
            rintro e w' ⟨rfl, g3, rfl⟩
            have hlo9 : V1.heap.size ≤ q4 := Nat.le_of_eq HQ4.out
            have hlo8 : V1.heap.size ≤ q4 + 1 := Nat.le_succ_of_le hlo9
            have hsz9 := Lib.hid (show q4 ≤ wr.heap.size by have := hB.out.bel.size; have := HQ4.out; omega)
            go_wp2_with (at_builtin; go_must (refine wpl_appAt rfl _ _ 27 rfl q4 69 _ 2 16 el_bk (.slice A (brsW (ws.take i)).length c) (brsW (ws.take i)).length _ rfl (own_below hB.out.row (by repeat (first | exact Below.refl _ _ | refine bl_tr ?_ _ | refine bl_al ?_ _ | refine bl_dr ?_ | refine bl_up ?_ _ | refine Below.drew ?_ | refine bl_alloc ?_ _ | refine Below.setCell ?_ (by first | (simp; done) | (simp; omega)) _))) _ 1 1 [i64 a1, i64 a2] rfl (rds_new _ #[i64 a1, i64 a2] _ 2 1 rfl) (fun u hu => by simp at hu; rcases hu with rfl | rfl <;> rfl) (by omega) (by unfold maxLen; have := hbl.out; omega) (by have := hbl.out; omega) (Nat.le_trans hsz9.out (Below.size (B := wr.heap.size) (w := wr) (by repeat (first | exact Below.refl _ _ | refine bl_tr ?_ _ | refine bl_al ?_ _ | refine bl_dr ?_ | refine bl_up ?_ _ | refine Below.drew ?_ | refine bl_alloc ?_ _ | refine Below.setCell ?_ (by first | (simp; done) | (simp; omega)) _)))) ?_); intro g9 c9 w9 o9 hg9 hat9; rw [own_oblk] at hg9 hat9; have HP := Lib.hid (OBox.put (b := ⟨a1, a2⟩) (hB.out.below (by repeat (first | exact Below.refl _ _ | refine bl_tr ?_ _ | refine bl_al ?_ _ | refine bl_dr ?_ | refine bl_up ?_ _ | refine Below.drew ?_ | refine bl_alloc ?_ _ | refine Below.setCell ?_ (by first | (simp; done) | (simp; omega)) _))) hlo9 hlo8 hg9 o9 hat9); have hq9 := (hB.out.below (w' := _) (by repeat (first | exact Below.refl _ _ | refine bl_tr ?_ _ | refine bl_al ?_ _ | refine bl_dr ?_ | refine bl_up ?_ _ | refine Below.drew ?_ | refine bl_alloc ?_ _ | refine Below.setCell ?_ (by first | (simp; done) | (simp; omega)) _))).app hlo9 hg9; have k1' := hq9.1.cell 1; have f1' := hq9.1.free 1; have k2' := hq9.1.lt; simp only [List.getElem?_toArray, List.getElem?_cons_succ, List.getElem?_cons_zero] at k1'; clear hq9 o9 hg9 hat9)
            go_roundw
            case rel => exact ⟨i + 1, some ⟨g9, 0, none⟩, c9, by go_num, by omega, (show OBox V1 _ (q4 + 1) q4 p (some ⟨g9, 0, none⟩) c9 (brsW (ws.take (i + 1))) by rw [HBT.out, HBB.out]; exact HP.out), HK.out⟩
            case measure => (simp [intOf]; try omega)
        · have hf := Lib.hid (rwS_no (okRS_all (by rw [HWW.out]; exact HAT.out (by rw [← hsame.1, hok, decide_eq_false hv2]; rfl))))
          have hvn : (((vS x).length : Int) != 2) = true := by rw [bne_iff_ne]; omega
          clear hok hbw9 hsame z0 z1
          generalize (vS x).length = vn at *
          go_wp2_with fail
          exact bodyPost_ret (v := .tuple #[.agg #[.string ⟨#[]⟩, .slice none 0 0], .bool false]) (by simp [results, Tryd.results11, go_sem, q20, q21, q2l]) rfl ⟨none, 0, by rw [hf.out]; rfl, by rw [hf.out]; exact ⟨rfl, .inl ⟨rfl, rfl⟩⟩, .of (Below.sets2h HQ.out HUW.out (by repeat (first | exact Below.refl _ _ | refine bl_tr ?_ _ | refine bl_al ?_ _ | refine bl_dr ?_ | refine bl_up ?_ _ | refine Below.drew ?_ | refine bl_alloc ?_ _ | refine Below.setCell ?_ (by first | (simp; done) | (simp; omega)) _)) _ _)⟩
      · obtain rfl : i = ws.length := by omega
        have hB9 := hB.out
        have hal9 := hal.out
        rw [List.take_length] at hB9 hal9 b1
        have HB9 := Lib.hid hB9
        have HX := Lib.hid (show xWS s = ⟨p, brsW ws⟩ by unfold xWS; rw [HWW.out]; rfl)
        have HAL := Lib.hid (show allW (wS s).tail = true by rw [HWW.out]; exact hal9)
        have hbl := Lib.hid (show (brsW ws).length = ws.length by rw [brsW, List.length_map])
        have hpz := HWZ.out p (by simp)
        rw [List.length_nil, bsz, Nat.zero_add] at hpz
        have CO := Lib.hid (l26One_any ⟨p, brsW ws⟩ (q4 + 1) 0 A c wr ⟨hbx, b0, b1, Rds.of_own hB9.row⟩ (by show (brsW ws).length ≤ _; have := hbl.out; omega) (by show p.size ≤ _; omega))
        clear hB hal hB9 hal9
        have hq2q4 := Lib.hid (show q2 < q4 by have := HQ1.out.lt; have := HQ4.out; omega)
        cases hvw : vWare ⟨p, brsW ws⟩
        · have hf := Lib.hid (rwS_no (okRS_bad (by rw [HX.out]; exact hvw)))
          go_wp2_with fail
          refine (ret_as CO.out hvw).mono ?_
          rintro e w' ⟨rfl, g1, rfl⟩
          go_wp2_with fail
          exact bodyPost_ret (v := .tuple #[.agg #[.string ⟨#[]⟩, .slice none 0 0], .bool false]) (by simp [results, Tryd.results11, go_sem, q20, q21, q2l]) rfl ⟨none, 0, by rw [hf.out]; rfl, by rw [hf.out]; exact ⟨rfl, .inl ⟨rfl, rfl⟩⟩, .of (Below.sets2h HQ.out HUW.out (by repeat (first | exact Below.refl _ _ | refine bl_tr ?_ _ | refine bl_al ?_ _ | refine bl_dr ?_ | refine bl_up ?_ _ | refine Below.drew ?_ | refine bl_alloc ?_ _ | refine Below.setCell ?_ (by first | (simp; done) | (simp; omega)) _)) _ _)⟩
        · have hf := Lib.hid (rwS_ok (okRS_mk HAL.out (by rw [HX.out]; exact hvw)))
          go_wp2_with fail
          refine (ret_as CO.out hvw).mono ?_
          rintro e w' ⟨rfl, g1, rfl⟩
          go_wp2_with fail
          exact bodyPost_ret (v := .tuple #[.agg #[.string p, .slice A (brsW ws).length c], .bool true]) (by simp [results, Tryd.results11, go_sem, q20, q21, q2l]) rfl ⟨A, c, by rw [hf.out, HX.out], by rw [hf.out, HX.out]; exact own_mono (own_setOld (own_setOld (own_below HB9.out.row (by repeat (first | exact Below.refl _ _ | refine bl_tr ?_ _ | refine bl_al ?_ _ | refine bl_dr ?_ | refine bl_up ?_ _ | refine Below.drew ?_ | refine bl_alloc ?_ _ | refine Below.setCell ?_ (by first | (simp; done) | (simp; omega)) _))) (p := ⟨q2, 0, none⟩) hq2q4.out _) (p := ⟨q2, 1, none⟩) hq2q4.out _) (by have := HU1.out.below.size; have := HQ4.out; omega), .of (Below.sets2h HQ.out HUW.out (by repeat (first | exact Below.refl _ _ | refine bl_tr ?_ _ | refine bl_al ?_ _ | refine bl_dr ?_ | refine bl_up ?_ _ | refine Below.drew ?_ | refine bl_alloc ?_ _ | refine Below.setCell ?_ (by first | (simp; done) | (simp; omega)) _)) _ _)⟩
end Go.Proofs.YtiibpldfnnhhlaaDoor
