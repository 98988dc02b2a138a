/-
  ReadWare of the program. Premise on the world: the laid table.
-/
import Derived.Test.YtiibpldfnnhhlaaDoorReadWareP
import Derived.Test.YtiibpldfnnhhlaaDoorOwnBox
import Derived.Test.YtiibpldfnnhhlaaDoorCutI
import Derived.Test.YtiibpldfnnhhlaaDoorWordsI
import Derived.Test.YtiibpldfnnhhlaaDoorNumI
import Derived.Deep.DeepMust
namespace Go.Proofs.YtiibpldfnnhhlaaDoor
open Go.RowKit
theorem own_cap {w : World} {base e size n c : Nat} {A : Option Addr} {xs : List Value} (h : w.ownsRow base e size (.slice A n c) n xs) : n ≤ c := by
  rcases h.2 with ⟨hv, h0⟩ | ⟨g, cap, cur, hv, _, _, hle, _⟩
  · omega
  · injection hv with _ _ hc
    omega
theorem okRI_words {s : ByteArray} (h : wI s = []) : okRI s = false := by simp [okRI, h]
theorem okRI_all {s : ByteArray} (h : allW (wI s).tail = false) : okRI s = false := by simp [okRI, h]
theorem okRI_text' {s : ByteArray} (h : ¬ wText (xWI s) = s) : okRI s = false := by simp [okRI, h]
theorem okRI_mk {s : ByteArray} (h1 : wI s ≠ []) (h2 : allW (wI s).tail = true) (h3 : wText (xWI s) = s) : okRI s = true := by
  rw [okRI, h2, Bool.true_and, Bool.and_eq_true]
  exact ⟨by simpa using h1, decide_eq_true h3⟩
theorem allW_at {ws : List ByteArray} {i : Nat} (hi : i < ws.length) (h : okWI ws[i] = false) : allW ws = false := by
  rw [← Bool.not_eq_true, allW, List.all_eq_true]
  intro hc
  have := hc _ (List.getElem_mem hi)
  rw [h] at this; cases this
theorem allW_take {ws : List ByteArray} {i : Nat} (hi : i < ws.length) (h : allW (ws.take i) = true) (h2 : okWI ws[i] = true) : allW (ws.take (i + 1)) = true := by
  rw [List.take_succ_eq_append_getElem hi]
  simp only [allW, List.all_append, List.all_cons, List.all_nil, Bool.and_true, Bool.and_eq_true] at h ⊢
  exact ⟨h, h2⟩
theorem brsW_take {ws : List ByteArray} {i : Nat} (hi : i < ws.length) : brsW (ws.take (i + 1)) = brsW (ws.take i) ++ [bWI ws[i]] := by
  rw [List.take_succ_eq_append_getElem hi, brsW, List.map_append]; rfl
def rwPost (s : ByteArray) (w : World) (e : Ending) (w' : World) : Prop :=
  ∃ A' c', e = .returned (.tuple #[.agg #[.string (rwR s).1.name, .slice A' (rwR s).1.brs.length c'], .bool (rwR s).2]) ∧ w'.ownsRow w.heap.size 69 2 (.slice A' (rwR s).1.brs.length c') (rwR s).1.brs.length (bkcs (rwR s).1.brs) ∧ UpOf w w'
theorem Below.sets2h {rb : Nat} {a V w : World} (hr : a.heap.size ≤ rb) (h1 : Below a.heap.size a V) (h2 : Below V.heap.size V w) (u0 u1 : Value) : Below a.heap.size a ((w.setCell ⟨rb, 0, none⟩ u0).setCell ⟨rb, 1, none⟩ u1) :=
  ((h1.trans (h2.mono h1.size)).setCell (p := ⟨rb, 0, none⟩) hr u0).setCell (p := ⟨rb, 1, none⟩) hr u1
set_option maxRecDepth 10000 in
set_option maxHeartbeats 4000000 in
theorem readWareI_any (s : ByteArray) (w : World) (hs : s.size ≤ 1048576) (ht : Tab w) :
    Calls Tryd.prog 12 #[.string s] w (rwPost s w) := by
  have HT := Lib.hid ht
  clear ht
  go_enter Tryd.func12, Tryd.ntmps12
  go_wp2_with fail
  refine cg (R := fun V => Blk V w.heap.size 29 #[.string ⟨#[]⟩, .slice none 0 0] ∧ UpOf w V) ⟨Blk.new _ _ _, UpOf.of (by repeat (first | exact Below.refl _ _ | refine bl_tr ?_ _ | refine bl_al ?_ _ | refine bl_dr ?_ | refine bl_up ?_ _ | refine Below.drew ?_ | refine bl_alloc ?_ _ | refine Below.setCell ?_ (by first | (simp; done) | (simp; omega)) _))⟩ (fun V z => ?_)
  have HTV := Lib.hid (HT.out.below z.2.below)
  have HU := Lib.hid z.2
  have HQ2 := Lib.hid z.1
  clear z HT
  obtain ⟨q2, hqq⟩ : ∃ q, w.heap.size = q := ⟨_, rfl⟩
  have HQ := Lib.hid (show w.heap.size ≤ q2 from Nat.le_of_eq hqq)
  have hwq := Lib.hid hqq
  rw [hqq] at HQ2 ⊢
  clear hqq
  have hwl := words_len s.data.toList []
  rw [bsz] at hwl
  have hwz := words_size s.data.toList []
  refine (splitWords_any s V (by omega)).mono ?_
  rintro e V1 ⟨Aw, cw, rfl, ow, hu⟩
  have HW := Lib.hid (Rds.of_own ow)
  have hcw := Lib.hid (own_cap ow)
  have HV1 := Lib.hid hu
  have HQ1 := Lib.hid (show Blk V1 q2 29 #[.string ⟨#[]⟩, .slice none 0 0] from (hu.below.block q2 HQ2.out.lt).trans HQ2.out)
  have HT1 := Lib.hid (HTV.out.below hu.below)
  have HU1 := Lib.hid (HU.out.tr hu.below)
  clear ow hu HQ2 HTV HU HV1
  have q2l := HQ1.out.lt
  have q20 := HQ1.out.cell 0
  have q21 := HQ1.out.cell 1
  have q2f0 := HQ1.out.free 0
  have q2f1 := HQ1.out.free 1
  simp only [List.getElem?_toArray, List.getElem?_cons_zero, List.getElem?_cons_succ] at q20 q21
  obtain ⟨W, hW⟩ : ∃ W, wordsA [] s.data.toList = W := ⟨_, rfl⟩
  rw [hW] at HW hwl hwz hcw ⊢
  have HWW := Lib.hid (show wI s = W from hW)
  clear hW
  cases W with
  | nil =>
    have hf := Lib.hid (rwR_no (okRI_words HWW.out))
    have hE := Lib.hid (show rwPost s w (.returned (.tuple #[.agg #[.string ⟨#[]⟩, .slice none 0 0], .bool false])) ((V1.setCell ⟨q2, 0, none⟩ (.string ⟨#[]⟩)).setCell ⟨q2, 1, none⟩ (.slice none 0 0)) from ⟨none, 0, by rw [hf.out]; rfl, by rw [hf.out]; exact ⟨rfl, .inl ⟨rfl, rfl⟩⟩, .of ((HU1.out.below.setCell (p := ⟨q2, 0, none⟩) HQ.out _).setCell (p := ⟨q2, 1, none⟩) HQ.out _)⟩)
    go_wp2_with fail
    exact bodyPost_ret (v := .tuple #[.agg #[.string ⟨#[]⟩, .slice none 0 0], .bool false]) (by simp [results, Tryd.results12, go_sem, q20, q21]) rfl hE.out
  | cons p ws =>
    obtain ⟨bw, ow, rfl, hbw, hwc⟩ := str_at HW.out (i := 0) (by simp)
    have w0 := hwc 0 (by simp)
    simp only [List.getD_cons_zero, Nat.add_zero] at w0
    have hz : ((ws.length : Int) + 1 == 0) = false := by rw [beq_eq_false_iff_ne]; omega
    have hwlen : (p :: ws).length = ws.length + 1 := rfl
    have hwsl : ws.length ≤ 1048577 := by simp at hwl; omega
    have HWZ := Lib.hid hwz
    have HWC := Lib.hid (show ∀ i, i < ws.length → V1.cell? ⟨bw, ow + 1 + i, none⟩ = some (.string (ws.getD i ByteArray.empty)) from fun i hi => by
      have := hwc (i + 1) (by simp; omega)
      rw [show ow + (i + 1) = ow + 1 + i by omega] at this
      exact this)
    clear hwc hwz hwl
    rw [hwlen]
    have hcap : ws.length + 1 ≤ cw := hcw.out
    have HQQ := Lib.hid (Nat.le_refl V1.heap.size)
    by_cases hc1 : cw = 1
    · have HWC2 := Lib.hid (show ∀ i, i < ws.length → V1.cell? ⟨bw, ow + i, none⟩ = some (.string (ws.getD i ByteArray.empty)) from fun i hi => by omega)
      subst hc1
      have hcz : ¬ ws.length = 1 := by omega
      clear HWC hcap
      go_wp2_with fail
      refine wpg (R := fun V => OBox V1 V V1.heap.size V1.heap.size p none 0 []) ⟨Blk.new _ _ _, World.ownsRow_nil _ _ _ _, .inl rfl, (Below.refl _ _).alloc (Nat.le_refl _) _⟩ (fun V2 hB2 => ?_)
      have HB2 := Lib.hid hB2
      have hq5 := HB2.out.box.lt
      clear hB2 w0
      obtain ⟨q5, hq5e⟩ : ∃ q5, V1.heap.size = q5 := ⟨_, rfl⟩
      have HQ5 := Lib.hid hq5e
      have hq25 : ¬ q2 = q5 := by have := HQ1.out.lt; omega
      rw [hq5e] at HB2 ⊢
      clear hq5e hq5 q20 q21 q2f0 q2f1 q2l
      go_loopw [28] (fun ii wr => ∃ (i : Nat) (A : Option Addr) (c : Nat), ii = i64 i ∧ i ≤ ws.length ∧ Hid (OBox V1 wr q5 q5 p A c (brsW (ws.take i))) ∧ Hid (allW (ws.take i) = true)) (fun ii _ => ws.length - (intOf ii).toNat)
      case atStart => exact ⟨0, none, 0, rfl, by omega, (show OBox V1 V2 q5 q5 p none 0 (brsW (ws.take 0)) from HB2.out), (by show allW (ws.take 0) = true; rfl)⟩
      case round =>
        obtain ⟨i, A, c, rfl, hi, hB, hal⟩ := hrel
        clear HB2
        have hbx := hB.out.box.lt
        have b0 := hB.out.c0
        have b1 := hB.out.c1
        have bf := hB.out.box.free 1
        have HQ3 := Lib.hid (show Blk wr q2 29 #[.string ⟨#[]⟩, .slice none 0 0] from (hB.out.bel.block q2 HQ1.out.lt).trans HQ1.out)
        have q2l := HQ3.out.lt
        have q20 := HQ3.out.cell 0
        have q21 := HQ3.out.cell 1
        have q2f0 := HQ3.out.free 0
        have q2f1 := HQ3.out.free 1
        simp only [List.getElem?_toArray, List.getElem?_cons_zero, List.getElem?_cons_succ] at q20 q21
        have HUW := Lib.hid (show Below w.heap.size w wr from HU1.out.below.trans (hB.out.bel.mono HU1.out.below.size))
        have HTW := Lib.hid (HT1.out.below hB.out.bel)
        by_cases hil : i < ws.length
        · have w0 := (hB.out.bel.cell (p := ⟨bw, ow + i, none⟩) hbw).trans (HWC2.out i hil)
          have hbw2 : bw < wr.heap.size := Nat.lt_of_lt_of_le hbw hB.out.bel.size
          rw [show ws.getD i ByteArray.empty = ws[i] by simp [hil]] at w0
          have hxz := HWZ.out ws[i] (List.mem_cons_of_mem _ (List.getElem_mem hil))
          rw [List.length_nil, bsz, Nat.zero_add] at hxz
          have HAT := Lib.hid (fun h => allW_at hil h)
          have HTK := Lib.hid (fun h => allW_take hil hal.out h)
          have HBT := Lib.hid (brsW_take hil)
          have hbl : Hid ((brsW (ws.take i)).length = i) := by show (brsW (ws.take i)).length = i; rw [brsW, List.length_map, List.length_take]; omega
          generalize ws[i] = x at *
          have hcs := cutA_size 58 x.data.toList []
          rw [bsz, List.length_nil, Nat.zero_add] at hcs
          have hok : okWI x = ((cutA 58 [] x.data.toList).2.2 && ((rdR (cutA 58 [] x.data.toList).1).2 && (rdR (cutA 58 [] x.data.toList).2.1).2)) := rfl
          have hbw9 : bWI x = ⟨(rdR (cutA 58 [] x.data.toList).1).1, (rdR (cutA 58 [] x.data.toList).2.1).1⟩ := rfl
          have CU := Lib.hid (fun V => cut_any x ⟨#[58]⟩ 58 rfl V (by omega))
          obtain ⟨⟨f, g, k⟩, hcut⟩ : ∃ r, cutA 58 [] x.data.toList = r := ⟨_, rfl⟩
          rw [hcut] at hcs hok hbw9 CU
          dsimp only at hcs hok hbw9 CU
          clear hcut
          have DF := Lib.hid (fun V hV => readDecimal_any f V (by omega) hV)
          have DG := Lib.hid (fun V hV => readDecimal_any g V (by omega) hV)
          obtain ⟨⟨a1, k1⟩, hr1⟩ : ∃ r, rdR f = r := ⟨_, rfl⟩
          obtain ⟨⟨a2, k2⟩, hr2⟩ : ∃ r, rdR g = r := ⟨_, rfl⟩
          rw [hr1] at hok hbw9 DF
          rw [hr2] at hok hbw9 DG
          dsimp only at hok hbw9 DF DG
          clear hr1 hr2
          have hkk : (k = false ∨ (k = true ∧ k1 = false) ∨ (k = true ∧ k1 = true ∧ k2 = false)) ∨ (k = true ∧ k1 = true ∧ k2 = true) := by
            cases k <;> cases k1 <;> cases k2 <;> simp
          rcases hkk with (rfl | ⟨rfl, rfl⟩ | ⟨rfl, rfl, rfl⟩) | ⟨rfl, rfl, rfl⟩
          · have hf := Lib.hid (rwR_no (okRI_all (by rw [HWW.out]; exact HAT.out hok)))
            clear hok hbw9
            go_wp2_with fail
            refine (CU.out _).mono ?_
            rintro e w' ⟨rfl, g1, rfl⟩
            go_wp2_with fail
            refine (DF.out _ (HTW.out.below (by repeat (first | exact Below.refl _ _ | refine bl_tr ?_ _ | refine bl_al ?_ _ | refine bl_dr ?_ | refine bl_up ?_ _ | refine Below.drew ?_ | refine bl_alloc ?_ _ | refine Below.setCell ?_ (by first | (simp; done) | (simp; omega)) _)))).mono ?_
            rintro e w' ⟨rfl, g2, rfl⟩
            go_wp2_with fail
            refine (DG.out _ (HTW.out.below (by repeat (first | exact Below.refl _ _ | refine bl_tr ?_ _ | refine bl_al ?_ _ | refine bl_dr ?_ | refine bl_up ?_ _ | refine Below.drew ?_ | refine bl_alloc ?_ _ | refine Below.setCell ?_ (by first | (simp; done) | (simp; omega)) _)))).mono ?_
            rintro e w' ⟨rfl, g3, rfl⟩
            go_wp2_with fail
            exact bodyPost_ret (v := .tuple #[.agg #[.string ⟨#[]⟩, .slice none 0 0], .bool false]) (by simp [results, Tryd.results12, go_sem, q20, q21, q2l]) rfl ⟨none, 0, by rw [hf.out]; rfl, by rw [hf.out]; exact ⟨rfl, .inl ⟨rfl, rfl⟩⟩, .of (Below.sets2h HQ.out HUW.out (by repeat (first | exact Below.refl _ _ | refine bl_tr ?_ _ | refine bl_al ?_ _ | refine bl_dr ?_ | refine bl_up ?_ _ | refine Below.drew ?_ | refine bl_alloc ?_ _ | refine Below.setCell ?_ (by first | (simp; done) | (simp; omega)) _)) _ _)⟩
          · have hf := Lib.hid (rwR_no (okRI_all (by rw [HWW.out]; exact HAT.out hok)))
            clear hok hbw9
            go_wp2_with fail
            refine (CU.out _).mono ?_
            rintro e w' ⟨rfl, g1, rfl⟩
            go_wp2_with fail
            refine (DF.out _ (HTW.out.below (by repeat (first | exact Below.refl _ _ | refine bl_tr ?_ _ | refine bl_al ?_ _ | refine bl_dr ?_ | refine bl_up ?_ _ | refine Below.drew ?_ | refine bl_alloc ?_ _ | refine Below.setCell ?_ (by first | (simp; done) | (simp; omega)) _)))).mono ?_
            rintro e w' ⟨rfl, g2, rfl⟩
            go_wp2_with fail
            refine (DG.out _ (HTW.out.below (by repeat (first | exact Below.refl _ _ | refine bl_tr ?_ _ | refine bl_al ?_ _ | refine bl_dr ?_ | refine bl_up ?_ _ | refine Below.drew ?_ | refine bl_alloc ?_ _ | refine Below.setCell ?_ (by first | (simp; done) | (simp; omega)) _)))).mono ?_
            rintro e w' ⟨rfl, g3, rfl⟩
            go_wp2_with fail
            exact bodyPost_ret (v := .tuple #[.agg #[.string ⟨#[]⟩, .slice none 0 0], .bool false]) (by simp [results, Tryd.results12, go_sem, q20, q21, q2l]) rfl ⟨none, 0, by rw [hf.out]; rfl, by rw [hf.out]; exact ⟨rfl, .inl ⟨rfl, rfl⟩⟩, .of (Below.sets2h HQ.out HUW.out (by repeat (first | exact Below.refl _ _ | refine bl_tr ?_ _ | refine bl_al ?_ _ | refine bl_dr ?_ | refine bl_up ?_ _ | refine Below.drew ?_ | refine bl_alloc ?_ _ | refine Below.setCell ?_ (by first | (simp; done) | (simp; omega)) _)) _ _)⟩
          · have hf := Lib.hid (rwR_no (okRI_all (by rw [HWW.out]; exact HAT.out hok)))
            clear hok hbw9
            go_wp2_with fail
            refine (CU.out _).mono ?_
            rintro e w' ⟨rfl, g1, rfl⟩
            go_wp2_with fail
            refine (DF.out _ (HTW.out.below (by repeat (first | exact Below.refl _ _ | refine bl_tr ?_ _ | refine bl_al ?_ _ | refine bl_dr ?_ | refine bl_up ?_ _ | refine Below.drew ?_ | refine bl_alloc ?_ _ | refine Below.setCell ?_ (by first | (simp; done) | (simp; omega)) _)))).mono ?_
            rintro e w' ⟨rfl, g2, rfl⟩
            go_wp2_with fail
            refine (DG.out _ (HTW.out.below (by repeat (first | exact Below.refl _ _ | refine bl_tr ?_ _ | refine bl_al ?_ _ | refine bl_dr ?_ | refine bl_up ?_ _ | refine Below.drew ?_ | refine bl_alloc ?_ _ | refine Below.setCell ?_ (by first | (simp; done) | (simp; omega)) _)))).mono ?_
            rintro e w' ⟨rfl, g3, rfl⟩
            go_wp2_with fail
            exact bodyPost_ret (v := .tuple #[.agg #[.string ⟨#[]⟩, .slice none 0 0], .bool false]) (by simp [results, Tryd.results12, go_sem, q20, q21, q2l]) rfl ⟨none, 0, by rw [hf.out]; rfl, by rw [hf.out]; exact ⟨rfl, .inl ⟨rfl, rfl⟩⟩, .of (Below.sets2h HQ.out HUW.out (by repeat (first | exact Below.refl _ _ | refine bl_tr ?_ _ | refine bl_al ?_ _ | refine bl_dr ?_ | refine bl_up ?_ _ | refine Below.drew ?_ | refine bl_alloc ?_ _ | refine Below.setCell ?_ (by first | (simp; done) | (simp; omega)) _)) _ _)⟩
          · have HK := Lib.hid (HTK.out hok)
            have HBB := Lib.hid hbw9
            clear hok hbw9
            go_wp2_with fail
            refine (CU.out _).mono ?_
            rintro e w' ⟨rfl, g1, rfl⟩
            go_wp2_with fail
            refine (DF.out _ (HTW.out.below (by repeat (first | exact Below.refl _ _ | refine bl_tr ?_ _ | refine bl_al ?_ _ | refine bl_dr ?_ | refine bl_up ?_ _ | refine Below.drew ?_ | refine bl_alloc ?_ _ | refine Below.setCell ?_ (by first | (simp; done) | (simp; omega)) _)))).mono ?_
            rintro e w' ⟨rfl, g2, rfl⟩
            go_wp2_with fail
            refine (DG.out _ (HTW.out.below (by repeat (first | exact Below.refl _ _ | refine bl_tr ?_ _ | refine bl_al ?_ _ | refine bl_dr ?_ | refine bl_up ?_ _ | refine Below.drew ?_ | refine bl_alloc ?_ _ | refine Below.setCell ?_ (by first | (simp; done) | (simp; omega)) _)))).mono ?_
            rintro e w' ⟨rfl, g3, rfl⟩
            have hlo9 : V1.heap.size ≤ q5 := Nat.le_of_eq HQ5.out
            have hsz9 := Lib.hid (show q5 ≤ wr.heap.size by have := hB.out.bel.size; have := HQ5.out; omega)
            go_wp2_with (at_builtin; go_must (refine wpl_appAt rfl _ _ 27 rfl q5 69 _ 2 16 el_bk (.slice A (brsW (ws.take i)).length c) (brsW (ws.take i)).length _ rfl (own_below hB.out.row (by repeat (first | exact Below.refl _ _ | refine bl_tr ?_ _ | refine bl_al ?_ _ | refine bl_dr ?_ | refine bl_up ?_ _ | refine Below.drew ?_ | refine bl_alloc ?_ _ | refine Below.setCell ?_ (by first | (simp; done) | (simp; omega)) _))) _ 1 1 [i64 a1, i64 a2] rfl (rds_new _ #[i64 a1, i64 a2] _ 2 1 rfl) (fun u hu => by simp at hu; rcases hu with rfl | rfl <;> rfl) (by omega) (by unfold maxLen; have := hbl.out; omega) (by have := hbl.out; omega) (Nat.le_trans hsz9.out (Below.size (B := wr.heap.size) (w := wr) (by repeat (first | exact Below.refl _ _ | refine bl_tr ?_ _ | refine bl_al ?_ _ | refine bl_dr ?_ | refine bl_up ?_ _ | refine Below.drew ?_ | refine bl_alloc ?_ _ | refine Below.setCell ?_ (by first | (simp; done) | (simp; omega)) _)))) ?_); intro g3 c3 w3 o3 hg3 hat3; rw [own_oblk] at hg3 hat3; have HP := Lib.hid (OBox.put (b := ⟨a1, a2⟩) (hB.out.below (by repeat (first | exact Below.refl _ _ | refine bl_tr ?_ _ | refine bl_al ?_ _ | refine bl_dr ?_ | refine bl_up ?_ _ | refine Below.drew ?_ | refine bl_alloc ?_ _ | refine Below.setCell ?_ (by first | (simp; done) | (simp; omega)) _))) hlo9 hlo9 hg3 o3 hat3); have hq3 := (hB.out.below (w' := _) (by repeat (first | exact Below.refl _ _ | refine bl_tr ?_ _ | refine bl_al ?_ _ | refine bl_dr ?_ | refine bl_up ?_ _ | refine Below.drew ?_ | refine bl_alloc ?_ _ | refine Below.setCell ?_ (by first | (simp; done) | (simp; omega)) _))).app hlo9 hg3; have k1' := hq3.1.cell 1; have f1' := hq3.1.free 1; have k2' := hq3.1.lt; simp only [List.getElem?_toArray, List.getElem?_cons_succ, List.getElem?_cons_zero] at k1'; clear hq3 o3 hg3 hat3)
            go_roundw
            case rel => exact ⟨i + 1, some ⟨g3, 0, none⟩, c3, by go_num, by omega, (show OBox V1 _ q5 q5 p (some ⟨g3, 0, none⟩) c3 (brsW (ws.take (i + 1))) by rw [HBT.out, HBB.out]; exact HP.out), HK.out⟩
            case measure => (simp [intOf]; try omega)
        · obtain rfl : i = ws.length := by omega
          have hB9 := hB.out
          have hal9 := hal.out
          rw [List.take_length] at hB9 hal9 b1
          have HB9 := Lib.hid hB9
          have HX := Lib.hid (show xWI s = ⟨p, brsW ws⟩ by unfold xWI; rw [HWW.out]; rfl)
          have HAL := Lib.hid (show allW (wI s).tail = true by rw [HWW.out]; exact hal9)
          have hbl := Lib.hid (show (brsW ws).length = ws.length by rw [brsW, List.length_map])
          have hpz := HWZ.out p (by simp)
          rw [List.length_nil, bsz, Nat.zero_add] at hpz
          have CT := Lib.hid (wareTextI_any ⟨p, brsW ws⟩ A c wr (Rds.of_own hB9.row) (by show (brsW ws).length ≤ _; have := hbl.out; omega) (by show p.size ≤ _; omega) HTW.out)
          have hlo9 : V1.heap.size ≤ q5 := Nat.le_of_eq HQ5.out
          clear hB hal hB9 hal9
          have hq2q5 := Lib.hid (show q2 < q5 by have := HQ1.out.lt; omega)
          by_cases heq : wText ⟨p, brsW ws⟩ = s
          · have hf := Lib.hid (rwR_ok (okRI_mk (by rw [HWW.out]; simp) HAL.out (by rw [HX.out]; exact heq)))
            have hz9 := tl_eq heq
            generalize wText ⟨p, brsW ws⟩ = T at *
            clear heq
            go_wp2_with fail
            refine CT.out.mono ?_
            rintro e w' ⟨rfl, g1, rfl⟩
            go_wp2_with fail
            exact bodyPost_ret (v := .tuple #[.agg #[.string p, .slice A (brsW ws).length c], .bool true]) (by simp [results, Tryd.results12, go_sem, q20, q21, q2l]) rfl ⟨A, c, by rw [hf.out, HX.out], by rw [hf.out, HX.out]; exact own_mono (own_setOld (own_setOld (own_below HB9.out.row (by repeat (first | exact Below.refl _ _ | refine bl_tr ?_ _ | refine bl_al ?_ _ | refine bl_dr ?_ | refine bl_up ?_ _ | refine Below.drew ?_ | refine bl_alloc ?_ _ | refine Below.setCell ?_ (by first | (simp; done) | (simp; omega)) _))) (p := ⟨q2, 0, none⟩) hq2q5.out _) (p := ⟨q2, 1, none⟩) hq2q5.out _) (by have := HU1.out.below.size; omega), .of (Below.sets2h HQ.out HUW.out (by repeat (first | exact Below.refl _ _ | refine bl_tr ?_ _ | refine bl_al ?_ _ | refine bl_dr ?_ | refine bl_up ?_ _ | refine Below.drew ?_ | refine bl_alloc ?_ _ | refine Below.setCell ?_ (by first | (simp; done) | (simp; omega)) _)) _ _)⟩
          · have hf := Lib.hid (rwR_no (okRI_text' (by rw [HX.out]; exact heq)))
            have hz9 := tl_ne heq
            generalize wText ⟨p, brsW ws⟩ = T at *
            clear heq
            go_wp2_with fail
            refine CT.out.mono ?_
            rintro e w' ⟨rfl, g1, rfl⟩
            go_wp2_with fail
            exact bodyPost_ret (v := .tuple #[.agg #[.string ⟨#[]⟩, .slice none 0 0], .bool false]) (by simp [results, Tryd.results12, go_sem, q20, q21, q2l]) rfl ⟨none, 0, by rw [hf.out]; rfl, by rw [hf.out]; exact ⟨rfl, .inl ⟨rfl, rfl⟩⟩, .of (Below.sets2h HQ.out HUW.out (by repeat (first | exact Below.refl _ _ | refine bl_tr ?_ _ | refine bl_al ?_ _ | refine bl_dr ?_ | refine bl_up ?_ _ | refine Below.drew ?_ | refine bl_alloc ?_ _ | refine Below.setCell ?_ (by first | (simp; done) | (simp; omega)) _)) _ _)⟩
    · have HWC2 := Lib.hid HWC.out
      have hcz : ¬ (cw : Int) - 1 = 0 := by omega
      clear HWC
      go_wp2_with fail
      refine wpg (R := fun V => OBox V1 V V1.heap.size V1.heap.size p none 0 []) ⟨Blk.new _ _ _, World.ownsRow_nil _ _ _ _, .inl rfl, (Below.refl _ _).alloc (Nat.le_refl _) _⟩ (fun V2 hB2 => ?_)
      have HB2 := Lib.hid hB2
      have hq5 := HB2.out.box.lt
      clear hB2 w0
      obtain ⟨q5, hq5e⟩ : ∃ q5, V1.heap.size = q5 := ⟨_, rfl⟩
      have HQ5 := Lib.hid hq5e
      have hq25 : ¬ q2 = q5 := by have := HQ1.out.lt; omega
      rw [hq5e] at HB2 ⊢
      clear hq5e hq5 q20 q21 q2f0 q2f1 q2l
      go_loopw [28] (fun ii wr => ∃ (i : Nat) (A : Option Addr) (c : Nat), ii = i64 i ∧ i ≤ ws.length ∧ Hid (OBox V1 wr q5 q5 p A c (brsW (ws.take i))) ∧ Hid (allW (ws.take i) = true)) (fun ii _ => ws.length - (intOf ii).toNat)
      case atStart => exact ⟨0, none, 0, rfl, by omega, (show OBox V1 V2 q5 q5 p none 0 (brsW (ws.take 0)) from HB2.out), (by show allW (ws.take 0) = true; rfl)⟩
      case round =>
        obtain ⟨i, A, c, rfl, hi, hB, hal⟩ := hrel
        clear HB2
        have hbx := hB.out.box.lt
        have b0 := hB.out.c0
        have b1 := hB.out.c1
        have bf := hB.out.box.free 1
        have HQ3 := Lib.hid (show Blk wr q2 29 #[.string ⟨#[]⟩, .slice none 0 0] from (hB.out.bel.block q2 HQ1.out.lt).trans HQ1.out)
        have q2l := HQ3.out.lt
        have q20 := HQ3.out.cell 0
        have q21 := HQ3.out.cell 1
        have q2f0 := HQ3.out.free 0
        have q2f1 := HQ3.out.free 1
        simp only [List.getElem?_toArray, List.getElem?_cons_zero, List.getElem?_cons_succ] at q20 q21
        have HUW := Lib.hid (show Below w.heap.size w wr from HU1.out.below.trans (hB.out.bel.mono HU1.out.below.size))
        have HTW := Lib.hid (HT1.out.below hB.out.bel)
        by_cases hil : i < ws.length
        · have w0 := (hB.out.bel.cell (p := ⟨bw, ow + 1 + i, none⟩) hbw).trans (HWC2.out i hil)
          have hbw2 : bw < wr.heap.size := Nat.lt_of_lt_of_le hbw hB.out.bel.size
          rw [show ws.getD i ByteArray.empty = ws[i] by simp [hil]] at w0
          have hxz := HWZ.out ws[i] (List.mem_cons_of_mem _ (List.getElem_mem hil))
          rw [List.length_nil, bsz, Nat.zero_add] at hxz
          have HAT := Lib.hid (fun h => allW_at hil h)
          have HTK := Lib.hid (fun h => allW_take hil hal.out h)
          have HBT := Lib.hid (brsW_take hil)
          have hbl : Hid ((brsW (ws.take i)).length = i) := by show (brsW (ws.take i)).length = i; rw [brsW, List.length_map, List.length_take]; omega
          generalize ws[i] = x at *
          have hcs := cutA_size 58 x.data.toList []
          rw [bsz, List.length_nil, Nat.zero_add] at hcs
          have hok : okWI x = ((cutA 58 [] x.data.toList).2.2 && ((rdR (cutA 58 [] x.data.toList).1).2 && (rdR (cutA 58 [] x.data.toList).2.1).2)) := rfl
          have hbw9 : bWI x = ⟨(rdR (cutA 58 [] x.data.toList).1).1, (rdR (cutA 58 [] x.data.toList).2.1).1⟩ := rfl
          have CU := Lib.hid (fun V => cut_any x ⟨#[58]⟩ 58 rfl V (by omega))
          obtain ⟨⟨f, g, k⟩, hcut⟩ : ∃ r, cutA 58 [] x.data.toList = r := ⟨_, rfl⟩
          rw [hcut] at hcs hok hbw9 CU
          dsimp only at hcs hok hbw9 CU
          clear hcut
          have DF := Lib.hid (fun V hV => readDecimal_any f V (by omega) hV)
          have DG := Lib.hid (fun V hV => readDecimal_any g V (by omega) hV)
          obtain ⟨⟨a1, k1⟩, hr1⟩ : ∃ r, rdR f = r := ⟨_, rfl⟩
          obtain ⟨⟨a2, k2⟩, hr2⟩ : ∃ r, rdR g = r := ⟨_, rfl⟩
          rw [hr1] at hok hbw9 DF
          rw [hr2] at hok hbw9 DG
          dsimp only at hok hbw9 DF DG
          clear hr1 hr2
          have hkk : (k = false ∨ (k = true ∧ k1 = false) ∨ (k = true ∧ k1 = true ∧ k2 = false)) ∨ (k = true ∧ k1 = true ∧ k2 = true) := by
            cases k <;> cases k1 <;> cases k2 <;> simp
          rcases hkk with (rfl | ⟨rfl, rfl⟩ | ⟨rfl, rfl, rfl⟩) | ⟨rfl, rfl, rfl⟩
          · have hf := Lib.hid (rwR_no (okRI_all (by rw [HWW.out]; exact HAT.out hok)))
            clear hok hbw9
            go_wp2_with fail
            refine (CU.out _).mono ?_
            rintro e w' ⟨rfl, g1, rfl⟩
            go_wp2_with fail
            refine (DF.out _ (HTW.out.below (by repeat (first | exact Below.refl _ _ | refine bl_tr ?_ _ | refine bl_al ?_ _ | refine bl_dr ?_ | refine bl_up ?_ _ | refine Below.drew ?_ | refine bl_alloc ?_ _ | refine Below.setCell ?_ (by first | (simp; done) | (simp; omega)) _)))).mono ?_
            rintro e w' ⟨rfl, g2, rfl⟩
            go_wp2_with fail
            refine (DG.out _ (HTW.out.below (by repeat (first | exact Below.refl _ _ | refine bl_tr ?_ _ | refine bl_al ?_ _ | refine bl_dr ?_ | refine bl_up ?_ _ | refine Below.drew ?_ | refine bl_alloc ?_ _ | refine Below.setCell ?_ (by first | (simp; done) | (simp; omega)) _)))).mono ?_
            rintro e w' ⟨rfl, g3, rfl⟩
            go_wp2_with fail
            exact bodyPost_ret (v := .tuple #[.agg #[.string ⟨#[]⟩, .slice none 0 0], .bool false]) (by simp [results, Tryd.results12, go_sem, q20, q21, q2l]) rfl ⟨none, 0, by rw [hf.out]; rfl, by rw [hf.out]; exact ⟨rfl, .inl ⟨rfl, rfl⟩⟩, .of (Below.sets2h HQ.out HUW.out (by repeat (first | exact Below.refl _ _ | refine bl_tr ?_ _ | refine bl_al ?_ _ | refine bl_dr ?_ | refine bl_up ?_ _ | refine Below.drew ?_ | refine bl_alloc ?_ _ | refine Below.setCell ?_ (by first | (simp; done) | (simp; omega)) _)) _ _)⟩
          · have hf := Lib.hid (rwR_no (okRI_all (by rw [HWW.out]; exact HAT.out hok)))
            clear hok hbw9
            go_wp2_with fail
            refine (CU.out _).mono ?_
            rintro e w' ⟨rfl, g1, rfl⟩
            go_wp2_with fail
            refine (DF.out _ (HTW.out.below (by repeat (first | exact Below.refl _ _ | refine bl_tr ?_ _ | refine bl_al ?_ _ | refine bl_dr ?_ | refine bl_up ?_ _ | refine Below.drew ?_ | refine bl_alloc ?_ _ | refine Below.setCell ?_ (by first | (simp; done) | (simp; omega)) _)))).mono ?_
            rintro e w' ⟨rfl, g2, rfl⟩
            go_wp2_with fail
            refine (DG.out _ (HTW.out.below (by repeat (first | exact Below.refl _ _ | refine bl_tr ?_ _ | refine bl_al ?_ _ | refine bl_dr ?_ | refine bl_up ?_ _ | refine Below.drew ?_ | refine bl_alloc ?_ _ | refine Below.setCell ?_ (by first | (simp; done) | (simp; omega)) _)))).mono ?_
            rintro e w' ⟨rfl, g3, rfl⟩
            go_wp2_with fail
            exact bodyPost_ret (v := .tuple #[.agg #[.string ⟨#[]⟩, .slice none 0 0], .bool false]) (by simp [results, Tryd.results12, go_sem, q20, q21, q2l]) rfl ⟨none, 0, by rw [hf.out]; rfl, by rw [hf.out]; exact ⟨rfl, .inl ⟨rfl, rfl⟩⟩, .of (Below.sets2h HQ.out HUW.out (by repeat (first | exact Below.refl _ _ | refine bl_tr ?_ _ | refine bl_al ?_ _ | refine bl_dr ?_ | refine bl_up ?_ _ | refine Below.drew ?_ | refine bl_alloc ?_ _ | refine Below.setCell ?_ (by first | (simp; done) | (simp; omega)) _)) _ _)⟩
          · have hf := Lib.hid (rwR_no (okRI_all (by rw [HWW.out]; exact HAT.out hok)))
            clear hok hbw9
            go_wp2_with fail
            refine (CU.out _).mono ?_
            rintro e w' ⟨rfl, g1, rfl⟩
            go_wp2_with fail
            refine (DF.out _ (HTW.out.below (by repeat (first | exact Below.refl _ _ | refine bl_tr ?_ _ | refine bl_al ?_ _ | refine bl_dr ?_ | refine bl_up ?_ _ | refine Below.drew ?_ | refine bl_alloc ?_ _ | refine Below.setCell ?_ (by first | (simp; done) | (simp; omega)) _)))).mono ?_
            rintro e w' ⟨rfl, g2, rfl⟩
            go_wp2_with fail
            refine (DG.out _ (HTW.out.below (by repeat (first | exact Below.refl _ _ | refine bl_tr ?_ _ | refine bl_al ?_ _ | refine bl_dr ?_ | refine bl_up ?_ _ | refine Below.drew ?_ | refine bl_alloc ?_ _ | refine Below.setCell ?_ (by first | (simp; done) | (simp; omega)) _)))).mono ?_
            rintro e w' ⟨rfl, g3, rfl⟩
            go_wp2_with fail
            exact bodyPost_ret (v := .tuple #[.agg #[.string ⟨#[]⟩, .slice none 0 0], .bool false]) (by simp [results, Tryd.results12, go_sem, q20, q21, q2l]) rfl ⟨none, 0, by rw [hf.out]; rfl, by rw [hf.out]; exact ⟨rfl, .inl ⟨rfl, rfl⟩⟩, .of (Below.sets2h HQ.out HUW.out (by repeat (first | exact Below.refl _ _ | refine bl_tr ?_ _ | refine bl_al ?_ _ | refine bl_dr ?_ | refine bl_up ?_ _ | refine Below.drew ?_ | refine bl_alloc ?_ _ | refine Below.setCell ?_ (by first | (simp; done) | (simp; omega)) _)) _ _)⟩
          · have HK := Lib.hid (HTK.out hok)
            have HBB := Lib.hid hbw9
            clear hok hbw9
            go_wp2_with fail
            refine (CU.out _).mono ?_
            rintro e w' ⟨rfl, g1, rfl⟩
            go_wp2_with fail
            refine (DF.out _ (HTW.out.below (by repeat (first | exact Below.refl _ _ | refine bl_tr ?_ _ | refine bl_al ?_ _ | refine bl_dr ?_ | refine bl_up ?_ _ | refine Below.drew ?_ | refine bl_alloc ?_ _ | refine Below.setCell ?_ (by first | (simp; done) | (simp; omega)) _)))).mono ?_
            rintro e w' ⟨rfl, g2, rfl⟩
            go_wp2_with fail
            refine (DG.out _ (HTW.out.below (by repeat (first | exact Below.refl _ _ | refine bl_tr ?_ _ | refine bl_al ?_ _ | refine bl_dr ?_ | refine bl_up ?_ _ | refine Below.drew ?_ | refine bl_alloc ?_ _ | refine Below.setCell ?_ (by first | (simp; done) | (simp; omega)) _)))).mono ?_
            rintro e w' ⟨rfl, g3, rfl⟩
            have hlo9 : V1.heap.size ≤ q5 := Nat.le_of_eq HQ5.out
            have hsz9 := Lib.hid (show q5 ≤ wr.heap.size by have := hB.out.bel.size; have := HQ5.out; omega)
            go_wp2_with (at_builtin; go_must (refine wpl_appAt rfl _ _ 27 rfl q5 69 _ 2 16 el_bk (.slice A (brsW (ws.take i)).length c) (brsW (ws.take i)).length _ rfl (own_below hB.out.row (by repeat (first | exact Below.refl _ _ | refine bl_tr ?_ _ | refine bl_al ?_ _ | refine bl_dr ?_ | refine bl_up ?_ _ | refine Below.drew ?_ | refine bl_alloc ?_ _ | refine Below.setCell ?_ (by first | (simp; done) | (simp; omega)) _))) _ 1 1 [i64 a1, i64 a2] rfl (rds_new _ #[i64 a1, i64 a2] _ 2 1 rfl) (fun u hu => by simp at hu; rcases hu with rfl | rfl <;> rfl) (by omega) (by unfold maxLen; have := hbl.out; omega) (by have := hbl.out; omega) (Nat.le_trans hsz9.out (Below.size (B := wr.heap.size) (w := wr) (by repeat (first | exact Below.refl _ _ | refine bl_tr ?_ _ | refine bl_al ?_ _ | refine bl_dr ?_ | refine bl_up ?_ _ | refine Below.drew ?_ | refine bl_alloc ?_ _ | refine Below.setCell ?_ (by first | (simp; done) | (simp; omega)) _)))) ?_); intro g3 c3 w3 o3 hg3 hat3; rw [own_oblk] at hg3 hat3; have HP := Lib.hid (OBox.put (b := ⟨a1, a2⟩) (hB.out.below (by repeat (first | exact Below.refl _ _ | refine bl_tr ?_ _ | refine bl_al ?_ _ | refine bl_dr ?_ | refine bl_up ?_ _ | refine Below.drew ?_ | refine bl_alloc ?_ _ | refine Below.setCell ?_ (by first | (simp; done) | (simp; omega)) _))) hlo9 hlo9 hg3 o3 hat3); have hq3 := (hB.out.below (w' := _) (by repeat (first | exact Below.refl _ _ | refine bl_tr ?_ _ | refine bl_al ?_ _ | refine bl_dr ?_ | refine bl_up ?_ _ | refine Below.drew ?_ | refine bl_alloc ?_ _ | refine Below.setCell ?_ (by first | (simp; done) | (simp; omega)) _))).app hlo9 hg3; have k1' := hq3.1.cell 1; have f1' := hq3.1.free 1; have k2' := hq3.1.lt; simp only [List.getElem?_toArray, List.getElem?_cons_succ, List.getElem?_cons_zero] at k1'; clear hq3 o3 hg3 hat3)
            go_roundw
            case rel => exact ⟨i + 1, some ⟨g3, 0, none⟩, c3, by go_num, by omega, (show OBox V1 _ q5 q5 p (some ⟨g3, 0, none⟩) c3 (brsW (ws.take (i + 1))) by rw [HBT.out, HBB.out]; exact HP.out), HK.out⟩
            case measure => (simp [intOf]; try omega)
        · obtain rfl : i = ws.length := by omega
          have hB9 := hB.out
          have hal9 := hal.out
          rw [List.take_length] at hB9 hal9 b1
          have HB9 := Lib.hid hB9
          have HX := Lib.hid (show xWI s = ⟨p, brsW ws⟩ by unfold xWI; rw [HWW.out]; rfl)
          have HAL := Lib.hid (show allW (wI s).tail = true by rw [HWW.out]; exact hal9)
          have hbl := Lib.hid (show (brsW ws).length = ws.length by rw [brsW, List.length_map])
          have hpz := HWZ.out p (by simp)
          rw [List.length_nil, bsz, Nat.zero_add] at hpz
          have CT := Lib.hid (wareTextI_any ⟨p, brsW ws⟩ A c wr (Rds.of_own hB9.row) (by show (brsW ws).length ≤ _; have := hbl.out; omega) (by show p.size ≤ _; omega) HTW.out)
          have hlo9 : V1.heap.size ≤ q5 := Nat.le_of_eq HQ5.out
          clear hB hal hB9 hal9
          have hq2q5 := Lib.hid (show q2 < q5 by have := HQ1.out.lt; omega)
          by_cases heq : wText ⟨p, brsW ws⟩ = s
          · have hf := Lib.hid (rwR_ok (okRI_mk (by rw [HWW.out]; simp) HAL.out (by rw [HX.out]; exact heq)))
            have hz9 := tl_eq heq
            generalize wText ⟨p, brsW ws⟩ = T at *
            clear heq
            go_wp2_with fail
            refine CT.out.mono ?_
            rintro e w' ⟨rfl, g1, rfl⟩
            go_wp2_with fail
            exact bodyPost_ret (v := .tuple #[.agg #[.string p, .slice A (brsW ws).length c], .bool true]) (by simp [results, Tryd.results12, go_sem, q20, q21, q2l]) rfl ⟨A, c, by rw [hf.out, HX.out], by rw [hf.out, HX.out]; exact own_mono (own_setOld (own_setOld (own_below HB9.out.row (by repeat (first | exact Below.refl _ _ | refine bl_tr ?_ _ | refine bl_al ?_ _ | refine bl_dr ?_ | refine bl_up ?_ _ | refine Below.drew ?_ | refine bl_alloc ?_ _ | refine Below.setCell ?_ (by first | (simp; done) | (simp; omega)) _))) (p := ⟨q2, 0, none⟩) hq2q5.out _) (p := ⟨q2, 1, none⟩) hq2q5.out _) (by have := HU1.out.below.size; omega), .of (Below.sets2h HQ.out HUW.out (by repeat (first | exact Below.refl _ _ | refine bl_tr ?_ _ | refine bl_al ?_ _ | refine bl_dr ?_ | refine bl_up ?_ _ | refine Below.drew ?_ | refine bl_alloc ?_ _ | refine Below.setCell ?_ (by first | (simp; done) | (simp; omega)) _)) _ _)⟩
          · have hf := Lib.hid (rwR_no (okRI_text' (by rw [HX.out]; exact heq)))
            have hz9 := tl_ne heq
            generalize wText ⟨p, brsW ws⟩ = T at *
            clear heq
            go_wp2_with fail
            refine CT.out.mono ?_
            rintro e w' ⟨rfl, g1, rfl⟩
            go_wp2_with fail
            exact bodyPost_ret (v := .tuple #[.agg #[.string ⟨#[]⟩, .slice none 0 0], .bool false]) (by simp [results, Tryd.results12, go_sem, q20, q21, q2l]) rfl ⟨none, 0, by rw [hf.out]; rfl, by rw [hf.out]; exact ⟨rfl, .inl ⟨rfl, rfl⟩⟩, .of (Below.sets2h HQ.out HUW.out (by repeat (first | exact Below.refl _ _ | refine bl_tr ?_ _ | refine bl_al ?_ _ | refine bl_dr ?_ | refine bl_up ?_ _ | refine Below.drew ?_ | refine bl_alloc ?_ _ | refine Below.setCell ?_ (by first | (simp; done) | (simp; omega)) _)) _ _)⟩
end Go.Proofs.YtiibpldfnnhhlaaDoor
