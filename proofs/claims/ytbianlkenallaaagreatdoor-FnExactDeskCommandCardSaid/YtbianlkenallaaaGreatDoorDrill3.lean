/-
  A drill's text, read: the program's. The bounds stand at it; it leans on the laid table.
-/
import Derived.Test.YtbianlkenallaaaGreatDoorMgD
import Derived.Test.YtbianlkenallaaaGreatDoorMgB
import Derived.Test.YtbianlkenallaaaGreatDoorMgA
set_option linter.all false
set_option maxHeartbeats 2000000
set_option maxRecDepth 10000
namespace Go.Proofs.YtbianlkenallaaaGreatDoor
open Go.RowKit
theorem exit_genD {Q : Exit → Act → World → Prop} {x : Exit} {a : Act} {w : World} {R : World → Prop} (st : R w) (h : ∀ W, R W → Q x a W) : Q x a w := h w st
def dr0 : Drill := ⟨⟨#[]⟩, ⟨#[]⟩, 0⟩
def rdV (o : Option Drill) : Value := match o with
 | none => .tuple #[drv dr0, .bool false]
 | some d => .tuple #[drv d, .bool true]
theorem drTextV_pos (d : Drill) : 0 < (drTextV d).size := by
 have z : (⟨#[32]⟩ : ByteArray).size = 1 := rfl
 simp only [drTextV, ByteArray.size_append]
 omega
theorem Below.sets3d {rb : Nat} {a V w : World} (hr : a.heap.size ≤ rb) (h1 : Below a.heap.size a V) (h2 : Below V.heap.size V w) (u0 u1 u2 : Value) : Below a.heap.size a (((w.setCell ⟨rb, 0, none⟩ u0).setCell ⟨rb, 1, none⟩ u1).setCell ⟨rb, 2, none⟩ u2) :=
 (((h1.trans (h2.mono h1.size)).setCell (p := ⟨rb, 0, none⟩) hr u0).setCell (p := ⟨rb, 1, none⟩) hr u1).setCell (p := ⟨rb, 2, none⟩) hr u2
theorem readDrillI_any (s : ByteArray) (w : World) (hs : s.size ≤ 1048576) (ht : Tab w) :
 Calls Tryz.prog 77 #[.string s] w fun e w' => e = .returned (rdV (rdDrill s)) ∧ UpOf w w' := by
 have HT := hd_ ht
 clear ht
 obtain ⟨W, hW⟩ := nm_ (wordsA [] s.data.toList)
 have HW : Hid (∀ V, Calls Tryz.prog 76 #[.string s] V fun e w' => ∃ A c, e = .returned (.slice A W.length c) ∧ w'.ownsRow V.heap.size 9 1 (.slice A W.length c) W.length (strs W) ∧ UpOf V w') := hd_ fun V => by
  rw [← hW]; exact splitWords_any s V (by omega)
 have hWs : ∀ i, i < W.length → (wd W i).size ≤ 1048576 := fun i hi => by
  have := words_size s.data.toList [] (wd W i) (by rw [hW, ← wd_eq hi]; exact List.getElem_mem hi)
  rw [bsz] at this
  simp at this
  omega
 have hrd : rdDrill s = if drillB s W then some (drOf W) else none := by rw [rdDrill, hW]
 clear hW
 by_cases h3 : W.length = 3
 ·have h3' : ((W.length : Int) != 3) = false := by rw [h3]; rfl
  have s0 := hWs 0 (by omega)
  have s1 := hWs 1 (by omega)
  have s2 := hWs 2 (by omega)
  have H3 := hd_ h3
  cases hn : numB (wd W 2) with
  | false =>
    have hf := hd_ (show rdDrill s = none by rw [hrd, drillB_2 hn]; rfl)
    have HR : Hid (∀ V, Tab V → Calls Tryz.prog 79 #[.string (wd W 2)] V fun e w' => e = .returned (.tuple #[i64 0, .bool false]) ∧ UpOf V w') := hd_ fun V hV => by
     have := readDecimal_any (wd W 2) V (by omega) hV
     rw [rdR_no hn] at this
     exact this
    clear hrd hWs hn
    go_enter Tryz.func77, Tryz.ntmps77
    go_wp2_with fail
    refine cg (R := fun V => Blk V w.heap.size 112 #[.string ⟨#[]⟩, .string ⟨#[]⟩, i64 0] ∧ UpOf w V) ⟨Blk.new _ _ _, uw_⟩ (fun V z => ?_)
    have HTV := hd_ (HT.out.below z.2.below)
    have HU := hd_ z.2
    have q0 := z.1.cell 0
    have q1 := z.1.cell 1
    have q2 := z.1.cell 2
    have f0 := z.1.free 0
    have f1 := z.1.free 1
    have f2 := z.1.free 2
    have hq := z.1.lt
    simp only [List.getElem?_toArray, List.getElem?_cons_zero, List.getElem?_cons_succ] at q0 q1 q2
    clear z
    obtain ⟨q, hqq⟩ := nm_ (w.heap.size)
    have HQ := hd_ (show w.heap.size ≤ q from Nat.le_of_eq hqq)
    rw [hqq] at q0 q1 q2 f0 f1 f2 hq ⊢
    clear hqq
    refine (HW.out _).mono ?_
    rintro e w' ⟨A, c, rfl, o1, g1, rfl⟩
    obtain ⟨b, off, rfl, hb, cw⟩ := wd_at (Rds.of_own o1) (i := 0) (by omega)
    have cw0 := cw 0 (by omega)
    have cw1 := cw 1 (by omega)
    have cw2 := cw 2 (by omega)
    rw [Nat.add_zero] at cw0
    rw [h3]
    clear cw o1 h3 h3'
    go_wp2_with (first | (go_at_call 79; refine cu_ (HR.out _ (HTV.out.below bw_)) fun g => ?_) | ((with_reducible refine wru ?_); refine wrz fun _ => ?_))
    refine wpg (R := fun U => UpOf V U ∧ b < U.heap.size ∧ U.cell? ⟨b, off, none⟩ = some (.string (wd W 0)) ∧ U.cell? ⟨b, off + 1, none⟩ = some (.string (wd W 1))) ⟨uw_, Nat.lt_of_lt_of_le hb (ub_ _ _).size, ((ub_ (up V g1) g).cell (p := ⟨b, off, none⟩) hb).trans cw0, ((ub_ (up V g1) g).cell (p := ⟨b, off + 1, none⟩) hb).trans cw1⟩ (fun V2 z => ?_)
    obtain ⟨z1, hb2, d0, d1⟩ := z
    have HU2 := hd_ z1
    clear z1 cw0 cw1 cw2 hb
    go_region_held3 (fun w' => (V2).heap.size ≤ w'.heap.size ∧ ∀ b o, b < (V2).heap.size → w'.cell? ⟨b, o, none⟩ = (V2).cell? ⟨b, o, none⟩) (exact sm_of bw_) (first | fail)
    refine exit_genD (R := fun U => Box U V2.heap.size #[.string (wd W 0), .string (wd W 1), i64 0] ∧ UpOf V2 U) ⟨(Box.new V2 _ _).below (Below.drew (Below.refl _ _)), uw_⟩ (fun V3 z => ?_)
    obtain ⟨⟨hp3, hbx⟩, hU3⟩ := z
    have x0 := hbx 0 _ rfl
    have x1 := hbx 1 _ rfl
    have x2 := hbx 2 _ rfl
    have HU3 := hd_ (HU2.out.tr hU3.below)
    have hq3 : q < V3.heap.size := Nat.lt_of_lt_of_le hq HU3.out.below.size
    have q0 := (HU3.out.below.cell (p := ⟨q, 0, none⟩) hq).trans q0
    have q1 := (HU3.out.below.cell (p := ⟨q, 1, none⟩) hq).trans q1
    have q2 := (HU3.out.below.cell (p := ⟨q, 2, none⟩) hq).trans q2
    have f0 := (HU3.out.below.frozen (p := ⟨q, 0, none⟩) hq).trans f0
    have f1 := (HU3.out.below.frozen (p := ⟨q, 1, none⟩) hq).trans f1
    have f2 := (HU3.out.below.frozen (p := ⟨q, 2, none⟩) hq).trans f2
    have HTV3 := hd_ (HTV.out.below HU3.out.below)
    have hpq : ¬ V2.heap.size = q := fun h => by
     have := Nat.lt_of_lt_of_le hq HU2.out.below.size
     omega
    clear d0 d1 hb2 hbx hU3 HU2
    generalize V2.heap.size = p at *
    go_wp2_with fail
    exact bodyPost_ret (v := .tuple #[drv dr0, .bool false]) (by simp [results, Tryz.results77, go_sem, hq3, q0, q1, q2, dr0]) rfl ⟨by rw [hf.out]; rfl, UpOf.of (Below.sets3d HQ.out (HU.out.below.trans (HU3.out.below.mono HU.out.below.size)) bw_ _ _ _)⟩
  | true =>
    have hinv := numB_inv hn
    have hbd := sval_bd hinv.1.2 hinv.2.1
    obtain ⟨N, hN⟩ := nm_ (sval (wd W 2))
    rw [hN] at hbd
    have HR : Hid (∀ V, Tab V → Calls Tryz.prog 79 #[.string (wd W 2)] V fun e w' => e = .returned (.tuple #[i64 N, .bool true]) ∧ UpOf V w') := hd_ fun V hV => by
     have := readDecimal_any (wd W 2) V (by omega) hV
     rw [rdR_ok hn, hN] at this
     exact this
    have hdo : drOf W = ⟨wd W 0, wd W 1, N⟩ := by rw [drOf, hN]
    obtain ⟨T, hT⟩ := nm_ (drText ⟨wd W 0, wd W 1, N⟩)
    have HDT : Hid (∀ V, Tab V → Calls Tryz.prog 88 #[.agg #[.string (wd W 0), .string (wd W 1), i64 N]] V fun e w' => e = .returned (.string T) ∧ UpOf V w') := hd_ fun V hV => by
     have := drillText_any ⟨wd W 0, wd W 1, N⟩ V (by show (wd W 0).size ≤ _; omega) (by show (wd W 1).size ≤ _; omega) hV
     rw [hT] at this
     exact this
    by_cases hTs : T = s
    ·have htt := tl_teq hTs
     have htn : (!(T.toList == s.toList)) = false := by rw [htt]; rfl
     by_cases h0 : s.size = 0
     ·have hz := isEmpty_yes h0
      have hf := hd_ (show rdDrill s = none by
       have : vDrill (drOf W) = false := by
        cases hv : vDrill (drOf W)
        ·rfl
        ·rw [drText, ← hdo, hv, if_pos rfl] at hT
         have := drTextV_pos (drOf W)
         rw [hT, hTs] at this
         omega
       rw [hrd, drillB_3 this]; rfl)
      clear hrd hWs hn hinv hdo hN hT hTs h0
      go_enter Tryz.func77, Tryz.ntmps77
      go_wp2_with fail
      refine cg (R := fun V => Blk V w.heap.size 112 #[.string ⟨#[]⟩, .string ⟨#[]⟩, i64 0] ∧ UpOf w V) ⟨Blk.new _ _ _, uw_⟩ (fun V z => ?_)
      have HTV := hd_ (HT.out.below z.2.below)
      have HU := hd_ z.2
      have q0 := z.1.cell 0
      have q1 := z.1.cell 1
      have q2 := z.1.cell 2
      have f0 := z.1.free 0
      have f1 := z.1.free 1
      have f2 := z.1.free 2
      have hq := z.1.lt
      simp only [List.getElem?_toArray, List.getElem?_cons_zero, List.getElem?_cons_succ] at q0 q1 q2
      clear z
      obtain ⟨q, hqq⟩ := nm_ (w.heap.size)
      have HQ := hd_ (show w.heap.size ≤ q from Nat.le_of_eq hqq)
      rw [hqq] at q0 q1 q2 f0 f1 f2 hq ⊢
      clear hqq
      refine (HW.out _).mono ?_
      rintro e w' ⟨A, c, rfl, o1, g1, rfl⟩
      obtain ⟨b, off, rfl, hb, cw⟩ := wd_at (Rds.of_own o1) (i := 0) (by omega)
      have cw0 := cw 0 (by omega)
      have cw1 := cw 1 (by omega)
      have cw2 := cw 2 (by omega)
      rw [Nat.add_zero] at cw0
      rw [h3]
      clear cw o1 h3 h3'
      go_wp2_with (first | (go_at_call 79; refine cu_ (HR.out _ (HTV.out.below bw_)) fun g => ?_) | ((with_reducible refine wru ?_); refine wrz fun _ => ?_))
      refine wpg (R := fun U => UpOf V U ∧ b < U.heap.size ∧ U.cell? ⟨b, off, none⟩ = some (.string (wd W 0)) ∧ U.cell? ⟨b, off + 1, none⟩ = some (.string (wd W 1))) ⟨uw_, Nat.lt_of_lt_of_le hb (ub_ _ _).size, ((ub_ (up V g1) g).cell (p := ⟨b, off, none⟩) hb).trans cw0, ((ub_ (up V g1) g).cell (p := ⟨b, off + 1, none⟩) hb).trans cw1⟩ (fun V2 z => ?_)
      obtain ⟨z1, hb2, d0, d1⟩ := z
      have HU2 := hd_ z1
      clear z1 cw0 cw1 cw2 hb
      go_region_held3 (fun w' => (V2).heap.size ≤ w'.heap.size ∧ ∀ b o, b < (V2).heap.size → w'.cell? ⟨b, o, none⟩ = (V2).cell? ⟨b, o, none⟩) (exact sm_of bw_) (first | fail)
      refine exit_genD (R := fun U => Box U V2.heap.size #[.string (wd W 0), .string (wd W 1), i64 N] ∧ UpOf V2 U) ⟨(Box.new V2 _ _).below (Below.drew (Below.refl _ _)), uw_⟩ (fun V3 z => ?_)
      obtain ⟨⟨hp3, hbx⟩, hU3⟩ := z
      have x0 := hbx 0 _ rfl
      have x1 := hbx 1 _ rfl
      have x2 := hbx 2 _ rfl
      have HU3 := hd_ (HU2.out.tr hU3.below)
      have hq3 : q < V3.heap.size := Nat.lt_of_lt_of_le hq HU3.out.below.size
      have q0 := (HU3.out.below.cell (p := ⟨q, 0, none⟩) hq).trans q0
      have q1 := (HU3.out.below.cell (p := ⟨q, 1, none⟩) hq).trans q1
      have q2 := (HU3.out.below.cell (p := ⟨q, 2, none⟩) hq).trans q2
      have f0 := (HU3.out.below.frozen (p := ⟨q, 0, none⟩) hq).trans f0
      have f1 := (HU3.out.below.frozen (p := ⟨q, 1, none⟩) hq).trans f1
      have f2 := (HU3.out.below.frozen (p := ⟨q, 2, none⟩) hq).trans f2
      have HTV3 := hd_ (HTV.out.below HU3.out.below)
      have hpq : ¬ V2.heap.size = q := fun h => by
       have := Nat.lt_of_lt_of_le hq HU2.out.below.size
       omega
      clear d0 d1 hb2 hbx hU3 HU2
      generalize V2.heap.size = p at *
      go_wp2_with (first | (go_at_call 88; refine cu_ (HDT.out _ (HTV3.out.below bw_)) fun g => ?_) | ((with_reducible refine wru ?_); refine wrz fun _ => ?_))
      exact bodyPost_ret (v := .tuple #[drv dr0, .bool false]) (by simp [results, Tryz.results77, go_sem, hq3, q0, q1, q2, dr0]) rfl ⟨by rw [hf.out]; rfl, UpOf.of (Below.sets3d HQ.out (HU.out.below.trans (HU3.out.below.mono HU.out.below.size)) bw_ _ _ _)⟩
     ·have hz := isEmpty_no (s := s) (by omega)
      have hf := hd_ (show rdDrill s = some ⟨wd W 0, wd W 1, N⟩ by
       have hv : vDrill (drOf W) = true := by
        cases hv : vDrill (drOf W)
        ·rw [drText, ← hdo, hv] at hT
         rw [← hTs, ← hT] at h0
         exact absurd rfl h0
        ·rfl
       have : drillB s W = true := drillB_0 h3 hn hv (by rw [drText, ← hdo, hv, if_pos rfl] at hT; rw [hT, hTs])
       rw [hrd, this, if_pos rfl, hdo])
      clear hrd hWs hn hinv hdo hN hT hTs h0
      go_enter Tryz.func77, Tryz.ntmps77
      go_wp2_with fail
      refine cg (R := fun V => Blk V w.heap.size 112 #[.string ⟨#[]⟩, .string ⟨#[]⟩, i64 0] ∧ UpOf w V) ⟨Blk.new _ _ _, uw_⟩ (fun V z => ?_)
      have HTV := hd_ (HT.out.below z.2.below)
      have HU := hd_ z.2
      have q0 := z.1.cell 0
      have q1 := z.1.cell 1
      have q2 := z.1.cell 2
      have f0 := z.1.free 0
      have f1 := z.1.free 1
      have f2 := z.1.free 2
      have hq := z.1.lt
      simp only [List.getElem?_toArray, List.getElem?_cons_zero, List.getElem?_cons_succ] at q0 q1 q2
      clear z
      obtain ⟨q, hqq⟩ := nm_ (w.heap.size)
      have HQ := hd_ (show w.heap.size ≤ q from Nat.le_of_eq hqq)
      rw [hqq] at q0 q1 q2 f0 f1 f2 hq ⊢
      clear hqq
      refine (HW.out _).mono ?_
      rintro e w' ⟨A, c, rfl, o1, g1, rfl⟩
      obtain ⟨b, off, rfl, hb, cw⟩ := wd_at (Rds.of_own o1) (i := 0) (by omega)
      have cw0 := cw 0 (by omega)
      have cw1 := cw 1 (by omega)
      have cw2 := cw 2 (by omega)
      rw [Nat.add_zero] at cw0
      rw [h3]
      clear cw o1 h3 h3'
      go_wp2_with (first | (go_at_call 79; refine cu_ (HR.out _ (HTV.out.below bw_)) fun g => ?_) | ((with_reducible refine wru ?_); refine wrz fun _ => ?_))
      refine wpg (R := fun U => UpOf V U ∧ b < U.heap.size ∧ U.cell? ⟨b, off, none⟩ = some (.string (wd W 0)) ∧ U.cell? ⟨b, off + 1, none⟩ = some (.string (wd W 1))) ⟨uw_, Nat.lt_of_lt_of_le hb (ub_ _ _).size, ((ub_ (up V g1) g).cell (p := ⟨b, off, none⟩) hb).trans cw0, ((ub_ (up V g1) g).cell (p := ⟨b, off + 1, none⟩) hb).trans cw1⟩ (fun V2 z => ?_)
      obtain ⟨z1, hb2, d0, d1⟩ := z
      have HU2 := hd_ z1
      clear z1 cw0 cw1 cw2 hb
      go_region_held3 (fun w' => (V2).heap.size ≤ w'.heap.size ∧ ∀ b o, b < (V2).heap.size → w'.cell? ⟨b, o, none⟩ = (V2).cell? ⟨b, o, none⟩) (exact sm_of bw_) (first | fail)
      refine exit_genD (R := fun U => Box U V2.heap.size #[.string (wd W 0), .string (wd W 1), i64 N] ∧ UpOf V2 U) ⟨(Box.new V2 _ _).below (Below.drew (Below.refl _ _)), uw_⟩ (fun V3 z => ?_)
      obtain ⟨⟨hp3, hbx⟩, hU3⟩ := z
      have x0 := hbx 0 _ rfl
      have x1 := hbx 1 _ rfl
      have x2 := hbx 2 _ rfl
      have HU3 := hd_ (HU2.out.tr hU3.below)
      have hq3 : q < V3.heap.size := Nat.lt_of_lt_of_le hq HU3.out.below.size
      have q0 := (HU3.out.below.cell (p := ⟨q, 0, none⟩) hq).trans q0
      have q1 := (HU3.out.below.cell (p := ⟨q, 1, none⟩) hq).trans q1
      have q2 := (HU3.out.below.cell (p := ⟨q, 2, none⟩) hq).trans q2
      have f0 := (HU3.out.below.frozen (p := ⟨q, 0, none⟩) hq).trans f0
      have f1 := (HU3.out.below.frozen (p := ⟨q, 1, none⟩) hq).trans f1
      have f2 := (HU3.out.below.frozen (p := ⟨q, 2, none⟩) hq).trans f2
      have HTV3 := hd_ (HTV.out.below HU3.out.below)
      have hpq : ¬ V2.heap.size = q := fun h => by
       have := Nat.lt_of_lt_of_le hq HU2.out.below.size
       omega
      clear d0 d1 hb2 hbx hU3 HU2
      generalize V2.heap.size = p at *
      go_wp2_with (first | (go_at_call 88; refine cu_ (HDT.out _ (HTV3.out.below bw_)) fun g => ?_) | ((with_reducible refine wru ?_); refine wrz fun _ => ?_))
      exact bodyPost_ret (v := .tuple #[drv ⟨wd W 0, wd W 1, N⟩, .bool true]) (by simp [results, Tryz.results77, go_sem, hq3, q0, q1, q2]) rfl ⟨by rw [hf.out]; rfl, UpOf.of (Below.sets3d HQ.out (HU.out.below.trans (HU3.out.below.mono HU.out.below.size)) bw_ _ _ _)⟩
    ·have htt := tl_tne hTs
     have htn : (!(T.toList == s.toList)) = true := by rw [htt]; rfl
     have hf := hd_ (show rdDrill s = none by
      cases hv : vDrill (drOf W)
      ·rw [hrd, drillB_3 hv]; rfl
      ·rw [drText, ← hdo, hv, if_pos rfl] at hT
       rw [hrd, drillB_4 (by rw [hT]; exact hTs)]; rfl)
     clear hrd hWs hn hinv hdo hN hT hTs
     go_enter Tryz.func77, Tryz.ntmps77
     go_wp2_with fail
     refine cg (R := fun V => Blk V w.heap.size 112 #[.string ⟨#[]⟩, .string ⟨#[]⟩, i64 0] ∧ UpOf w V) ⟨Blk.new _ _ _, uw_⟩ (fun V z => ?_)
     have HTV := hd_ (HT.out.below z.2.below)
     have HU := hd_ z.2
     have q0 := z.1.cell 0
     have q1 := z.1.cell 1
     have q2 := z.1.cell 2
     have f0 := z.1.free 0
     have f1 := z.1.free 1
     have f2 := z.1.free 2
     have hq := z.1.lt
     simp only [List.getElem?_toArray, List.getElem?_cons_zero, List.getElem?_cons_succ] at q0 q1 q2
     clear z
     obtain ⟨q, hqq⟩ := nm_ (w.heap.size)
     have HQ := hd_ (show w.heap.size ≤ q from Nat.le_of_eq hqq)
     rw [hqq] at q0 q1 q2 f0 f1 f2 hq ⊢
     clear hqq
     refine (HW.out _).mono ?_
     rintro e w' ⟨A, c, rfl, o1, g1, rfl⟩
     obtain ⟨b, off, rfl, hb, cw⟩ := wd_at (Rds.of_own o1) (i := 0) (by omega)
     have cw0 := cw 0 (by omega)
     have cw1 := cw 1 (by omega)
     have cw2 := cw 2 (by omega)
     rw [Nat.add_zero] at cw0
     rw [h3]
     clear cw o1 h3 h3'
     go_wp2_with (first | (go_at_call 79; refine cu_ (HR.out _ (HTV.out.below bw_)) fun g => ?_) | ((with_reducible refine wru ?_); refine wrz fun _ => ?_))
     refine wpg (R := fun U => UpOf V U ∧ b < U.heap.size ∧ U.cell? ⟨b, off, none⟩ = some (.string (wd W 0)) ∧ U.cell? ⟨b, off + 1, none⟩ = some (.string (wd W 1))) ⟨uw_, Nat.lt_of_lt_of_le hb (ub_ _ _).size, ((ub_ (up V g1) g).cell (p := ⟨b, off, none⟩) hb).trans cw0, ((ub_ (up V g1) g).cell (p := ⟨b, off + 1, none⟩) hb).trans cw1⟩ (fun V2 z => ?_)
     obtain ⟨z1, hb2, d0, d1⟩ := z
     have HU2 := hd_ z1
     clear z1 cw0 cw1 cw2 hb
     go_region_held3 (fun w' => (V2).heap.size ≤ w'.heap.size ∧ ∀ b o, b < (V2).heap.size → w'.cell? ⟨b, o, none⟩ = (V2).cell? ⟨b, o, none⟩) (exact sm_of bw_) (first | fail)
     refine exit_genD (R := fun U => Box U V2.heap.size #[.string (wd W 0), .string (wd W 1), i64 N] ∧ UpOf V2 U) ⟨(Box.new V2 _ _).below (Below.drew (Below.refl _ _)), uw_⟩ (fun V3 z => ?_)
     obtain ⟨⟨hp3, hbx⟩, hU3⟩ := z
     have x0 := hbx 0 _ rfl
     have x1 := hbx 1 _ rfl
     have x2 := hbx 2 _ rfl
     have HU3 := hd_ (HU2.out.tr hU3.below)
     have hq3 : q < V3.heap.size := Nat.lt_of_lt_of_le hq HU3.out.below.size
     have q0 := (HU3.out.below.cell (p := ⟨q, 0, none⟩) hq).trans q0
     have q1 := (HU3.out.below.cell (p := ⟨q, 1, none⟩) hq).trans q1
     have q2 := (HU3.out.below.cell (p := ⟨q, 2, none⟩) hq).trans q2
     have f0 := (HU3.out.below.frozen (p := ⟨q, 0, none⟩) hq).trans f0
     have f1 := (HU3.out.below.frozen (p := ⟨q, 1, none⟩) hq).trans f1
     have f2 := (HU3.out.below.frozen (p := ⟨q, 2, none⟩) hq).trans f2
     have HTV3 := hd_ (HTV.out.below HU3.out.below)
     have hpq : ¬ V2.heap.size = q := fun h => by
      have := Nat.lt_of_lt_of_le hq HU2.out.below.size
      omega
     clear d0 d1 hb2 hbx hU3 HU2
     generalize V2.heap.size = p at *
     go_wp2_with (first | (go_at_call 88; refine cu_ (HDT.out _ (HTV3.out.below bw_)) fun g => ?_) | ((with_reducible refine wru ?_); refine wrz fun _ => ?_))
     exact bodyPost_ret (v := .tuple #[drv dr0, .bool false]) (by simp [results, Tryz.results77, go_sem, hq3, q0, q1, q2, dr0]) rfl ⟨by rw [hf.out]; rfl, UpOf.of (Below.sets3d HQ.out (HU.out.below.trans (HU3.out.below.mono HU.out.below.size)) bw_ _ _ _)⟩
 ·have h3' : ((W.length : Int) != 3) = true := by rw [bne_iff_ne]; omega
  have hf := hd_ (show rdDrill s = none by rw [hrd, drillB_1 h3]; rfl)
  clear hrd hWs
  go_enter Tryz.func77, Tryz.ntmps77
  go_wp2_with fail
  refine cg (R := fun V => Blk V w.heap.size 112 #[.string ⟨#[]⟩, .string ⟨#[]⟩, i64 0] ∧ UpOf w V) ⟨Blk.new _ _ _, uw_⟩ (fun V z => ?_)
  have HTV := hd_ (HT.out.below z.2.below)
  have HU := hd_ z.2
  have q0 := z.1.cell 0
  have q1 := z.1.cell 1
  have q2 := z.1.cell 2
  have f0 := z.1.free 0
  have f1 := z.1.free 1
  have f2 := z.1.free 2
  have hq := z.1.lt
  simp only [List.getElem?_toArray, List.getElem?_cons_zero, List.getElem?_cons_succ] at q0 q1 q2
  clear z
  obtain ⟨q, hqq⟩ := nm_ (w.heap.size)
  have HQ := hd_ (show w.heap.size ≤ q from Nat.le_of_eq hqq)
  rw [hqq] at q0 q1 q2 f0 f1 f2 hq ⊢
  clear hqq
  refine (HW.out _).mono ?_
  rintro e w' ⟨A, c, rfl, o1, g1, rfl⟩
  go_wp2_with ((with_reducible refine wru ?_); refine wrz fun _ => ?_)
  exact bodyPost_ret (v := .tuple #[drv dr0, .bool false]) (by simp [results, Tryz.results77, go_sem, hq, q0, q1, q2, dr0]) rfl ⟨by rw [hf.out]; rfl, UpOf.of (Below.sets3d HQ.out HU.out.below bw_ _ _ _)⟩
end Go.Proofs.YtbianlkenallaaaGreatDoor
