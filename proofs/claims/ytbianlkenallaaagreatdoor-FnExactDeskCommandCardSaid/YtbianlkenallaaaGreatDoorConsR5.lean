/-
  A drill, read: the reference's. The bounds stand at it.
-/
import Derived.Test.YtbianlkenallaaaGreatDoorDrill3
import Derived.Test.YtbianlkenallaaaGreatDoorMgB
set_option linter.all false
set_option maxHeartbeats 2000000
set_option maxRecDepth 10000
namespace Go.Proofs.YtbianlkenallaaaGreatDoor
open Go.RowKit
theorem readDrillS_any (s : ByteArray) (w : World) (hs : s.size ≤ 1048576) :
 Calls Tryz.prog 151 #[.string s] w fun e w' => e = .returned (rdV (rdDrill s)) ∧ UpOf w w' := by
 have HSP := hd_ (@split_text s)
 have HNO := hd_ (@rdDrill_noS s)
 have HOK := hd_ (@rdDrill_okS s)
 obtain ⟨W, hW⟩ := nm_ (splitA 32 [] s.data.toList)
 have HW : Hid (∀ V, Calls Tryz.prog 44 #[.string s, .int .u8 32] V fun e w' => ∃ A c, e = .returned (.slice A W.length c) ∧ w'.ownsRow V.heap.size 9 1 (.slice A W.length c) W.length (strs W) ∧ UpOf V w') := hd_ fun V => by
  rw [← hW]; exact l01Split_any s 32 32 rfl V (by omega)
 have hWs : ∀ i, i < W.length → (wd W i).size ≤ 1048576 := fun i hi => by
  have := split_size 32 s.data.toList [] (wd W i) (by rw [hW, ← wd_eq hi]; exact List.getElem_mem hi)
  rw [bsz] at this
  simp at this
  omega
 rw [hW] at HSP HNO HOK
 clear hW
 by_cases h3 : W.length = 3
 ·have h3' : ((W.length : Int) != 3) = false := by rw [h3]; rfl
  have s0 := hWs 0 (by omega)
  have s1 := hWs 1 (by omega)
  have s2 := hWs 2 (by omega)
  have H3 := hd_ h3
  cases hn : numB (wd W 2) with
  | false =>
    have hf := hd_ (show rdDrill s = none from HNO.out (drillB_2 hn))
    have HR : Hid (∀ V, Calls Tryz.prog 146 #[.string (wd W 2)] V fun e w' => e = .returned (.tuple #[i64 0, .bool false]) ∧ UpOf V w') := hd_ fun V => by
     have := l01Number_any (wd W 2) V (by omega)
     rw [rdR_no hn] at this
     exact this
    clear hWs hn HSP HNO HOK
    go_enter Tryz.func151, Tryz.ntmps151
    go_wp2_with fail
    refine cg (R := fun V => Blk V w.heap.size 112 #[.string ⟨#[]⟩, .string ⟨#[]⟩, i64 0] ∧ UpOf w V) ⟨Blk.new _ _ _, uw_⟩ (fun V z => ?_)
    have HU := hd_ z.2
    have q0 := z.1.cell 0
    have q1 := z.1.cell 1
    have q2 := z.1.cell 2
    have f0 := z.1.free 0
    have f1 := z.1.free 1
    have f2 := z.1.free 2
    have hq := z.1.lt
    simp only [List.getElem?_toArray, List.getElem?_cons_zero, List.getElem?_cons_succ] at q0 q1 q2
    clear z
    obtain ⟨q, hqq⟩ := nm_ (w.heap.size)
    have HQ := hd_ (show w.heap.size ≤ q from Nat.le_of_eq hqq)
    rw [hqq] at q0 q1 q2 f0 f1 f2 hq ⊢
    clear hqq
    refine (HW.out _).mono ?_
    rintro e w' ⟨A, c, rfl, o1, g1, rfl⟩
    obtain ⟨b, off, rfl, hb, cw⟩ := wd_at (Rds.of_own o1) (i := 0) (by omega)
    have cw0 := cw 0 (by omega)
    have cw1 := cw 1 (by omega)
    have cw2 := cw 2 (by omega)
    rw [Nat.add_zero] at cw0
    rw [h3]
    clear cw o1 h3 h3'
    go_wp2_with (first | (go_at_call 146; refine cu_ (HR.out _) fun g => ?_) | ((with_reducible refine wru ?_); refine wrz fun _ => ?_))
    refine wpg (R := fun U => UpOf V U ∧ b < U.heap.size ∧ U.cell? ⟨b, off, none⟩ = some (.string (wd W 0)) ∧ U.cell? ⟨b, off + 1, none⟩ = some (.string (wd W 1))) ⟨uw_, Nat.lt_of_lt_of_le hb (ub_ _ _).size, ((ub_ (up V g1) g).cell (p := ⟨b, off, none⟩) hb).trans cw0, ((ub_ (up V g1) g).cell (p := ⟨b, off + 1, none⟩) hb).trans cw1⟩ (fun V2 z => ?_)
    obtain ⟨z1, hb2, d0, d1⟩ := z
    have HU2 := hd_ z1
    clear z1 cw0 cw1 cw2 hb
    go_region_held3 (fun w' => (V2).heap.size ≤ w'.heap.size ∧ ∀ b o, b < (V2).heap.size → w'.cell? ⟨b, o, none⟩ = (V2).cell? ⟨b, o, none⟩) (exact sm_of bw_) (first | fail)
    refine exit_genD (R := fun U => Box U V2.heap.size #[.string (wd W 0), .string (wd W 1), i64 0] ∧ UpOf V2 U) ⟨(Box.new V2 _ _).below (Below.drew (Below.refl _ _)), uw_⟩ (fun V3 z => ?_)
    obtain ⟨⟨hp3, hbx⟩, hU3⟩ := z
    have x0 := hbx 0 _ rfl
    have x1 := hbx 1 _ rfl
    have x2 := hbx 2 _ rfl
    have HU3 := hd_ (HU2.out.tr hU3.below)
    have hq3 : q < V3.heap.size := Nat.lt_of_lt_of_le hq HU3.out.below.size
    have q0 := (HU3.out.below.cell (p := ⟨q, 0, none⟩) hq).trans q0
    have q1 := (HU3.out.below.cell (p := ⟨q, 1, none⟩) hq).trans q1
    have q2 := (HU3.out.below.cell (p := ⟨q, 2, none⟩) hq).trans q2
    have f0 := (HU3.out.below.frozen (p := ⟨q, 0, none⟩) hq).trans f0
    have f1 := (HU3.out.below.frozen (p := ⟨q, 1, none⟩) hq).trans f1
    have f2 := (HU3.out.below.frozen (p := ⟨q, 2, none⟩) hq).trans f2
    have hpq : ¬ V2.heap.size = q := fun h => by
     have := Nat.lt_of_lt_of_le hq HU2.out.below.size
     omega
    clear d0 d1 hb2 hbx hU3 HU2
    generalize V2.heap.size = p at *
    go_wp2_with fail
    exact bodyPost_ret (v := .tuple #[drv dr0, .bool false]) (by simp [results, Tryz.results151, go_sem, hq3, q0, q1, q2, dr0]) rfl ⟨by rw [hf.out]; rfl, UpOf.of (Below.sets3d HQ.out (HU.out.below.trans (HU3.out.below.mono HU.out.below.size)) bw_ _ _ _)⟩
  | true =>
    obtain ⟨N, hN⟩ := nm_ (sval (wd W 2))
    have HR : Hid (∀ V, Calls Tryz.prog 146 #[.string (wd W 2)] V fun e w' => e = .returned (.tuple #[i64 N, .bool true]) ∧ UpOf V w') := hd_ fun V => by
     have := l01Number_any (wd W 2) V (by omega)
     rw [rdR_ok hn, hN] at this
     exact this
    have hdo : drOf W = ⟨wd W 0, wd W 1, N⟩ := by rw [drOf, hN]
    obtain ⟨B, hB⟩ := nm_ (vDrill ⟨wd W 0, wd W 1, N⟩)
    have HDT : Hid (∀ V, Calls Tryz.prog 143 #[.agg #[.string (wd W 0), .string (wd W 1), i64 N]] V fun e w' => e = .returned (.bool B) ∧ UpOf V w') := hd_ fun V => by
     have := l21One_any ⟨wd W 0, wd W 1, N⟩ V (by show (wd W 0).size ≤ _; omega) (by show (wd W 1).size ≤ _; omega)
     rw [hB] at this
     exact this
    cases B with
    | true =>
      have hf := hd_ (show rdDrill s = some ⟨wd W 0, wd W 1, N⟩ by
       rw [HOK.out (drillB_0 h3 hn (by rw [hdo]; exact hB) (HSP.out h3 hn)), hdo])
      clear hWs hn HSP HNO HOK hdo hN hB
      go_enter Tryz.func151, Tryz.ntmps151
      go_wp2_with fail
      refine cg (R := fun V => Blk V w.heap.size 112 #[.string ⟨#[]⟩, .string ⟨#[]⟩, i64 0] ∧ UpOf w V) ⟨Blk.new _ _ _, uw_⟩ (fun V z => ?_)
      have HU := hd_ z.2
      have q0 := z.1.cell 0
      have q1 := z.1.cell 1
      have q2 := z.1.cell 2
      have f0 := z.1.free 0
      have f1 := z.1.free 1
      have f2 := z.1.free 2
      have hq := z.1.lt
      simp only [List.getElem?_toArray, List.getElem?_cons_zero, List.getElem?_cons_succ] at q0 q1 q2
      clear z
      obtain ⟨q, hqq⟩ := nm_ (w.heap.size)
      have HQ := hd_ (show w.heap.size ≤ q from Nat.le_of_eq hqq)
      rw [hqq] at q0 q1 q2 f0 f1 f2 hq ⊢
      clear hqq
      refine (HW.out _).mono ?_
      rintro e w' ⟨A, c, rfl, o1, g1, rfl⟩
      obtain ⟨b, off, rfl, hb, cw⟩ := wd_at (Rds.of_own o1) (i := 0) (by omega)
      have cw0 := cw 0 (by omega)
      have cw1 := cw 1 (by omega)
      have cw2 := cw 2 (by omega)
      rw [Nat.add_zero] at cw0
      rw [h3]
      clear cw o1 h3 h3'
      go_wp2_with (first | (go_at_call 146; refine cu_ (HR.out _) fun g => ?_) | ((with_reducible refine wru ?_); refine wrz fun _ => ?_))
      refine wpg (R := fun U => UpOf V U ∧ b < U.heap.size ∧ U.cell? ⟨b, off, none⟩ = some (.string (wd W 0)) ∧ U.cell? ⟨b, off + 1, none⟩ = some (.string (wd W 1))) ⟨uw_, Nat.lt_of_lt_of_le hb (ub_ _ _).size, ((ub_ (up V g1) g).cell (p := ⟨b, off, none⟩) hb).trans cw0, ((ub_ (up V g1) g).cell (p := ⟨b, off + 1, none⟩) hb).trans cw1⟩ (fun V2 z => ?_)
      obtain ⟨z1, hb2, d0, d1⟩ := z
      have HU2 := hd_ z1
      clear z1 cw0 cw1 cw2 hb
      go_region_held3 (fun w' => (V2).heap.size ≤ w'.heap.size ∧ ∀ b o, b < (V2).heap.size → w'.cell? ⟨b, o, none⟩ = (V2).cell? ⟨b, o, none⟩) (exact sm_of bw_) (first | fail)
      refine exit_genD (R := fun U => Box U V2.heap.size #[.string (wd W 0), .string (wd W 1), i64 N] ∧ UpOf V2 U) ⟨(Box.new V2 _ _).below (Below.drew (Below.refl _ _)), uw_⟩ (fun V3 z => ?_)
      obtain ⟨⟨hp3, hbx⟩, hU3⟩ := z
      have x0 := hbx 0 _ rfl
      have x1 := hbx 1 _ rfl
      have x2 := hbx 2 _ rfl
      have HU3 := hd_ (HU2.out.tr hU3.below)
      have hq3 : q < V3.heap.size := Nat.lt_of_lt_of_le hq HU3.out.below.size
      have q0 := (HU3.out.below.cell (p := ⟨q, 0, none⟩) hq).trans q0
      have q1 := (HU3.out.below.cell (p := ⟨q, 1, none⟩) hq).trans q1
      have q2 := (HU3.out.below.cell (p := ⟨q, 2, none⟩) hq).trans q2
      have f0 := (HU3.out.below.frozen (p := ⟨q, 0, none⟩) hq).trans f0
      have f1 := (HU3.out.below.frozen (p := ⟨q, 1, none⟩) hq).trans f1
      have f2 := (HU3.out.below.frozen (p := ⟨q, 2, none⟩) hq).trans f2
      have hpq : ¬ V2.heap.size = q := fun h => by
       have := Nat.lt_of_lt_of_le hq HU2.out.below.size
       omega
      clear d0 d1 hb2 hbx hU3 HU2
      generalize V2.heap.size = p at *
      go_wp2_with (first | (go_at_call 143; refine cu_ (HDT.out _) fun g => ?_) | ((with_reducible refine wru ?_); refine wrz fun _ => ?_))
      exact bodyPost_ret (v := .tuple #[drv ⟨wd W 0, wd W 1, N⟩, .bool true]) (by simp [results, Tryz.results151, go_sem, hq3, q0, q1, q2]) rfl ⟨by rw [hf.out]; rfl, UpOf.of (Below.sets3d HQ.out (HU.out.below.trans (HU3.out.below.mono HU.out.below.size)) bw_ _ _ _)⟩
    | false =>
      have hf := hd_ (show rdDrill s = none from HNO.out (drillB_3 (by rw [hdo]; exact hB)))
      clear hWs hn HSP HNO HOK hdo hN hB
      go_enter Tryz.func151, Tryz.ntmps151
      go_wp2_with fail
      refine cg (R := fun V => Blk V w.heap.size 112 #[.string ⟨#[]⟩, .string ⟨#[]⟩, i64 0] ∧ UpOf w V) ⟨Blk.new _ _ _, uw_⟩ (fun V z => ?_)
      have HU := hd_ z.2
      have q0 := z.1.cell 0
      have q1 := z.1.cell 1
      have q2 := z.1.cell 2
      have f0 := z.1.free 0
      have f1 := z.1.free 1
      have f2 := z.1.free 2
      have hq := z.1.lt
      simp only [List.getElem?_toArray, List.getElem?_cons_zero, List.getElem?_cons_succ] at q0 q1 q2
      clear z
      obtain ⟨q, hqq⟩ := nm_ (w.heap.size)
      have HQ := hd_ (show w.heap.size ≤ q from Nat.le_of_eq hqq)
      rw [hqq] at q0 q1 q2 f0 f1 f2 hq ⊢
      clear hqq
      refine (HW.out _).mono ?_
      rintro e w' ⟨A, c, rfl, o1, g1, rfl⟩
      obtain ⟨b, off, rfl, hb, cw⟩ := wd_at (Rds.of_own o1) (i := 0) (by omega)
      have cw0 := cw 0 (by omega)
      have cw1 := cw 1 (by omega)
      have cw2 := cw 2 (by omega)
      rw [Nat.add_zero] at cw0
      rw [h3]
      clear cw o1 h3 h3'
      go_wp2_with (first | (go_at_call 146; refine cu_ (HR.out _) fun g => ?_) | ((with_reducible refine wru ?_); refine wrz fun _ => ?_))
      refine wpg (R := fun U => UpOf V U ∧ b < U.heap.size ∧ U.cell? ⟨b, off, none⟩ = some (.string (wd W 0)) ∧ U.cell? ⟨b, off + 1, none⟩ = some (.string (wd W 1))) ⟨uw_, Nat.lt_of_lt_of_le hb (ub_ _ _).size, ((ub_ (up V g1) g).cell (p := ⟨b, off, none⟩) hb).trans cw0, ((ub_ (up V g1) g).cell (p := ⟨b, off + 1, none⟩) hb).trans cw1⟩ (fun V2 z => ?_)
      obtain ⟨z1, hb2, d0, d1⟩ := z
      have HU2 := hd_ z1
      clear z1 cw0 cw1 cw2 hb
      go_region_held3 (fun w' => (V2).heap.size ≤ w'.heap.size ∧ ∀ b o, b < (V2).heap.size → w'.cell? ⟨b, o, none⟩ = (V2).cell? ⟨b, o, none⟩) (exact sm_of bw_) (first | fail)
      refine exit_genD (R := fun U => Box U V2.heap.size #[.string (wd W 0), .string (wd W 1), i64 N] ∧ UpOf V2 U) ⟨(Box.new V2 _ _).below (Below.drew (Below.refl _ _)), uw_⟩ (fun V3 z => ?_)
      obtain ⟨⟨hp3, hbx⟩, hU3⟩ := z
      have x0 := hbx 0 _ rfl
      have x1 := hbx 1 _ rfl
      have x2 := hbx 2 _ rfl
      have HU3 := hd_ (HU2.out.tr hU3.below)
      have hq3 : q < V3.heap.size := Nat.lt_of_lt_of_le hq HU3.out.below.size
      have q0 := (HU3.out.below.cell (p := ⟨q, 0, none⟩) hq).trans q0
      have q1 := (HU3.out.below.cell (p := ⟨q, 1, none⟩) hq).trans q1
      have q2 := (HU3.out.below.cell (p := ⟨q, 2, none⟩) hq).trans q2
      have f0 := (HU3.out.below.frozen (p := ⟨q, 0, none⟩) hq).trans f0
      have f1 := (HU3.out.below.frozen (p := ⟨q, 1, none⟩) hq).trans f1
      have f2 := (HU3.out.below.frozen (p := ⟨q, 2, none⟩) hq).trans f2
      have hpq : ¬ V2.heap.size = q := fun h => by
       have := Nat.lt_of_lt_of_le hq HU2.out.below.size
       omega
      clear d0 d1 hb2 hbx hU3 HU2
      generalize V2.heap.size = p at *
      go_wp2_with (first | (go_at_call 143; refine cu_ (HDT.out _) fun g => ?_) | ((with_reducible refine wru ?_); refine wrz fun _ => ?_))
      exact bodyPost_ret (v := .tuple #[drv dr0, .bool false]) (by simp [results, Tryz.results151, go_sem, hq3, q0, q1, q2, dr0]) rfl ⟨by rw [hf.out]; rfl, UpOf.of (Below.sets3d HQ.out (HU.out.below.trans (HU3.out.below.mono HU.out.below.size)) bw_ _ _ _)⟩
 ·have h3' : ((W.length : Int) != 3) = true := by rw [bne_iff_ne]; omega
  have hf := hd_ (show rdDrill s = none from HNO.out (drillB_1 h3))
  clear hWs HSP HNO HOK
  go_enter Tryz.func151, Tryz.ntmps151
  go_wp2_with fail
  refine cg (R := fun V => Blk V w.heap.size 112 #[.string ⟨#[]⟩, .string ⟨#[]⟩, i64 0] ∧ UpOf w V) ⟨Blk.new _ _ _, uw_⟩ (fun V z => ?_)
  have HU := hd_ z.2
  have q0 := z.1.cell 0
  have q1 := z.1.cell 1
  have q2 := z.1.cell 2
  have f0 := z.1.free 0
  have f1 := z.1.free 1
  have f2 := z.1.free 2
  have hq := z.1.lt
  simp only [List.getElem?_toArray, List.getElem?_cons_zero, List.getElem?_cons_succ] at q0 q1 q2
  clear z
  obtain ⟨q, hqq⟩ := nm_ (w.heap.size)
  have HQ := hd_ (show w.heap.size ≤ q from Nat.le_of_eq hqq)
  rw [hqq] at q0 q1 q2 f0 f1 f2 hq ⊢
  clear hqq
  refine (HW.out _).mono ?_
  rintro e w' ⟨A, c, rfl, o1, g1, rfl⟩
  go_wp2_with ((with_reducible refine wru ?_); refine wrz fun _ => ?_)
  exact bodyPost_ret (v := .tuple #[drv dr0, .bool false]) (by simp [results, Tryz.results151, go_sem, hq, q0, q1, q2, dr0]) rfl ⟨by rw [hf.out]; rfl, UpOf.of (Below.sets3d HQ.out HU.out.below bw_ _ _ _)⟩
end Go.Proofs.YtbianlkenallaaaGreatDoor
