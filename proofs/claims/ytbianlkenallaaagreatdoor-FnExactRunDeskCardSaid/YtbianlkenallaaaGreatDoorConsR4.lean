/-
  The reference's console: one more drill. The bounds stand at it.
-/
import Derived.Test.YtbianlkenallaaaGreatDoorMgC
import Derived.Test.YtbianlkenallaaaGreatDoorMgA
set_option linter.all false
set_option maxHeartbeats 4000000
set_option maxRecDepth 10000
namespace Go.Proofs.YtbianlkenallaaaGreatDoor
open Go.RowKit
theorem addDrillS_any (A : Option Addr) (c : Nat) (l : List Drill) (d : Drill) (w : World) (h : Rds w 3 A l.length (drcs l)) (hc : l.length ≤ c) (hn : l.length ≤ 100000000) (hf : DBd l) (h1 : d.name.size ≤ 100000000) (h2 : d.letters.size ≤ 100000000) :
  Calls Tryz.prog 152 #[.slice A l.length c, drv d] w fun e w' => drsPost (addD l d).1.length (addD l d).1 (addD l d).2 w e w' := by
 have HR := hd_ h
 have HF := hd_ hf
 clear h hf
 cases q1 : vDrills l with
 | false =>
  have hr : addD l d = ([], 1) := by rw [addD, q1]; rfl
  rw [hr]
  go_enter Tryz.func152, Tryz.ntmps152
  go_upto_region 1 with (fail)
  refine wpg (R := fun V => Box V w.heap.size #[.string d.name, .string d.letters, i64 d.minutes] ∧ UpOf w V) ⟨Box.new _ _ _, uw_⟩ (fun V z => ?_)
  obtain ⟨⟨hq, hc⟩, hB⟩ := z
  have c0 := hc 0 _ rfl
  have c1 := hc 1 _ rfl
  have c2 := hc 2 _ rfl
  have HB := hd_ hB
  clear hc hB
  generalize w.heap.size = q at *
  go_wp2_with (first | (go_at_call 94; refine (ret_as (l21Ok_any A c l _ ((HR.out.below HB.out.below).below bw_) hc hn HF.out) q1).mono ?_; rintro e w' ⟨rfl, g, rfl⟩))
  go_ret2
  refine ⟨none, 0, ?_, Nat.le_refl _, ?_, HB.out.tr bw_⟩
  ·rfl
  ·exact own_nil _ _ _ _
 | true =>
  cases q2 : vDrill d with
  | false =>
   have hr : addD l d = ([], 2) := by rw [addD, q1, q2]; rfl
   rw [hr]
   go_enter Tryz.func152, Tryz.ntmps152
   go_upto_region 1 with (fail)
   refine wpg (R := fun V => Box V w.heap.size #[.string d.name, .string d.letters, i64 d.minutes] ∧ UpOf w V) ⟨Box.new _ _ _, uw_⟩ (fun V z => ?_)
   obtain ⟨⟨hq, hc⟩, hB⟩ := z
   have c0 := hc 0 _ rfl
   have c1 := hc 1 _ rfl
   have c2 := hc 2 _ rfl
   have HB := hd_ hB
   clear hc hB
   generalize w.heap.size = q at *
   go_wp2_with (first | (go_at_call 94; refine (ret_as (l21Ok_any A c l _ ((HR.out.below HB.out.below).below bw_) hc hn HF.out) q1).mono ?_; rintro e w' ⟨rfl, g, rfl⟩) | (go_at_call 143; refine (ret_as (l21One_any d _ (by omega) (by omega)) q2).mono ?_; rintro e w' ⟨rfl, g, rfl⟩))
   go_ret2
   refine ⟨none, 0, ?_, Nat.le_refl _, ?_, HB.out.tr bw_⟩
   ·rfl
   ·exact own_nil _ _ _ _
  | true =>
   have hinv := vDrills_inv q1
   have hl10 := hinv.1
   obtain ⟨R, hR⟩ : ∃ R, addD l d = R := ⟨_, rfl⟩
   have HRR := hd_ (show R = if hasName l d.name then ([], 4) else if l.length = 10 then ([], 5) else (l ++ [d], 0) by rw [← hR, addD, q1, q2, if_pos rfl, if_pos rfl])
   rw [hR]
   clear hR hinv
   rcases idxD_some l l.length d.name with ⟨e1, e2⟩ | ⟨k, hk, e1, e2, -⟩
   ·have HFD : Hid (∀ V, Rds V 3 A l.length (drcs l) → Calls Tryz.prog 144 #[.slice A l.length c, .string d.name] V fun e w' => e = .returned (i64 (-1)) ∧ V = w') := hd_ fun V hV => by
     have := l21Find_any A l.length c l d.name V hV (Nat.le_refl _) hn
     rw [e1] at this
     exact this
    have hno := hd_ (hasName_no e2)
    clear e1 e2
    by_cases h10 : l.length = 10
    ·have hr := hd_ (show R = ([], 5) by rw [HRR.out, hno.out, if_neg (by simp), if_pos h10])
     have ht : (10 : Int) ≤ (l.length : Int) := by omega
     clear h10
     go_enter Tryz.func152, Tryz.ntmps152
     go_upto_region 1 with (fail)
     refine wpg (R := fun V => Box V w.heap.size #[.string d.name, .string d.letters, i64 d.minutes] ∧ UpOf w V) ⟨Box.new _ _ _, uw_⟩ (fun V z => ?_)
     obtain ⟨⟨hq, hc⟩, hB⟩ := z
     have c0 := hc 0 _ rfl
     have c1 := hc 1 _ rfl
     have c2 := hc 2 _ rfl
     have HB := hd_ hB
     clear hc hB
     generalize w.heap.size = q at *
     go_wp2_with (first | (go_at_call 94; refine (ret_as (l21Ok_any A c l _ ((HR.out.below HB.out.below).below bw_) hc hn HF.out) q1).mono ?_; rintro e w' ⟨rfl, g, rfl⟩) | (go_at_call 143; refine (ret_as (l21One_any d _ (by omega) (by omega)) q2).mono ?_; rintro e w' ⟨rfl, g, rfl⟩) | (go_at_call 144; refine (HFD.out _ ((HR.out.below HB.out.below).below bw_)).mono ?_; rintro e w' ⟨rfl, rfl⟩))
     go_ret2
     rw [hr.out]
     exact ⟨none, 0, rfl, Nat.le_refl _, own_nil _ _ _ _, HB.out.tr bw_⟩
    ·have hr := hd_ (show R = (l ++ [d], 0) by rw [HRR.out, hno.out, if_neg (by simp), if_neg h10])
     have ht : ¬ (10 : Int) ≤ (l.length : Int) := by omega
     have hll : l.length ≤ 9 := by omega
     clear h10
     go_enter Tryz.func152, Tryz.ntmps152
     go_upto_region 1 with (fail)
     refine wpg (R := fun V => Box V w.heap.size #[.string d.name, .string d.letters, i64 d.minutes] ∧ UpOf w V) ⟨Box.new _ _ _, uw_⟩ (fun V z => ?_)
     obtain ⟨⟨hq, hc⟩, hB⟩ := z
     have c0 := hc 0 _ rfl
     have c1 := hc 1 _ rfl
     have c2 := hc 2 _ rfl
     have HB := hd_ hB
     clear hc hB
     generalize w.heap.size = q at *
     go_wp2_with fail
     refine (ret_as (l21Ok_any A c l _ ((HR.out.below HB.out.below).below bw_) hc hn HF.out) q1).mono ?_
     rintro e w' ⟨rfl, g1, rfl⟩
     go_wp2_with fail
     refine (ret_as (l21One_any d _ (by omega) (by omega)) q2).mono ?_
     rintro e w' ⟨rfl, g2, rfl⟩
     go_wp2_with fail
     refine (HFD.out _ ((HR.out.below HB.out.below).below bw_)).mono ?_
     rintro e w' ⟨rfl, rfl⟩
     go_upto_region 9 with (fail)
     refine wpg (R := fun U => UpOf V U) (uw_) (fun V2 z => ?_)
     have HV2 := hd_ (HB.out.tr z.below)
     have d0 := (z.below.cell (p := ⟨q, 0, none⟩) hq).trans c0
     have d1 := (z.below.cell (p := ⟨q, 1, none⟩) hq).trans c1
     have d2 := (z.below.cell (p := ⟨q, 2, none⟩) hq).trans c2
     have hq2 := Nat.lt_of_lt_of_le hq z.below.size
     have HRd := hd_ (HR.out.below HV2.out.below)
     have HOw := hd_ (World.ownsRow_lit (base := V2.heap.size) (e := 112) (size := 3) V2 #[] 0 (Nat.le_refl _) (by unfold maxLen; omega) rfl)
     clear z c0 c1 c2 hq q1 q2 HFD
     go_upto_region 10 with (at_builtin; go_must (refine wpl_appU rfl _ _ 29 rfl V2 V2.heap.size 112 _ 3 40 el_drl _ 0 [] rfl HOw.out A l.length c (drcs l) rfl (HRd.out.below bw_) (dr_one l) (by unfold maxLen; omega) (by omega) (show Below V2.heap.size V2 _ from bw_).size bw_ (Nat.le_refl _) ?_; intro A1 c1 g1 o1; simp only [List.nil_append, Nat.zero_add] at o1))
     have O1 := hd_ o1
     clear o1 HOw
     go_wp2_with (at_builtin; go_must (refine wpl_appU rfl _ _ 29 rfl V2 V2.heap.size 112 _ 3 40 el_drl _ l.length _ rfl (own_below O1.out bw_) _ 1 1 [.string d.name, .string d.letters, i64 d.minutes] rfl (rds_new _ _ _ 3 1 rfl) (fun u hu => by simp at hu; obtain rfl | rfl | rfl := hu <;> rfl) (by unfold maxLen; omega) (by omega) (show Below V2.heap.size V2 _ from bw_).size bw_ (Nat.le_refl _) ?_; intro A2 c2' g2 o2; rw [← drcs_snoc] at o2))
     have hL : (l ++ [d]).length = l.length + 1 := by simp
     have O2 := hd_ o2
     clear o2
     go_ret2
     rw [hr.out]
     unfold drsPost
     rw [hL]
     exact ⟨A2, c2', rfl, own_capD O2.out, own_mono O2.out HV2.out.below.size, HV2.out.tr (up_below V2 g2)⟩
   ·have HFD : Hid (∀ V, Rds V 3 A l.length (drcs l) → Calls Tryz.prog 144 #[.slice A l.length c, .string d.name] V fun e w' => e = .returned (i64 (k : Int)) ∧ V = w') := hd_ fun V hV => by
     have := l21Find_any A l.length c l d.name V hV (Nat.le_refl _) hn
     rw [e1] at this
     exact this
    have hr := hd_ (show R = ([], 4) by rw [HRR.out, hasName_yes hk e2, if_pos rfl])
    clear e1 e2
    go_enter Tryz.func152, Tryz.ntmps152
    go_upto_region 1 with (fail)
    refine wpg (R := fun V => Box V w.heap.size #[.string d.name, .string d.letters, i64 d.minutes] ∧ UpOf w V) ⟨Box.new _ _ _, uw_⟩ (fun V z => ?_)
    obtain ⟨⟨hq, hc⟩, hB⟩ := z
    have c0 := hc 0 _ rfl
    have c1 := hc 1 _ rfl
    have c2 := hc 2 _ rfl
    have HB := hd_ hB
    clear hc hB
    generalize w.heap.size = q at *
    go_wp2_with (first | (go_at_call 94; refine (ret_as (l21Ok_any A c l _ ((HR.out.below HB.out.below).below bw_) hc hn HF.out) q1).mono ?_; rintro e w' ⟨rfl, g, rfl⟩) | (go_at_call 143; refine (ret_as (l21One_any d _ (by omega) (by omega)) q2).mono ?_; rintro e w' ⟨rfl, g, rfl⟩) | (go_at_call 144; refine (HFD.out _ ((HR.out.below HB.out.below).below bw_)).mono ?_; rintro e w' ⟨rfl, rfl⟩))
    go_ret2
    rw [hr.out]
    exact ⟨none, 0, rfl, Nat.le_refl _, own_nil _ _ _ _, HB.out.tr bw_⟩
theorem l21Text_any (d : Drill) (w : World) (h1 : d.name.size ≤ 1048576) (h2 : d.letters.size ≤ 1048576) (h3 : -1000000000000000000 < d.minutes) (h4 : d.minutes < 1000000000000000000) :
  Calls Tryz.prog 153 #[drv d] w fun e w' => e = .returned (.string (drTextV d)) ∧ UpOf w w' := by
 have s3 := (dec_bytes (n := d.minutes) (by omega) (by omega)).2.2
 have hr := hd_ (show drTextV d = (((d.name ++ ⟨#[32]⟩) ++ d.letters) ++ ⟨#[32]⟩) ++ dec d.minutes from rfl)
 go_enter Tryz.func153, Tryz.ntmps153
 go_upto_region 1 with (fail)
 refine wpg (R := fun V => Box V w.heap.size #[.string d.name, .string d.letters, i64 d.minutes] ∧ UpOf w V) ⟨Box.new _ _ _, uw_⟩ (fun V z => ?_)
 obtain ⟨⟨hq, hc⟩, hB⟩ := z
 have c0 := hc 0 _ rfl
 have c1 := hc 1 _ rfl
 have c2 := hc 2 _ rfl
 have HB := hd_ hB
 clear hc hB
 generalize w.heap.size = q at *
 go_wp2_with (first | ((with_reducible refine wru ?_); (repeat (go_big_quiet_step (first | (go_at_call 157; exact uq_ (l01Dec_any d.minutes _ (by omega) (by omega)))))); refine wqn fun nq => ?_))
 go_ret
 rw [hr.out]
 exact ⟨rfl, HB.out.tr bw_⟩
end Go.Proofs.YtbianlkenallaaaGreatDoor
