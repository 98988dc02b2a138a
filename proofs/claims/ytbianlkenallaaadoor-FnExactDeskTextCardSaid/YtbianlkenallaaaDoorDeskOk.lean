/-
  ValidDesk and DeskText, of the program and of the reference. The bounds stand at each; the program's lean on the laid table.
-/
import Derived.Test.YtbianlkenallaaaDoorDrillV3
import Derived.Test.YtbianlkenallaaaDoorVals
import Derived.Test.YtbianlkenallaaaDoorDeskV
namespace Go.Proofs.YtbianlkenallaaaDoor
open Go.RowKit
def vDesk (d : DeskD) : Bool := (vBsk d.b && (vStops d.stops && vDrills d.drills)) && decide (codeL d.log = 0)
theorem vDesk_1 {d : DeskD} (h : vBsk d.b = false) : vDesk d = false := by simp [vDesk, h]
theorem vDesk_2 {d : DeskD} (h : vStops d.stops = false) : vDesk d = false := by simp [vDesk, h]
theorem vDesk_3 {d : DeskD} (h : vDrills d.drills = false) : vDesk d = false := by simp [vDesk, h]
theorem vDesk_4 {d : DeskD} (h1 : vBsk d.b = true) (h2 : vStops d.stops = true) (h3 : vDrills d.drills = true) : vDesk d = decide (codeL d.log = 0) := by simp [vDesk, h1, h2, h3]
theorem vBsk_bars {b : Bsk} (h : vBsk b = true) : 2 ≤ b.bars ∧ b.bars ≤ 60 := by
  simp only [vBsk, Bool.and_eq_true] at h
  exact btw_true h.1.1.1.1
theorem vDesk_inv {d : DeskD} (h : vDesk d = true) : vBsk d.b = true ∧ vStops d.stops = true ∧ vDrills d.drills = true ∧ codeL d.log = 0 := by
  simp only [vDesk, Bool.and_eq_true, decide_eq_true_eq] at h
  exact ⟨h.1.1, h.1.2.1, h.1.2.2, h.2⟩
/-- sizes that fit, and drills' capacity -/
structure DkSz (d : DeskD) (e : Nat) : Prop where
  s : d.stops.length ≤ 100000000
  n : d.drills.length ≤ 100000000
  b : DBd d.drills
  l : d.log.size ≤ 1048576
  c : d.drills.length ≤ e
set_option maxRecDepth 10000 in
set_option maxHeartbeats 1000000 in
theorem validDeskI_any (d : DeskD) (A B : Option Addr) (c e : Nat) (w : World) (h : DSee w d A B) (hz : DkSz d e) (ht : Tab w) :
    Calls Tryd.prog 8 #[dkv d A B c e] w fun r w' => r = .returned (.bool (vDesk d)) ∧ UpOf w w' := by
  have HT := Lib.hid ht
  clear ht
  have HZ := Lib.hid hz
  clear hz
  go_enter Tryd.func8, Tryd.ntmps8
  go_upto_region 1 with (fail)
  refine wpg (R := fun V => Box V w.heap.size (dkcs d A B c e) ∧ UpOf w V) ⟨Box.new _ _ _, UpOf.of (by repeat (first | exact Below.refl _ _ | refine bl_tr ?_ _ | refine bl_al ?_ _ | refine bl_dr ?_ | refine bl_up ?_ _ | refine Below.drew ?_ | refine bl_alloc ?_ _ | refine Below.setCell ?_ (by first | (simp; done) | (simp; omega)) _))⟩ (fun V z => ?_)
  obtain ⟨hb, hB⟩ := z
  obtain ⟨hq, x0, x1, x2, x3, x4, x5, x6, x7⟩ := hb.eight
  have HS := Lib.hid (h.below hB.below)
  have HTV := Lib.hid (HT.out.below hB.below)
  have HB := Lib.hid hB
  clear hb hB h
  generalize w.heap.size = q at *
  cases q1 : vBsk d.b
  · have hf := Lib.hid (vDesk_1 q1)
    go_wp2_with (first | (go_at_call 18; refine (ret_as (validBasket_any d.b _) q1).mono ?_; rintro e w' ⟨rfl, g, rfl⟩) | ((with_reducible refine wp_region_up (by kernel_rfl) (by kernel_rfl) ?_); (repeat (go_big_quiet_step (first | (go_at_call 18; first | exact upq_tr (ret_as (validBasket_any d.b _) q1) | exact upq (ret_as (validBasket_any d.b _) q1))))); refine wpQuiet_nil ?_; intro _ hw'; obtain ⟨nq, hw''⟩ := hw'; subst hw''))
    go_ret
    exact ⟨ret_bool hf.out.symm, HB.out.tr (by repeat (first | exact Below.refl _ _ | refine bl_tr ?_ _ | refine bl_al ?_ _ | refine bl_dr ?_ | refine bl_up ?_ _ | refine Below.drew ?_ | refine bl_alloc ?_ _ | refine Below.setCell ?_ (by first | (simp; done) | (simp; omega)) _))⟩
  cases q2 : vStops d.stops
  · have hf := Lib.hid (vDesk_2 q2)
    go_wp2_with (first | (go_at_call 18; refine (ret_as (validBasket_any d.b _) q1).mono ?_; rintro e w' ⟨rfl, g, rfl⟩) | (go_at_call 19; refine (ret_as (validStops_any _ _ _ _ (HS.out.1.below (by repeat (first | exact Below.refl _ _ | refine bl_tr ?_ _ | refine bl_al ?_ _ | refine bl_dr ?_ | refine bl_up ?_ _ | refine Below.drew ?_ | refine bl_alloc ?_ _ | refine Below.setCell ?_ (by first | (simp; done) | (simp; omega)) _))) HZ.out.s) q2).mono ?_; rintro e w' ⟨rfl, g, rfl⟩) | ((with_reducible refine wp_region_up (by kernel_rfl) (by kernel_rfl) ?_); (repeat (go_big_quiet_step (first | (go_at_call 18; first | exact upq_tr (ret_as (validBasket_any d.b _) q1) | exact upq (ret_as (validBasket_any d.b _) q1)) | (go_at_call 19; first | exact upq_tr (ret_as (validStops_any _ _ _ _ (HS.out.1.below (by repeat (first | exact Below.refl _ _ | refine bl_tr ?_ _ | refine bl_al ?_ _ | refine bl_dr ?_ | refine bl_up ?_ _ | refine Below.drew ?_ | refine bl_alloc ?_ _ | refine Below.setCell ?_ (by first | (simp; done) | (simp; omega)) _))) HZ.out.s) q2) | exact upq (ret_as (validStops_any _ _ _ _ (HS.out.1.below (by repeat (first | exact Below.refl _ _ | refine bl_tr ?_ _ | refine bl_al ?_ _ | refine bl_dr ?_ | refine bl_up ?_ _ | refine Below.drew ?_ | refine bl_alloc ?_ _ | refine Below.setCell ?_ (by first | (simp; done) | (simp; omega)) _))) HZ.out.s) q2))))); refine wpQuiet_nil ?_; intro _ hw'; obtain ⟨nq, hw''⟩ := hw'; subst hw''))
    go_ret
    exact ⟨ret_bool hf.out.symm, HB.out.tr (by repeat (first | exact Below.refl _ _ | refine bl_tr ?_ _ | refine bl_al ?_ _ | refine bl_dr ?_ | refine bl_up ?_ _ | refine Below.drew ?_ | refine bl_alloc ?_ _ | refine Below.setCell ?_ (by first | (simp; done) | (simp; omega)) _))⟩
  cases q3 : vDrills d.drills
  · have hf := Lib.hid (vDesk_3 q3)
    go_wp2_with (first | (go_at_call 18; refine (ret_as (validBasket_any d.b _) q1).mono ?_; rintro e w' ⟨rfl, g, rfl⟩) | (go_at_call 19; refine (ret_as (validStops_any _ _ _ _ (HS.out.1.below (by repeat (first | exact Below.refl _ _ | refine bl_tr ?_ _ | refine bl_al ?_ _ | refine bl_dr ?_ | refine bl_up ?_ _ | refine Below.drew ?_ | refine bl_alloc ?_ _ | refine Below.setCell ?_ (by first | (simp; done) | (simp; omega)) _))) HZ.out.s) q2).mono ?_; rintro e w' ⟨rfl, g, rfl⟩) | (go_at_call 20; refine (ret_as (validDrills_any _ _ _ _ (HS.out.2.below (by repeat (first | exact Below.refl _ _ | refine bl_tr ?_ _ | refine bl_al ?_ _ | refine bl_dr ?_ | refine bl_up ?_ _ | refine Below.drew ?_ | refine bl_alloc ?_ _ | refine Below.setCell ?_ (by first | (simp; done) | (simp; omega)) _))) HZ.out.n HZ.out.b) q3).mono ?_; rintro e w' ⟨rfl, g, rfl⟩) | ((with_reducible refine wp_region_up (by kernel_rfl) (by kernel_rfl) ?_); (repeat (go_big_quiet_step (first | (go_at_call 18; first | exact upq_tr (ret_as (validBasket_any d.b _) q1) | exact upq (ret_as (validBasket_any d.b _) q1)) | (go_at_call 19; first | exact upq_tr (ret_as (validStops_any _ _ _ _ (HS.out.1.below (by repeat (first | exact Below.refl _ _ | refine bl_tr ?_ _ | refine bl_al ?_ _ | refine bl_dr ?_ | refine bl_up ?_ _ | refine Below.drew ?_ | refine bl_alloc ?_ _ | refine Below.setCell ?_ (by first | (simp; done) | (simp; omega)) _))) HZ.out.s) q2) | exact upq (ret_as (validStops_any _ _ _ _ (HS.out.1.below (by repeat (first | exact Below.refl _ _ | refine bl_tr ?_ _ | refine bl_al ?_ _ | refine bl_dr ?_ | refine bl_up ?_ _ | refine Below.drew ?_ | refine bl_alloc ?_ _ | refine Below.setCell ?_ (by first | (simp; done) | (simp; omega)) _))) HZ.out.s) q2)) | (go_at_call 20; first | exact upq_tr (ret_as (validDrills_any _ _ _ _ (HS.out.2.below (by repeat (first | exact Below.refl _ _ | refine bl_tr ?_ _ | refine bl_al ?_ _ | refine bl_dr ?_ | refine bl_up ?_ _ | refine Below.drew ?_ | refine bl_alloc ?_ _ | refine Below.setCell ?_ (by first | (simp; done) | (simp; omega)) _))) HZ.out.n HZ.out.b) q3) | exact upq (ret_as (validDrills_any _ _ _ _ (HS.out.2.below (by repeat (first | exact Below.refl _ _ | refine bl_tr ?_ _ | refine bl_al ?_ _ | refine bl_dr ?_ | refine bl_up ?_ _ | refine Below.drew ?_ | refine bl_alloc ?_ _ | refine Below.setCell ?_ (by first | (simp; done) | (simp; omega)) _))) HZ.out.n HZ.out.b) q3))))); refine wpQuiet_nil ?_; intro _ hw'; obtain ⟨nq, hw''⟩ := hw'; subst hw''))
    go_ret
    exact ⟨ret_bool hf.out.symm, HB.out.tr (by repeat (first | exact Below.refl _ _ | refine bl_tr ?_ _ | refine bl_al ?_ _ | refine bl_dr ?_ | refine bl_up ?_ _ | refine Below.drew ?_ | refine bl_alloc ?_ _ | refine Below.setCell ?_ (by first | (simp; done) | (simp; omega)) _))⟩
  · have hf := Lib.hid (vDesk_4 q1 q2 q3)
    go_wp2_with (first | (go_at_call 18; refine (ret_as (validBasket_any d.b _) q1).mono ?_; rintro e w' ⟨rfl, g, rfl⟩) | (go_at_call 19; refine (ret_as (validStops_any _ _ _ _ (HS.out.1.below (by repeat (first | exact Below.refl _ _ | refine bl_tr ?_ _ | refine bl_al ?_ _ | refine bl_dr ?_ | refine bl_up ?_ _ | refine Below.drew ?_ | refine bl_alloc ?_ _ | refine Below.setCell ?_ (by first | (simp; done) | (simp; omega)) _))) HZ.out.s) q2).mono ?_; rintro e w' ⟨rfl, g, rfl⟩) | (go_at_call 20; refine (ret_as (validDrills_any _ _ _ _ (HS.out.2.below (by repeat (first | exact Below.refl _ _ | refine bl_tr ?_ _ | refine bl_al ?_ _ | refine bl_dr ?_ | refine bl_up ?_ _ | refine Below.drew ?_ | refine bl_alloc ?_ _ | refine Below.setCell ?_ (by first | (simp; done) | (simp; omega)) _))) HZ.out.n HZ.out.b) q3).mono ?_; rintro e w' ⟨rfl, g, rfl⟩) | ((with_reducible refine wp_region_up (by kernel_rfl) (by kernel_rfl) ?_); (repeat (go_big_quiet_step (first | (go_at_call 18; first | exact upq_tr (ret_as (validBasket_any d.b _) q1) | exact upq (ret_as (validBasket_any d.b _) q1)) | (go_at_call 19; first | exact upq_tr (ret_as (validStops_any _ _ _ _ (HS.out.1.below (by repeat (first | exact Below.refl _ _ | refine bl_tr ?_ _ | refine bl_al ?_ _ | refine bl_dr ?_ | refine bl_up ?_ _ | refine Below.drew ?_ | refine bl_alloc ?_ _ | refine Below.setCell ?_ (by first | (simp; done) | (simp; omega)) _))) HZ.out.s) q2) | exact upq (ret_as (validStops_any _ _ _ _ (HS.out.1.below (by repeat (first | exact Below.refl _ _ | refine bl_tr ?_ _ | refine bl_al ?_ _ | refine bl_dr ?_ | refine bl_up ?_ _ | refine Below.drew ?_ | refine bl_alloc ?_ _ | refine Below.setCell ?_ (by first | (simp; done) | (simp; omega)) _))) HZ.out.s) q2)) | (go_at_call 20; first | exact upq_tr (ret_as (validDrills_any _ _ _ _ (HS.out.2.below (by repeat (first | exact Below.refl _ _ | refine bl_tr ?_ _ | refine bl_al ?_ _ | refine bl_dr ?_ | refine bl_up ?_ _ | refine Below.drew ?_ | refine bl_alloc ?_ _ | refine Below.setCell ?_ (by first | (simp; done) | (simp; omega)) _))) HZ.out.n HZ.out.b) q3) | exact upq (ret_as (validDrills_any _ _ _ _ (HS.out.2.below (by repeat (first | exact Below.refl _ _ | refine bl_tr ?_ _ | refine bl_al ?_ _ | refine bl_dr ?_ | refine bl_up ?_ _ | refine Below.drew ?_ | refine bl_alloc ?_ _ | refine Below.setCell ?_ (by first | (simp; done) | (simp; omega)) _))) HZ.out.n HZ.out.b) q3))))); refine wpQuiet_nil ?_; intro _ hw'; obtain ⟨nq, hw''⟩ := hw'; subst hw''))
    refine (entriesOfI_any d.log _ HZ.out.l (HTV.out.below (by repeat (first | exact Below.refl _ _ | refine bl_tr ?_ _ | refine bl_al ?_ _ | refine bl_dr ?_ | refine bl_up ?_ _ | refine Below.drew ?_ | refine bl_alloc ?_ _ | refine Below.setCell ?_ (by first | (simp; done) | (simp; omega)) _)))).mono ?_
    rintro r w' ⟨A', c', rfl, _, g9, rfl⟩
    have he : Hid ((enR d.log).2 = codeL d.log) := by
      show _ = _
      unfold enR
      split
      · rename_i h9; rw [h9]
      · rfl
    rw [he.out]
    go_wp2_with fail
    go_ret
    exact ⟨ret_bool (by rw [hf.out]; rfl), HB.out.tr (by repeat (first | exact Below.refl _ _ | refine bl_tr ?_ _ | refine bl_al ?_ _ | refine bl_dr ?_ | refine bl_up ?_ _ | refine Below.drew ?_ | refine bl_alloc ?_ _ | refine Below.setCell ?_ (by first | (simp; done) | (simp; omega)) _))⟩
theorem codeS_any (s : ByteArray) (w : World) (hs : s.size ≤ 1048576) : Calls Tryd.prog 28 #[.string s] w fun e w' => ∃ p, e = .returned (.tuple #[.pointer p, i64 (codeL s)]) ∧ UpOf w w' := by
  by_cases h : codeL s = 0
  · refine (codeS_ok s w h).mono ?_
    rintro e w' ⟨rb, rfl, _, hu⟩
    exact ⟨_, by rw [h], hu⟩
  · exact codeS_no s w hs h
set_option maxRecDepth 10000 in
set_option maxHeartbeats 1000000 in
theorem l28Ok_any (d : DeskD) (A B : Option Addr) (c e q : Nat) (V : World) (hb : Box V q (dkcs d A B c e)) (h : DSee V d A B) (hz : DkSz d e) :
    Calls Tryd.prog 14 #[.pointer (some ⟨q, 0, none⟩)] V fun r w' => r = .returned (.bool (vDesk d)) ∧ UpOf V w' := by
  have HZ := Lib.hid hz
  clear hz
  obtain ⟨hq, x0, x1, x2, x3, x4, x5, x6, x7⟩ := hb.eight
  have HS := Lib.hid h
  clear hb h
  go_enter Tryd.func14, Tryd.ntmps14
  go_wp2_with fail
  refine (codeS_any d.log _ HZ.out.l).mono ?_
  rintro r w' ⟨p, rfl, g, rfl⟩
  cases q1 : vBsk d.b
  · have hf := Lib.hid (vDesk_1 q1)
    go_wp2_with (first | (go_at_call 29; refine (ret_as (l03Ok_any d.b _) q1).mono ?_; rintro e w' ⟨rfl, g, rfl⟩) | ((with_reducible refine wp_region_up (by kernel_rfl) (by kernel_rfl) ?_); (repeat (go_big_quiet_step (first | (go_at_call 29; first | exact upq_tr (ret_as (l03Ok_any d.b _) q1) | exact upq (ret_as (l03Ok_any d.b _) q1))))); refine wpQuiet_nil ?_; intro _ hw'; obtain ⟨nq, hw''⟩ := hw'; subst hw''))
    go_ret
    exact ⟨ret_bool hf.out.symm, UpOf.of (by repeat (first | exact Below.refl _ _ | refine bl_tr ?_ _ | refine bl_al ?_ _ | refine bl_dr ?_ | refine bl_up ?_ _ | refine Below.drew ?_ | refine bl_alloc ?_ _ | refine Below.setCell ?_ (by first | (simp; done) | (simp; omega)) _))⟩
  cases q2 : vStops d.stops
  · have hf := Lib.hid (vDesk_2 q2)
    go_wp2_with (first | (go_at_call 29; refine (ret_as (l03Ok_any d.b _) q1).mono ?_; rintro e w' ⟨rfl, g, rfl⟩) | (go_at_call 30; refine (ret_as (l11Ok_any _ _ _ _ (HS.out.1.below (by repeat (first | exact Below.refl _ _ | refine bl_tr ?_ _ | refine bl_al ?_ _ | refine bl_dr ?_ | refine bl_up ?_ _ | refine Below.drew ?_ | refine bl_alloc ?_ _ | refine Below.setCell ?_ (by first | (simp; done) | (simp; omega)) _))) HZ.out.s) q2).mono ?_; rintro e w' ⟨rfl, g, rfl⟩) | ((with_reducible refine wp_region_up (by kernel_rfl) (by kernel_rfl) ?_); (repeat (go_big_quiet_step (first | (go_at_call 29; first | exact upq_tr (ret_as (l03Ok_any d.b _) q1) | exact upq (ret_as (l03Ok_any d.b _) q1)) | (go_at_call 30; first | exact upq_tr (ret_as (l11Ok_any _ _ _ _ (HS.out.1.below (by repeat (first | exact Below.refl _ _ | refine bl_tr ?_ _ | refine bl_al ?_ _ | refine bl_dr ?_ | refine bl_up ?_ _ | refine Below.drew ?_ | refine bl_alloc ?_ _ | refine Below.setCell ?_ (by first | (simp; done) | (simp; omega)) _))) HZ.out.s) q2) | exact upq (ret_as (l11Ok_any _ _ _ _ (HS.out.1.below (by repeat (first | exact Below.refl _ _ | refine bl_tr ?_ _ | refine bl_al ?_ _ | refine bl_dr ?_ | refine bl_up ?_ _ | refine Below.drew ?_ | refine bl_alloc ?_ _ | refine Below.setCell ?_ (by first | (simp; done) | (simp; omega)) _))) HZ.out.s) q2))))); refine wpQuiet_nil ?_; intro _ hw'; obtain ⟨nq, hw''⟩ := hw'; subst hw''))
    go_ret
    exact ⟨ret_bool hf.out.symm, UpOf.of (by repeat (first | exact Below.refl _ _ | refine bl_tr ?_ _ | refine bl_al ?_ _ | refine bl_dr ?_ | refine bl_up ?_ _ | refine Below.drew ?_ | refine bl_alloc ?_ _ | refine Below.setCell ?_ (by first | (simp; done) | (simp; omega)) _))⟩
  cases q3 : vDrills d.drills
  · have hf := Lib.hid (vDesk_3 q3)
    go_wp2_with (first | (go_at_call 29; refine (ret_as (l03Ok_any d.b _) q1).mono ?_; rintro e w' ⟨rfl, g, rfl⟩) | (go_at_call 30; refine (ret_as (l11Ok_any _ _ _ _ (HS.out.1.below (by repeat (first | exact Below.refl _ _ | refine bl_tr ?_ _ | refine bl_al ?_ _ | refine bl_dr ?_ | refine bl_up ?_ _ | refine Below.drew ?_ | refine bl_alloc ?_ _ | refine Below.setCell ?_ (by first | (simp; done) | (simp; omega)) _))) HZ.out.s) q2).mono ?_; rintro e w' ⟨rfl, g, rfl⟩) | (go_at_call 31; refine (ret_as (l21Ok_any _ _ _ _ (HS.out.2.below (by repeat (first | exact Below.refl _ _ | refine bl_tr ?_ _ | refine bl_al ?_ _ | refine bl_dr ?_ | refine bl_up ?_ _ | refine Below.drew ?_ | refine bl_alloc ?_ _ | refine Below.setCell ?_ (by first | (simp; done) | (simp; omega)) _))) HZ.out.c HZ.out.n HZ.out.b) q3).mono ?_; rintro e w' ⟨rfl, g, rfl⟩) | ((with_reducible refine wp_region_up (by kernel_rfl) (by kernel_rfl) ?_); (repeat (go_big_quiet_step (first | (go_at_call 29; first | exact upq_tr (ret_as (l03Ok_any d.b _) q1) | exact upq (ret_as (l03Ok_any d.b _) q1)) | (go_at_call 30; first | exact upq_tr (ret_as (l11Ok_any _ _ _ _ (HS.out.1.below (by repeat (first | exact Below.refl _ _ | refine bl_tr ?_ _ | refine bl_al ?_ _ | refine bl_dr ?_ | refine bl_up ?_ _ | refine Below.drew ?_ | refine bl_alloc ?_ _ | refine Below.setCell ?_ (by first | (simp; done) | (simp; omega)) _))) HZ.out.s) q2) | exact upq (ret_as (l11Ok_any _ _ _ _ (HS.out.1.below (by repeat (first | exact Below.refl _ _ | refine bl_tr ?_ _ | refine bl_al ?_ _ | refine bl_dr ?_ | refine bl_up ?_ _ | refine Below.drew ?_ | refine bl_alloc ?_ _ | refine Below.setCell ?_ (by first | (simp; done) | (simp; omega)) _))) HZ.out.s) q2)) | (go_at_call 31; first | exact upq_tr (ret_as (l21Ok_any _ _ _ _ (HS.out.2.below (by repeat (first | exact Below.refl _ _ | refine bl_tr ?_ _ | refine bl_al ?_ _ | refine bl_dr ?_ | refine bl_up ?_ _ | refine Below.drew ?_ | refine bl_alloc ?_ _ | refine Below.setCell ?_ (by first | (simp; done) | (simp; omega)) _))) HZ.out.c HZ.out.n HZ.out.b) q3) | exact upq (ret_as (l21Ok_any _ _ _ _ (HS.out.2.below (by repeat (first | exact Below.refl _ _ | refine bl_tr ?_ _ | refine bl_al ?_ _ | refine bl_dr ?_ | refine bl_up ?_ _ | refine Below.drew ?_ | refine bl_alloc ?_ _ | refine Below.setCell ?_ (by first | (simp; done) | (simp; omega)) _))) HZ.out.c HZ.out.n HZ.out.b) q3))))); refine wpQuiet_nil ?_; intro _ hw'; obtain ⟨nq, hw''⟩ := hw'; subst hw''))
    go_ret
    exact ⟨ret_bool hf.out.symm, UpOf.of (by repeat (first | exact Below.refl _ _ | refine bl_tr ?_ _ | refine bl_al ?_ _ | refine bl_dr ?_ | refine bl_up ?_ _ | refine Below.drew ?_ | refine bl_alloc ?_ _ | refine Below.setCell ?_ (by first | (simp; done) | (simp; omega)) _))⟩
  · have hf := Lib.hid (vDesk_4 q1 q2 q3)
    go_wp2_with (first | (go_at_call 29; refine (ret_as (l03Ok_any d.b _) q1).mono ?_; rintro e w' ⟨rfl, g, rfl⟩) | (go_at_call 30; refine (ret_as (l11Ok_any _ _ _ _ (HS.out.1.below (by repeat (first | exact Below.refl _ _ | refine bl_tr ?_ _ | refine bl_al ?_ _ | refine bl_dr ?_ | refine bl_up ?_ _ | refine Below.drew ?_ | refine bl_alloc ?_ _ | refine Below.setCell ?_ (by first | (simp; done) | (simp; omega)) _))) HZ.out.s) q2).mono ?_; rintro e w' ⟨rfl, g, rfl⟩) | (go_at_call 31; refine (ret_as (l21Ok_any _ _ _ _ (HS.out.2.below (by repeat (first | exact Below.refl _ _ | refine bl_tr ?_ _ | refine bl_al ?_ _ | refine bl_dr ?_ | refine bl_up ?_ _ | refine Below.drew ?_ | refine bl_alloc ?_ _ | refine Below.setCell ?_ (by first | (simp; done) | (simp; omega)) _))) HZ.out.c HZ.out.n HZ.out.b) q3).mono ?_; rintro e w' ⟨rfl, g, rfl⟩) | ((with_reducible refine wp_region_up (by kernel_rfl) (by kernel_rfl) ?_); (repeat (go_big_quiet_step (first | (go_at_call 29; first | exact upq_tr (ret_as (l03Ok_any d.b _) q1) | exact upq (ret_as (l03Ok_any d.b _) q1)) | (go_at_call 30; first | exact upq_tr (ret_as (l11Ok_any _ _ _ _ (HS.out.1.below (by repeat (first | exact Below.refl _ _ | refine bl_tr ?_ _ | refine bl_al ?_ _ | refine bl_dr ?_ | refine bl_up ?_ _ | refine Below.drew ?_ | refine bl_alloc ?_ _ | refine Below.setCell ?_ (by first | (simp; done) | (simp; omega)) _))) HZ.out.s) q2) | exact upq (ret_as (l11Ok_any _ _ _ _ (HS.out.1.below (by repeat (first | exact Below.refl _ _ | refine bl_tr ?_ _ | refine bl_al ?_ _ | refine bl_dr ?_ | refine bl_up ?_ _ | refine Below.drew ?_ | refine bl_alloc ?_ _ | refine Below.setCell ?_ (by first | (simp; done) | (simp; omega)) _))) HZ.out.s) q2)) | (go_at_call 31; first | exact upq_tr (ret_as (l21Ok_any _ _ _ _ (HS.out.2.below (by repeat (first | exact Below.refl _ _ | refine bl_tr ?_ _ | refine bl_al ?_ _ | refine bl_dr ?_ | refine bl_up ?_ _ | refine Below.drew ?_ | refine bl_alloc ?_ _ | refine Below.setCell ?_ (by first | (simp; done) | (simp; omega)) _))) HZ.out.c HZ.out.n HZ.out.b) q3) | exact upq (ret_as (l21Ok_any _ _ _ _ (HS.out.2.below (by repeat (first | exact Below.refl _ _ | refine bl_tr ?_ _ | refine bl_al ?_ _ | refine bl_dr ?_ | refine bl_up ?_ _ | refine Below.drew ?_ | refine bl_alloc ?_ _ | refine Below.setCell ?_ (by first | (simp; done) | (simp; omega)) _))) HZ.out.c HZ.out.n HZ.out.b) q3))))); refine wpQuiet_nil ?_; intro _ hw'; obtain ⟨nq, hw''⟩ := hw'; subst hw''))
    go_ret
    exact ⟨ret_bool (by rw [hf.out]; rfl), UpOf.of (by repeat (first | exact Below.refl _ _ | refine bl_tr ?_ _ | refine bl_al ?_ _ | refine bl_dr ?_ | refine bl_up ?_ _ | refine Below.drew ?_ | refine bl_alloc ?_ _ | refine Below.setCell ?_ (by first | (simp; done) | (simp; omega)) _))⟩
theorem validDeskS_any (d : DeskD) (A B : Option Addr) (c e : Nat) (w : World) (h : DSee w d A B) (hz : DkSz d e) :
    Calls Tryd.prog 6 #[dkv d A B c e] w fun r w' => r = .returned (.bool (vDesk d)) ∧ UpOf w w' := by
  go_enter Tryd.func6, Tryd.ntmps6
  go_wp2_with fail
  refine cg (R := fun V => Box V w.heap.size (dkcs d A B c e) ∧ UpOf w V) ⟨Box.new _ _ _, UpOf.of (by repeat (first | exact Below.refl _ _ | refine bl_tr ?_ _ | refine bl_al ?_ _ | refine bl_dr ?_ | refine bl_up ?_ _ | refine Below.drew ?_ | refine bl_alloc ?_ _ | refine Below.setCell ?_ (by first | (simp; done) | (simp; omega)) _))⟩ (fun V z => ?_)
  obtain ⟨hb, hB⟩ := z
  generalize w.heap.size = q at *
  refine (l28Ok_any d A B c e q V hb (h.below hB.below) hz).mono ?_
  rintro r w' ⟨rfl, g, rfl⟩
  go_wp2_with fail
  go_ret
  exact ⟨rfl, hB.tr (by repeat (first | exact Below.refl _ _ | refine bl_tr ?_ _ | refine bl_al ?_ _ | refine bl_dr ?_ | refine bl_up ?_ _ | refine Below.drew ?_ | refine bl_alloc ?_ _ | refine Below.setCell ?_ (by first | (simp; done) | (simp; omega)) _))⟩
def dkTextV (d : DeskD) : ByteArray := ((((dec d.b.bars ++ ⟨#[32, 98, 97, 114, 115, 44, 32]⟩) ++ dec d.stops.length) ++ ⟨#[32, 115, 116, 111, 112, 115, 44, 32]⟩) ++ dec d.drills.length) ++ ⟨#[32, 100, 114, 105, 108, 108, 115]⟩
def dkText (d : DeskD) : ByteArray := if vDesk d then dkTextV d else ⟨#[]⟩
theorem dkText_no {d : DeskD} (h : vDesk d = false) : dkText d = ⟨#[]⟩ := by rw [dkText, h]; rfl
theorem dkText_ok {d : DeskD} (h : vDesk d = true) : dkText d = dkTextV d := by rw [dkText, h]; rfl
set_option maxRecDepth 10000 in
set_option maxHeartbeats 1000000 in
theorem l28Text_any (d : DeskD) (A B : Option Addr) (c e q : Nat) (V : World) (hb : Box V q (dkcs d A B c e)) (h1 : 2 ≤ d.b.bars ∧ d.b.bars ≤ 60) (h2 : d.stops.length ≤ 100000000) (h3 : d.drills.length ≤ 100000000) :
    Calls Tryd.prog 25 #[.pointer (some ⟨q, 0, none⟩)] V fun r w' => r = .returned (.string (dkTextV d)) ∧ UpOf V w' := by
  obtain ⟨hq, x0, x1, x2, x3, x4, x5, x6, x7⟩ := hb.eight
  clear hb x1 x2 x3 x4 x7
  have hz1 := dec_len (n := d.b.bars) (by omega) (by omega)
  have hz2 := dec_len (n := (d.stops.length : Int)) (by omega) (by omega)
  have hz3 := dec_len (n := (d.drills.length : Int)) (by omega) (by omega)
  have z1 : (⟨#[32, 98, 97, 114, 115, 44, 32]⟩ : ByteArray).size = 7 := rfl
  have z2 : (⟨#[32, 115, 116, 111, 112, 115, 44, 32]⟩ : ByteArray).size = 8 := rfl
  have z3 : (⟨#[32, 100, 114, 105, 108, 108, 115]⟩ : ByteArray).size = 7 := rfl
  have e1 : ∀ w, (Op.stringOp .add (dec d.b.bars) ⟨#[32, 98, 97, 114, 115, 44, 32]⟩).run Tryd.prog w = .ok (.string (dec d.b.bars ++ ⟨#[32, 98, 97, 114, 115, 44, 32]⟩)) w := fun w => run_string_add_sum w _ _ (by omega)
  have e2 : ∀ w, (Op.stringOp .add (dec d.b.bars ++ ⟨#[32, 98, 97, 114, 115, 44, 32]⟩) (dec d.stops.length)).run Tryd.prog w = .ok (.string (dec d.b.bars ++ ⟨#[32, 98, 97, 114, 115, 44, 32]⟩ ++ dec d.stops.length)) w := fun w => run_string_add_sum w _ _ (by simp only [ByteArray.size_append]; omega)
  have e3 : ∀ w, (Op.stringOp .add (dec d.b.bars ++ ⟨#[32, 98, 97, 114, 115, 44, 32]⟩ ++ dec d.stops.length) ⟨#[32, 115, 116, 111, 112, 115, 44, 32]⟩).run Tryd.prog w = .ok (.string (dec d.b.bars ++ ⟨#[32, 98, 97, 114, 115, 44, 32]⟩ ++ dec d.stops.length ++ ⟨#[32, 115, 116, 111, 112, 115, 44, 32]⟩)) w := fun w => run_string_add_sum w _ _ (by simp only [ByteArray.size_append]; omega)
  have e4 : ∀ w, (Op.stringOp .add (dec d.b.bars ++ ⟨#[32, 98, 97, 114, 115, 44, 32]⟩ ++ dec d.stops.length ++ ⟨#[32, 115, 116, 111, 112, 115, 44, 32]⟩) (dec d.drills.length)).run Tryd.prog w = .ok (.string (dec d.b.bars ++ ⟨#[32, 98, 97, 114, 115, 44, 32]⟩ ++ dec d.stops.length ++ ⟨#[32, 115, 116, 111, 112, 115, 44, 32]⟩ ++ dec d.drills.length)) w := fun w => run_string_add_sum w _ _ (by simp only [ByteArray.size_append]; omega)
  have e5 : ∀ w, (Op.stringOp .add (dec d.b.bars ++ ⟨#[32, 98, 97, 114, 115, 44, 32]⟩ ++ dec d.stops.length ++ ⟨#[32, 115, 116, 111, 112, 115, 44, 32]⟩ ++ dec d.drills.length) ⟨#[32, 100, 114, 105, 108, 108, 115]⟩).run Tryd.prog w = .ok (.string (dkTextV d)) w := fun w => run_string_add_sum w _ _ (by simp only [ByteArray.size_append]; omega)
  clear hz1 hz2 hz3 z1 z2 z3
  go_enter Tryd.func25, Tryd.ntmps25
  go_wp2_with fail
  go_region_held3 (fun w' => (V).heap.size ≤ w'.heap.size ∧ ∀ b o, b < (V).heap.size → w'.cell? ⟨b, o, none⟩ = (V).cell? ⟨b, o, none⟩) (exact sm_of (by repeat (first | exact Below.refl _ _ | refine bl_tr ?_ _ | refine bl_al ?_ _ | refine bl_dr ?_ | refine bl_up ?_ _ | refine Below.drew ?_ | refine bl_alloc ?_ _ | refine Below.setCell ?_ (by first | (simp; done) | (simp; omega)) _))) (first | (go_at_call 37; refine (l01Dec_any _ _ (by omega) (by omega)).mono ?_; rintro e w' ⟨rfl, g5, rfl⟩))
  go_wp2_with (first | ((with_reducible refine wp_region_up (by kernel_rfl) (by kernel_rfl) ?_); (repeat (go_big_quiet_step (fail))); refine wpQuiet_nil ?_; intro _ hw'; obtain ⟨nq, hw''⟩ := hw'; subst hw''))
  go_ret
  exact ⟨rfl, UpOf.of (by repeat (first | exact Below.refl _ _ | refine bl_tr ?_ _ | refine bl_al ?_ _ | refine bl_dr ?_ | refine bl_up ?_ _ | refine Below.drew ?_ | refine bl_alloc ?_ _ | refine Below.setCell ?_ (by first | (simp; done) | (simp; omega)) _))⟩
set_option maxRecDepth 10000 in
theorem deskTextS_any (d : DeskD) (A B : Option Addr) (c e : Nat) (w : World) (h : DSee w d A B) (hz : DkSz d e) :
    Calls Tryd.prog 10 #[dkv d A B c e] w fun r w' => r = .returned (.string (dkText d)) ∧ UpOf w w' := by
  cases hv : vDesk d
  all_goals
    have HV := Lib.hid hv
    go_enter Tryd.func10, Tryd.ntmps10
    go_wp2_with fail
    refine cg (R := fun V => Box V w.heap.size (dkcs d A B c e) ∧ UpOf w V) ⟨Box.new _ _ _, UpOf.of (by repeat (first | exact Below.refl _ _ | refine bl_tr ?_ _ | refine bl_al ?_ _ | refine bl_dr ?_ | refine bl_up ?_ _ | refine Below.drew ?_ | refine bl_alloc ?_ _ | refine Below.setCell ?_ (by first | (simp; done) | (simp; omega)) _))⟩ (fun V z => ?_)
    obtain ⟨hb, hB⟩ := z
    have HBX := Lib.hid hb
    have HB := Lib.hid hB
    generalize w.heap.size = q at *
    refine (ret_as (l28Ok_any d A B c e q V hb (h.below hB.below) hz) hv).mono ?_
    rintro r w' ⟨rfl, g, rfl⟩
    clear hb hB hv h
    go_wp2_with fail
  · go_ret
    exact ⟨by rw [dkText_no HV.out] <;> rfl, HB.out.tr (by repeat (first | exact Below.refl _ _ | refine bl_tr ?_ _ | refine bl_al ?_ _ | refine bl_dr ?_ | refine bl_up ?_ _ | refine Below.drew ?_ | refine bl_alloc ?_ _ | refine Below.setCell ?_ (by first | (simp; done) | (simp; omega)) _))⟩
  · refine (l28Text_any d A B c e q _ (HBX.out.below (by repeat (first | exact Below.refl _ _ | refine bl_tr ?_ _ | refine bl_al ?_ _ | refine bl_dr ?_ | refine bl_up ?_ _ | refine Below.drew ?_ | refine bl_alloc ?_ _ | refine Below.setCell ?_ (by first | (simp; done) | (simp; omega)) _))) (vBsk_bars (vDesk_inv HV.out).1) hz.s hz.n).mono ?_
    rintro r w' ⟨rfl, g1, rfl⟩
    go_wp2_with fail
    go_ret
    exact ⟨by rw [dkText_ok HV.out] <;> rfl, HB.out.tr (by repeat (first | exact Below.refl _ _ | refine bl_tr ?_ _ | refine bl_al ?_ _ | refine bl_dr ?_ | refine bl_up ?_ _ | refine Below.drew ?_ | refine bl_alloc ?_ _ | refine Below.setCell ?_ (by first | (simp; done) | (simp; omega)) _))⟩
set_option maxRecDepth 10000 in
set_option maxHeartbeats 1000000 in
theorem deskTextI_any (d : DeskD) (A B : Option Addr) (c e : Nat) (w : World) (h : DSee w d A B) (hz : DkSz d e) (ht : Tab w) :
    Calls Tryd.prog 11 #[dkv d A B c e] w fun r w' => r = .returned (.string (dkText d)) ∧ UpOf w w' := by
  have HT := Lib.hid ht
  clear ht
  have HZ := Lib.hid hz
  clear hz
  cases hv : vDesk d
  all_goals
    have HV := Lib.hid hv
    have hcl := fun (V : World) (h : DSee V d A B) (ht : Tab V) => ret_as (validDeskI_any d A B c e V h HZ.out ht) hv
    have HCL := Lib.hid hcl
    clear hcl hv
    go_enter Tryd.func11, Tryd.ntmps11
    go_upto_region 1 with (fail)
    refine wpg (R := fun V => Box V w.heap.size (dkcs d A B c e) ∧ UpOf w V) ⟨Box.new _ _ _, UpOf.of (by repeat (first | exact Below.refl _ _ | refine bl_tr ?_ _ | refine bl_al ?_ _ | refine bl_dr ?_ | refine bl_up ?_ _ | refine Below.drew ?_ | refine bl_alloc ?_ _ | refine Below.setCell ?_ (by first | (simp; done) | (simp; omega)) _))⟩ (fun V z => ?_)
    obtain ⟨hb, hB⟩ := z
    obtain ⟨hq, x0, x1, x2, x3, x4, x5, x6, x7⟩ := hb.eight
    have HS := Lib.hid (h.below hB.below)
    have HTV := Lib.hid (HT.out.below hB.below)
    have HB := Lib.hid hB
    clear hb hB h
    generalize w.heap.size = q at *
  · go_wp2_with (first | (go_at_call 8; refine (HCL.out _ (HS.out.below (by repeat (first | exact Below.refl _ _ | refine bl_tr ?_ _ | refine bl_al ?_ _ | refine bl_dr ?_ | refine bl_up ?_ _ | refine Below.drew ?_ | refine bl_alloc ?_ _ | refine Below.setCell ?_ (by first | (simp; done) | (simp; omega)) _))) (HTV.out.below (by repeat (first | exact Below.refl _ _ | refine bl_tr ?_ _ | refine bl_al ?_ _ | refine bl_dr ?_ | refine bl_up ?_ _ | refine Below.drew ?_ | refine bl_alloc ?_ _ | refine Below.setCell ?_ (by first | (simp; done) | (simp; omega)) _)))).mono ?_; rintro e w' ⟨rfl, g, rfl⟩) | ((with_reducible refine wp_region_up (by kernel_rfl) (by kernel_rfl) ?_); (repeat (go_big_quiet_step (first | (go_at_call 8; first | exact upq_tr (HCL.out _ (HS.out.below (by repeat (first | exact Below.refl _ _ | refine bl_tr ?_ _ | refine bl_al ?_ _ | refine bl_dr ?_ | refine bl_up ?_ _ | refine Below.drew ?_ | refine bl_alloc ?_ _ | refine Below.setCell ?_ (by first | (simp; done) | (simp; omega)) _))) (HTV.out.below (by repeat (first | exact Below.refl _ _ | refine bl_tr ?_ _ | refine bl_al ?_ _ | refine bl_dr ?_ | refine bl_up ?_ _ | refine Below.drew ?_ | refine bl_alloc ?_ _ | refine Below.setCell ?_ (by first | (simp; done) | (simp; omega)) _)))) | exact upq (HCL.out _ (HS.out.below (by repeat (first | exact Below.refl _ _ | refine bl_tr ?_ _ | refine bl_al ?_ _ | refine bl_dr ?_ | refine bl_up ?_ _ | refine Below.drew ?_ | refine bl_alloc ?_ _ | refine Below.setCell ?_ (by first | (simp; done) | (simp; omega)) _))) (HTV.out.below (by repeat (first | exact Below.refl _ _ | refine bl_tr ?_ _ | refine bl_al ?_ _ | refine bl_dr ?_ | refine bl_up ?_ _ | refine Below.drew ?_ | refine bl_alloc ?_ _ | refine Below.setCell ?_ (by first | (simp; done) | (simp; omega)) _)))))))); refine wpQuiet_nil ?_; intro _ hw'; obtain ⟨nq, hw''⟩ := hw'; subst hw''))
    go_ret
    exact ⟨by rw [dkText_no HV.out] <;> rfl, HB.out.tr (by repeat (first | exact Below.refl _ _ | refine bl_tr ?_ _ | refine bl_al ?_ _ | refine bl_dr ?_ | refine bl_up ?_ _ | refine Below.drew ?_ | refine bl_alloc ?_ _ | refine Below.setCell ?_ (by first | (simp; done) | (simp; omega)) _))⟩
  · have hb := vBsk_bars (vDesk_inv HV.out).1
    have h2 := HZ.out.s
    have h3 := HZ.out.n
    have hz1 := dec_len (n := d.b.bars) (by omega) (by omega)
    have hz2 := dec_len (n := (d.stops.length : Int)) (by omega) (by omega)
    have hz3 := dec_len (n := (d.drills.length : Int)) (by omega) (by omega)
    have z1 : (⟨#[32, 98, 97, 114, 115, 44, 32]⟩ : ByteArray).size = 7 := rfl
    have z2 : (⟨#[32, 115, 116, 111, 112, 115, 44, 32]⟩ : ByteArray).size = 8 := rfl
    have z3 : (⟨#[32, 100, 114, 105, 108, 108, 115]⟩ : ByteArray).size = 7 := rfl
    have e1 : ∀ w, (Op.stringOp .add (dec d.b.bars) ⟨#[32, 98, 97, 114, 115, 44, 32]⟩).run Tryd.prog w = .ok (.string (dec d.b.bars ++ ⟨#[32, 98, 97, 114, 115, 44, 32]⟩)) w := fun w => run_string_add_sum w _ _ (by omega)
    have e2 : ∀ w, (Op.stringOp .add (dec d.b.bars ++ ⟨#[32, 98, 97, 114, 115, 44, 32]⟩) (dec d.stops.length)).run Tryd.prog w = .ok (.string (dec d.b.bars ++ ⟨#[32, 98, 97, 114, 115, 44, 32]⟩ ++ dec d.stops.length)) w := fun w => run_string_add_sum w _ _ (by simp only [ByteArray.size_append]; omega)
    have e3 : ∀ w, (Op.stringOp .add (dec d.b.bars ++ ⟨#[32, 98, 97, 114, 115, 44, 32]⟩ ++ dec d.stops.length) ⟨#[32, 115, 116, 111, 112, 115, 44, 32]⟩).run Tryd.prog w = .ok (.string (dec d.b.bars ++ ⟨#[32, 98, 97, 114, 115, 44, 32]⟩ ++ dec d.stops.length ++ ⟨#[32, 115, 116, 111, 112, 115, 44, 32]⟩)) w := fun w => run_string_add_sum w _ _ (by simp only [ByteArray.size_append]; omega)
    have e4 : ∀ w, (Op.stringOp .add (dec d.b.bars ++ ⟨#[32, 98, 97, 114, 115, 44, 32]⟩ ++ dec d.stops.length ++ ⟨#[32, 115, 116, 111, 112, 115, 44, 32]⟩) (dec d.drills.length)).run Tryd.prog w = .ok (.string (dec d.b.bars ++ ⟨#[32, 98, 97, 114, 115, 44, 32]⟩ ++ dec d.stops.length ++ ⟨#[32, 115, 116, 111, 112, 115, 44, 32]⟩ ++ dec d.drills.length)) w := fun w => run_string_add_sum w _ _ (by simp only [ByteArray.size_append]; omega)
    have e5 : ∀ w, (Op.stringOp .add (dec d.b.bars ++ ⟨#[32, 98, 97, 114, 115, 44, 32]⟩ ++ dec d.stops.length ++ ⟨#[32, 115, 116, 111, 112, 115, 44, 32]⟩ ++ dec d.drills.length) ⟨#[32, 100, 114, 105, 108, 108, 115]⟩).run Tryd.prog w = .ok (.string (dkTextV d)) w := fun w => run_string_add_sum w _ _ (by simp only [ByteArray.size_append]; omega)
    clear hz1 hz2 hz3 z1 z2 z3
    go_wp2_with fail
    refine (HCL.out _ (HS.out.below (by repeat (first | exact Below.refl _ _ | refine bl_tr ?_ _ | refine bl_al ?_ _ | refine bl_dr ?_ | refine bl_up ?_ _ | refine Below.drew ?_ | refine bl_alloc ?_ _ | refine Below.setCell ?_ (by first | (simp; done) | (simp; omega)) _))) (HTV.out.below (by repeat (first | exact Below.refl _ _ | refine bl_tr ?_ _ | refine bl_al ?_ _ | refine bl_dr ?_ | refine bl_up ?_ _ | refine Below.drew ?_ | refine bl_alloc ?_ _ | refine Below.setCell ?_ (by first | (simp; done) | (simp; omega)) _)))).mono ?_
    rintro r w' ⟨rfl, g, rfl⟩
    go_wp2_with fail
    go_region_held3 (fun w' => (V).heap.size ≤ w'.heap.size ∧ ∀ b o, b < (V).heap.size → w'.cell? ⟨b, o, none⟩ = (V).cell? ⟨b, o, none⟩) (exact sm_of (by repeat (first | exact Below.refl _ _ | refine bl_tr ?_ _ | refine bl_al ?_ _ | refine bl_dr ?_ | refine bl_up ?_ _ | refine Below.drew ?_ | refine bl_alloc ?_ _ | refine Below.setCell ?_ (by first | (simp; done) | (simp; omega)) _))) (first | (go_at_call 26; refine (decI_any _ _ (by omega) (by omega) (HTV.out.below (by repeat (first | exact Below.refl _ _ | refine bl_tr ?_ _ | refine bl_al ?_ _ | refine bl_dr ?_ | refine bl_up ?_ _ | refine Below.drew ?_ | refine bl_alloc ?_ _ | refine Below.setCell ?_ (by first | (simp; done) | (simp; omega)) _)))).mono ?_; rintro e w' ⟨rfl, g5, rfl⟩))
    go_wp2_with (first | ((with_reducible refine wp_region_up (by kernel_rfl) (by kernel_rfl) ?_); (repeat (go_big_quiet_step (fail))); refine wpQuiet_nil ?_; intro _ hw'; obtain ⟨nq, hw''⟩ := hw'; subst hw''))
    go_ret
    exact ⟨by rw [dkText_ok HV.out] <;> rfl, HB.out.tr (by repeat (first | exact Below.refl _ _ | refine bl_tr ?_ _ | refine bl_al ?_ _ | refine bl_dr ?_ | refine bl_up ?_ _ | refine Below.drew ?_ | refine bl_alloc ?_ _ | refine Below.setCell ?_ (by first | (simp; done) | (simp; omega)) _))⟩
end Go.Proofs.YtbianlkenallaaaDoor
