/-
  ValidDesk and DeskText, of the program and of the reference. The bounds stand at each; the program's lean on the laid table.
-/
import Derived.Test.YtbianlkenallaaaGreatDoorMgD
import Derived.Test.YtbianlkenallaaaGreatDoorMgF
import Derived.Test.YtbianlkenallaaaGreatDoorDeskV
set_option linter.all false
set_option maxHeartbeats 1000000
set_option maxRecDepth 10000
namespace Go.Proofs.YtbianlkenallaaaGreatDoor
open Go.RowKit
def vDesk (d : DeskD) : Bool := (vBsk d.b && (vStops d.stops && vDrills d.drills)) && decide (codeL d.log = 0)
theorem vDesk_1 {d : DeskD} (h : vBsk d.b = false) : vDesk d = false := by simp [vDesk, h]
theorem vDesk_2 {d : DeskD} (h : vStops d.stops = false) : vDesk d = false := by simp [vDesk, h]
theorem vDesk_3 {d : DeskD} (h : vDrills d.drills = false) : vDesk d = false := by simp [vDesk, h]
theorem vDesk_4 {d : DeskD} (h1 : vBsk d.b = true) (h2 : vStops d.stops = true) (h3 : vDrills d.drills = true) : vDesk d = decide (codeL d.log = 0) := by simp [vDesk, h1, h2, h3]
theorem vBsk_bars {b : Bsk} (h : vBsk b = true) : 2 ≤ b.bars ∧ b.bars ≤ 60 := by
 simp only [vBsk, Bool.and_eq_true] at h
 exact btw_true h.1.1.1.1
theorem vDesk_inv {d : DeskD} (h : vDesk d = true) : vBsk d.b = true ∧ vStops d.stops = true ∧ vDrills d.drills = true ∧ codeL d.log = 0 := by
 simp only [vDesk, Bool.and_eq_true, decide_eq_true_eq] at h
 exact ⟨h.1.1, h.1.2.1, h.1.2.2, h.2⟩
structure DkSz (d : DeskD) (e : Nat) : Prop where
 s : d.stops.length ≤ 100000000
 n : d.drills.length ≤ 100000000
 b : DBd d.drills
 l : d.log.size ≤ 1048576
 c : d.drills.length ≤ e
section
variable (d : DeskD) (A B : Option Addr)
theorem validDeskI_any (c e : Nat) (w : World) (h : DSee w d A B) (hz : DkSz d e) (ht : Tab w) :
 Calls Tryz.prog 26 #[dkv d A B c e] w fun r w' => r = .returned (.bool (vDesk d)) ∧ UpOf w w' := by
 have HT := hd_ ht
 clear ht
 have HZ := hd_ hz
 clear hz
 go_enter Tryz.func26, Tryz.ntmps26
 go_upto_region 1 with (fail)
 refine wpg (R := fun V => Box V w.heap.size (dkcs d A B c e) ∧ UpOf w V) ⟨Box.new _ _ _, uw_⟩ (fun V z => ?_)
 obtain ⟨hb, hB⟩ := z
 obtain ⟨hq, x0, x1, x2, x3, x4, x5, x6, x7⟩ := hb.eight
 have HS := hd_ (h.below hB.below)
 have HTV := hd_ (HT.out.below hB.below)
 have HB := hd_ hB
 clear hb hB h
 generalize w.heap.size = q at *
 cases q1 : vBsk d.b
 ·have hf := hd_ (vDesk_1 q1)
  go_wp2_with (first | (go_at_call 65; refine cu_ (ra_ (validBasket_any d.b _) q1) fun g => ?_))
  go_ret
  exact ⟨rb_ hf.out.symm, HB.out.tr bw_⟩
 cases q2 : vStops d.stops
 ·have hf := hd_ (vDesk_2 q2)
  go_wp2_with (first | (go_at_call 65; refine cu_ (ra_ (validBasket_any d.b _) q1) fun g => ?_) | (go_at_call 66; refine cu_ (ra_ (validStops_any _ _ _ _ (HS.out.1.below bw_) HZ.out.s) q2) fun g => ?_))
  go_ret
  exact ⟨rb_ hf.out.symm, HB.out.tr bw_⟩
 cases q3 : vDrills d.drills
 ·have hf := hd_ (vDesk_3 q3)
  go_wp2_with (first | (go_at_call 65; refine cu_ (ra_ (validBasket_any d.b _) q1) fun g => ?_) | (go_at_call 66; refine cu_ (ra_ (validStops_any _ _ _ _ (HS.out.1.below bw_) HZ.out.s) q2) fun g => ?_) | (go_at_call 67; refine cu_ (ra_ (validDrills_any _ _ _ _ (HS.out.2.below bw_) HZ.out.n HZ.out.b) q3) fun g => ?_))
  go_ret
  exact ⟨rb_ hf.out.symm, HB.out.tr bw_⟩
 ·have hf := hd_ (vDesk_4 q1 q2 q3)
  go_wp2_with (first | (go_at_call 65; refine cu_ (ra_ (validBasket_any d.b _) q1) fun g => ?_) | (go_at_call 66; refine cu_ (ra_ (validStops_any _ _ _ _ (HS.out.1.below bw_) HZ.out.s) q2) fun g => ?_) | (go_at_call 67; refine cu_ (ra_ (validDrills_any _ _ _ _ (HS.out.2.below bw_) HZ.out.n HZ.out.b) q3) fun g => ?_))
  refine (entriesOfI_any d.log _ HZ.out.l (HTV.out.below bw_)).mono ?_
  rintro r w' ⟨A', c', rfl, _, g9, rfl⟩
  have he : Hid ((enR d.log).2 = codeL d.log) := by
   show _ = _
   unfold enR
   split
   ·rename_i h9; rw [h9]
   ·rfl
  rw [he.out]
  go_wp2_with fail
  go_ret
  exact ⟨rb_ (by rw [hf.out]; rfl), HB.out.tr bw_⟩
theorem codeS_any (s : ByteArray) (w : World) (hs : s.size ≤ 1048576) : Calls Tryz.prog 91 #[.string s] w fun e w' => ∃ p, e = .returned (.tuple #[.pointer p, i64 (codeL s)]) ∧ UpOf w w' := by
 by_cases h : codeL s = 0
 ·refine (codeS_ok s w h).mono ?_
  rintro e w' ⟨rb, rfl, _, hu⟩
  exact ⟨_, by rw [h], hu⟩
 ·exact codeS_no s w hs h
theorem l28Ok_any (c e q : Nat) (V : World) (hb : Box V q (dkcs d A B c e)) (h : DSee V d A B) (hz : DkSz d e) :
 Calls Tryz.prog 40 #[.pointer (some ⟨q, 0, none⟩)] V fun r w' => r = .returned (.bool (vDesk d)) ∧ UpOf V w' := by
 have HZ := hd_ hz
 clear hz
 obtain ⟨hq, x0, x1, x2, x3, x4, x5, x6, x7⟩ := hb.eight
 have HS := hd_ h
 clear hb h
 go_enter Tryz.func40, Tryz.ntmps40
 go_wp2_with fail
 refine (codeS_any d.log _ HZ.out.l).mono ?_
 rintro r w' ⟨p, rfl, g, rfl⟩
 cases q1 : vBsk d.b
 ·have hf := hd_ (vDesk_1 q1)
  go_wp2_with (first | (go_at_call 92; refine cu_ (ra_ (l03Ok_any d.b _) q1) fun g => ?_))
  go_ret
  exact ⟨rb_ hf.out.symm, uw_⟩
 cases q2 : vStops d.stops
 ·have hf := hd_ (vDesk_2 q2)
  go_wp2_with (first | (go_at_call 92; refine cu_ (ra_ (l03Ok_any d.b _) q1) fun g => ?_) | (go_at_call 93; refine cu_ (ra_ (l11Ok_any _ _ _ _ (HS.out.1.below bw_) HZ.out.s) q2) fun g => ?_))
  go_ret
  exact ⟨rb_ hf.out.symm, uw_⟩
 cases q3 : vDrills d.drills
 ·have hf := hd_ (vDesk_3 q3)
  go_wp2_with (first | (go_at_call 92; refine cu_ (ra_ (l03Ok_any d.b _) q1) fun g => ?_) | (go_at_call 93; refine cu_ (ra_ (l11Ok_any _ _ _ _ (HS.out.1.below bw_) HZ.out.s) q2) fun g => ?_) | (go_at_call 94; refine cu_ (ra_ (l21Ok_any _ _ _ _ (HS.out.2.below bw_) HZ.out.c HZ.out.n HZ.out.b) q3) fun g => ?_))
  go_ret
  exact ⟨rb_ hf.out.symm, uw_⟩
 ·have hf := hd_ (vDesk_4 q1 q2 q3)
  go_wp2_with (first | (go_at_call 92; refine cu_ (ra_ (l03Ok_any d.b _) q1) fun g => ?_) | (go_at_call 93; refine cu_ (ra_ (l11Ok_any _ _ _ _ (HS.out.1.below bw_) HZ.out.s) q2) fun g => ?_) | (go_at_call 94; refine cu_ (ra_ (l21Ok_any _ _ _ _ (HS.out.2.below bw_) HZ.out.c HZ.out.n HZ.out.b) q3) fun g => ?_))
  go_ret
  exact ⟨rb_ (by rw [hf.out]; rfl), uw_⟩
def dkTextV (d : DeskD) : ByteArray := ((((dec d.b.bars ++ ⟨#[32, 98, 97, 114, 115, 44, 32]⟩) ++ dec d.stops.length) ++ ⟨#[32, 115, 116, 111, 112, 115, 44, 32]⟩) ++ dec d.drills.length) ++ ⟨#[32, 100, 114, 105, 108, 108, 115]⟩
def dkText (d : DeskD) : ByteArray := if vDesk d then dkTextV d else ⟨#[]⟩
theorem dkText_no {d : DeskD} (h : vDesk d = false) : dkText d = ⟨#[]⟩ := by rw [dkText, h]; rfl
theorem dkText_ok {d : DeskD} (h : vDesk d = true) : dkText d = dkTextV d := by rw [dkText, h]; rfl
theorem l28Text_any (c e q : Nat) (V : World) (hb : Box V q (dkcs d A B c e)) (h1 : 2 ≤ d.b.bars ∧ d.b.bars ≤ 60) (h2 : d.stops.length ≤ 100000000) (h3 : d.drills.length ≤ 100000000) :
 Calls Tryz.prog 148 #[.pointer (some ⟨q, 0, none⟩)] V fun r w' => r = .returned (.string (dkTextV d)) ∧ UpOf V w' := by
 obtain ⟨hq, x0, x1, x2, x3, x4, x5, x6, x7⟩ := hb.eight
 clear hb x1 x2 x3 x4 x7
 have hz1 := dec_len (n := d.b.bars) (by omega) (by omega)
 have hz2 := dec_len (n := (d.stops.length : Int)) (by omega) (by omega)
 have hz3 := dec_len (n := (d.drills.length : Int)) (by omega) (by omega)
 have z1 : (⟨#[32, 98, 97, 114, 115, 44, 32]⟩ : ByteArray).size = 7 := rfl
 have z2 : (⟨#[32, 115, 116, 111, 112, 115, 44, 32]⟩ : ByteArray).size = 8 := rfl
 have z3 : (⟨#[32, 100, 114, 105, 108, 108, 115]⟩ : ByteArray).size = 7 := rfl
 have e1 : ∀ w, (Op.stringOp .add (dec d.b.bars) ⟨#[32, 98, 97, 114, 115, 44, 32]⟩).run Tryz.prog w = .ok (.string (dec d.b.bars ++ ⟨#[32, 98, 97, 114, 115, 44, 32]⟩)) w := fun w => run_string_add_sum w _ _ (by omega)
 have e2 : ∀ w, (Op.stringOp .add (dec d.b.bars ++ ⟨#[32, 98, 97, 114, 115, 44, 32]⟩) (dec d.stops.length)).run Tryz.prog w = .ok (.string (dec d.b.bars ++ ⟨#[32, 98, 97, 114, 115, 44, 32]⟩ ++ dec d.stops.length)) w := fun w => run_string_add_sum w _ _ (by simp only [ByteArray.size_append]; omega)
 have e3 : ∀ w, (Op.stringOp .add (dec d.b.bars ++ ⟨#[32, 98, 97, 114, 115, 44, 32]⟩ ++ dec d.stops.length) ⟨#[32, 115, 116, 111, 112, 115, 44, 32]⟩).run Tryz.prog w = .ok (.string (dec d.b.bars ++ ⟨#[32, 98, 97, 114, 115, 44, 32]⟩ ++ dec d.stops.length ++ ⟨#[32, 115, 116, 111, 112, 115, 44, 32]⟩)) w := fun w => run_string_add_sum w _ _ (by simp only [ByteArray.size_append]; omega)
 have e4 : ∀ w, (Op.stringOp .add (dec d.b.bars ++ ⟨#[32, 98, 97, 114, 115, 44, 32]⟩ ++ dec d.stops.length ++ ⟨#[32, 115, 116, 111, 112, 115, 44, 32]⟩) (dec d.drills.length)).run Tryz.prog w = .ok (.string (dec d.b.bars ++ ⟨#[32, 98, 97, 114, 115, 44, 32]⟩ ++ dec d.stops.length ++ ⟨#[32, 115, 116, 111, 112, 115, 44, 32]⟩ ++ dec d.drills.length)) w := fun w => run_string_add_sum w _ _ (by simp only [ByteArray.size_append]; omega)
 have e5 : ∀ w, (Op.stringOp .add (dec d.b.bars ++ ⟨#[32, 98, 97, 114, 115, 44, 32]⟩ ++ dec d.stops.length ++ ⟨#[32, 115, 116, 111, 112, 115, 44, 32]⟩ ++ dec d.drills.length) ⟨#[32, 100, 114, 105, 108, 108, 115]⟩).run Tryz.prog w = .ok (.string (dkTextV d)) w := fun w => run_string_add_sum w _ _ (by simp only [ByteArray.size_append]; omega)
 clear hz1 hz2 hz3 z1 z2 z3
 go_enter Tryz.func148, Tryz.ntmps148
 go_wp2_with fail
 go_region_held3 (fun w' => (V).heap.size ≤ w'.heap.size ∧ ∀ b o, b < (V).heap.size → w'.cell? ⟨b, o, none⟩ = (V).cell? ⟨b, o, none⟩) (exact sm_of bw_) (first | (go_at_call 157; refine cu_ (l01Dec_any _ _ (by omega) (by omega)) fun g5 => ?_))
 go_wp2_with ((with_reducible refine wru ?_); refine wrz fun _ => ?_)
 go_ret
 exact ⟨rfl, uw_⟩
theorem deskTextI_any (c e : Nat) (w : World) (h : DSee w d A B) (hz : DkSz d e) (ht : Tab w) :
 Calls Tryz.prog 11 #[dkv d A B c e] w fun r w' => r = .returned (.string (dkText d)) ∧ UpOf w w' := by
 have HT := hd_ ht
 clear ht
 have HZ := hd_ hz
 clear hz
 cases hv : vDesk d
 all_goals
  have HV := hd_ hv
  have hcl := fun (V : World) (h : DSee V d A B) (ht : Tab V) => ra_ (validDeskI_any d A B c e V h HZ.out ht) hv
  have HCL := hd_ hcl
  clear hcl hv
  go_enter Tryz.func11, Tryz.ntmps11
  go_upto_region 1 with (fail)
  refine wpg (R := fun V => Box V w.heap.size (dkcs d A B c e) ∧ UpOf w V) ⟨Box.new _ _ _, uw_⟩ (fun V z => ?_)
  obtain ⟨hb, hB⟩ := z
  obtain ⟨hq, x0, x1, x2, x3, x4, x5, x6, x7⟩ := hb.eight
  have HS := hd_ (h.below hB.below)
  have HTV := hd_ (HT.out.below hB.below)
  have HB := hd_ hB
  clear hb hB h
  generalize w.heap.size = q at *
 ·go_wp2_with (first | (go_at_call 26; refine cu_ (HCL.out _ (HS.out.below bw_) (HTV.out.below bw_)) fun g => ?_) | ((with_reducible refine wru ?_); refine wrz fun _ => ?_))
  go_ret
  exact ⟨by rw [dkText_no HV.out] <;> rfl, HB.out.tr bw_⟩
 ·have hb := vBsk_bars (vDesk_inv HV.out).1
  have h2 := HZ.out.s
  have h3 := HZ.out.n
  have hz1 := dec_len (n := d.b.bars) (by omega) (by omega)
  have hz2 := dec_len (n := (d.stops.length : Int)) (by omega) (by omega)
  have hz3 := dec_len (n := (d.drills.length : Int)) (by omega) (by omega)
  have z1 : (⟨#[32, 98, 97, 114, 115, 44, 32]⟩ : ByteArray).size = 7 := rfl
  have z2 : (⟨#[32, 115, 116, 111, 112, 115, 44, 32]⟩ : ByteArray).size = 8 := rfl
  have z3 : (⟨#[32, 100, 114, 105, 108, 108, 115]⟩ : ByteArray).size = 7 := rfl
  have e1 : ∀ w, (Op.stringOp .add (dec d.b.bars) ⟨#[32, 98, 97, 114, 115, 44, 32]⟩).run Tryz.prog w = .ok (.string (dec d.b.bars ++ ⟨#[32, 98, 97, 114, 115, 44, 32]⟩)) w := fun w => run_string_add_sum w _ _ (by omega)
  have e2 : ∀ w, (Op.stringOp .add (dec d.b.bars ++ ⟨#[32, 98, 97, 114, 115, 44, 32]⟩) (dec d.stops.length)).run Tryz.prog w = .ok (.string (dec d.b.bars ++ ⟨#[32, 98, 97, 114, 115, 44, 32]⟩ ++ dec d.stops.length)) w := fun w => run_string_add_sum w _ _ (by simp only [ByteArray.size_append]; omega)
  have e3 : ∀ w, (Op.stringOp .add (dec d.b.bars ++ ⟨#[32, 98, 97, 114, 115, 44, 32]⟩ ++ dec d.stops.length) ⟨#[32, 115, 116, 111, 112, 115, 44, 32]⟩).run Tryz.prog w = .ok (.string (dec d.b.bars ++ ⟨#[32, 98, 97, 114, 115, 44, 32]⟩ ++ dec d.stops.length ++ ⟨#[32, 115, 116, 111, 112, 115, 44, 32]⟩)) w := fun w => run_string_add_sum w _ _ (by simp only [ByteArray.size_append]; omega)
  have e4 : ∀ w, (Op.stringOp .add (dec d.b.bars ++ ⟨#[32, 98, 97, 114, 115, 44, 32]⟩ ++ dec d.stops.length ++ ⟨#[32, 115, 116, 111, 112, 115, 44, 32]⟩) (dec d.drills.length)).run Tryz.prog w = .ok (.string (dec d.b.bars ++ ⟨#[32, 98, 97, 114, 115, 44, 32]⟩ ++ dec d.stops.length ++ ⟨#[32, 115, 116, 111, 112, 115, 44, 32]⟩ ++ dec d.drills.length)) w := fun w => run_string_add_sum w _ _ (by simp only [ByteArray.size_append]; omega)
  have e5 : ∀ w, (Op.stringOp .add (dec d.b.bars ++ ⟨#[32, 98, 97, 114, 115, 44, 32]⟩ ++ dec d.stops.length ++ ⟨#[32, 115, 116, 111, 112, 115, 44, 32]⟩ ++ dec d.drills.length) ⟨#[32, 100, 114, 105, 108, 108, 115]⟩).run Tryz.prog w = .ok (.string (dkTextV d)) w := fun w => run_string_add_sum w _ _ (by simp only [ByteArray.size_append]; omega)
  clear hz1 hz2 hz3 z1 z2 z3
  go_wp2_with fail
  refine cu_ (HCL.out _ (HS.out.below bw_) (HTV.out.below bw_)) fun g => ?_
  go_wp2_with fail
  go_region_held3 (fun w' => (V).heap.size ≤ w'.heap.size ∧ ∀ b o, b < (V).heap.size → w'.cell? ⟨b, o, none⟩ = (V).cell? ⟨b, o, none⟩) (exact sm_of bw_) (first | (go_at_call 41; refine cu_ (decI_any _ _ (by omega) (by omega) (HTV.out.below bw_)) fun g5 => ?_))
  go_wp2_with ((with_reducible refine wru ?_); refine wrz fun _ => ?_)
  go_ret
  exact ⟨by rw [dkText_ok HV.out] <;> rfl, HB.out.tr bw_⟩
end
end Go.Proofs.YtbianlkenallaaaGreatDoor
