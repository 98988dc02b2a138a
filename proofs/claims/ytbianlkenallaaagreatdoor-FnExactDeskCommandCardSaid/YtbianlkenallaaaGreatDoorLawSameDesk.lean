/-
  The law on SameDesk: the measure of a desk, the walk.
-/
import Derived.Test.YtbianlkenallaaaGreatDoorMgB
import Derived.Test.YtbianlkenallaaaGreatDoorMgA
set_option linter.all false
set_option maxRecDepth 10000
namespace Go.Proofs.YtbianlkenallaaaGreatDoor
open Go.RowKit
def dkTot (d : DeskD) : Nat := d.stops.length + drTot d.drills + d.log.size
def DkBnd (d : DeskD) : Prop := d.stops.length ≤ 9223372036854775807 ∧ d.drills.length ≤ 9223372036854775807 ∧ (∀ h ∈ d.drills, h.name.size ≤ 9223372036854775807 ∧ h.letters.size ≤ 9223372036854775807) ∧ d.log.size ≤ 9223372036854775807
theorem szDesk_any (d : DeskD) (A B : Option Addr) (c e : Nat) (k : Int) (w : World) (hk : 0 ≤ k) (hk1 : k ≤ 1048576) (hd : DkBnd d) (h : DSee w d A B) :
 Calls Tryz.prog 14 #[dkv d A B c e, i64 k] w fun r w' => r = .returned (i64 (szR k (dkTot d))) ∧ UpOf w w' := by
 have ht : (dkTot d : Int) = d.stops.length + drTot d.drills + d.log.size := by simp [dkTot]
 obtain ⟨d1, d2, d3, d4⟩ := hd
 have H3 := hd_ d3
 have H := hd_ h
 clear d3 h
 go_enter Tryz.func14, Tryz.ntmps14
 go_wp2_with fail
 refine calls_gen (R := fun V => Box V w.heap.size (dkcs d A B c e) ∧ Below w.heap.size w V) ⟨Box.new _ _ _, bw_⟩ (fun W0 st0 => ?_)
 obtain ⟨l1, x0, x1, x2, x3, x4, x5, x6, x7⟩ := st0.1.eight
 have HB := hd_ st0.2
 clear st0 x0 x1 x2 x3 x4 x5
 generalize hp : w.heap.size = p at l1 x6 x7
 refine cu_ (szInt64S_any _ _ _ k _ hk hk1 d1) fun g1 => ?_
 by_cases q1 : k < ((d.stops.length : Nat) : Int)
 ·rw [szR_no q1]
  go_wp2_with fail
  go_ret
  exact ⟨ret_int (by rw [szR_no (by omega)]), UpOf.of (HB.out.trans (Below.mono bw_ HB.out.size))⟩
 rw [szR_ok q1]
 go_wp2_with fail
 refine cu_ (szDrillS_any _ _ _ _ _ ((H.out.2.below HB.out).below bw_) (by omega) (by omega) d2 H3.out) fun g2 => ?_
 by_cases q2 : k - ((d.stops.length : Nat) : Int) < ((drTot d.drills : Nat) : Int)
 ·rw [szR_no q2]
  go_wp2_with fail
  go_ret
  exact ⟨ret_int (by rw [szR_no (by omega)]), UpOf.of (HB.out.trans (Below.mono bw_ HB.out.size))⟩
 rw [szR_ok q2]
 by_cases q3 : k - ((d.stops.length : Nat) : Int) - ((drTot d.drills : Nat) : Int) - ((d.log.size : Nat) : Int) < 0
 ·go_wp2_with fail
  go_ret
  exact ⟨ret_int (by rw [szR_no (by omega)]), UpOf.of (HB.out.trans (Below.mono bw_ HB.out.size))⟩
 ·go_wp2_with fail
  go_ret
  exact ⟨ret_int (by rw [szR_ok (by omega)]; omega), UpOf.of (HB.out.trans (Below.mono bw_ HB.out.size))⟩
theorem dkTot_lens {d : DeskD} {k : Int} (h : (dkTot d : Int) ≤ k) (hk : k ≤ 1048576) : d.stops.length ≤ 100000000 ∧ d.drills.length ≤ 100000000 := by
 have := drTot_len d.drills
 unfold dkTot at h
 omega
end Go.Proofs.YtbianlkenallaaaGreatDoor
