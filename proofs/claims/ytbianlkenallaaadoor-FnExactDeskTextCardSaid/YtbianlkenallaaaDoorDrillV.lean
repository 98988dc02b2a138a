/-
  Valid drills: of the program and of the reference. The bounds stand at each.
-/
import Derived.Test.YtbianlkenallaaaDoorDeskV
import Derived.Test.YtbianlkenallaaaDoorSet
namespace Go.Proofs.YtbianlkenallaaaDoor
open Go.RowKit
set_option maxRecDepth 10000 in
set_option maxHeartbeats 1000000 in
theorem isText_any (s : ByteArray) (lo most : Nat) (w : World) (hlo : lo ≤ 255) (hm : most ≤ 1000000) (hs : s.size ≤ 9223372036854775807) :
    Calls Tryd.prog 45 #[.string s, .int .u8 lo, i64 most] w fun e w' => e = .returned (.bool (txtB lo most s)) ∧ w = w' := by
  by_cases h1 : s.size ≤ most
  · have h1' : (s.size : Int) ≤ (most : Int) := by omega
    go_enter Tryd.func45, Tryd.ntmps45
    go_wp2_with fail
    go_loop [14] (fun i => ∃ k : Nat, k ≤ s.size ∧ i = i64 k ∧ Hid (∀ j, j < k → txtC lo (byteAt s j) = true)) (fun i => s.size - (intOf i).toNat)
    case atStart => exact ⟨0, by omega, rfl, fun i hi => by omega⟩
    case round =>
      obtain ⟨k, hk, rfl, hok⟩ := hrel
      by_cases hlt : k < s.size
      · have e := byteAt_eq hlt
        by_cases p1 : (byteAt s k).toNat < lo
        · have hf := Lib.hid (txtB_at (lo := lo) (most := most) hlt (decide_eq_false (by omega)))
          have p1' : ((byteAt s k).toNat : Int) < (lo : Int) := by omega
          rw [← e] at p1'
          go_wp2_with fail
          go_ret
          exact ⟨ret_bool hf.out.symm, rfl⟩
        by_cases p2 : 126 < (byteAt s k).toNat
        · have hf := Lib.hid (txtB_at (lo := lo) (most := most) hlt (decide_eq_false (by omega)))
          have p1' : (lo : Int) ≤ ((byteAt s k).toNat : Int) := by omega
          have p2' : 126 < ((byteAt s k).toNat : Int) := by omega
          rw [← e] at p1' p2'
          go_wp2_with fail
          go_ret
          exact ⟨ret_bool hf.out.symm, rfl⟩
        have hq := Lib.hid (show txtC lo (byteAt s k) = true from decide_eq_true (by omega))
        have p1' : (lo : Int) ≤ ((byteAt s k).toNat : Int) := by omega
        have p2' : ((byteAt s k).toNat : Int) ≤ 126 := by omega
        rw [← e] at p1' p2'
        go_wp2_with fail
        go_round
        case rel => have hx := lt_ext (P := fun j => txtC lo (byteAt s j) = true) hok.out hq.out; exact ⟨k + 1, by omega, by go_num, hx⟩
        case measure => (simp [intOf]; try omega)
      · have hf := Lib.hid (txtB_true (lo := lo) h1 (fun i hi => hok.out i (by omega)))
        go_wp2_with fail
        go_ret
        exact ⟨ret_bool hf.out.symm, rfl⟩
  · have hf := Lib.hid (txtB_len (lo := lo) h1)
    have h1' : (most : Int) < (s.size : Int) := by omega
    go_enter Tryd.func45, Tryd.ntmps45
    go_wp2_with fail
    go_ret
    exact ⟨ret_bool hf.out.symm, rfl⟩
end Go.Proofs.YtbianlkenallaaaDoor
