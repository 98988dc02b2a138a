/-
  The law on DaysOut: its walk.
-/
import Derived.Test.YtiagckbdofeecaaDoorDaysOut
namespace Go.Proofs.YtiagckbdofeecaaDoor
open Go.RowKit
theorem dOutR_len {l : List Hire} {n : Int} {L : List Int} {cd : Int} (h : dOutR l n = (L, cd)) : L.length ≤ 20 := by
  unfold dOutR at h
  split at h
  · rename_i h1
    have := vHires_nn h1
    injection h with h _
    rw [← h, dL_len]
    omega
  · injection h with h _
    rw [← h]
    simp
end Go.Proofs.YtiagckbdofeecaaDoor
