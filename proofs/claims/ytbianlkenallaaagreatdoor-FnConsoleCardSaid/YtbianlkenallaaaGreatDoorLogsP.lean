/-
  A log that is cut off: plain facts. No program. No condition but what stands at each.
-/
import Derived.Test.YtbianlkenallaaaGreatDoorRoundP
set_option linter.all false
namespace Go.Proofs.YtbianlkenallaaaGreatDoor
open Go.RowKit
theorem cut_split {rest : List UInt8} (h : (cutA 10 [] rest).2.2 = true) : rest = (cutA 10 [] rest).1.data.toList ++ 10 :: (cutA 10 [] rest).2.1.data.toList ∧ ∀ c ∈ (cutA 10 [] rest).1.data.toList, c ≠ 10 :=
  ⟨(by have := cutA_join 10 rest [] h; rw [List.nil_append] at this; exact this.symm), cutA_free 10 rest [] (fun c hc => by cases hc)⟩
theorem cut_app {a b : List UInt8} (h : (cutA 10 [] a).2.2 = true) : cutA 10 [] (a ++ b) = ((cutA 10 [] a).1, bs ((cutA 10 [] a).2.1.data.toList ++ b), true) := by
  obtain ⟨e, hf⟩ := cut_split h
  generalize cutA 10 [] a = C at *
  obtain ⟨p, q, r⟩ := C
  rw [e, List.append_assoc, List.cons_append, cutA_part _ _ hf, bs_of]
end Go.Proofs.YtbianlkenallaaaGreatDoor
