/-
  Lists of wares that a call has made: the empty one, and the append that says where the new slice lies. The bounds stand at each.
-/
import Derived.Test.YtiibpldfnnhhlaaDoorGot
import Derived.Test.YtiibpldfnnhhlaaDoorAppAt
import Derived.Test.YtiibpldfnnhhlaaDoorRaiseP
namespace Go.Proofs.YtiibpldfnnhhlaaDoor
open Go.RowKit
theorem WGot.lit {lo : Nat} {w : World} {A : Option Addr} {c : Nat} (h : w.ownsRow lo 29 2 (.slice A 0 c) 0 []) : WGot lo w A c [] [] :=
  ⟨rfl, h, fun i a => by simp at a, fun i a => by simp at a, fun i j a => by simp at a, fun i a => by simp at a⟩
theorem el_ware : ElemOf Tryd.prog 39 29 (.agg #[.string ByteArray.empty, .slice none 0 0]) 2 40 := elem_of Tryd.underlying39 (by kernel_rfl) rfl (by decide)
theorem el_brk : ElemOf Tryd.prog 27 69 (.agg #[i64 0, i64 0]) 2 16 := elem_of Tryd.underlying27 (by kernel_rfl) rfl (by decide)
end Go.Proofs.YtiibpldfnnhhlaaDoor
