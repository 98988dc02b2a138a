/-
  Lists of wares that a call has made: the empty one, and the append that says where the new slice lies. The bounds stand at each.
-/
import Derived.Test.YtiibpldfnnhhlaaGot
import Derived.Test.YtiibpldfnnhhlaaAppAt
import Derived.Test.YtiibpldfnnhhlaaRaiseP
namespace Go.Proofs.Ytiibpldfnnhhlaa
open Go.RowKit
theorem WGot.lit {lo : Nat} {w : World} {A : Option Addr} {c : Nat} (h : w.ownsRow lo 74 2 (.slice A 0 c) 0 []) : WGot lo w A c [] [] :=
  ⟨rfl, h, fun i a => by simp at a, fun i a => by simp at a, fun i j a => by simp at a, fun i a => by simp at a⟩
theorem el_ware : ElemOf Try.prog 25 74 (.agg #[.string ByteArray.empty, .slice none 0 0]) 2 40 := elem_of Try.underlying25 (by kernel_rfl) rfl (by decide)
theorem el_brk : ElemOf Try.prog 72 76 (.agg #[i64 0, i64 0]) 2 16 := elem_of Try.underlying72 (by kernel_rfl) rfl (by decide)
end Go.Proofs.Ytiibpldfnnhhlaa
