/-
  One entry: contracts of the laws' own functions on it (measured, copied). The bounds stand at each.
-/
import Derived.Test.YtbianlkenallaaaDoorRows
import Derived.Test.YtbianlkenallaaaDoorMgA
namespace Go.Proofs.YtbianlkenallaaaDoor
open Go.RowKit
structure Entry where
  day : Int
  what : ByteArray
  value : Int
def Entry.cells (h : Entry) : List Value := [i64 h.day, .string h.what, i64 h.value]
abbrev env (h : Entry) : Value := .agg #[i64 h.day, .string h.what, i64 h.value]
def enTot1 (h : Entry) : Nat := h.what.size
end Go.Proofs.YtbianlkenallaaaDoor
