/-
  A log made of entries: plain facts. No program. No condition but what stands at each.
-/
import Derived.Test.YtbianlkenallaaaGreatDoorMgB
set_option linter.all false
namespace Go.Proofs.YtbianlkenallaaaGreatDoor
open Go.RowKit
end Go.Proofs.YtbianlkenallaaaGreatDoor
