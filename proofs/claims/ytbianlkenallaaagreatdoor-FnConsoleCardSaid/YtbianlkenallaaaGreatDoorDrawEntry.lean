/-
  The reference's drawing of an entry: whatever it draws, its name is short. The bounds stand at it.
-/
import Derived.Test.YtbianlkenallaaaGreatDoorSrc2
import Derived.Test.YtbianlkenallaaaGreatDoorMgB
set_option linter.all false
namespace Go.Proofs.YtbianlkenallaaaGreatDoor
open Go.RowKit
theorem rds_newAt {w : World} {cs : Array Value} {t : TypeId} {p : Nat} (sz m : Nat) (hp : w.heap.size = p) (h : cs.size = m * sz) : Rds (w.alloc (.cells cs t)) sz (some ⟨p, 0, none⟩) m cs.toList := by
  subst hp; exact rds_new w cs t sz m h
theorem addr_ne {p b : Nat} (h : b < p) : ∀ b' off, (some (⟨p, 0, none⟩ : Addr)) = some ⟨b', off, none⟩ → b' ≠ b := by
  intro b' off e
  injection e with e
  injection e with e _
  omega
end Go.Proofs.YtbianlkenallaaaGreatDoor
