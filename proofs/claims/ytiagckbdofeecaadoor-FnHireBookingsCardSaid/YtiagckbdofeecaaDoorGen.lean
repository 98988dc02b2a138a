/-
  The world put away: one-line laws. No condition.
-/
import Derived.Test.YtiagckbdofeecaaDoorMgA
namespace Go.Proofs.YtiagckbdofeecaaDoor
open Go.RowKit
theorem wpg {P : Program} {c : Code} {Q : Exit → Act → World → Prop} {a : Act} {w : World} {R : World → Prop} (st : R w) (h : ∀ W, R W → Code.wp P c Q a W) : Code.wp P c Q a w := h w st
theorem cg {P : Program} {f : FuncId} {args : Array Value} {w : World} {Q : Ending → World → Prop} {R : World → Prop} (st : R w) (h : ∀ W, R W → Calls P f args W Q) : Calls P f args w Q := h w st
theorem UpOf.tr {w V V' : World} (h : UpOf w V) (hb : Below V.heap.size V V') : UpOf w V' := UpOf.of (h.below.trans (hb.mono h.below.size))
end Go.Proofs.YtiagckbdofeecaaDoor
