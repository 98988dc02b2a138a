/-
  No cell of these rows narrows 'for every input' (looked for: loops, veiled, ifaces, maps, wideKeys, modest, calm, conditions, laid).
  DERIVED. THE GIVEN ROWS OF THIS SEAT. 10 by the template 'for every input the law returns true; each argument reads behind the call as it read before'; 0 by the template 'total and deterministic' (their statements: YtiagckbdofeecaaTotals.lean).
  GIVEN WITH THE SEED: the statements are not yours to turn. If you find one false, say at which input.
  Laid BY PROGRAM, IN A SANDBOX (cutbox-rows.mjs): the forced cells as the released guide's own fill.sh prints them over the translation b2f14fd5cdd628e8… (all of the seat's roots in one cut). By AI agents, Wed Nov 11 2026. No macro, syntax, notation, axiom, sorry.
-/
import Derived.Test.YtiagckbdofeecaaChecked
import GoSem.Claim
import GoSem.ClaimJoined
import GoSem.ClaimMapViews
import Derived.JoinedTies
import Derived.KernelRfl
namespace Go.Proofs.Ytiagckbdofeecaa
/- THE CELL 'sum', in the pinned program and in every row, IS THE sha256 OF THE DUMP (.gsa) THAT YtiagckbdofeecaaProg.lean LOADS. Nothing in Lean hashes anything: it is a label: what it is worth is what the hold of that sum in a sandbox is worth. -/
noncomputable def Try.pinned : Pinned := { name := "ytiagckbdofeecaa", sum := "b2f14fd5cdd628e8a6b31f20d3a4a6ec34172d945b1772d97ff2bb663030a50b", checked := Try.checked }
namespace Rows
def none {H : Type} : Left H := { results := [], args := [] }

/-- 'laws.FnExactValidHires': WHATEVER THE INPUT: true; the input reads as it did. -/
def fnExactValidHiresSpec : ChangeSpec := { name := "fnExactValidHires", fn := fun _ => fun
  | [d1, d2] => { results := [.lit (.bool true)], args := [d1, d2] }
  | _ => none }
def fnExactValidHiresRow : OpenClaim := { program := "ytiagckbdofeecaa", sum := "b2f14fd5cdd628e8a6b31f20d3a4a6ec34172d945b1772d97ff2bb663030a50b", func := "loop.example/g01045/laws.FnExactValidHires", spec := "fnExactValidHires", apart := false }
def FnExactValidHiresSaid : Prop := fnExactValidHiresRow.holds Try.pinned (OpenSpec.ofChange fnExactValidHiresSpec)

/-- ITS FALSE NEIGHBOUR: 'it returns false'. Refute it at one input. -/
def fnExactValidHiresWrong : ChangeSpec := { name := "fnExactValidHires", fn := fun _ => fun
  | [d1, d2] => { results := [.lit (.bool false)], args := [d1, d2] }
  | _ => none }
def FnExactValidHiresWrongFalsely : Prop := fnExactValidHiresRow.holds Try.pinned (OpenSpec.ofChange fnExactValidHiresWrong)

/-- 'laws.FnExactOutOn': WHATEVER THE INPUT: true; the input reads as it did. -/
def fnExactOutOnSpec : ChangeSpec := { name := "fnExactOutOn", fn := fun _ => fun
  | [d1, d2, d3] => { results := [.lit (.bool true)], args := [d1, d2, d3] }
  | _ => none }
def fnExactOutOnRow : OpenClaim := { program := "ytiagckbdofeecaa", sum := "b2f14fd5cdd628e8a6b31f20d3a4a6ec34172d945b1772d97ff2bb663030a50b", func := "loop.example/g01045/laws.FnExactOutOn", spec := "fnExactOutOn", apart := false }
def FnExactOutOnSaid : Prop := fnExactOutOnRow.holds Try.pinned (OpenSpec.ofChange fnExactOutOnSpec)

/-- ITS FALSE NEIGHBOUR: 'it returns false'. Refute it at one input. -/
def fnExactOutOnWrong : ChangeSpec := { name := "fnExactOutOn", fn := fun _ => fun
  | [d1, d2, d3] => { results := [.lit (.bool false)], args := [d1, d2, d3] }
  | _ => none }
def FnExactOutOnWrongFalsely : Prop := fnExactOutOnRow.holds Try.pinned (OpenSpec.ofChange fnExactOutOnWrong)

/-- 'laws.FnExactFewestMachines': WHATEVER THE INPUT: true; the input reads as it did. -/
def fnExactFewestMachinesSpec : ChangeSpec := { name := "fnExactFewestMachines", fn := fun _ => fun
  | [d1, d2] => { results := [.lit (.bool true)], args := [d1, d2] }
  | _ => none }
def fnExactFewestMachinesRow : OpenClaim := { program := "ytiagckbdofeecaa", sum := "b2f14fd5cdd628e8a6b31f20d3a4a6ec34172d945b1772d97ff2bb663030a50b", func := "loop.example/g01045/laws.FnExactFewestMachines", spec := "fnExactFewestMachines", apart := false }
def FnExactFewestMachinesSaid : Prop := fnExactFewestMachinesRow.holds Try.pinned (OpenSpec.ofChange fnExactFewestMachinesSpec)

/-- ITS FALSE NEIGHBOUR: 'it returns false'. Refute it at one input. -/
def fnExactFewestMachinesWrong : ChangeSpec := { name := "fnExactFewestMachines", fn := fun _ => fun
  | [d1, d2] => { results := [.lit (.bool false)], args := [d1, d2] }
  | _ => none }
def FnExactFewestMachinesWrongFalsely : Prop := fnExactFewestMachinesRow.holds Try.pinned (OpenSpec.ofChange fnExactFewestMachinesWrong)

/-- 'laws.FnExactReturnEarly': WHATEVER THE INPUT: true; the input reads as it did. -/
def fnExactReturnEarlySpec : ChangeSpec := { name := "fnExactReturnEarly", fn := fun _ => fun
  | [d1, d2, d3, d4] => { results := [.lit (.bool true)], args := [d1, d2, d3, d4] }
  | _ => none }
def fnExactReturnEarlyRow : OpenClaim := { program := "ytiagckbdofeecaa", sum := "b2f14fd5cdd628e8a6b31f20d3a4a6ec34172d945b1772d97ff2bb663030a50b", func := "loop.example/g01045/laws.FnExactReturnEarly", spec := "fnExactReturnEarly", apart := false }
def FnExactReturnEarlySaid : Prop := fnExactReturnEarlyRow.holds Try.pinned (OpenSpec.ofChange fnExactReturnEarlySpec)

/-- ITS FALSE NEIGHBOUR: 'it returns false'. Refute it at one input. -/
def fnExactReturnEarlyWrong : ChangeSpec := { name := "fnExactReturnEarly", fn := fun _ => fun
  | [d1, d2, d3, d4] => { results := [.lit (.bool false)], args := [d1, d2, d3, d4] }
  | _ => none }
def FnExactReturnEarlyWrongFalsely : Prop := fnExactReturnEarlyRow.holds Try.pinned (OpenSpec.ofChange fnExactReturnEarlyWrong)

/-- 'laws.FnExactDaysOut': WHATEVER THE INPUT: true; the input reads as it did. -/
def fnExactDaysOutSpec : ChangeSpec := { name := "fnExactDaysOut", fn := fun _ => fun
  | [d1, d2] => { results := [.lit (.bool true)], args := [d1, d2] }
  | _ => none }
def fnExactDaysOutRow : OpenClaim := { program := "ytiagckbdofeecaa", sum := "b2f14fd5cdd628e8a6b31f20d3a4a6ec34172d945b1772d97ff2bb663030a50b", func := "loop.example/g01045/laws.FnExactDaysOut", spec := "fnExactDaysOut", apart := false }
def FnExactDaysOutSaid : Prop := fnExactDaysOutRow.holds Try.pinned (OpenSpec.ofChange fnExactDaysOutSpec)

/-- ITS FALSE NEIGHBOUR: 'it returns false'. Refute it at one input. -/
def fnExactDaysOutWrong : ChangeSpec := { name := "fnExactDaysOut", fn := fun _ => fun
  | [d1, d2] => { results := [.lit (.bool false)], args := [d1, d2] }
  | _ => none }
def FnExactDaysOutWrongFalsely : Prop := fnExactDaysOutRow.holds Try.pinned (OpenSpec.ofChange fnExactDaysOutWrong)

/-- 'laws.FnExactNextFree': WHATEVER THE INPUT: true; the input reads as it did. -/
def fnExactNextFreeSpec : ChangeSpec := { name := "fnExactNextFree", fn := fun _ => fun
  | [d1, d2, d3, d4] => { results := [.lit (.bool true)], args := [d1, d2, d3, d4] }
  | _ => none }
def fnExactNextFreeRow : OpenClaim := { program := "ytiagckbdofeecaa", sum := "b2f14fd5cdd628e8a6b31f20d3a4a6ec34172d945b1772d97ff2bb663030a50b", func := "loop.example/g01045/laws.FnExactNextFree", spec := "fnExactNextFree", apart := false }
def FnExactNextFreeSaid : Prop := fnExactNextFreeRow.holds Try.pinned (OpenSpec.ofChange fnExactNextFreeSpec)

/-- ITS FALSE NEIGHBOUR: 'it returns false'. Refute it at one input. -/
def fnExactNextFreeWrong : ChangeSpec := { name := "fnExactNextFree", fn := fun _ => fun
  | [d1, d2, d3, d4] => { results := [.lit (.bool false)], args := [d1, d2, d3, d4] }
  | _ => none }
def FnExactNextFreeWrongFalsely : Prop := fnExactNextFreeRow.holds Try.pinned (OpenSpec.ofChange fnExactNextFreeWrong)

/-- 'laws.FnExactBookHire': WHATEVER THE INPUT: true; the input reads as it did. -/
def fnExactBookHireSpec : ChangeSpec := { name := "fnExactBookHire", fn := fun _ => fun
  | [d1, d2, d3] => { results := [.lit (.bool true)], args := [d1, d2, d3] }
  | _ => none }
def fnExactBookHireRow : OpenClaim := { program := "ytiagckbdofeecaa", sum := "b2f14fd5cdd628e8a6b31f20d3a4a6ec34172d945b1772d97ff2bb663030a50b", func := "loop.example/g01045/laws.FnExactBookHire", spec := "fnExactBookHire", apart := false }
def FnExactBookHireSaid : Prop := fnExactBookHireRow.holds Try.pinned (OpenSpec.ofChange fnExactBookHireSpec)

/-- ITS FALSE NEIGHBOUR: 'it returns false'. Refute it at one input. -/
def fnExactBookHireWrong : ChangeSpec := { name := "fnExactBookHire", fn := fun _ => fun
  | [d1, d2, d3] => { results := [.lit (.bool false)], args := [d1, d2, d3] }
  | _ => none }
def FnExactBookHireWrongFalsely : Prop := fnExactBookHireRow.holds Try.pinned (OpenSpec.ofChange fnExactBookHireWrong)

/-- 'laws.FnExactFreeMachines': WHATEVER THE INPUT: true; the input reads as it did. -/
def fnExactFreeMachinesSpec : ChangeSpec := { name := "fnExactFreeMachines", fn := fun _ => fun
  | [d1, d2, d3, d4] => { results := [.lit (.bool true)], args := [d1, d2, d3, d4] }
  | _ => none }
def fnExactFreeMachinesRow : OpenClaim := { program := "ytiagckbdofeecaa", sum := "b2f14fd5cdd628e8a6b31f20d3a4a6ec34172d945b1772d97ff2bb663030a50b", func := "loop.example/g01045/laws.FnExactFreeMachines", spec := "fnExactFreeMachines", apart := false }
def FnExactFreeMachinesSaid : Prop := fnExactFreeMachinesRow.holds Try.pinned (OpenSpec.ofChange fnExactFreeMachinesSpec)

/-- ITS FALSE NEIGHBOUR: 'it returns false'. Refute it at one input. -/
def fnExactFreeMachinesWrong : ChangeSpec := { name := "fnExactFreeMachines", fn := fun _ => fun
  | [d1, d2, d3, d4] => { results := [.lit (.bool false)], args := [d1, d2, d3, d4] }
  | _ => none }
def FnExactFreeMachinesWrongFalsely : Prop := fnExactFreeMachinesRow.holds Try.pinned (OpenSpec.ofChange fnExactFreeMachinesWrong)

/-- 'laws.FnExactBookAny': WHATEVER THE INPUT: true; the input reads as it did. -/
def fnExactBookAnySpec : ChangeSpec := { name := "fnExactBookAny", fn := fun _ => fun
  | [d1, d2, d3, d4] => { results := [.lit (.bool true)], args := [d1, d2, d3, d4] }
  | _ => none }
def fnExactBookAnyRow : OpenClaim := { program := "ytiagckbdofeecaa", sum := "b2f14fd5cdd628e8a6b31f20d3a4a6ec34172d945b1772d97ff2bb663030a50b", func := "loop.example/g01045/laws.FnExactBookAny", spec := "fnExactBookAny", apart := false }
def FnExactBookAnySaid : Prop := fnExactBookAnyRow.holds Try.pinned (OpenSpec.ofChange fnExactBookAnySpec)

/-- ITS FALSE NEIGHBOUR: 'it returns false'. Refute it at one input. -/
def fnExactBookAnyWrong : ChangeSpec := { name := "fnExactBookAny", fn := fun _ => fun
  | [d1, d2, d3, d4] => { results := [.lit (.bool false)], args := [d1, d2, d3, d4] }
  | _ => none }
def FnExactBookAnyWrongFalsely : Prop := fnExactBookAnyRow.holds Try.pinned (OpenSpec.ofChange fnExactBookAnyWrong)

/-- 'laws.FnHireDays': WHATEVER THE INPUT: true; the input reads as it did. -/
def fnHireDaysSpec : ChangeSpec := { name := "fnHireDays", fn := fun _ => fun
  | [d] => { results := [.lit (.bool true)], args := [d] }
  | _ => none }
def fnHireDaysRow : OpenClaim := { program := "ytiagckbdofeecaa", sum := "b2f14fd5cdd628e8a6b31f20d3a4a6ec34172d945b1772d97ff2bb663030a50b", func := "loop.example/g01045/laws.FnHireDays", spec := "fnHireDays", apart := false }
def FnHireDaysSaid : Prop := fnHireDaysRow.holds Try.pinned (OpenSpec.ofChange fnHireDaysSpec)

/-- ITS FALSE NEIGHBOUR: 'it returns false'. Refute it at one input. -/
def fnHireDaysWrong : ChangeSpec := { name := "fnHireDays", fn := fun _ => fun
  | [d] => { results := [.lit (.bool false)], args := [d] }
  | _ => none }
def FnHireDaysWrongFalsely : Prop := fnHireDaysRow.holds Try.pinned (OpenSpec.ofChange fnHireDaysWrong)

/- THE SECOND FORM. 'bulk': how many values and letters a reading holds, each counted each time it is reached (what is shared counts as often as it is met; a slice's spare places count too). A statement '..UptoSaid' is the law's where the arguments, and the package variables that the reading takes, are together of bulk at most 1048576: NARROWER than '..Said'. Prove '..Said' where nothing that the law and all that it calls make is longer than what came in: it says more and counts as full. Else prove '..UptoSaid'. A law counts once. -/
mutual
def uptoBulk {H : Type} : DataW H → Nat
  | .lit (.string bytes) => bytes.length + 1
  | .lit _ => 1
  | .nil => 1
  | .ptr d => uptoBulk d + 1
  | .slice elems spare => uptoBulkAll elems + uptoBulkAll spare + 1
  | .agg parts => uptoBulkAll parts + 1
  | .iface _ d => uptoBulk d + 1
  | .map entries => uptoBulkEntries entries + 1
  | .held _ => 1
def uptoBulkAll {H : Type} : List (DataW H) → Nat
  | [] => 0
  | d :: r => uptoBulk d + uptoBulkAll r
def uptoBulkEntries {H : Type} : List (Lit × DataW H) → Nat
  | [] => 0
  | x :: r => uptoBulkEntry x + uptoBulkEntries r
def uptoBulkEntry {H : Type} : Lit × DataW H → Nat
  | (.string bytes, d) => bytes.length + uptoBulk d + 1
  | (_, d) => uptoBulk d + 1
 end
def uptoSmall : (H : Type) → List (DataW H) → Bool := fun _ ds => decide (uptoBulkAll ds ≤ 1048576)
def OpenSpec.upto (s : _root_.Go.ChangeSpec) : _root_.Go.OpenSpec := { _root_.Go.OpenSpec.ofChange s with cond := some uptoSmall }

/-- 'laws.FnExactValidHires', WHERE WHAT IT READS IS OF BULK AT MOST 1048576: true; the input reads as it did. -/
def fnExactValidHiresUptoRow : OpenClaim := { program := "ytiagckbdofeecaa", sum := "b2f14fd5cdd628e8a6b31f20d3a4a6ec34172d945b1772d97ff2bb663030a50b", func := "loop.example/g01045/laws.FnExactValidHires", spec := "fnExactValidHires", apart := false, narrowed := true }
def FnExactValidHiresUptoSaid : Prop := fnExactValidHiresUptoRow.holds Try.pinned (OpenSpec.upto fnExactValidHiresSpec)

/-- 'laws.FnExactOutOn', WHERE WHAT IT READS IS OF BULK AT MOST 1048576: true; the input reads as it did. -/
def fnExactOutOnUptoRow : OpenClaim := { program := "ytiagckbdofeecaa", sum := "b2f14fd5cdd628e8a6b31f20d3a4a6ec34172d945b1772d97ff2bb663030a50b", func := "loop.example/g01045/laws.FnExactOutOn", spec := "fnExactOutOn", apart := false, narrowed := true }
def FnExactOutOnUptoSaid : Prop := fnExactOutOnUptoRow.holds Try.pinned (OpenSpec.upto fnExactOutOnSpec)

/-- 'laws.FnExactFewestMachines', WHERE WHAT IT READS IS OF BULK AT MOST 1048576: true; the input reads as it did. -/
def fnExactFewestMachinesUptoRow : OpenClaim := { program := "ytiagckbdofeecaa", sum := "b2f14fd5cdd628e8a6b31f20d3a4a6ec34172d945b1772d97ff2bb663030a50b", func := "loop.example/g01045/laws.FnExactFewestMachines", spec := "fnExactFewestMachines", apart := false, narrowed := true }
def FnExactFewestMachinesUptoSaid : Prop := fnExactFewestMachinesUptoRow.holds Try.pinned (OpenSpec.upto fnExactFewestMachinesSpec)

/-- 'laws.FnExactReturnEarly', WHERE WHAT IT READS IS OF BULK AT MOST 1048576: true; the input reads as it did. -/
def fnExactReturnEarlyUptoRow : OpenClaim := { program := "ytiagckbdofeecaa", sum := "b2f14fd5cdd628e8a6b31f20d3a4a6ec34172d945b1772d97ff2bb663030a50b", func := "loop.example/g01045/laws.FnExactReturnEarly", spec := "fnExactReturnEarly", apart := false, narrowed := true }
def FnExactReturnEarlyUptoSaid : Prop := fnExactReturnEarlyUptoRow.holds Try.pinned (OpenSpec.upto fnExactReturnEarlySpec)

/-- 'laws.FnExactDaysOut', WHERE WHAT IT READS IS OF BULK AT MOST 1048576: true; the input reads as it did. -/
def fnExactDaysOutUptoRow : OpenClaim := { program := "ytiagckbdofeecaa", sum := "b2f14fd5cdd628e8a6b31f20d3a4a6ec34172d945b1772d97ff2bb663030a50b", func := "loop.example/g01045/laws.FnExactDaysOut", spec := "fnExactDaysOut", apart := false, narrowed := true }
def FnExactDaysOutUptoSaid : Prop := fnExactDaysOutUptoRow.holds Try.pinned (OpenSpec.upto fnExactDaysOutSpec)

/-- 'laws.FnExactNextFree', WHERE WHAT IT READS IS OF BULK AT MOST 1048576: true; the input reads as it did. -/
def fnExactNextFreeUptoRow : OpenClaim := { program := "ytiagckbdofeecaa", sum := "b2f14fd5cdd628e8a6b31f20d3a4a6ec34172d945b1772d97ff2bb663030a50b", func := "loop.example/g01045/laws.FnExactNextFree", spec := "fnExactNextFree", apart := false, narrowed := true }
def FnExactNextFreeUptoSaid : Prop := fnExactNextFreeUptoRow.holds Try.pinned (OpenSpec.upto fnExactNextFreeSpec)

/-- 'laws.FnExactBookHire', WHERE WHAT IT READS IS OF BULK AT MOST 1048576: true; the input reads as it did. -/
def fnExactBookHireUptoRow : OpenClaim := { program := "ytiagckbdofeecaa", sum := "b2f14fd5cdd628e8a6b31f20d3a4a6ec34172d945b1772d97ff2bb663030a50b", func := "loop.example/g01045/laws.FnExactBookHire", spec := "fnExactBookHire", apart := false, narrowed := true }
def FnExactBookHireUptoSaid : Prop := fnExactBookHireUptoRow.holds Try.pinned (OpenSpec.upto fnExactBookHireSpec)

/-- 'laws.FnExactFreeMachines', WHERE WHAT IT READS IS OF BULK AT MOST 1048576: true; the input reads as it did. -/
def fnExactFreeMachinesUptoRow : OpenClaim := { program := "ytiagckbdofeecaa", sum := "b2f14fd5cdd628e8a6b31f20d3a4a6ec34172d945b1772d97ff2bb663030a50b", func := "loop.example/g01045/laws.FnExactFreeMachines", spec := "fnExactFreeMachines", apart := false, narrowed := true }
def FnExactFreeMachinesUptoSaid : Prop := fnExactFreeMachinesUptoRow.holds Try.pinned (OpenSpec.upto fnExactFreeMachinesSpec)

/-- 'laws.FnExactBookAny', WHERE WHAT IT READS IS OF BULK AT MOST 1048576: true; the input reads as it did. -/
def fnExactBookAnyUptoRow : OpenClaim := { program := "ytiagckbdofeecaa", sum := "b2f14fd5cdd628e8a6b31f20d3a4a6ec34172d945b1772d97ff2bb663030a50b", func := "loop.example/g01045/laws.FnExactBookAny", spec := "fnExactBookAny", apart := false, narrowed := true }
def FnExactBookAnyUptoSaid : Prop := fnExactBookAnyUptoRow.holds Try.pinned (OpenSpec.upto fnExactBookAnySpec)

/-- 'laws.FnHireDays', WHERE WHAT IT READS IS OF BULK AT MOST 1048576: true; the input reads as it did. -/
def fnHireDaysUptoRow : OpenClaim := { program := "ytiagckbdofeecaa", sum := "b2f14fd5cdd628e8a6b31f20d3a4a6ec34172d945b1772d97ff2bb663030a50b", func := "loop.example/g01045/laws.FnHireDays", spec := "fnHireDays", apart := false, narrowed := true }
def FnHireDaysUptoSaid : Prop := fnHireDaysUptoRow.holds Try.pinned (OpenSpec.upto fnHireDaysSpec)

end Rows
end Go.Proofs.Ytiagckbdofeecaa
