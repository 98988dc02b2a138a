/-
  No cell of these rows narrows 'for every input' (looked for: loops, veiled, ifaces, maps, wideKeys, modest, calm, conditions, laid).
  DERIVED. THE GIVEN ROWS OF THIS SEAT. 6 by the template 'for every input the law returns true; each argument reads behind the call as it read before'; 0 by the template 'total and deterministic' (their statements: YtfggbcmpgkhlaaaTotals.lean).
  GIVEN WITH THE SEED: the statements are not yours to turn. If you find one false, say at which input.
  Laid BY PROGRAM, IN A SANDBOX (cutbox-rows.mjs): the forced cells as the released guide's own fill.sh prints them over the translation be95809d1ff74658… (all of the seat's roots in one cut). By AI agents, Wed Nov 11 2026. No macro, syntax, notation, axiom, sorry.
-/
import Derived.Test.YtfggbcmpgkhlaaaChecked
import GoSem.Claim
import GoSem.ClaimJoined
import GoSem.ClaimMapViews
import Derived.JoinedTies
import Derived.KernelRfl
namespace Go.Proofs.Ytfggbcmpgkhlaaa
/- THE CELL 'sum', in the pinned program and in every row, IS THE sha256 OF THE DUMP (.gsa) THAT YtfggbcmpgkhlaaaProg.lean LOADS. Nothing in Lean hashes anything: it is a label: what it is worth is what the hold of that sum in a sandbox is worth. -/
noncomputable def Try.pinned : Pinned := { name := "ytfggbcmpgkhlaaa", sum := "be95809d1ff74658ce35ad001c7a8faf01dc4de8fb2ea94d99fe0cc622b27c76", checked := Try.checked }
namespace Rows
def none {H : Type} : Left H := { results := [], args := [] }

/-- 'laws.FnTests': WHATEVER THE INPUT: true; the input reads as it did. -/
def fnTestsSpec : ChangeSpec := { name := "fnTests", fn := fun _ => fun
  | [d1, d2] => { results := [.lit (.bool true)], args := [d1, d2] }
  | _ => none }
def fnTestsRow : OpenClaim := { program := "ytfggbcmpgkhlaaa", sum := "be95809d1ff74658ce35ad001c7a8faf01dc4de8fb2ea94d99fe0cc622b27c76", func := "loop.example/g01045/laws.FnTests", spec := "fnTests", recurses := true, apart := false }
def FnTestsSaid : Prop := fnTestsRow.holds Try.pinned (OpenSpec.ofChange fnTestsSpec)

/-- ITS FALSE NEIGHBOUR: 'it returns false'. Refute it at one input. -/
def fnTestsWrong : ChangeSpec := { name := "fnTests", fn := fun _ => fun
  | [d1, d2] => { results := [.lit (.bool false)], args := [d1, d2] }
  | _ => none }
def FnTestsWrongFalsely : Prop := fnTestsRow.holds Try.pinned (OpenSpec.ofChange fnTestsWrong)

/-- 'laws.FnNextTests': WHATEVER THE INPUT: true; the input reads as it did. -/
def fnNextTestsSpec : ChangeSpec := { name := "fnNextTests", fn := fun _ => fun
  | [d1, d2] => { results := [.lit (.bool true)], args := [d1, d2] }
  | _ => none }
def fnNextTestsRow : OpenClaim := { program := "ytfggbcmpgkhlaaa", sum := "be95809d1ff74658ce35ad001c7a8faf01dc4de8fb2ea94d99fe0cc622b27c76", func := "loop.example/g01045/laws.FnNextTests", spec := "fnNextTests", recurses := true, apart := false }
def FnNextTestsSaid : Prop := fnNextTestsRow.holds Try.pinned (OpenSpec.ofChange fnNextTestsSpec)

/-- ITS FALSE NEIGHBOUR: 'it returns false'. Refute it at one input. -/
def fnNextTestsWrong : ChangeSpec := { name := "fnNextTests", fn := fun _ => fun
  | [d1, d2] => { results := [.lit (.bool false)], args := [d1, d2] }
  | _ => none }
def FnNextTestsWrongFalsely : Prop := fnNextTestsRow.holds Try.pinned (OpenSpec.ofChange fnNextTestsWrong)

/-- 'laws.FnExactWorstCost': WHATEVER THE INPUT: true; the input reads as it did. -/
def fnExactWorstCostSpec : ChangeSpec := { name := "fnExactWorstCost", fn := fun _ => fun
  | [d1, d2, d3] => { results := [.lit (.bool true)], args := [d1, d2, d3] }
  | _ => none }
def fnExactWorstCostRow : OpenClaim := { program := "ytfggbcmpgkhlaaa", sum := "be95809d1ff74658ce35ad001c7a8faf01dc4de8fb2ea94d99fe0cc622b27c76", func := "loop.example/g01045/laws.FnExactWorstCost", spec := "fnExactWorstCost", recurses := true, apart := false }
def FnExactWorstCostSaid : Prop := fnExactWorstCostRow.holds Try.pinned (OpenSpec.ofChange fnExactWorstCostSpec)

/-- ITS FALSE NEIGHBOUR: 'it returns false'. Refute it at one input. -/
def fnExactWorstCostWrong : ChangeSpec := { name := "fnExactWorstCost", fn := fun _ => fun
  | [d1, d2, d3] => { results := [.lit (.bool false)], args := [d1, d2, d3] }
  | _ => none }
def FnExactWorstCostWrongFalsely : Prop := fnExactWorstCostRow.holds Try.pinned (OpenSpec.ofChange fnExactWorstCostWrong)

/-- 'laws.FnExactNextTest': WHATEVER THE INPUT: true; the input reads as it did. -/
def fnExactNextTestSpec : ChangeSpec := { name := "fnExactNextTest", fn := fun _ => fun
  | [d1, d2, d3] => { results := [.lit (.bool true)], args := [d1, d2, d3] }
  | _ => none }
def fnExactNextTestRow : OpenClaim := { program := "ytfggbcmpgkhlaaa", sum := "be95809d1ff74658ce35ad001c7a8faf01dc4de8fb2ea94d99fe0cc622b27c76", func := "loop.example/g01045/laws.FnExactNextTest", spec := "fnExactNextTest", recurses := true, apart := false }
def FnExactNextTestSaid : Prop := fnExactNextTestRow.holds Try.pinned (OpenSpec.ofChange fnExactNextTestSpec)

/-- ITS FALSE NEIGHBOUR: 'it returns false'. Refute it at one input. -/
def fnExactNextTestWrong : ChangeSpec := { name := "fnExactNextTest", fn := fun _ => fun
  | [d1, d2, d3] => { results := [.lit (.bool false)], args := [d1, d2, d3] }
  | _ => none }
def FnExactNextTestWrongFalsely : Prop := fnExactNextTestRow.holds Try.pinned (OpenSpec.ofChange fnExactNextTestWrong)

/-- 'laws.FnExactTestsPrice': WHATEVER THE INPUT: true; the input reads as it did. -/
def fnExactTestsPriceSpec : ChangeSpec := { name := "fnExactTestsPrice", fn := fun _ => fun
  | [d1, d2, d3] => { results := [.lit (.bool true)], args := [d1, d2, d3] }
  | _ => none }
def fnExactTestsPriceRow : OpenClaim := { program := "ytfggbcmpgkhlaaa", sum := "be95809d1ff74658ce35ad001c7a8faf01dc4de8fb2ea94d99fe0cc622b27c76", func := "loop.example/g01045/laws.FnExactTestsPrice", spec := "fnExactTestsPrice", recurses := true, apart := false }
def FnExactTestsPriceSaid : Prop := fnExactTestsPriceRow.holds Try.pinned (OpenSpec.ofChange fnExactTestsPriceSpec)

/-- ITS FALSE NEIGHBOUR: 'it returns false'. Refute it at one input. -/
def fnExactTestsPriceWrong : ChangeSpec := { name := "fnExactTestsPrice", fn := fun _ => fun
  | [d1, d2, d3] => { results := [.lit (.bool false)], args := [d1, d2, d3] }
  | _ => none }
def FnExactTestsPriceWrongFalsely : Prop := fnExactTestsPriceRow.holds Try.pinned (OpenSpec.ofChange fnExactTestsPriceWrong)

/-- 'laws.FnExactRunTests': WHATEVER THE INPUT: true; the input reads as it did. -/
def fnExactRunTestsSpec : ChangeSpec := { name := "fnExactRunTests", fn := fun _ => fun
  | [d1, d2, d3] => { results := [.lit (.bool true)], args := [d1, d2, d3] }
  | _ => none }
def fnExactRunTestsRow : OpenClaim := { program := "ytfggbcmpgkhlaaa", sum := "be95809d1ff74658ce35ad001c7a8faf01dc4de8fb2ea94d99fe0cc622b27c76", func := "loop.example/g01045/laws.FnExactRunTests", spec := "fnExactRunTests", recurses := true, apart := false }
def FnExactRunTestsSaid : Prop := fnExactRunTestsRow.holds Try.pinned (OpenSpec.ofChange fnExactRunTestsSpec)

/-- ITS FALSE NEIGHBOUR: 'it returns false'. Refute it at one input. -/
def fnExactRunTestsWrong : ChangeSpec := { name := "fnExactRunTests", fn := fun _ => fun
  | [d1, d2, d3] => { results := [.lit (.bool false)], args := [d1, d2, d3] }
  | _ => none }
def FnExactRunTestsWrongFalsely : Prop := fnExactRunTestsRow.holds Try.pinned (OpenSpec.ofChange fnExactRunTestsWrong)

/- THE SECOND FORM. 'bulk': how many values and letters a reading holds, each counted each time it is reached (what is shared counts as often as it is met; a slice's spare places count too). A statement '..UptoSaid' is the law's where the arguments, and the package variables that the reading takes, are together of bulk at most 1048576: NARROWER than '..Said'. Prove '..Said' where nothing that the law and all that it calls make is longer than what came in: it says more and counts as full. Else prove '..UptoSaid'. A law counts once. -/
mutual
def uptoBulk {H : Type} : DataW H → Nat
  | .lit (.string bytes) => bytes.length + 1
  | .lit _ => 1
  | .nil => 1
  | .ptr d => uptoBulk d + 1
  | .slice elems spare => uptoBulkAll elems + uptoBulkAll spare + 1
  | .agg parts => uptoBulkAll parts + 1
  | .iface _ d => uptoBulk d + 1
  | .map entries => uptoBulkEntries entries + 1
  | .held _ => 1
def uptoBulkAll {H : Type} : List (DataW H) → Nat
  | [] => 0
  | d :: r => uptoBulk d + uptoBulkAll r
def uptoBulkEntries {H : Type} : List (Lit × DataW H) → Nat
  | [] => 0
  | x :: r => uptoBulkEntry x + uptoBulkEntries r
def uptoBulkEntry {H : Type} : Lit × DataW H → Nat
  | (.string bytes, d) => bytes.length + uptoBulk d + 1
  | (_, d) => uptoBulk d + 1
 end
def uptoSmall : (H : Type) → List (DataW H) → Bool := fun _ ds => decide (uptoBulkAll ds ≤ 1048576)
def OpenSpec.upto (s : _root_.Go.ChangeSpec) : _root_.Go.OpenSpec := { _root_.Go.OpenSpec.ofChange s with cond := some uptoSmall }

/-- 'laws.FnTests', WHERE WHAT IT READS IS OF BULK AT MOST 1048576: true; the input reads as it did. -/
def fnTestsUptoRow : OpenClaim := { program := "ytfggbcmpgkhlaaa", sum := "be95809d1ff74658ce35ad001c7a8faf01dc4de8fb2ea94d99fe0cc622b27c76", func := "loop.example/g01045/laws.FnTests", spec := "fnTests", recurses := true, apart := false, narrowed := true }
def FnTestsUptoSaid : Prop := fnTestsUptoRow.holds Try.pinned (OpenSpec.upto fnTestsSpec)

/-- 'laws.FnNextTests', WHERE WHAT IT READS IS OF BULK AT MOST 1048576: true; the input reads as it did. -/
def fnNextTestsUptoRow : OpenClaim := { program := "ytfggbcmpgkhlaaa", sum := "be95809d1ff74658ce35ad001c7a8faf01dc4de8fb2ea94d99fe0cc622b27c76", func := "loop.example/g01045/laws.FnNextTests", spec := "fnNextTests", recurses := true, apart := false, narrowed := true }
def FnNextTestsUptoSaid : Prop := fnNextTestsUptoRow.holds Try.pinned (OpenSpec.upto fnNextTestsSpec)

/-- 'laws.FnExactWorstCost', WHERE WHAT IT READS IS OF BULK AT MOST 1048576: true; the input reads as it did. -/
def fnExactWorstCostUptoRow : OpenClaim := { program := "ytfggbcmpgkhlaaa", sum := "be95809d1ff74658ce35ad001c7a8faf01dc4de8fb2ea94d99fe0cc622b27c76", func := "loop.example/g01045/laws.FnExactWorstCost", spec := "fnExactWorstCost", recurses := true, apart := false, narrowed := true }
def FnExactWorstCostUptoSaid : Prop := fnExactWorstCostUptoRow.holds Try.pinned (OpenSpec.upto fnExactWorstCostSpec)

/-- 'laws.FnExactNextTest', WHERE WHAT IT READS IS OF BULK AT MOST 1048576: true; the input reads as it did. -/
def fnExactNextTestUptoRow : OpenClaim := { program := "ytfggbcmpgkhlaaa", sum := "be95809d1ff74658ce35ad001c7a8faf01dc4de8fb2ea94d99fe0cc622b27c76", func := "loop.example/g01045/laws.FnExactNextTest", spec := "fnExactNextTest", recurses := true, apart := false, narrowed := true }
def FnExactNextTestUptoSaid : Prop := fnExactNextTestUptoRow.holds Try.pinned (OpenSpec.upto fnExactNextTestSpec)

/-- 'laws.FnExactTestsPrice', WHERE WHAT IT READS IS OF BULK AT MOST 1048576: true; the input reads as it did. -/
def fnExactTestsPriceUptoRow : OpenClaim := { program := "ytfggbcmpgkhlaaa", sum := "be95809d1ff74658ce35ad001c7a8faf01dc4de8fb2ea94d99fe0cc622b27c76", func := "loop.example/g01045/laws.FnExactTestsPrice", spec := "fnExactTestsPrice", recurses := true, apart := false, narrowed := true }
def FnExactTestsPriceUptoSaid : Prop := fnExactTestsPriceUptoRow.holds Try.pinned (OpenSpec.upto fnExactTestsPriceSpec)

/-- 'laws.FnExactRunTests', WHERE WHAT IT READS IS OF BULK AT MOST 1048576: true; the input reads as it did. -/
def fnExactRunTestsUptoRow : OpenClaim := { program := "ytfggbcmpgkhlaaa", sum := "be95809d1ff74658ce35ad001c7a8faf01dc4de8fb2ea94d99fe0cc622b27c76", func := "loop.example/g01045/laws.FnExactRunTests", spec := "fnExactRunTests", recurses := true, apart := false, narrowed := true }
def FnExactRunTestsUptoSaid : Prop := fnExactRunTestsUptoRow.holds Try.pinned (OpenSpec.upto fnExactRunTestsSpec)

end Rows
end Go.Proofs.Ytfggbcmpgkhlaaa
