/-
  No cell of these rows narrows 'for every input' (looked for: loops, veiled, ifaces, maps, wideKeys, modest, calm, conditions, laid).
  DERIVED. THE GIVEN ROWS OF THIS SEAT. 5 by the template 'for every input the law returns true; each argument reads behind the call as it read before'; 0 by the template 'total and deterministic' (their statements: YtdackofjmdmoiaaTotals.lean).
  GIVEN WITH THE SEED: the statements are not yours to turn. If you find one false, say at which input.
  Laid BY PROGRAM, IN A SANDBOX (cutbox-rows.mjs): the forced cells as the released guide's own fill.sh prints them over the translation 96a93f8d229983a3… (all of the seat's roots in one cut). By AI agents, Wed Nov 11 2026. No macro, syntax, notation, axiom, sorry.
-/
import Derived.Test.YtdackofjmdmoiaaChecked
import GoSem.Claim
import GoSem.ClaimJoined
import GoSem.ClaimMapViews
import Derived.JoinedTies
import Derived.KernelRfl
namespace Go.Proofs.Ytdackofjmdmoiaa
/- THE CELL 'sum', in the pinned program and in every row, IS THE sha256 OF THE DUMP (.gsa) THAT YtdackofjmdmoiaaProg.lean LOADS. Nothing in Lean hashes anything: it is a label: what it is worth is what the hold of that sum in a sandbox is worth. -/
noncomputable def Try.pinned : Pinned := { name := "ytdackofjmdmoiaa", sum := "96a93f8d229983a3f7c68e5fc5707a85106861e895786f32c04954f292b0ebc9", checked := Try.checked }
namespace Rows
def none {H : Type} : Left H := { results := [], args := [] }

/-- 'laws.FnExactDeskWords': WHATEVER THE INPUT: true; the input reads as it did. -/
def fnExactDeskWordsSpec : ChangeSpec := { name := "fnExactDeskWords", fn := fun _ => fun
  | [] => { results := [.lit (.bool true)], args := [] }
  | _ => none }
def fnExactDeskWordsRow : OpenClaim := { program := "ytdackofjmdmoiaa", sum := "96a93f8d229983a3f7c68e5fc5707a85106861e895786f32c04954f292b0ebc9", func := "loop.example/g01045/laws.FnExactDeskWords", spec := "fnExactDeskWords", apart := false }
def FnExactDeskWordsSaid : Prop := fnExactDeskWordsRow.holds Try.pinned (OpenSpec.ofChange fnExactDeskWordsSpec)

/-- ITS FALSE NEIGHBOUR: 'it returns false'. Refute it at one input. -/
def fnExactDeskWordsWrong : ChangeSpec := { name := "fnExactDeskWords", fn := fun _ => fun
  | [] => { results := [.lit (.bool false)], args := [] }
  | _ => none }
def FnExactDeskWordsWrongFalsely : Prop := fnExactDeskWordsRow.holds Try.pinned (OpenSpec.ofChange fnExactDeskWordsWrong)

/-- 'laws.FnExactCarbonPrice': WHATEVER THE INPUT: true; the input reads as it did. -/
def fnExactCarbonPriceSpec : ChangeSpec := { name := "fnExactCarbonPrice", fn := fun _ => fun
  | [d1, d2, d3] => { results := [.lit (.bool true)], args := [d1, d2, d3] }
  | _ => none }
def fnExactCarbonPriceRow : OpenClaim := { program := "ytdackofjmdmoiaa", sum := "96a93f8d229983a3f7c68e5fc5707a85106861e895786f32c04954f292b0ebc9", func := "loop.example/g01045/laws.FnExactCarbonPrice", spec := "fnExactCarbonPrice", apart := false }
def FnExactCarbonPriceSaid : Prop := fnExactCarbonPriceRow.holds Try.pinned (OpenSpec.ofChange fnExactCarbonPriceSpec)

/-- ITS FALSE NEIGHBOUR: 'it returns false'. Refute it at one input. -/
def fnExactCarbonPriceWrong : ChangeSpec := { name := "fnExactCarbonPrice", fn := fun _ => fun
  | [d1, d2, d3] => { results := [.lit (.bool false)], args := [d1, d2, d3] }
  | _ => none }
def FnExactCarbonPriceWrongFalsely : Prop := fnExactCarbonPriceRow.holds Try.pinned (OpenSpec.ofChange fnExactCarbonPriceWrong)

/-- 'laws.FnExactStencilFrom': WHATEVER THE INPUT: true; the input reads as it did. -/
def fnExactStencilFromSpec : ChangeSpec := { name := "fnExactStencilFrom", fn := fun _ => fun
  | [d1, d2] => { results := [.lit (.bool true)], args := [d1, d2] }
  | _ => none }
def fnExactStencilFromRow : OpenClaim := { program := "ytdackofjmdmoiaa", sum := "96a93f8d229983a3f7c68e5fc5707a85106861e895786f32c04954f292b0ebc9", func := "loop.example/g01045/laws.FnExactStencilFrom", spec := "fnExactStencilFrom", apart := false }
def FnExactStencilFromSaid : Prop := fnExactStencilFromRow.holds Try.pinned (OpenSpec.ofChange fnExactStencilFromSpec)

/-- ITS FALSE NEIGHBOUR: 'it returns false'. Refute it at one input. -/
def fnExactStencilFromWrong : ChangeSpec := { name := "fnExactStencilFrom", fn := fun _ => fun
  | [d1, d2] => { results := [.lit (.bool false)], args := [d1, d2] }
  | _ => none }
def FnExactStencilFromWrongFalsely : Prop := fnExactStencilFromRow.holds Try.pinned (OpenSpec.ofChange fnExactStencilFromWrong)

/-- 'laws.FnExactCheapestCopies': WHATEVER THE INPUT: true; the input reads as it did. -/
def fnExactCheapestCopiesSpec : ChangeSpec := { name := "fnExactCheapestCopies", fn := fun _ => fun
  | [d1, d2, d3] => { results := [.lit (.bool true)], args := [d1, d2, d3] }
  | _ => none }
def fnExactCheapestCopiesRow : OpenClaim := { program := "ytdackofjmdmoiaa", sum := "96a93f8d229983a3f7c68e5fc5707a85106861e895786f32c04954f292b0ebc9", func := "loop.example/g01045/laws.FnExactCheapestCopies", spec := "fnExactCheapestCopies", apart := false }
def FnExactCheapestCopiesSaid : Prop := fnExactCheapestCopiesRow.holds Try.pinned (OpenSpec.ofChange fnExactCheapestCopiesSpec)

/-- ITS FALSE NEIGHBOUR: 'it returns false'. Refute it at one input. -/
def fnExactCheapestCopiesWrong : ChangeSpec := { name := "fnExactCheapestCopies", fn := fun _ => fun
  | [d1, d2, d3] => { results := [.lit (.bool false)], args := [d1, d2, d3] }
  | _ => none }
def FnExactCheapestCopiesWrongFalsely : Prop := fnExactCheapestCopiesRow.holds Try.pinned (OpenSpec.ofChange fnExactCheapestCopiesWrong)

/-- 'laws.FnCopyPrices': WHATEVER THE INPUT: true; the input reads as it did. -/
def fnCopyPricesSpec : ChangeSpec := { name := "fnCopyPrices", fn := fun _ => fun
  | [d1, d2] => { results := [.lit (.bool true)], args := [d1, d2] }
  | _ => none }
def fnCopyPricesRow : OpenClaim := { program := "ytdackofjmdmoiaa", sum := "96a93f8d229983a3f7c68e5fc5707a85106861e895786f32c04954f292b0ebc9", func := "loop.example/g01045/laws.FnCopyPrices", spec := "fnCopyPrices", apart := false }
def FnCopyPricesSaid : Prop := fnCopyPricesRow.holds Try.pinned (OpenSpec.ofChange fnCopyPricesSpec)

/-- ITS FALSE NEIGHBOUR: 'it returns false'. Refute it at one input. -/
def fnCopyPricesWrong : ChangeSpec := { name := "fnCopyPrices", fn := fun _ => fun
  | [d1, d2] => { results := [.lit (.bool false)], args := [d1, d2] }
  | _ => none }
def FnCopyPricesWrongFalsely : Prop := fnCopyPricesRow.holds Try.pinned (OpenSpec.ofChange fnCopyPricesWrong)

/- THE SECOND FORM. 'bulk': how many values and letters a reading holds, each counted each time it is reached (what is shared counts as often as it is met; a slice's spare places count too). A statement '..UptoSaid' is the law's where the arguments, and the package variables that the reading takes, are together of bulk at most 1048576: NARROWER than '..Said'. Prove '..Said' where nothing that the law and all that it calls make is longer than what came in: it says more and counts as full. Else prove '..UptoSaid'. A law counts once. -/
mutual
def uptoBulk {H : Type} : DataW H → Nat
  | .lit (.string bytes) => bytes.length + 1
  | .lit _ => 1
  | .nil => 1
  | .ptr d => uptoBulk d + 1
  | .slice elems spare => uptoBulkAll elems + uptoBulkAll spare + 1
  | .agg parts => uptoBulkAll parts + 1
  | .iface _ d => uptoBulk d + 1
  | .map entries => uptoBulkEntries entries + 1
  | .held _ => 1
def uptoBulkAll {H : Type} : List (DataW H) → Nat
  | [] => 0
  | d :: r => uptoBulk d + uptoBulkAll r
def uptoBulkEntries {H : Type} : List (Lit × DataW H) → Nat
  | [] => 0
  | x :: r => uptoBulkEntry x + uptoBulkEntries r
def uptoBulkEntry {H : Type} : Lit × DataW H → Nat
  | (.string bytes, d) => bytes.length + uptoBulk d + 1
  | (_, d) => uptoBulk d + 1
 end
def uptoSmall : (H : Type) → List (DataW H) → Bool := fun _ ds => decide (uptoBulkAll ds ≤ 1048576)
def OpenSpec.upto (s : _root_.Go.ChangeSpec) : _root_.Go.OpenSpec := { _root_.Go.OpenSpec.ofChange s with cond := some uptoSmall }

/-- 'laws.FnExactDeskWords', WHERE WHAT IT READS IS OF BULK AT MOST 1048576: true; the input reads as it did. -/
def fnExactDeskWordsUptoRow : OpenClaim := { program := "ytdackofjmdmoiaa", sum := "96a93f8d229983a3f7c68e5fc5707a85106861e895786f32c04954f292b0ebc9", func := "loop.example/g01045/laws.FnExactDeskWords", spec := "fnExactDeskWords", apart := false, narrowed := true }
def FnExactDeskWordsUptoSaid : Prop := fnExactDeskWordsUptoRow.holds Try.pinned (OpenSpec.upto fnExactDeskWordsSpec)

/-- 'laws.FnExactCarbonPrice', WHERE WHAT IT READS IS OF BULK AT MOST 1048576: true; the input reads as it did. -/
def fnExactCarbonPriceUptoRow : OpenClaim := { program := "ytdackofjmdmoiaa", sum := "96a93f8d229983a3f7c68e5fc5707a85106861e895786f32c04954f292b0ebc9", func := "loop.example/g01045/laws.FnExactCarbonPrice", spec := "fnExactCarbonPrice", apart := false, narrowed := true }
def FnExactCarbonPriceUptoSaid : Prop := fnExactCarbonPriceUptoRow.holds Try.pinned (OpenSpec.upto fnExactCarbonPriceSpec)

/-- 'laws.FnExactStencilFrom', WHERE WHAT IT READS IS OF BULK AT MOST 1048576: true; the input reads as it did. -/
def fnExactStencilFromUptoRow : OpenClaim := { program := "ytdackofjmdmoiaa", sum := "96a93f8d229983a3f7c68e5fc5707a85106861e895786f32c04954f292b0ebc9", func := "loop.example/g01045/laws.FnExactStencilFrom", spec := "fnExactStencilFrom", apart := false, narrowed := true }
def FnExactStencilFromUptoSaid : Prop := fnExactStencilFromUptoRow.holds Try.pinned (OpenSpec.upto fnExactStencilFromSpec)

/-- 'laws.FnExactCheapestCopies', WHERE WHAT IT READS IS OF BULK AT MOST 1048576: true; the input reads as it did. -/
def fnExactCheapestCopiesUptoRow : OpenClaim := { program := "ytdackofjmdmoiaa", sum := "96a93f8d229983a3f7c68e5fc5707a85106861e895786f32c04954f292b0ebc9", func := "loop.example/g01045/laws.FnExactCheapestCopies", spec := "fnExactCheapestCopies", apart := false, narrowed := true }
def FnExactCheapestCopiesUptoSaid : Prop := fnExactCheapestCopiesUptoRow.holds Try.pinned (OpenSpec.upto fnExactCheapestCopiesSpec)

/-- 'laws.FnCopyPrices', WHERE WHAT IT READS IS OF BULK AT MOST 1048576: true; the input reads as it did. -/
def fnCopyPricesUptoRow : OpenClaim := { program := "ytdackofjmdmoiaa", sum := "96a93f8d229983a3f7c68e5fc5707a85106861e895786f32c04954f292b0ebc9", func := "loop.example/g01045/laws.FnCopyPrices", spec := "fnCopyPrices", apart := false, narrowed := true }
def FnCopyPricesUptoSaid : Prop := fnCopyPricesUptoRow.holds Try.pinned (OpenSpec.upto fnCopyPricesSpec)

end Rows
end Go.Proofs.Ytdackofjmdmoiaa
