/-
  No cell of these rows narrows 'for every input' (looked for: loops, veiled, ifaces, maps, wideKeys, modest, calm, conditions, laid).
  DERIVED. THE GIVEN ROWS OF THIS SEAT. 12 by the template 'for every input the law returns true; each argument reads behind the call as it read before'; 0 by the template 'total and deterministic' (their statements: YtiibpldfnnhhlaaTotals.lean).
  GIVEN WITH THE SEED: the statements are not yours to turn. If you find one false, say at which input.
  Laid BY PROGRAM, IN A SANDBOX (cutbox-rows.mjs): the forced cells as the released guide's own fill.sh prints them over the translation 5020f7a7577934fe… (all of the seat's roots in one cut). By AI agents, Wed Nov 11 2026. No macro, syntax, notation, axiom, sorry.
-/
import Derived.Test.YtiibpldfnnhhlaaChecked
import GoSem.Claim
import GoSem.ClaimJoined
import GoSem.ClaimMapViews
import Derived.JoinedTies
import Derived.KernelRfl
namespace Go.Proofs.Ytiibpldfnnhhlaa
/- THE CELL 'sum', in the pinned program and in every row, IS THE sha256 OF THE DUMP (.gsa) THAT YtiibpldfnnhhlaaProg.lean LOADS. Nothing in Lean hashes anything: it is a label: what it is worth is what the hold of that sum in a sandbox is worth. -/
noncomputable def Try.pinned : Pinned := { name := "ytiibpldfnnhhlaa", sum := "5020f7a7577934fe48848f069b3faa3063d3f71ffd9e761f6d2f711c0f1cbaf6", checked := Try.checked }
namespace Rows
def none {H : Type} : Left H := { results := [], args := [] }

/-- 'laws.FnExactSameWares': WHATEVER THE INPUT: true; the input reads as it did. -/
def fnExactSameWaresSpec : ChangeSpec := { name := "fnExactSameWares", fn := fun _ => fun
  | [d1, d2] => { results := [.lit (.bool true)], args := [d1, d2] }
  | _ => none }
def fnExactSameWaresRow : OpenClaim := { program := "ytiibpldfnnhhlaa", sum := "5020f7a7577934fe48848f069b3faa3063d3f71ffd9e761f6d2f711c0f1cbaf6", func := "loop.example/g01045/laws.FnExactSameWares", spec := "fnExactSameWares", apart := false }
def FnExactSameWaresSaid : Prop := fnExactSameWaresRow.holds Try.pinned (OpenSpec.ofChange fnExactSameWaresSpec)

/-- ITS FALSE NEIGHBOUR: 'it returns false'. Refute it at one input. -/
def fnExactSameWaresWrong : ChangeSpec := { name := "fnExactSameWares", fn := fun _ => fun
  | [d1, d2] => { results := [.lit (.bool false)], args := [d1, d2] }
  | _ => none }
def FnExactSameWaresWrongFalsely : Prop := fnExactSameWaresRow.holds Try.pinned (OpenSpec.ofChange fnExactSameWaresWrong)

/-- 'laws.FnExactValidWares': WHATEVER THE INPUT: true; the input reads as it did. -/
def fnExactValidWaresSpec : ChangeSpec := { name := "fnExactValidWares", fn := fun _ => fun
  | [d] => { results := [.lit (.bool true)], args := [d] }
  | _ => none }
def fnExactValidWaresRow : OpenClaim := { program := "ytiibpldfnnhhlaa", sum := "5020f7a7577934fe48848f069b3faa3063d3f71ffd9e761f6d2f711c0f1cbaf6", func := "loop.example/g01045/laws.FnExactValidWares", spec := "fnExactValidWares", apart := false }
def FnExactValidWaresSaid : Prop := fnExactValidWaresRow.holds Try.pinned (OpenSpec.ofChange fnExactValidWaresSpec)

/-- ITS FALSE NEIGHBOUR: 'it returns false'. Refute it at one input. -/
def fnExactValidWaresWrong : ChangeSpec := { name := "fnExactValidWares", fn := fun _ => fun
  | [d] => { results := [.lit (.bool false)], args := [d] }
  | _ => none }
def FnExactValidWaresWrongFalsely : Prop := fnExactValidWaresRow.holds Try.pinned (OpenSpec.ofChange fnExactValidWaresWrong)

/-- 'laws.FnExactPriceOfMany': WHATEVER THE INPUT: true; the input reads as it did. -/
def fnExactPriceOfManySpec : ChangeSpec := { name := "fnExactPriceOfMany", fn := fun _ => fun
  | [d1, d2, d3] => { results := [.lit (.bool true)], args := [d1, d2, d3] }
  | _ => none }
def fnExactPriceOfManyRow : OpenClaim := { program := "ytiibpldfnnhhlaa", sum := "5020f7a7577934fe48848f069b3faa3063d3f71ffd9e761f6d2f711c0f1cbaf6", func := "loop.example/g01045/laws.FnExactPriceOfMany", spec := "fnExactPriceOfMany", apart := false }
def FnExactPriceOfManySaid : Prop := fnExactPriceOfManyRow.holds Try.pinned (OpenSpec.ofChange fnExactPriceOfManySpec)

/-- ITS FALSE NEIGHBOUR: 'it returns false'. Refute it at one input. -/
def fnExactPriceOfManyWrong : ChangeSpec := { name := "fnExactPriceOfMany", fn := fun _ => fun
  | [d1, d2, d3] => { results := [.lit (.bool false)], args := [d1, d2, d3] }
  | _ => none }
def FnExactPriceOfManyWrongFalsely : Prop := fnExactPriceOfManyRow.holds Try.pinned (OpenSpec.ofChange fnExactPriceOfManyWrong)

/-- 'laws.FnExactMostFor': WHATEVER THE INPUT: true; the input reads as it did. -/
def fnExactMostForSpec : ChangeSpec := { name := "fnExactMostFor", fn := fun _ => fun
  | [d1, d2, d3] => { results := [.lit (.bool true)], args := [d1, d2, d3] }
  | _ => none }
def fnExactMostForRow : OpenClaim := { program := "ytiibpldfnnhhlaa", sum := "5020f7a7577934fe48848f069b3faa3063d3f71ffd9e761f6d2f711c0f1cbaf6", func := "loop.example/g01045/laws.FnExactMostFor", spec := "fnExactMostFor", apart := false }
def FnExactMostForSaid : Prop := fnExactMostForRow.holds Try.pinned (OpenSpec.ofChange fnExactMostForSpec)

/-- ITS FALSE NEIGHBOUR: 'it returns false'. Refute it at one input. -/
def fnExactMostForWrong : ChangeSpec := { name := "fnExactMostFor", fn := fun _ => fun
  | [d1, d2, d3] => { results := [.lit (.bool false)], args := [d1, d2, d3] }
  | _ => none }
def FnExactMostForWrongFalsely : Prop := fnExactMostForRow.holds Try.pinned (OpenSpec.ofChange fnExactMostForWrong)

/-- 'laws.FnExactCheapestMany': WHATEVER THE INPUT: true; the input reads as it did. -/
def fnExactCheapestManySpec : ChangeSpec := { name := "fnExactCheapestMany", fn := fun _ => fun
  | [d1, d2, d3] => { results := [.lit (.bool true)], args := [d1, d2, d3] }
  | _ => none }
def fnExactCheapestManyRow : OpenClaim := { program := "ytiibpldfnnhhlaa", sum := "5020f7a7577934fe48848f069b3faa3063d3f71ffd9e761f6d2f711c0f1cbaf6", func := "loop.example/g01045/laws.FnExactCheapestMany", spec := "fnExactCheapestMany", apart := false }
def FnExactCheapestManySaid : Prop := fnExactCheapestManyRow.holds Try.pinned (OpenSpec.ofChange fnExactCheapestManySpec)

/-- ITS FALSE NEIGHBOUR: 'it returns false'. Refute it at one input. -/
def fnExactCheapestManyWrong : ChangeSpec := { name := "fnExactCheapestMany", fn := fun _ => fun
  | [d1, d2, d3] => { results := [.lit (.bool false)], args := [d1, d2, d3] }
  | _ => none }
def FnExactCheapestManyWrongFalsely : Prop := fnExactCheapestManyRow.holds Try.pinned (OpenSpec.ofChange fnExactCheapestManyWrong)

/-- 'laws.FnExactBasketPrice': WHATEVER THE INPUT: true; the input reads as it did. -/
def fnExactBasketPriceSpec : ChangeSpec := { name := "fnExactBasketPrice", fn := fun _ => fun
  | [d1, d2] => { results := [.lit (.bool true)], args := [d1, d2] }
  | _ => none }
def fnExactBasketPriceRow : OpenClaim := { program := "ytiibpldfnnhhlaa", sum := "5020f7a7577934fe48848f069b3faa3063d3f71ffd9e761f6d2f711c0f1cbaf6", func := "loop.example/g01045/laws.FnExactBasketPrice", spec := "fnExactBasketPrice", apart := false }
def FnExactBasketPriceSaid : Prop := fnExactBasketPriceRow.holds Try.pinned (OpenSpec.ofChange fnExactBasketPriceSpec)

/-- ITS FALSE NEIGHBOUR: 'it returns false'. Refute it at one input. -/
def fnExactBasketPriceWrong : ChangeSpec := { name := "fnExactBasketPrice", fn := fun _ => fun
  | [d1, d2] => { results := [.lit (.bool false)], args := [d1, d2] }
  | _ => none }
def FnExactBasketPriceWrongFalsely : Prop := fnExactBasketPriceRow.holds Try.pinned (OpenSpec.ofChange fnExactBasketPriceWrong)

/-- 'laws.FnExactRaisePrices': WHATEVER THE INPUT: true; the input reads as it did. -/
def fnExactRaisePricesSpec : ChangeSpec := { name := "fnExactRaisePrices", fn := fun _ => fun
  | [d1, d2] => { results := [.lit (.bool true)], args := [d1, d2] }
  | _ => none }
def fnExactRaisePricesRow : OpenClaim := { program := "ytiibpldfnnhhlaa", sum := "5020f7a7577934fe48848f069b3faa3063d3f71ffd9e761f6d2f711c0f1cbaf6", func := "loop.example/g01045/laws.FnExactRaisePrices", spec := "fnExactRaisePrices", apart := false }
def FnExactRaisePricesSaid : Prop := fnExactRaisePricesRow.holds Try.pinned (OpenSpec.ofChange fnExactRaisePricesSpec)

/-- ITS FALSE NEIGHBOUR: 'it returns false'. Refute it at one input. -/
def fnExactRaisePricesWrong : ChangeSpec := { name := "fnExactRaisePrices", fn := fun _ => fun
  | [d1, d2] => { results := [.lit (.bool false)], args := [d1, d2] }
  | _ => none }
def FnExactRaisePricesWrongFalsely : Prop := fnExactRaisePricesRow.holds Try.pinned (OpenSpec.ofChange fnExactRaisePricesWrong)

/-- 'laws.FnExactOddBreaks': WHATEVER THE INPUT: true; the input reads as it did. -/
def fnExactOddBreaksSpec : ChangeSpec := { name := "fnExactOddBreaks", fn := fun _ => fun
  | [d1, d2] => { results := [.lit (.bool true)], args := [d1, d2] }
  | _ => none }
def fnExactOddBreaksRow : OpenClaim := { program := "ytiibpldfnnhhlaa", sum := "5020f7a7577934fe48848f069b3faa3063d3f71ffd9e761f6d2f711c0f1cbaf6", func := "loop.example/g01045/laws.FnExactOddBreaks", spec := "fnExactOddBreaks", apart := false }
def FnExactOddBreaksSaid : Prop := fnExactOddBreaksRow.holds Try.pinned (OpenSpec.ofChange fnExactOddBreaksSpec)

/-- ITS FALSE NEIGHBOUR: 'it returns false'. Refute it at one input. -/
def fnExactOddBreaksWrong : ChangeSpec := { name := "fnExactOddBreaks", fn := fun _ => fun
  | [d1, d2] => { results := [.lit (.bool false)], args := [d1, d2] }
  | _ => none }
def FnExactOddBreaksWrongFalsely : Prop := fnExactOddBreaksRow.holds Try.pinned (OpenSpec.ofChange fnExactOddBreaksWrong)

/-- 'laws.FnExactValidOffers': WHATEVER THE INPUT: true; the input reads as it did. -/
def fnExactValidOffersSpec : ChangeSpec := { name := "fnExactValidOffers", fn := fun _ => fun
  | [d1, d2] => { results := [.lit (.bool true)], args := [d1, d2] }
  | _ => none }
def fnExactValidOffersRow : OpenClaim := { program := "ytiibpldfnnhhlaa", sum := "5020f7a7577934fe48848f069b3faa3063d3f71ffd9e761f6d2f711c0f1cbaf6", func := "loop.example/g01045/laws.FnExactValidOffers", spec := "fnExactValidOffers", apart := false }
def FnExactValidOffersSaid : Prop := fnExactValidOffersRow.holds Try.pinned (OpenSpec.ofChange fnExactValidOffersSpec)

/-- ITS FALSE NEIGHBOUR: 'it returns false'. Refute it at one input. -/
def fnExactValidOffersWrong : ChangeSpec := { name := "fnExactValidOffers", fn := fun _ => fun
  | [d1, d2] => { results := [.lit (.bool false)], args := [d1, d2] }
  | _ => none }
def FnExactValidOffersWrongFalsely : Prop := fnExactValidOffersRow.holds Try.pinned (OpenSpec.ofChange fnExactValidOffersWrong)

/-- 'laws.FnExactOfferSaving': WHATEVER THE INPUT: true; the input reads as it did. -/
def fnExactOfferSavingSpec : ChangeSpec := { name := "fnExactOfferSaving", fn := fun _ => fun
  | [d1, d2, d3] => { results := [.lit (.bool true)], args := [d1, d2, d3] }
  | _ => none }
def fnExactOfferSavingRow : OpenClaim := { program := "ytiibpldfnnhhlaa", sum := "5020f7a7577934fe48848f069b3faa3063d3f71ffd9e761f6d2f711c0f1cbaf6", func := "loop.example/g01045/laws.FnExactOfferSaving", spec := "fnExactOfferSaving", apart := false }
def FnExactOfferSavingSaid : Prop := fnExactOfferSavingRow.holds Try.pinned (OpenSpec.ofChange fnExactOfferSavingSpec)

/-- ITS FALSE NEIGHBOUR: 'it returns false'. Refute it at one input. -/
def fnExactOfferSavingWrong : ChangeSpec := { name := "fnExactOfferSaving", fn := fun _ => fun
  | [d1, d2, d3] => { results := [.lit (.bool false)], args := [d1, d2, d3] }
  | _ => none }
def FnExactOfferSavingWrongFalsely : Prop := fnExactOfferSavingRow.holds Try.pinned (OpenSpec.ofChange fnExactOfferSavingWrong)

/-- 'laws.FnExactBestOffers': WHATEVER THE INPUT: true; the input reads as it did. -/
def fnExactBestOffersSpec : ChangeSpec := { name := "fnExactBestOffers", fn := fun _ => fun
  | [d1, d2, d3] => { results := [.lit (.bool true)], args := [d1, d2, d3] }
  | _ => none }
def fnExactBestOffersRow : OpenClaim := { program := "ytiibpldfnnhhlaa", sum := "5020f7a7577934fe48848f069b3faa3063d3f71ffd9e761f6d2f711c0f1cbaf6", func := "loop.example/g01045/laws.FnExactBestOffers", spec := "fnExactBestOffers", recurses := true, apart := false }
def FnExactBestOffersSaid : Prop := fnExactBestOffersRow.holds Try.pinned (OpenSpec.ofChange fnExactBestOffersSpec)

/-- ITS FALSE NEIGHBOUR: 'it returns false'. Refute it at one input. -/
def fnExactBestOffersWrong : ChangeSpec := { name := "fnExactBestOffers", fn := fun _ => fun
  | [d1, d2, d3] => { results := [.lit (.bool false)], args := [d1, d2, d3] }
  | _ => none }
def FnExactBestOffersWrongFalsely : Prop := fnExactBestOffersRow.holds Try.pinned (OpenSpec.ofChange fnExactBestOffersWrong)

/-- 'laws.FnOffers': WHATEVER THE INPUT: true; the input reads as it did. -/
def fnOffersSpec : ChangeSpec := { name := "fnOffers", fn := fun _ => fun
  | [d] => { results := [.lit (.bool true)], args := [d] }
  | _ => none }
def fnOffersRow : OpenClaim := { program := "ytiibpldfnnhhlaa", sum := "5020f7a7577934fe48848f069b3faa3063d3f71ffd9e761f6d2f711c0f1cbaf6", func := "loop.example/g01045/laws.FnOffers", spec := "fnOffers", recurses := true, apart := false }
def FnOffersSaid : Prop := fnOffersRow.holds Try.pinned (OpenSpec.ofChange fnOffersSpec)

/-- ITS FALSE NEIGHBOUR: 'it returns false'. Refute it at one input. -/
def fnOffersWrong : ChangeSpec := { name := "fnOffers", fn := fun _ => fun
  | [d] => { results := [.lit (.bool false)], args := [d] }
  | _ => none }
def FnOffersWrongFalsely : Prop := fnOffersRow.holds Try.pinned (OpenSpec.ofChange fnOffersWrong)

/- THE SECOND FORM. 'bulk': how many values and letters a reading holds, each counted each time it is reached (what is shared counts as often as it is met; a slice's spare places count too). A statement '..UptoSaid' is the law's where the arguments, and the package variables that the reading takes, are together of bulk at most 1048576: NARROWER than '..Said'. Prove '..Said' where nothing that the law and all that it calls make is longer than what came in: it says more and counts as full. Else prove '..UptoSaid'. A law counts once. -/
mutual
def uptoBulk {H : Type} : DataW H → Nat
  | .lit (.string bytes) => bytes.length + 1
  | .lit _ => 1
  | .nil => 1
  | .ptr d => uptoBulk d + 1
  | .slice elems spare => uptoBulkAll elems + uptoBulkAll spare + 1
  | .agg parts => uptoBulkAll parts + 1
  | .iface _ d => uptoBulk d + 1
  | .map entries => uptoBulkEntries entries + 1
  | .held _ => 1
def uptoBulkAll {H : Type} : List (DataW H) → Nat
  | [] => 0
  | d :: r => uptoBulk d + uptoBulkAll r
def uptoBulkEntries {H : Type} : List (Lit × DataW H) → Nat
  | [] => 0
  | x :: r => uptoBulkEntry x + uptoBulkEntries r
def uptoBulkEntry {H : Type} : Lit × DataW H → Nat
  | (.string bytes, d) => bytes.length + uptoBulk d + 1
  | (_, d) => uptoBulk d + 1
 end
def uptoSmall : (H : Type) → List (DataW H) → Bool := fun _ ds => decide (uptoBulkAll ds ≤ 1048576)
def OpenSpec.upto (s : _root_.Go.ChangeSpec) : _root_.Go.OpenSpec := { _root_.Go.OpenSpec.ofChange s with cond := some uptoSmall }

/-- 'laws.FnExactSameWares', WHERE WHAT IT READS IS OF BULK AT MOST 1048576: true; the input reads as it did. -/
def fnExactSameWaresUptoRow : OpenClaim := { program := "ytiibpldfnnhhlaa", sum := "5020f7a7577934fe48848f069b3faa3063d3f71ffd9e761f6d2f711c0f1cbaf6", func := "loop.example/g01045/laws.FnExactSameWares", spec := "fnExactSameWares", apart := false, narrowed := true }
def FnExactSameWaresUptoSaid : Prop := fnExactSameWaresUptoRow.holds Try.pinned (OpenSpec.upto fnExactSameWaresSpec)

/-- 'laws.FnExactValidWares', WHERE WHAT IT READS IS OF BULK AT MOST 1048576: true; the input reads as it did. -/
def fnExactValidWaresUptoRow : OpenClaim := { program := "ytiibpldfnnhhlaa", sum := "5020f7a7577934fe48848f069b3faa3063d3f71ffd9e761f6d2f711c0f1cbaf6", func := "loop.example/g01045/laws.FnExactValidWares", spec := "fnExactValidWares", apart := false, narrowed := true }
def FnExactValidWaresUptoSaid : Prop := fnExactValidWaresUptoRow.holds Try.pinned (OpenSpec.upto fnExactValidWaresSpec)

/-- 'laws.FnExactPriceOfMany', WHERE WHAT IT READS IS OF BULK AT MOST 1048576: true; the input reads as it did. -/
def fnExactPriceOfManyUptoRow : OpenClaim := { program := "ytiibpldfnnhhlaa", sum := "5020f7a7577934fe48848f069b3faa3063d3f71ffd9e761f6d2f711c0f1cbaf6", func := "loop.example/g01045/laws.FnExactPriceOfMany", spec := "fnExactPriceOfMany", apart := false, narrowed := true }
def FnExactPriceOfManyUptoSaid : Prop := fnExactPriceOfManyUptoRow.holds Try.pinned (OpenSpec.upto fnExactPriceOfManySpec)

/-- 'laws.FnExactMostFor', WHERE WHAT IT READS IS OF BULK AT MOST 1048576: true; the input reads as it did. -/
def fnExactMostForUptoRow : OpenClaim := { program := "ytiibpldfnnhhlaa", sum := "5020f7a7577934fe48848f069b3faa3063d3f71ffd9e761f6d2f711c0f1cbaf6", func := "loop.example/g01045/laws.FnExactMostFor", spec := "fnExactMostFor", apart := false, narrowed := true }
def FnExactMostForUptoSaid : Prop := fnExactMostForUptoRow.holds Try.pinned (OpenSpec.upto fnExactMostForSpec)

/-- 'laws.FnExactCheapestMany', WHERE WHAT IT READS IS OF BULK AT MOST 1048576: true; the input reads as it did. -/
def fnExactCheapestManyUptoRow : OpenClaim := { program := "ytiibpldfnnhhlaa", sum := "5020f7a7577934fe48848f069b3faa3063d3f71ffd9e761f6d2f711c0f1cbaf6", func := "loop.example/g01045/laws.FnExactCheapestMany", spec := "fnExactCheapestMany", apart := false, narrowed := true }
def FnExactCheapestManyUptoSaid : Prop := fnExactCheapestManyUptoRow.holds Try.pinned (OpenSpec.upto fnExactCheapestManySpec)

/-- 'laws.FnExactBasketPrice', WHERE WHAT IT READS IS OF BULK AT MOST 1048576: true; the input reads as it did. -/
def fnExactBasketPriceUptoRow : OpenClaim := { program := "ytiibpldfnnhhlaa", sum := "5020f7a7577934fe48848f069b3faa3063d3f71ffd9e761f6d2f711c0f1cbaf6", func := "loop.example/g01045/laws.FnExactBasketPrice", spec := "fnExactBasketPrice", apart := false, narrowed := true }
def FnExactBasketPriceUptoSaid : Prop := fnExactBasketPriceUptoRow.holds Try.pinned (OpenSpec.upto fnExactBasketPriceSpec)

/-- 'laws.FnExactRaisePrices', WHERE WHAT IT READS IS OF BULK AT MOST 1048576: true; the input reads as it did. -/
def fnExactRaisePricesUptoRow : OpenClaim := { program := "ytiibpldfnnhhlaa", sum := "5020f7a7577934fe48848f069b3faa3063d3f71ffd9e761f6d2f711c0f1cbaf6", func := "loop.example/g01045/laws.FnExactRaisePrices", spec := "fnExactRaisePrices", apart := false, narrowed := true }
def FnExactRaisePricesUptoSaid : Prop := fnExactRaisePricesUptoRow.holds Try.pinned (OpenSpec.upto fnExactRaisePricesSpec)

/-- 'laws.FnExactOddBreaks', WHERE WHAT IT READS IS OF BULK AT MOST 1048576: true; the input reads as it did. -/
def fnExactOddBreaksUptoRow : OpenClaim := { program := "ytiibpldfnnhhlaa", sum := "5020f7a7577934fe48848f069b3faa3063d3f71ffd9e761f6d2f711c0f1cbaf6", func := "loop.example/g01045/laws.FnExactOddBreaks", spec := "fnExactOddBreaks", apart := false, narrowed := true }
def FnExactOddBreaksUptoSaid : Prop := fnExactOddBreaksUptoRow.holds Try.pinned (OpenSpec.upto fnExactOddBreaksSpec)

/-- 'laws.FnExactValidOffers', WHERE WHAT IT READS IS OF BULK AT MOST 1048576: true; the input reads as it did. -/
def fnExactValidOffersUptoRow : OpenClaim := { program := "ytiibpldfnnhhlaa", sum := "5020f7a7577934fe48848f069b3faa3063d3f71ffd9e761f6d2f711c0f1cbaf6", func := "loop.example/g01045/laws.FnExactValidOffers", spec := "fnExactValidOffers", apart := false, narrowed := true }
def FnExactValidOffersUptoSaid : Prop := fnExactValidOffersUptoRow.holds Try.pinned (OpenSpec.upto fnExactValidOffersSpec)

/-- 'laws.FnExactOfferSaving', WHERE WHAT IT READS IS OF BULK AT MOST 1048576: true; the input reads as it did. -/
def fnExactOfferSavingUptoRow : OpenClaim := { program := "ytiibpldfnnhhlaa", sum := "5020f7a7577934fe48848f069b3faa3063d3f71ffd9e761f6d2f711c0f1cbaf6", func := "loop.example/g01045/laws.FnExactOfferSaving", spec := "fnExactOfferSaving", apart := false, narrowed := true }
def FnExactOfferSavingUptoSaid : Prop := fnExactOfferSavingUptoRow.holds Try.pinned (OpenSpec.upto fnExactOfferSavingSpec)

/-- 'laws.FnExactBestOffers', WHERE WHAT IT READS IS OF BULK AT MOST 1048576: true; the input reads as it did. -/
def fnExactBestOffersUptoRow : OpenClaim := { program := "ytiibpldfnnhhlaa", sum := "5020f7a7577934fe48848f069b3faa3063d3f71ffd9e761f6d2f711c0f1cbaf6", func := "loop.example/g01045/laws.FnExactBestOffers", spec := "fnExactBestOffers", recurses := true, apart := false, narrowed := true }
def FnExactBestOffersUptoSaid : Prop := fnExactBestOffersUptoRow.holds Try.pinned (OpenSpec.upto fnExactBestOffersSpec)

/-- 'laws.FnOffers', WHERE WHAT IT READS IS OF BULK AT MOST 1048576: true; the input reads as it did. -/
def fnOffersUptoRow : OpenClaim := { program := "ytiibpldfnnhhlaa", sum := "5020f7a7577934fe48848f069b3faa3063d3f71ffd9e761f6d2f711c0f1cbaf6", func := "loop.example/g01045/laws.FnOffers", spec := "fnOffers", recurses := true, apart := false, narrowed := true }
def FnOffersUptoSaid : Prop := fnOffersUptoRow.holds Try.pinned (OpenSpec.upto fnOffersSpec)

end Rows
end Go.Proofs.Ytiibpldfnnhhlaa
