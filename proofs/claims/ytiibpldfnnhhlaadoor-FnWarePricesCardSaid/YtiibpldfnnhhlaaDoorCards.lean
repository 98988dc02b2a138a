/-
  DERIVED. GIVEN WITH THE SEED: THE CARDS: each row of YtiibpldfnnhhlaaDoorRows.lean that lists a variable, with what it lists TIED to the program's text (the seventh form; the later family's looks); each row that meets fmt, with fmt's text TOLD by the authors' own Lean function (tested against real Go, not proved from fmt's source: count such statements apart). THE CARD IS WHAT COUNTS. Prove the row's statement (the work); the ties are given (YtiibpldfnnhhlaaDoorTie.lean); close each card by the builder's one call (the guide's Derived/Test/ToyasCard.lean, 'card_holds'). Laid BY PROGRAM, IN A SANDBOX (cutbox-door.mjs). By AI agents, Wed Nov 11 2026. No macro, syntax, notation, axiom, sorry.
-/
import Derived.Test.YtiibpldfnnhhlaaDoorRows
import GoSem.ClaimSeven
namespace Go.Proofs.YtiibpldfnnhhlaaDoor
namespace Rows

/-- THE TIED CARD OF 'laws.FnExactWareText'. -/
def fnExactWareTextCard : Claim7 := { stood := { row := fnExactWareTextRow, standIns := [], harness := (true, "0cb0b7bd48c2ecc09cababc91d4daf0247c4db1639f2ee04aae061b8d01fd755"), looks := false }, kinds := [], alts := [], laidByText := true, laidKinds := [.data, .data, .data], laidTests := true, laidLooks := .later }
def FnExactWareTextCardSaid : Prop := Claim7.holds Tryd.pinned (.plain (OpenSpec.ofChange fnExactWareTextSpec)) fnExactWareTextCard

/-- THE TIED CARD OF 'laws.FnExactReadWare'. -/
def fnExactReadWareCard : Claim7 := { stood := { row := fnExactReadWareRow, standIns := [], harness := (true, "0cb0b7bd48c2ecc09cababc91d4daf0247c4db1639f2ee04aae061b8d01fd755"), looks := false }, kinds := [], alts := [], laidByText := true, laidKinds := [.data, .data, .data], laidTests := true, laidLooks := .later }
def FnExactReadWareCardSaid : Prop := Claim7.holds Tryd.pinned (.plain (OpenSpec.ofChange fnExactReadWareSpec)) fnExactReadWareCard

/-- THE TIED CARD OF 'laws.FnWarePrices'. -/
def fnWarePricesCard : Claim7 := { stood := { row := fnWarePricesRow, standIns := [], harness := (true, "0cb0b7bd48c2ecc09cababc91d4daf0247c4db1639f2ee04aae061b8d01fd755"), looks := false }, kinds := [], alts := [], laidByText := true, laidKinds := [.data, .data, .data], laidTests := true, laidLooks := .later }
def FnWarePricesCardSaid : Prop := Claim7.holds Tryd.pinned (.plain (OpenSpec.ofChange fnWarePricesSpec)) fnWarePricesCard

/-- THE SECOND FORM's CARD OF 'laws.FnExactWareText'. -/
def fnExactWareTextUptoCard : Claim7 := { stood := { row := fnExactWareTextUptoRow, standIns := [], harness := (true, "0cb0b7bd48c2ecc09cababc91d4daf0247c4db1639f2ee04aae061b8d01fd755"), looks := false }, kinds := [], alts := [], laidByText := true, laidKinds := [.data, .data, .data], laidTests := true, laidLooks := .later }
def FnExactWareTextUptoCardSaid : Prop := Claim7.holds Tryd.pinned (.plain (OpenSpec.upto fnExactWareTextSpec)) fnExactWareTextUptoCard

/-- THE SECOND FORM's CARD OF 'laws.FnExactReadWare'. -/
def fnExactReadWareUptoCard : Claim7 := { stood := { row := fnExactReadWareUptoRow, standIns := [], harness := (true, "0cb0b7bd48c2ecc09cababc91d4daf0247c4db1639f2ee04aae061b8d01fd755"), looks := false }, kinds := [], alts := [], laidByText := true, laidKinds := [.data, .data, .data], laidTests := true, laidLooks := .later }
def FnExactReadWareUptoCardSaid : Prop := Claim7.holds Tryd.pinned (.plain (OpenSpec.upto fnExactReadWareSpec)) fnExactReadWareUptoCard

/-- THE SECOND FORM's CARD OF 'laws.FnWarePrices'. -/
def fnWarePricesUptoCard : Claim7 := { stood := { row := fnWarePricesUptoRow, standIns := [], harness := (true, "0cb0b7bd48c2ecc09cababc91d4daf0247c4db1639f2ee04aae061b8d01fd755"), looks := false }, kinds := [], alts := [], laidByText := true, laidKinds := [.data, .data, .data], laidTests := true, laidLooks := .later }
def FnWarePricesUptoCardSaid : Prop := Claim7.holds Tryd.pinned (.plain (OpenSpec.upto fnWarePricesSpec)) fnWarePricesUptoCard
end Rows
end Go.Proofs.YtiibpldfnnhhlaaDoor
