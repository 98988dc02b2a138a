/-
  DERIVED. GIVEN WITH THE SEED: THE CARDS: each row of YtiagckbdofeecaaDoorRows.lean that lists a variable, with what it lists TIED to the program's text (the seventh form; the later family's looks); each row that meets fmt, with fmt's text TOLD by the authors' own Lean function (tested against real Go, not proved from fmt's source: count such statements apart). THE CARD IS WHAT COUNTS. Prove the row's statement (the work); the ties are given (YtiagckbdofeecaaDoorTie.lean); close each card by the builder's one call (the guide's Derived/Test/ToyasCard.lean, 'card_holds'). Laid BY PROGRAM, IN A SANDBOX (cutbox-door.mjs). By AI agents, Wed Nov 11 2026. No macro, syntax, notation, axiom, sorry.
-/
import Derived.Test.YtiagckbdofeecaaDoorRows
import GoSem.ClaimSeven
namespace Go.Proofs.YtiagckbdofeecaaDoor
namespace Rows

/-- THE TIED CARD OF 'laws.FnExactHireText'. -/
def fnExactHireTextCard : Claim7 := { stood := { row := fnExactHireTextRow, standIns := [], harness := (true, "c6fbea0858ce9255e6d012d4b8f8558214a70c692d796e27c8d4e564c8f90701"), looks := false }, kinds := [], alts := [], laidByText := true, laidKinds := [.data, .data, .data], laidTests := true, laidLooks := .later }
def FnExactHireTextCardSaid : Prop := Claim7.holds Tryd.pinned (.plain (OpenSpec.ofChange fnExactHireTextSpec)) fnExactHireTextCard

/-- THE TIED CARD OF 'laws.FnExactReadHire'. -/
def fnExactReadHireCard : Claim7 := { stood := { row := fnExactReadHireRow, standIns := [], harness := (true, "c6fbea0858ce9255e6d012d4b8f8558214a70c692d796e27c8d4e564c8f90701"), looks := false }, kinds := [], alts := [], laidByText := true, laidKinds := [.data, .data, .data], laidTests := true, laidLooks := .later }
def FnExactReadHireCardSaid : Prop := Claim7.holds Tryd.pinned (.plain (OpenSpec.ofChange fnExactReadHireSpec)) fnExactReadHireCard

/-- THE TIED CARD OF 'laws.FnHireBookings'. -/
def fnHireBookingsCard : Claim7 := { stood := { row := fnHireBookingsRow, standIns := [], harness := (true, "c6fbea0858ce9255e6d012d4b8f8558214a70c692d796e27c8d4e564c8f90701"), looks := false }, kinds := [], alts := [], laidByText := true, laidKinds := [.data, .data, .data], laidTests := true, laidLooks := .later }
def FnHireBookingsCardSaid : Prop := Claim7.holds Tryd.pinned (.plain (OpenSpec.ofChange fnHireBookingsSpec)) fnHireBookingsCard

/-- THE SECOND FORM's CARD OF 'laws.FnExactHireText'. -/
def fnExactHireTextUptoCard : Claim7 := { stood := { row := fnExactHireTextUptoRow, standIns := [], harness := (true, "c6fbea0858ce9255e6d012d4b8f8558214a70c692d796e27c8d4e564c8f90701"), looks := false }, kinds := [], alts := [], laidByText := true, laidKinds := [.data, .data, .data], laidTests := true, laidLooks := .later }
def FnExactHireTextUptoCardSaid : Prop := Claim7.holds Tryd.pinned (.plain (OpenSpec.upto fnExactHireTextSpec)) fnExactHireTextUptoCard

/-- THE SECOND FORM's CARD OF 'laws.FnExactReadHire'. -/
def fnExactReadHireUptoCard : Claim7 := { stood := { row := fnExactReadHireUptoRow, standIns := [], harness := (true, "c6fbea0858ce9255e6d012d4b8f8558214a70c692d796e27c8d4e564c8f90701"), looks := false }, kinds := [], alts := [], laidByText := true, laidKinds := [.data, .data, .data], laidTests := true, laidLooks := .later }
def FnExactReadHireUptoCardSaid : Prop := Claim7.holds Tryd.pinned (.plain (OpenSpec.upto fnExactReadHireSpec)) fnExactReadHireUptoCard

/-- THE SECOND FORM's CARD OF 'laws.FnHireBookings'. -/
def fnHireBookingsUptoCard : Claim7 := { stood := { row := fnHireBookingsUptoRow, standIns := [], harness := (true, "c6fbea0858ce9255e6d012d4b8f8558214a70c692d796e27c8d4e564c8f90701"), looks := false }, kinds := [], alts := [], laidByText := true, laidKinds := [.data, .data, .data], laidTests := true, laidLooks := .later }
def FnHireBookingsUptoCardSaid : Prop := Claim7.holds Tryd.pinned (.plain (OpenSpec.upto fnHireBookingsSpec)) fnHireBookingsUptoCard
end Rows
end Go.Proofs.YtiagckbdofeecaaDoor
