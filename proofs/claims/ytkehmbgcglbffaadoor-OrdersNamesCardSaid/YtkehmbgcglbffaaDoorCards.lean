/-
  DERIVED. GIVEN WITH THE SEED: THE CARDS: each row of YtkehmbgcglbffaaDoorRows.lean that lists a variable, with what it lists TIED to the program's text (the seventh form; the later family's looks); each row that meets fmt, with fmt's text TOLD by the authors' own Lean function (tested against real Go, not proved from fmt's source: count such statements apart). THE CARD IS WHAT COUNTS. Prove the row's statement (the work); the ties are given (YtkehmbgcglbffaaDoorTie.lean); close each card by the builder's one call (the guide's Derived/Test/ToyasCard.lean, 'card_holds'). Laid BY PROGRAM, IN A SANDBOX (cutbox-door.mjs). By AI agents, Wed Nov 11 2026. No macro, syntax, notation, axiom, sorry.
-/
import Derived.Test.YtkehmbgcglbffaaDoorRows
import GoSem.ClaimSeven
namespace Go.Proofs.YtkehmbgcglbffaaDoor
namespace Rows

/-- THE TIED CARD OF 'souklaw22.OrdersNames'. -/
def ordersNamesCard : Claim7 := { stood := { row := ordersNamesRow, standIns := [], harness := (true, "ee2aeae4d86922263ac58fee5f62ae70e4e1542f742340c12a855bd8dcf4a025"), looks := false }, kinds := [], alts := [], laidByText := true, laidKinds := [.data], laidTests := true, laidLooks := .later }
def OrdersNamesCardSaid : Prop := Claim7.holds Tryd.pinned (.plain (OpenSpec.ofChange ordersNamesSpec)) ordersNamesCard

/-- THE TIED CARD OF 'souklaw22.OrdersBack'. -/
def ordersBackCard : Claim7 := { stood := { row := ordersBackRow, standIns := [], harness := (true, "ee2aeae4d86922263ac58fee5f62ae70e4e1542f742340c12a855bd8dcf4a025"), looks := false }, kinds := [], alts := [], laidByText := true, laidKinds := [.data], laidTests := true, laidLooks := .later }
def OrdersBackCardSaid : Prop := Claim7.holds Tryd.pinned (.plain (OpenSpec.ofChange ordersBackSpec)) ordersBackCard

/-- THE SECOND FORM's CARD OF 'souklaw22.OrdersNames'. -/
def ordersNamesUptoCard : Claim7 := { stood := { row := ordersNamesUptoRow, standIns := [], harness := (true, "ee2aeae4d86922263ac58fee5f62ae70e4e1542f742340c12a855bd8dcf4a025"), looks := false }, kinds := [], alts := [], laidByText := true, laidKinds := [.data], laidTests := true, laidLooks := .later }
def OrdersNamesUptoCardSaid : Prop := Claim7.holds Tryd.pinned (.plain (OpenSpec.upto ordersNamesSpec)) ordersNamesUptoCard

/-- THE SECOND FORM's CARD OF 'souklaw22.OrdersBack'. -/
def ordersBackUptoCard : Claim7 := { stood := { row := ordersBackUptoRow, standIns := [], harness := (true, "ee2aeae4d86922263ac58fee5f62ae70e4e1542f742340c12a855bd8dcf4a025"), looks := false }, kinds := [], alts := [], laidByText := true, laidKinds := [.data], laidTests := true, laidLooks := .later }
def OrdersBackUptoCardSaid : Prop := Claim7.holds Tryd.pinned (.plain (OpenSpec.upto ordersBackSpec)) ordersBackUptoCard
end Rows
end Go.Proofs.YtkehmbgcglbffaaDoor
