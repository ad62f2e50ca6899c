/-
  DERIVED. GIVEN WITH THE SEED: THE CARDS: each row of YtkehmbgcglbffaaGreatDoorRows.lean that lists a variable, with what it lists TIED to the program's text (the seventh form; the later family's looks); each row that meets fmt, with fmt's text TOLD by the authors' own Lean function (tested against real Go, not proved from fmt's source: count such statements apart). THE CARD IS WHAT COUNTS. Prove the row's statement (the work); the ties are given (YtkehmbgcglbffaaGreatDoorTie.lean); close each card by the builder's one call (the guide's Derived/Test/ToyasCard.lean, 'card_holds'). Laid BY PROGRAM, IN A SANDBOX (cutbox-door.mjs). By AI agents, Wed Nov 11 2026. No macro, syntax, notation, axiom, sorry.
-/
import Derived.Test.YtkehmbgcglbffaaGreatDoorRows
import GoSem.ClaimSeven
namespace Go.Proofs.YtkehmbgcglbffaaGreatDoor
namespace Rows

/-- THE TIED CARD OF 'souklaw22.OrdersTells'. -/
def ordersTellsCard : Claim7 := { stood := { row := ordersTellsRow, standIns := [], harness := (true, "92286925d8f62f188eb6b4061390c89dd1ae837945d182445e63c41dd38383f6"), looks := false }, kinds := [], alts := [], laidByText := true, laidKinds := [.data], laidTests := true, laidLooks := .later }
def OrdersTellsCardSaid : Prop := Claim7.holds Tryz.pinned (.plain (OpenSpec.ofChange ordersTellsSpec)) ordersTellsCard

/-- THE TIED CARD OF 'souklaw22.OrdersParted'. -/
def ordersPartedCard : Claim7 := { stood := { row := ordersPartedRow, standIns := [], harness := (true, "92286925d8f62f188eb6b4061390c89dd1ae837945d182445e63c41dd38383f6"), looks := false }, kinds := [], alts := [], laidByText := true, laidKinds := [.data], laidTests := true, laidLooks := .later }
def OrdersPartedCardSaid : Prop := Claim7.holds Tryz.pinned (.plain (OpenSpec.ofChange ordersPartedSpec)) ordersPartedCard

/-- THE TIED CARD OF 'souklaw22.OrdersAll'. -/
def ordersAllCard : Claim7 := { stood := { row := ordersAllRow, standIns := [], harness := (true, "92286925d8f62f188eb6b4061390c89dd1ae837945d182445e63c41dd38383f6"), looks := false }, kinds := [], alts := [], laidByText := true, laidKinds := [.data], laidTests := true, laidLooks := .later }
def OrdersAllCardSaid : Prop := Claim7.holds Tryz.pinned (.plain (OpenSpec.ofChange ordersAllSpec)) ordersAllCard

/-- THE SECOND FORM's CARD OF 'souklaw22.OrdersTells'. -/
def ordersTellsUptoCard : Claim7 := { stood := { row := ordersTellsUptoRow, standIns := [], harness := (true, "92286925d8f62f188eb6b4061390c89dd1ae837945d182445e63c41dd38383f6"), looks := false }, kinds := [], alts := [], laidByText := true, laidKinds := [.data], laidTests := true, laidLooks := .later }
def OrdersTellsUptoCardSaid : Prop := Claim7.holds Tryz.pinned (.plain (OpenSpec.upto ordersTellsSpec)) ordersTellsUptoCard

/-- THE SECOND FORM's CARD OF 'souklaw22.OrdersParted'. -/
def ordersPartedUptoCard : Claim7 := { stood := { row := ordersPartedUptoRow, standIns := [], harness := (true, "92286925d8f62f188eb6b4061390c89dd1ae837945d182445e63c41dd38383f6"), looks := false }, kinds := [], alts := [], laidByText := true, laidKinds := [.data], laidTests := true, laidLooks := .later }
def OrdersPartedUptoCardSaid : Prop := Claim7.holds Tryz.pinned (.plain (OpenSpec.upto ordersPartedSpec)) ordersPartedUptoCard

/-- THE SECOND FORM's CARD OF 'souklaw22.OrdersAll'. -/
def ordersAllUptoCard : Claim7 := { stood := { row := ordersAllUptoRow, standIns := [], harness := (true, "92286925d8f62f188eb6b4061390c89dd1ae837945d182445e63c41dd38383f6"), looks := false }, kinds := [], alts := [], laidByText := true, laidKinds := [.data], laidTests := true, laidLooks := .later }
def OrdersAllUptoCardSaid : Prop := Claim7.holds Tryz.pinned (.plain (OpenSpec.upto ordersAllSpec)) ordersAllUptoCard
end Rows
end Go.Proofs.YtkehmbgcglbffaaGreatDoor
