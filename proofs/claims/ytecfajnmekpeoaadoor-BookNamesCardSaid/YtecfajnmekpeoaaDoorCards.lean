/-
  DERIVED. GIVEN WITH THE SEED: THE CARDS: each row of YtecfajnmekpeoaaDoorRows.lean that lists a variable, with what it lists TIED to the program's text (the seventh form; the later family's looks); each row that meets fmt, with fmt's text TOLD by the authors' own Lean function (tested against real Go, not proved from fmt's source: count such statements apart). THE CARD IS WHAT COUNTS. Prove the row's statement (the work); the ties are given (YtecfajnmekpeoaaDoorTie.lean); close each card by the builder's one call (the guide's Derived/Test/ToyasCard.lean, 'card_holds'). Laid BY PROGRAM, IN A SANDBOX (cutbox-door.mjs). By AI agents, Wed Nov 11 2026. No macro, syntax, notation, axiom, sorry.
-/
import Derived.Test.YtecfajnmekpeoaaDoorRows
import GoSem.ClaimSeven
namespace Go.Proofs.YtecfajnmekpeoaaDoor
namespace Rows

/-- THE TIED CARD OF 'souklaw16.BookHolds'. -/
def bookHoldsCard : Claim7 := { stood := { row := bookHoldsRow, standIns := [], harness := (true, "8e63908113b75c5879759762322c13bfa61edad03b95f83844de7ae8efe82835"), looks := false }, kinds := [], alts := [], laidByText := true, laidKinds := [.funcs], laidTests := true, laidLooks := .later }
def BookHoldsCardSaid : Prop := Claim7.holds Tryd.pinned (.plain (OpenSpec.ofChange bookHoldsSpec)) bookHoldsCard

/-- THE TIED CARD OF 'souklaw16.BookRow'. -/
def bookRowCard : Claim7 := { stood := { row := bookRowRow, standIns := [], harness := (true, "8e63908113b75c5879759762322c13bfa61edad03b95f83844de7ae8efe82835"), looks := false }, kinds := [], alts := [], laidByText := true, laidKinds := [.funcs], laidTests := true, laidLooks := .later }
def BookRowCardSaid : Prop := Claim7.holds Tryd.pinned (.plain (OpenSpec.ofChange bookRowSpec)) bookRowCard

/-- THE TIED CARD OF 'souklaw16.BookCrossing'. -/
def bookCrossingCard : Claim7 := { stood := { row := bookCrossingRow, standIns := [], harness := (true, "8e63908113b75c5879759762322c13bfa61edad03b95f83844de7ae8efe82835"), looks := false }, kinds := [], alts := [], laidByText := true, laidKinds := [.funcs], laidTests := true, laidLooks := .later }
def BookCrossingCardSaid : Prop := Claim7.holds Tryd.pinned (.plain (OpenSpec.ofChange bookCrossingSpec)) bookCrossingCard

/-- THE TIED CARD OF 'souklaw16.BookTells'. -/
def bookTellsCard : Claim7 := { stood := { row := bookTellsRow, standIns := [], harness := (true, "8e63908113b75c5879759762322c13bfa61edad03b95f83844de7ae8efe82835"), looks := false }, kinds := [], alts := [], laidByText := true, laidKinds := [.funcs], laidTests := true, laidLooks := .later }
def BookTellsCardSaid : Prop := Claim7.holds Tryd.pinned (.plain (OpenSpec.ofChange bookTellsSpec)) bookTellsCard

/-- THE TIED CARD OF 'souklaw16.BookFirst'. -/
def bookFirstCard : Claim7 := { stood := { row := bookFirstRow, standIns := [], harness := (true, "8e63908113b75c5879759762322c13bfa61edad03b95f83844de7ae8efe82835"), looks := false }, kinds := [], alts := [], laidByText := true, laidKinds := [.funcs], laidTests := true, laidLooks := .later }
def BookFirstCardSaid : Prop := Claim7.holds Tryd.pinned (.plain (OpenSpec.ofChange bookFirstSpec)) bookFirstCard

/-- THE TIED CARD OF 'souklaw16.BookMakes'. -/
def bookMakesCard : Claim7 := { stood := { row := bookMakesRow, standIns := [], harness := (true, "8e63908113b75c5879759762322c13bfa61edad03b95f83844de7ae8efe82835"), looks := false }, kinds := [], alts := [], laidByText := true, laidKinds := [.funcs], laidTests := true, laidLooks := .later }
def BookMakesCardSaid : Prop := Claim7.holds Tryd.pinned (.plain (OpenSpec.ofChange bookMakesSpec)) bookMakesCard

/-- THE TIED CARD OF 'souklaw16.BookBack'. -/
def bookBackCard : Claim7 := { stood := { row := bookBackRow, standIns := [], harness := (true, "8e63908113b75c5879759762322c13bfa61edad03b95f83844de7ae8efe82835"), looks := false }, kinds := [], alts := [], laidByText := true, laidKinds := [.funcs], laidTests := true, laidLooks := .later }
def BookBackCardSaid : Prop := Claim7.holds Tryd.pinned (.plain (OpenSpec.ofChange bookBackSpec)) bookBackCard

/-- THE TIED CARD OF 'souklaw16.BookNames'. -/
def bookNamesCard : Claim7 := { stood := { row := bookNamesRow, standIns := [], harness := (true, "8e63908113b75c5879759762322c13bfa61edad03b95f83844de7ae8efe82835"), looks := false }, kinds := [], alts := [], laidByText := true, laidKinds := [.funcs], laidTests := true, laidLooks := .later }
def BookNamesCardSaid : Prop := Claim7.holds Tryd.pinned (.plain (OpenSpec.ofChange bookNamesSpec)) bookNamesCard

/-- THE SECOND FORM's CARD OF 'souklaw16.BookHolds'. -/
def bookHoldsUptoCard : Claim7 := { stood := { row := bookHoldsUptoRow, standIns := [], harness := (true, "8e63908113b75c5879759762322c13bfa61edad03b95f83844de7ae8efe82835"), looks := false }, kinds := [], alts := [], laidByText := true, laidKinds := [.funcs], laidTests := true, laidLooks := .later }
def BookHoldsUptoCardSaid : Prop := Claim7.holds Tryd.pinned (.plain (OpenSpec.upto bookHoldsSpec)) bookHoldsUptoCard

/-- THE SECOND FORM's CARD OF 'souklaw16.BookRow'. -/
def bookRowUptoCard : Claim7 := { stood := { row := bookRowUptoRow, standIns := [], harness := (true, "8e63908113b75c5879759762322c13bfa61edad03b95f83844de7ae8efe82835"), looks := false }, kinds := [], alts := [], laidByText := true, laidKinds := [.funcs], laidTests := true, laidLooks := .later }
def BookRowUptoCardSaid : Prop := Claim7.holds Tryd.pinned (.plain (OpenSpec.upto bookRowSpec)) bookRowUptoCard

/-- THE SECOND FORM's CARD OF 'souklaw16.BookCrossing'. -/
def bookCrossingUptoCard : Claim7 := { stood := { row := bookCrossingUptoRow, standIns := [], harness := (true, "8e63908113b75c5879759762322c13bfa61edad03b95f83844de7ae8efe82835"), looks := false }, kinds := [], alts := [], laidByText := true, laidKinds := [.funcs], laidTests := true, laidLooks := .later }
def BookCrossingUptoCardSaid : Prop := Claim7.holds Tryd.pinned (.plain (OpenSpec.upto bookCrossingSpec)) bookCrossingUptoCard

/-- THE SECOND FORM's CARD OF 'souklaw16.BookTells'. -/
def bookTellsUptoCard : Claim7 := { stood := { row := bookTellsUptoRow, standIns := [], harness := (true, "8e63908113b75c5879759762322c13bfa61edad03b95f83844de7ae8efe82835"), looks := false }, kinds := [], alts := [], laidByText := true, laidKinds := [.funcs], laidTests := true, laidLooks := .later }
def BookTellsUptoCardSaid : Prop := Claim7.holds Tryd.pinned (.plain (OpenSpec.upto bookTellsSpec)) bookTellsUptoCard

/-- THE SECOND FORM's CARD OF 'souklaw16.BookFirst'. -/
def bookFirstUptoCard : Claim7 := { stood := { row := bookFirstUptoRow, standIns := [], harness := (true, "8e63908113b75c5879759762322c13bfa61edad03b95f83844de7ae8efe82835"), looks := false }, kinds := [], alts := [], laidByText := true, laidKinds := [.funcs], laidTests := true, laidLooks := .later }
def BookFirstUptoCardSaid : Prop := Claim7.holds Tryd.pinned (.plain (OpenSpec.upto bookFirstSpec)) bookFirstUptoCard

/-- THE SECOND FORM's CARD OF 'souklaw16.BookMakes'. -/
def bookMakesUptoCard : Claim7 := { stood := { row := bookMakesUptoRow, standIns := [], harness := (true, "8e63908113b75c5879759762322c13bfa61edad03b95f83844de7ae8efe82835"), looks := false }, kinds := [], alts := [], laidByText := true, laidKinds := [.funcs], laidTests := true, laidLooks := .later }
def BookMakesUptoCardSaid : Prop := Claim7.holds Tryd.pinned (.plain (OpenSpec.upto bookMakesSpec)) bookMakesUptoCard

/-- THE SECOND FORM's CARD OF 'souklaw16.BookBack'. -/
def bookBackUptoCard : Claim7 := { stood := { row := bookBackUptoRow, standIns := [], harness := (true, "8e63908113b75c5879759762322c13bfa61edad03b95f83844de7ae8efe82835"), looks := false }, kinds := [], alts := [], laidByText := true, laidKinds := [.funcs], laidTests := true, laidLooks := .later }
def BookBackUptoCardSaid : Prop := Claim7.holds Tryd.pinned (.plain (OpenSpec.upto bookBackSpec)) bookBackUptoCard

/-- THE SECOND FORM's CARD OF 'souklaw16.BookNames'. -/
def bookNamesUptoCard : Claim7 := { stood := { row := bookNamesUptoRow, standIns := [], harness := (true, "8e63908113b75c5879759762322c13bfa61edad03b95f83844de7ae8efe82835"), looks := false }, kinds := [], alts := [], laidByText := true, laidKinds := [.funcs], laidTests := true, laidLooks := .later }
def BookNamesUptoCardSaid : Prop := Claim7.holds Tryd.pinned (.plain (OpenSpec.upto bookNamesSpec)) bookNamesUptoCard
end Rows
end Go.Proofs.YtecfajnmekpeoaaDoor
