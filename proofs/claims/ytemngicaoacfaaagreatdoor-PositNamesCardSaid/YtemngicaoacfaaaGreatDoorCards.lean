/-
  DERIVED. GIVEN WITH THE SEED: THE CARDS: each row of YtemngicaoacfaaaGreatDoorRows.lean that lists a variable, with what it lists TIED to the program's text (the seventh form; the later family's looks); each row that meets fmt, with fmt's text TOLD by the authors' own Lean function (tested against real Go, not proved from fmt's source: count such statements apart). THE CARD IS WHAT COUNTS. Prove the row's statement (the work); the ties are given (YtemngicaoacfaaaGreatDoorTie.lean); close each card by the builder's one call (the guide's Derived/Test/ToyasCard.lean, 'card_holds'). Laid BY PROGRAM, IN A SANDBOX (cutbox-door.mjs). By AI agents, Wed Nov 11 2026. No macro, syntax, notation, axiom, sorry.
-/
import Derived.Test.YtemngicaoacfaaaGreatDoorRows
import GoSem.ClaimSeven
namespace Go.Proofs.YtemngicaoacfaaaGreatDoor
namespace Rows

/-- THE TIED CARD OF 'souklaw23.PositEvents'. -/
def positEventsCard : Claim7 := { stood := { row := positEventsRow, standIns := [], harness := (true, "bc14626de8671fe056bc101160101831099c9fba5249131a73b1c47841d3af97"), looks := false }, kinds := [], alts := [], laidByText := true, laidKinds := [.data], laidTests := true, laidLooks := .later }
def PositEventsCardSaid : Prop := Claim7.holds Tryz.pinned (.plain (OpenSpec.ofChange positEventsSpec)) positEventsCard

/-- THE TIED CARD OF 'souklaw23.PositSums'. -/
def positSumsCard : Claim7 := { stood := { row := positSumsRow, standIns := [], harness := (true, "bc14626de8671fe056bc101160101831099c9fba5249131a73b1c47841d3af97"), looks := false }, kinds := [], alts := [], laidByText := true, laidKinds := [.data], laidTests := true, laidLooks := .later }
def PositSumsCardSaid : Prop := Claim7.holds Tryz.pinned (.plain (OpenSpec.ofChange positSumsSpec)) positSumsCard

/-- THE TIED CARD OF 'souklaw23.PositAll'. -/
def positAllCard : Claim7 := { stood := { row := positAllRow, standIns := [], harness := (true, "bc14626de8671fe056bc101160101831099c9fba5249131a73b1c47841d3af97"), looks := false }, kinds := [], alts := [], laidByText := true, laidKinds := [.data], laidTests := true, laidLooks := .later }
def PositAllCardSaid : Prop := Claim7.holds Tryz.pinned (.plain (OpenSpec.ofChange positAllSpec)) positAllCard

/-- THE TIED CARD OF 'souklaw23.PositNames'. -/
def positNamesCard : Claim7 := { stood := { row := positNamesRow, standIns := [], harness := (true, "bc14626de8671fe056bc101160101831099c9fba5249131a73b1c47841d3af97"), looks := false }, kinds := [], alts := [], laidByText := true, laidKinds := [.data], laidTests := true, laidLooks := .later }
def PositNamesCardSaid : Prop := Claim7.holds Tryz.pinned (.plain (OpenSpec.ofChange positNamesSpec)) positNamesCard

/-- THE TIED CARD OF 'souklaw23.PositNever'. -/
def positNeverCard : Claim7 := { stood := { row := positNeverRow, standIns := [], harness := (true, "bc14626de8671fe056bc101160101831099c9fba5249131a73b1c47841d3af97"), looks := false }, kinds := [], alts := [], laidByText := true, laidKinds := [.data], laidTests := true, laidLooks := .later }
def PositNeverCardSaid : Prop := Claim7.holds Tryz.pinned (.plain (OpenSpec.ofChange positNeverSpec)) positNeverCard

/-- THE TIED CARD OF 'souklaw23.PositParts'. -/
def positPartsCard : Claim7 := { stood := { row := positPartsRow, standIns := [], harness := (true, "bc14626de8671fe056bc101160101831099c9fba5249131a73b1c47841d3af97"), looks := false }, kinds := [], alts := [], laidByText := true, laidKinds := [.data], laidTests := true, laidLooks := .later }
def PositPartsCardSaid : Prop := Claim7.holds Tryz.pinned (.plain (OpenSpec.ofChange positPartsSpec)) positPartsCard

/-- THE SECOND FORM's CARD OF 'souklaw23.PositEvents'. -/
def positEventsUptoCard : Claim7 := { stood := { row := positEventsUptoRow, standIns := [], harness := (true, "bc14626de8671fe056bc101160101831099c9fba5249131a73b1c47841d3af97"), looks := false }, kinds := [], alts := [], laidByText := true, laidKinds := [.data], laidTests := true, laidLooks := .later }
def PositEventsUptoCardSaid : Prop := Claim7.holds Tryz.pinned (.plain (OpenSpec.upto positEventsSpec)) positEventsUptoCard

/-- THE SECOND FORM's CARD OF 'souklaw23.PositSums'. -/
def positSumsUptoCard : Claim7 := { stood := { row := positSumsUptoRow, standIns := [], harness := (true, "bc14626de8671fe056bc101160101831099c9fba5249131a73b1c47841d3af97"), looks := false }, kinds := [], alts := [], laidByText := true, laidKinds := [.data], laidTests := true, laidLooks := .later }
def PositSumsUptoCardSaid : Prop := Claim7.holds Tryz.pinned (.plain (OpenSpec.upto positSumsSpec)) positSumsUptoCard

/-- THE SECOND FORM's CARD OF 'souklaw23.PositAll'. -/
def positAllUptoCard : Claim7 := { stood := { row := positAllUptoRow, standIns := [], harness := (true, "bc14626de8671fe056bc101160101831099c9fba5249131a73b1c47841d3af97"), looks := false }, kinds := [], alts := [], laidByText := true, laidKinds := [.data], laidTests := true, laidLooks := .later }
def PositAllUptoCardSaid : Prop := Claim7.holds Tryz.pinned (.plain (OpenSpec.upto positAllSpec)) positAllUptoCard

/-- THE SECOND FORM's CARD OF 'souklaw23.PositNames'. -/
def positNamesUptoCard : Claim7 := { stood := { row := positNamesUptoRow, standIns := [], harness := (true, "bc14626de8671fe056bc101160101831099c9fba5249131a73b1c47841d3af97"), looks := false }, kinds := [], alts := [], laidByText := true, laidKinds := [.data], laidTests := true, laidLooks := .later }
def PositNamesUptoCardSaid : Prop := Claim7.holds Tryz.pinned (.plain (OpenSpec.upto positNamesSpec)) positNamesUptoCard

/-- THE SECOND FORM's CARD OF 'souklaw23.PositNever'. -/
def positNeverUptoCard : Claim7 := { stood := { row := positNeverUptoRow, standIns := [], harness := (true, "bc14626de8671fe056bc101160101831099c9fba5249131a73b1c47841d3af97"), looks := false }, kinds := [], alts := [], laidByText := true, laidKinds := [.data], laidTests := true, laidLooks := .later }
def PositNeverUptoCardSaid : Prop := Claim7.holds Tryz.pinned (.plain (OpenSpec.upto positNeverSpec)) positNeverUptoCard

/-- THE SECOND FORM's CARD OF 'souklaw23.PositParts'. -/
def positPartsUptoCard : Claim7 := { stood := { row := positPartsUptoRow, standIns := [], harness := (true, "bc14626de8671fe056bc101160101831099c9fba5249131a73b1c47841d3af97"), looks := false }, kinds := [], alts := [], laidByText := true, laidKinds := [.data], laidTests := true, laidLooks := .later }
def PositPartsUptoCardSaid : Prop := Claim7.holds Tryz.pinned (.plain (OpenSpec.upto positPartsSpec)) positPartsUptoCard
end Rows
end Go.Proofs.YtemngicaoacfaaaGreatDoor
