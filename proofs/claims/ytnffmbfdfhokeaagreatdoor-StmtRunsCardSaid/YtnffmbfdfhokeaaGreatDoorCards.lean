/-
  DERIVED. GIVEN WITH THE SEED: THE CARDS: each row of YtnffmbfdfhokeaaGreatDoorRows.lean that lists a variable, with what it lists TIED to the program's text (the seventh form; the later family's looks); each row that meets fmt, with fmt's text TOLD by the authors' own Lean function (tested against real Go, not proved from fmt's source: count such statements apart). THE CARD IS WHAT COUNTS. Prove the row's statement (the work); the ties are given (YtnffmbfdfhokeaaGreatDoorTie.lean); close each card by the builder's one call (the guide's Derived/Test/ToyasCard.lean, 'card_holds'). Laid BY PROGRAM, IN A SANDBOX (cutbox-door.mjs). By AI agents, Wed Nov 11 2026. No macro, syntax, notation, axiom, sorry.
-/
import Derived.Test.YtnffmbfdfhokeaaGreatDoorRows
import GoSem.ClaimSeven
namespace Go.Proofs.YtnffmbfdfhokeaaGreatDoor
namespace Rows

/-- THE TIED CARD OF 'souklaw24.StmtTells'. -/
def stmtTellsCard : Claim7 := { stood := { row := stmtTellsRow, standIns := [], harness := (true, "28b8a61e8236f19de4108443b75369ebc678c2b20abb73897634beb71150d199"), looks := false }, kinds := [], alts := [], laidByText := true, laidKinds := [.data], laidTests := true, laidLooks := .later }
def StmtTellsCardSaid : Prop := Claim7.holds Tryz.pinned (.plain (OpenSpec.ofChange stmtTellsSpec)) stmtTellsCard

/-- THE TIED CARD OF 'souklaw24.StmtRuns'. -/
def stmtRunsCard : Claim7 := { stood := { row := stmtRunsRow, standIns := [], harness := (true, "28b8a61e8236f19de4108443b75369ebc678c2b20abb73897634beb71150d199"), looks := false }, kinds := [], alts := [], laidByText := true, laidKinds := [.data], laidTests := true, laidLooks := .later }
def StmtRunsCardSaid : Prop := Claim7.holds Tryz.pinned (.plain (OpenSpec.ofChange stmtRunsSpec)) stmtRunsCard

/-- THE SECOND FORM's CARD OF 'souklaw24.StmtTells'. -/
def stmtTellsUptoCard : Claim7 := { stood := { row := stmtTellsUptoRow, standIns := [], harness := (true, "28b8a61e8236f19de4108443b75369ebc678c2b20abb73897634beb71150d199"), looks := false }, kinds := [], alts := [], laidByText := true, laidKinds := [.data], laidTests := true, laidLooks := .later }
def StmtTellsUptoCardSaid : Prop := Claim7.holds Tryz.pinned (.plain (OpenSpec.upto stmtTellsSpec)) stmtTellsUptoCard

/-- THE SECOND FORM's CARD OF 'souklaw24.StmtRuns'. -/
def stmtRunsUptoCard : Claim7 := { stood := { row := stmtRunsUptoRow, standIns := [], harness := (true, "28b8a61e8236f19de4108443b75369ebc678c2b20abb73897634beb71150d199"), looks := false }, kinds := [], alts := [], laidByText := true, laidKinds := [.data], laidTests := true, laidLooks := .later }
def StmtRunsUptoCardSaid : Prop := Claim7.holds Tryz.pinned (.plain (OpenSpec.upto stmtRunsSpec)) stmtRunsUptoCard
end Rows
end Go.Proofs.YtnffmbfdfhokeaaGreatDoor
