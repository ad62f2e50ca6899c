/-
  DERIVED. GIVEN WITH THE SEED: THE CARDS: each row of YtncicecmhibpcaaGreatDoorRows.lean that lists a variable, with what it lists TIED to the program's text (the seventh form; the later family's looks); each row that meets fmt, with fmt's text TOLD by the authors' own Lean function (tested against real Go, not proved from fmt's source: count such statements apart). THE CARD IS WHAT COUNTS. Prove the row's statement (the work); the ties are given (YtncicecmhibpcaaGreatDoorTie.lean); close each card by the builder's one call (the guide's Derived/Test/ToyasCard.lean, 'card_holds'). Laid BY PROGRAM, IN A SANDBOX (cutbox-door.mjs). By AI agents, Wed Nov 11 2026. No macro, syntax, notation, axiom, sorry.
-/
import Derived.Test.YtncicecmhibpcaaGreatDoorRows
import GoSem.ClaimSeven
namespace Go.Proofs.YtncicecmhibpcaaGreatDoor
namespace Rows

/-- THE TIED CARD OF 'souklaw09.DiskRuns'. -/
def diskRunsCard : Claim7 := { stood := { row := diskRunsRow, standIns := [], harness := (true, "d30cdcfed2791edc7370f4beb9748f3e06d1dbc18b16cafacd55ef40760d591f"), looks := true }, kinds := [], alts := [], laidByText := true, laidKinds := [.data, .pinned], laidTests := true, laidLooks := .later }
def DiskRunsCardSaid : Prop := Claim7.holds Tryz.pinned (.plain (OpenSpec.ofChange diskRunsSpec)) diskRunsCard

/-- THE SECOND FORM's CARD OF 'souklaw09.DiskRuns'. -/
def diskRunsUptoCard : Claim7 := { stood := { row := diskRunsUptoRow, standIns := [], harness := (true, "d30cdcfed2791edc7370f4beb9748f3e06d1dbc18b16cafacd55ef40760d591f"), looks := true }, kinds := [], alts := [], laidByText := true, laidKinds := [.data, .pinned], laidTests := true, laidLooks := .later }
def DiskRunsUptoCardSaid : Prop := Claim7.holds Tryz.pinned (.plain (OpenSpec.upto diskRunsSpec)) diskRunsUptoCard
end Rows
end Go.Proofs.YtncicecmhibpcaaGreatDoor
