/-
  DERIVED. GIVEN WITH THE SEED: THE CARDS: each row of YtnffmbfdfhokeaaDoorRows.lean that lists a variable, with what it lists TIED to the program's text (the seventh form; the later family's looks); each row that meets fmt, with fmt's text TOLD by the authors' own Lean function (tested against real Go, not proved from fmt's source: count such statements apart). THE CARD IS WHAT COUNTS. Prove the row's statement (the work); the ties are given (YtnffmbfdfhokeaaDoorTie.lean); close each card by the builder's one call (the guide's Derived/Test/ToyasCard.lean, 'card_holds'). Laid BY PROGRAM, IN A SANDBOX (cutbox-door.mjs). By AI agents, Wed Nov 11 2026. No macro, syntax, notation, axiom, sorry.
-/
import Derived.Test.YtnffmbfdfhokeaaDoorRows
import GoSem.ClaimSeven
namespace Go.Proofs.YtnffmbfdfhokeaaDoor
namespace Rows

/-- THE TIED CARD OF 'souklaw24.StmtNames'. -/
def stmtNamesCard : Claim7 := { stood := { row := stmtNamesRow, standIns := [], harness := (true, "47cb1cf1c81929e4d4f1daccc1717fc074d724e35a820f8d4ae6b23934e80cfc"), looks := false }, kinds := [], alts := [], laidByText := true, laidKinds := [.data], laidTests := true, laidLooks := .later }
def StmtNamesCardSaid : Prop := Claim7.holds Tryd.pinned (.plain (OpenSpec.ofChange stmtNamesSpec)) stmtNamesCard

/-- THE TIED CARD OF 'souklaw24.StmtPages'. -/
def stmtPagesCard : Claim7 := { stood := { row := stmtPagesRow, standIns := [], harness := (true, "47cb1cf1c81929e4d4f1daccc1717fc074d724e35a820f8d4ae6b23934e80cfc"), looks := false }, kinds := [], alts := [], laidByText := true, laidKinds := [.data], laidTests := true, laidLooks := .later }
def StmtPagesCardSaid : Prop := Claim7.holds Tryd.pinned (.plain (OpenSpec.ofChange stmtPagesSpec)) stmtPagesCard

/-- THE TIED CARD OF 'souklaw24.StmtPaged'. -/
def stmtPagedCard : Claim7 := { stood := { row := stmtPagedRow, standIns := [], harness := (true, "47cb1cf1c81929e4d4f1daccc1717fc074d724e35a820f8d4ae6b23934e80cfc"), looks := false }, kinds := [], alts := [], laidByText := true, laidKinds := [.data], laidTests := true, laidLooks := .later }
def StmtPagedCardSaid : Prop := Claim7.holds Tryd.pinned (.plain (OpenSpec.ofChange stmtPagedSpec)) stmtPagedCard

/-- THE SECOND FORM's CARD OF 'souklaw24.StmtNames'. -/
def stmtNamesUptoCard : Claim7 := { stood := { row := stmtNamesUptoRow, standIns := [], harness := (true, "47cb1cf1c81929e4d4f1daccc1717fc074d724e35a820f8d4ae6b23934e80cfc"), looks := false }, kinds := [], alts := [], laidByText := true, laidKinds := [.data], laidTests := true, laidLooks := .later }
def StmtNamesUptoCardSaid : Prop := Claim7.holds Tryd.pinned (.plain (OpenSpec.upto stmtNamesSpec)) stmtNamesUptoCard

/-- THE SECOND FORM's CARD OF 'souklaw24.StmtPages'. -/
def stmtPagesUptoCard : Claim7 := { stood := { row := stmtPagesUptoRow, standIns := [], harness := (true, "47cb1cf1c81929e4d4f1daccc1717fc074d724e35a820f8d4ae6b23934e80cfc"), looks := false }, kinds := [], alts := [], laidByText := true, laidKinds := [.data], laidTests := true, laidLooks := .later }
def StmtPagesUptoCardSaid : Prop := Claim7.holds Tryd.pinned (.plain (OpenSpec.upto stmtPagesSpec)) stmtPagesUptoCard

/-- THE SECOND FORM's CARD OF 'souklaw24.StmtPaged'. -/
def stmtPagedUptoCard : Claim7 := { stood := { row := stmtPagedUptoRow, standIns := [], harness := (true, "47cb1cf1c81929e4d4f1daccc1717fc074d724e35a820f8d4ae6b23934e80cfc"), looks := false }, kinds := [], alts := [], laidByText := true, laidKinds := [.data], laidTests := true, laidLooks := .later }
def StmtPagedUptoCardSaid : Prop := Claim7.holds Tryd.pinned (.plain (OpenSpec.upto stmtPagedSpec)) stmtPagedUptoCard
end Rows
end Go.Proofs.YtnffmbfdfhokeaaDoor
