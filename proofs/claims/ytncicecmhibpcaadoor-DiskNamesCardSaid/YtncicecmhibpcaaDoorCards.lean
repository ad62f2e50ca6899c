/-
  DERIVED. GIVEN WITH THE SEED: THE CARDS: each row of YtncicecmhibpcaaDoorRows.lean that lists a variable, with what it lists TIED to the program's text (the seventh form; the later family's looks); each row that meets fmt, with fmt's text TOLD by the authors' own Lean function (tested against real Go, not proved from fmt's source: count such statements apart). THE CARD IS WHAT COUNTS. Prove the row's statement (the work); the ties are given (YtncicecmhibpcaaDoorTie.lean); close each card by the builder's one call (the guide's Derived/Test/ToyasCard.lean, 'card_holds'). Laid BY PROGRAM, IN A SANDBOX (cutbox-door.mjs). By AI agents, Wed Nov 11 2026. No macro, syntax, notation, axiom, sorry.
-/
import Derived.Test.YtncicecmhibpcaaDoorRows
import GoSem.ClaimSeven
namespace Go.Proofs.YtncicecmhibpcaaDoor
namespace Rows

/-- THE TIED CARD OF 'souklaw09.DiskFirm'. -/
def diskFirmCard : Claim7 := { stood := { row := diskFirmRow, standIns := [], harness := (true, "79b72f06149c7553d9b585f3288860acabfcbb772ee7816aa2474633bacae2cd"), looks := true }, kinds := [], alts := [], laidByText := true, laidKinds := [.data, .pinned], laidTests := true, laidLooks := .later }
def DiskFirmCardSaid : Prop := Claim7.holds Tryd.pinned (.plain (OpenSpec.ofChange diskFirmSpec)) diskFirmCard

/-- THE TIED CARD OF 'souklaw09.DiskMap'. -/
def diskMapCard : Claim7 := { stood := { row := diskMapRow, standIns := [], harness := (true, "79b72f06149c7553d9b585f3288860acabfcbb772ee7816aa2474633bacae2cd"), looks := true }, kinds := [], alts := [], laidByText := true, laidKinds := [.data, .pinned], laidTests := true, laidLooks := .later }
def DiskMapCardSaid : Prop := Claim7.holds Tryd.pinned (.plain (OpenSpec.ofChange diskMapSpec)) diskMapCard

/-- THE TIED CARD OF 'souklaw09.DiskLoads'. -/
def diskLoadsCard : Claim7 := { stood := { row := diskLoadsRow, standIns := [], harness := (true, "79b72f06149c7553d9b585f3288860acabfcbb772ee7816aa2474633bacae2cd"), looks := true }, kinds := [], alts := [], laidByText := true, laidKinds := [.data, .pinned], laidTests := true, laidLooks := .later }
def DiskLoadsCardSaid : Prop := Claim7.holds Tryd.pinned (.plain (OpenSpec.ofChange diskLoadsSpec)) diskLoadsCard

/-- THE TIED CARD OF 'souklaw09.DiskCut'. -/
def diskCutCard : Claim7 := { stood := { row := diskCutRow, standIns := [], harness := (true, "79b72f06149c7553d9b585f3288860acabfcbb772ee7816aa2474633bacae2cd"), looks := true }, kinds := [], alts := [], laidByText := true, laidKinds := [.data, .pinned], laidTests := true, laidLooks := .later }
def DiskCutCardSaid : Prop := Claim7.holds Tryd.pinned (.plain (OpenSpec.ofChange diskCutSpec)) diskCutCard

/-- THE TIED CARD OF 'souklaw09.DiskCopies'. -/
def diskCopiesCard : Claim7 := { stood := { row := diskCopiesRow, standIns := [], harness := (true, "79b72f06149c7553d9b585f3288860acabfcbb772ee7816aa2474633bacae2cd"), looks := true }, kinds := [], alts := [], laidByText := true, laidKinds := [.data, .pinned], laidTests := true, laidLooks := .later }
def DiskCopiesCardSaid : Prop := Claim7.holds Tryd.pinned (.plain (OpenSpec.ofChange diskCopiesSpec)) diskCopiesCard

/-- THE TIED CARD OF 'souklaw09.DiskRoom'. -/
def diskRoomCard : Claim7 := { stood := { row := diskRoomRow, standIns := [], harness := (true, "79b72f06149c7553d9b585f3288860acabfcbb772ee7816aa2474633bacae2cd"), looks := true }, kinds := [], alts := [], laidByText := true, laidKinds := [.data, .pinned], laidTests := true, laidLooks := .later }
def DiskRoomCardSaid : Prop := Claim7.holds Tryd.pinned (.plain (OpenSpec.ofChange diskRoomSpec)) diskRoomCard

/-- THE TIED CARD OF 'souklaw09.DiskNames'. -/
def diskNamesCard : Claim7 := { stood := { row := diskNamesRow, standIns := [], harness := (true, "79b72f06149c7553d9b585f3288860acabfcbb772ee7816aa2474633bacae2cd"), looks := true }, kinds := [], alts := [], laidByText := true, laidKinds := [.data, .pinned], laidTests := true, laidLooks := .later }
def DiskNamesCardSaid : Prop := Claim7.holds Tryd.pinned (.plain (OpenSpec.ofChange diskNamesSpec)) diskNamesCard

/-- THE SECOND FORM's CARD OF 'souklaw09.DiskFirm'. -/
def diskFirmUptoCard : Claim7 := { stood := { row := diskFirmUptoRow, standIns := [], harness := (true, "79b72f06149c7553d9b585f3288860acabfcbb772ee7816aa2474633bacae2cd"), looks := true }, kinds := [], alts := [], laidByText := true, laidKinds := [.data, .pinned], laidTests := true, laidLooks := .later }
def DiskFirmUptoCardSaid : Prop := Claim7.holds Tryd.pinned (.plain (OpenSpec.upto diskFirmSpec)) diskFirmUptoCard

/-- THE SECOND FORM's CARD OF 'souklaw09.DiskMap'. -/
def diskMapUptoCard : Claim7 := { stood := { row := diskMapUptoRow, standIns := [], harness := (true, "79b72f06149c7553d9b585f3288860acabfcbb772ee7816aa2474633bacae2cd"), looks := true }, kinds := [], alts := [], laidByText := true, laidKinds := [.data, .pinned], laidTests := true, laidLooks := .later }
def DiskMapUptoCardSaid : Prop := Claim7.holds Tryd.pinned (.plain (OpenSpec.upto diskMapSpec)) diskMapUptoCard

/-- THE SECOND FORM's CARD OF 'souklaw09.DiskLoads'. -/
def diskLoadsUptoCard : Claim7 := { stood := { row := diskLoadsUptoRow, standIns := [], harness := (true, "79b72f06149c7553d9b585f3288860acabfcbb772ee7816aa2474633bacae2cd"), looks := true }, kinds := [], alts := [], laidByText := true, laidKinds := [.data, .pinned], laidTests := true, laidLooks := .later }
def DiskLoadsUptoCardSaid : Prop := Claim7.holds Tryd.pinned (.plain (OpenSpec.upto diskLoadsSpec)) diskLoadsUptoCard

/-- THE SECOND FORM's CARD OF 'souklaw09.DiskCut'. -/
def diskCutUptoCard : Claim7 := { stood := { row := diskCutUptoRow, standIns := [], harness := (true, "79b72f06149c7553d9b585f3288860acabfcbb772ee7816aa2474633bacae2cd"), looks := true }, kinds := [], alts := [], laidByText := true, laidKinds := [.data, .pinned], laidTests := true, laidLooks := .later }
def DiskCutUptoCardSaid : Prop := Claim7.holds Tryd.pinned (.plain (OpenSpec.upto diskCutSpec)) diskCutUptoCard

/-- THE SECOND FORM's CARD OF 'souklaw09.DiskCopies'. -/
def diskCopiesUptoCard : Claim7 := { stood := { row := diskCopiesUptoRow, standIns := [], harness := (true, "79b72f06149c7553d9b585f3288860acabfcbb772ee7816aa2474633bacae2cd"), looks := true }, kinds := [], alts := [], laidByText := true, laidKinds := [.data, .pinned], laidTests := true, laidLooks := .later }
def DiskCopiesUptoCardSaid : Prop := Claim7.holds Tryd.pinned (.plain (OpenSpec.upto diskCopiesSpec)) diskCopiesUptoCard

/-- THE SECOND FORM's CARD OF 'souklaw09.DiskRoom'. -/
def diskRoomUptoCard : Claim7 := { stood := { row := diskRoomUptoRow, standIns := [], harness := (true, "79b72f06149c7553d9b585f3288860acabfcbb772ee7816aa2474633bacae2cd"), looks := true }, kinds := [], alts := [], laidByText := true, laidKinds := [.data, .pinned], laidTests := true, laidLooks := .later }
def DiskRoomUptoCardSaid : Prop := Claim7.holds Tryd.pinned (.plain (OpenSpec.upto diskRoomSpec)) diskRoomUptoCard

/-- THE SECOND FORM's CARD OF 'souklaw09.DiskNames'. -/
def diskNamesUptoCard : Claim7 := { stood := { row := diskNamesUptoRow, standIns := [], harness := (true, "79b72f06149c7553d9b585f3288860acabfcbb772ee7816aa2474633bacae2cd"), looks := true }, kinds := [], alts := [], laidByText := true, laidKinds := [.data, .pinned], laidTests := true, laidLooks := .later }
def DiskNamesUptoCardSaid : Prop := Claim7.holds Tryd.pinned (.plain (OpenSpec.upto diskNamesSpec)) diskNamesUptoCard
end Rows
end Go.Proofs.YtncicecmhibpcaaDoor
