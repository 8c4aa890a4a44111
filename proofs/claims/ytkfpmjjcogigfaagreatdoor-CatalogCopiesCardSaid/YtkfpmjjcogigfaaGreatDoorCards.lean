/-
  DERIVED. GIVEN WITH THE SEED: THE CARDS: each row of YtkfpmjjcogigfaaGreatDoorRows.lean that lists a variable, with what it lists TIED to the program's text (the seventh form; the later family's looks); each row that meets fmt, with fmt's text TOLD by the authors' own Lean function (tested against real Go, not proved from fmt's source: count such statements apart). THE CARD IS WHAT COUNTS. Prove the row's statement (the work); the ties are given (YtkfpmjjcogigfaaGreatDoorTie.lean); close each card by the builder's one call (the guide's Derived/Test/ToyasCard.lean, 'card_holds'). Laid BY PROGRAM, IN A SANDBOX (cutbox-door.mjs). By AI agents, Wed Nov 11 2026. No macro, syntax, notation, axiom, sorry.
-/
import Derived.Test.YtkfpmjjcogigfaaGreatDoorRows
import GoSem.ClaimSeven
namespace Go.Proofs.YtkfpmjjcogigfaaGreatDoor
namespace Rows

/-- THE TIED CARD OF 'swingbridgelaw13.CatalogHolds'. -/
def catalogHoldsCard : Claim7 := { stood := { row := catalogHoldsRow, standIns := [], harness := (true, "dc33cbe44915f4cfb8ce020ca162a85b788a8c615e806cfaf93cba9cc8124cc0"), looks := true }, kinds := [], alts := [], laidByText := true, laidKinds := [.data, .data, .data, .handle], laidTests := true, laidLooks := .later }
def CatalogHoldsCardSaid : Prop := Claim7.holds Tryz.pinned (.plain (OpenSpec.ofChange catalogHoldsSpec)) catalogHoldsCard

/-- THE TIED CARD OF 'swingbridgelaw13.CatalogDoes'. -/
def catalogDoesCard : Claim7 := { stood := { row := catalogDoesRow, standIns := [], harness := (true, "dc33cbe44915f4cfb8ce020ca162a85b788a8c615e806cfaf93cba9cc8124cc0"), looks := true }, kinds := [], alts := [], laidByText := true, laidKinds := [.data, .data, .data, .handle], laidTests := true, laidLooks := .later }
def CatalogDoesCardSaid : Prop := Claim7.holds Tryz.pinned (.plain (OpenSpec.ofChange catalogDoesSpec)) catalogDoesCard

/-- THE TIED CARD OF 'swingbridgelaw13.CatalogAll'. -/
def catalogAllCard : Claim7 := { stood := { row := catalogAllRow, standIns := [], harness := (true, "dc33cbe44915f4cfb8ce020ca162a85b788a8c615e806cfaf93cba9cc8124cc0"), looks := true }, kinds := [], alts := [], laidByText := true, laidKinds := [.data, .data, .data, .handle], laidTests := true, laidLooks := .later }
def CatalogAllCardSaid : Prop := Claim7.holds Tryz.pinned (.plain (OpenSpec.ofChange catalogAllSpec)) catalogAllCard

/-- THE TIED CARD OF 'swingbridgelaw13.CatalogTables'. -/
def catalogTablesCard : Claim7 := { stood := { row := catalogTablesRow, standIns := [], harness := (true, "dc33cbe44915f4cfb8ce020ca162a85b788a8c615e806cfaf93cba9cc8124cc0"), looks := true }, kinds := [], alts := [], laidByText := true, laidKinds := [.data, .data, .data, .handle], laidTests := true, laidLooks := .later }
def CatalogTablesCardSaid : Prop := Claim7.holds Tryz.pinned (.plain (OpenSpec.ofChange catalogTablesSpec)) catalogTablesCard

/-- THE TIED CARD OF 'swingbridgelaw13.CatalogCopies'. -/
def catalogCopiesCard : Claim7 := { stood := { row := catalogCopiesRow, standIns := [], harness := (true, "dc33cbe44915f4cfb8ce020ca162a85b788a8c615e806cfaf93cba9cc8124cc0"), looks := true }, kinds := [], alts := [], laidByText := true, laidKinds := [.data, .data, .data, .handle], laidTests := true, laidLooks := .later }
def CatalogCopiesCardSaid : Prop := Claim7.holds Tryz.pinned (.plain (OpenSpec.ofChange catalogCopiesSpec)) catalogCopiesCard

/-- THE SECOND FORM's CARD OF 'swingbridgelaw13.CatalogHolds'. -/
def catalogHoldsUptoCard : Claim7 := { stood := { row := catalogHoldsUptoRow, standIns := [], harness := (true, "dc33cbe44915f4cfb8ce020ca162a85b788a8c615e806cfaf93cba9cc8124cc0"), looks := true }, kinds := [], alts := [], laidByText := true, laidKinds := [.data, .data, .data, .handle], laidTests := true, laidLooks := .later }
def CatalogHoldsUptoCardSaid : Prop := Claim7.holds Tryz.pinned (.plain (OpenSpec.upto catalogHoldsSpec)) catalogHoldsUptoCard

/-- THE SECOND FORM's CARD OF 'swingbridgelaw13.CatalogDoes'. -/
def catalogDoesUptoCard : Claim7 := { stood := { row := catalogDoesUptoRow, standIns := [], harness := (true, "dc33cbe44915f4cfb8ce020ca162a85b788a8c615e806cfaf93cba9cc8124cc0"), looks := true }, kinds := [], alts := [], laidByText := true, laidKinds := [.data, .data, .data, .handle], laidTests := true, laidLooks := .later }
def CatalogDoesUptoCardSaid : Prop := Claim7.holds Tryz.pinned (.plain (OpenSpec.upto catalogDoesSpec)) catalogDoesUptoCard

/-- THE SECOND FORM's CARD OF 'swingbridgelaw13.CatalogAll'. -/
def catalogAllUptoCard : Claim7 := { stood := { row := catalogAllUptoRow, standIns := [], harness := (true, "dc33cbe44915f4cfb8ce020ca162a85b788a8c615e806cfaf93cba9cc8124cc0"), looks := true }, kinds := [], alts := [], laidByText := true, laidKinds := [.data, .data, .data, .handle], laidTests := true, laidLooks := .later }
def CatalogAllUptoCardSaid : Prop := Claim7.holds Tryz.pinned (.plain (OpenSpec.upto catalogAllSpec)) catalogAllUptoCard

/-- THE SECOND FORM's CARD OF 'swingbridgelaw13.CatalogTables'. -/
def catalogTablesUptoCard : Claim7 := { stood := { row := catalogTablesUptoRow, standIns := [], harness := (true, "dc33cbe44915f4cfb8ce020ca162a85b788a8c615e806cfaf93cba9cc8124cc0"), looks := true }, kinds := [], alts := [], laidByText := true, laidKinds := [.data, .data, .data, .handle], laidTests := true, laidLooks := .later }
def CatalogTablesUptoCardSaid : Prop := Claim7.holds Tryz.pinned (.plain (OpenSpec.upto catalogTablesSpec)) catalogTablesUptoCard

/-- THE SECOND FORM's CARD OF 'swingbridgelaw13.CatalogCopies'. -/
def catalogCopiesUptoCard : Claim7 := { stood := { row := catalogCopiesUptoRow, standIns := [], harness := (true, "dc33cbe44915f4cfb8ce020ca162a85b788a8c615e806cfaf93cba9cc8124cc0"), looks := true }, kinds := [], alts := [], laidByText := true, laidKinds := [.data, .data, .data, .handle], laidTests := true, laidLooks := .later }
def CatalogCopiesUptoCardSaid : Prop := Claim7.holds Tryz.pinned (.plain (OpenSpec.upto catalogCopiesSpec)) catalogCopiesUptoCard
end Rows
end Go.Proofs.YtkfpmjjcogigfaaGreatDoor
