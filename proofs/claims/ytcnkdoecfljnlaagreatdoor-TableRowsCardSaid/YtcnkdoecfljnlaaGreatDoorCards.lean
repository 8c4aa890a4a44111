/-
  DERIVED. GIVEN WITH THE SEED: THE CARDS: each row of YtcnkdoecfljnlaaGreatDoorRows.lean that lists a variable, with what it lists TIED to the program's text (the seventh form; the later family's looks); each row that meets fmt, with fmt's text TOLD by the authors' own Lean function (tested against real Go, not proved from fmt's source: count such statements apart). THE CARD IS WHAT COUNTS. Prove the row's statement (the work); the ties are given (YtcnkdoecfljnlaaGreatDoorTie.lean); close each card by the builder's one call (the guide's Derived/Test/ToyasCard.lean, 'card_holds'). Laid BY PROGRAM, IN A SANDBOX (cutbox-door.mjs). By AI agents, Wed Nov 11 2026. No macro, syntax, notation, axiom, sorry.
-/
import Derived.Test.YtcnkdoecfljnlaaGreatDoorRows
import GoSem.ClaimSeven
namespace Go.Proofs.YtcnkdoecfljnlaaGreatDoor
namespace Rows

/-- THE TIED CARD OF 'swingbridgelaw12.TableFull'. -/
def tableFullCard : Claim7 := { stood := { row := tableFullRow, standIns := [], harness := (true, "6f9801c9f4e626fc7470ec2fe8adc9d318d76d73760030916c961e75bbcbc5c1"), looks := true }, kinds := [], alts := [], laidByText := true, laidKinds := [.data, .data, .data, .handle], laidTests := true, laidLooks := .later }
def TableFullCardSaid : Prop := Claim7.holds Tryz.pinned (.plain (OpenSpec.ofChange tableFullSpec)) tableFullCard

/-- THE TIED CARD OF 'swingbridgelaw12.TableRows'. -/
def tableRowsCard : Claim7 := { stood := { row := tableRowsRow, standIns := [], harness := (true, "6f9801c9f4e626fc7470ec2fe8adc9d318d76d73760030916c961e75bbcbc5c1"), looks := true }, kinds := [], alts := [], laidByText := true, laidKinds := [.data, .data, .data, .handle], laidTests := true, laidLooks := .later }
def TableRowsCardSaid : Prop := Claim7.holds Tryz.pinned (.plain (OpenSpec.ofChange tableRowsSpec)) tableRowsCard

/-- THE TIED CARD OF 'swingbridgelaw12.TableHolds'. -/
def tableHoldsCard : Claim7 := { stood := { row := tableHoldsRow, standIns := [], harness := (true, "6f9801c9f4e626fc7470ec2fe8adc9d318d76d73760030916c961e75bbcbc5c1"), looks := true }, kinds := [], alts := [], laidByText := true, laidKinds := [.data, .data, .data, .handle], laidTests := true, laidLooks := .later }
def TableHoldsCardSaid : Prop := Claim7.holds Tryz.pinned (.plain (OpenSpec.ofChange tableHoldsSpec)) tableHoldsCard

/-- THE TIED CARD OF 'swingbridgelaw12.TablePlays'. -/
def tablePlaysCard : Claim7 := { stood := { row := tablePlaysRow, standIns := [], harness := (true, "6f9801c9f4e626fc7470ec2fe8adc9d318d76d73760030916c961e75bbcbc5c1"), looks := true }, kinds := [], alts := [], laidByText := true, laidKinds := [.data, .data, .data, .handle], laidTests := true, laidLooks := .later }
def TablePlaysCardSaid : Prop := Claim7.holds Tryz.pinned (.plain (OpenSpec.ofChange tablePlaysSpec)) tablePlaysCard

/-- THE TIED CARD OF 'swingbridgelaw12.TableCopies'. -/
def tableCopiesCard : Claim7 := { stood := { row := tableCopiesRow, standIns := [], harness := (true, "6f9801c9f4e626fc7470ec2fe8adc9d318d76d73760030916c961e75bbcbc5c1"), looks := true }, kinds := [], alts := [], laidByText := true, laidKinds := [.data, .data, .data, .handle], laidTests := true, laidLooks := .later }
def TableCopiesCardSaid : Prop := Claim7.holds Tryz.pinned (.plain (OpenSpec.ofChange tableCopiesSpec)) tableCopiesCard

/-- THE TIED CARD OF 'swingbridgelaw12.TableNone'. -/
def tableNoneCard : Claim7 := { stood := { row := tableNoneRow, standIns := [], harness := (true, "6f9801c9f4e626fc7470ec2fe8adc9d318d76d73760030916c961e75bbcbc5c1"), looks := true }, kinds := [], alts := [], laidByText := true, laidKinds := [.data, .data, .data, .handle], laidTests := true, laidLooks := .later }
def TableNoneCardSaid : Prop := Claim7.holds Tryz.pinned (.plain (OpenSpec.ofChange tableNoneSpec)) tableNoneCard

/-- THE SECOND FORM's CARD OF 'swingbridgelaw12.TableFull'. -/
def tableFullUptoCard : Claim7 := { stood := { row := tableFullUptoRow, standIns := [], harness := (true, "6f9801c9f4e626fc7470ec2fe8adc9d318d76d73760030916c961e75bbcbc5c1"), looks := true }, kinds := [], alts := [], laidByText := true, laidKinds := [.data, .data, .data, .handle], laidTests := true, laidLooks := .later }
def TableFullUptoCardSaid : Prop := Claim7.holds Tryz.pinned (.plain (OpenSpec.upto tableFullSpec)) tableFullUptoCard

/-- THE SECOND FORM's CARD OF 'swingbridgelaw12.TableRows'. -/
def tableRowsUptoCard : Claim7 := { stood := { row := tableRowsUptoRow, standIns := [], harness := (true, "6f9801c9f4e626fc7470ec2fe8adc9d318d76d73760030916c961e75bbcbc5c1"), looks := true }, kinds := [], alts := [], laidByText := true, laidKinds := [.data, .data, .data, .handle], laidTests := true, laidLooks := .later }
def TableRowsUptoCardSaid : Prop := Claim7.holds Tryz.pinned (.plain (OpenSpec.upto tableRowsSpec)) tableRowsUptoCard

/-- THE SECOND FORM's CARD OF 'swingbridgelaw12.TableHolds'. -/
def tableHoldsUptoCard : Claim7 := { stood := { row := tableHoldsUptoRow, standIns := [], harness := (true, "6f9801c9f4e626fc7470ec2fe8adc9d318d76d73760030916c961e75bbcbc5c1"), looks := true }, kinds := [], alts := [], laidByText := true, laidKinds := [.data, .data, .data, .handle], laidTests := true, laidLooks := .later }
def TableHoldsUptoCardSaid : Prop := Claim7.holds Tryz.pinned (.plain (OpenSpec.upto tableHoldsSpec)) tableHoldsUptoCard

/-- THE SECOND FORM's CARD OF 'swingbridgelaw12.TablePlays'. -/
def tablePlaysUptoCard : Claim7 := { stood := { row := tablePlaysUptoRow, standIns := [], harness := (true, "6f9801c9f4e626fc7470ec2fe8adc9d318d76d73760030916c961e75bbcbc5c1"), looks := true }, kinds := [], alts := [], laidByText := true, laidKinds := [.data, .data, .data, .handle], laidTests := true, laidLooks := .later }
def TablePlaysUptoCardSaid : Prop := Claim7.holds Tryz.pinned (.plain (OpenSpec.upto tablePlaysSpec)) tablePlaysUptoCard

/-- THE SECOND FORM's CARD OF 'swingbridgelaw12.TableCopies'. -/
def tableCopiesUptoCard : Claim7 := { stood := { row := tableCopiesUptoRow, standIns := [], harness := (true, "6f9801c9f4e626fc7470ec2fe8adc9d318d76d73760030916c961e75bbcbc5c1"), looks := true }, kinds := [], alts := [], laidByText := true, laidKinds := [.data, .data, .data, .handle], laidTests := true, laidLooks := .later }
def TableCopiesUptoCardSaid : Prop := Claim7.holds Tryz.pinned (.plain (OpenSpec.upto tableCopiesSpec)) tableCopiesUptoCard

/-- THE SECOND FORM's CARD OF 'swingbridgelaw12.TableNone'. -/
def tableNoneUptoCard : Claim7 := { stood := { row := tableNoneUptoRow, standIns := [], harness := (true, "6f9801c9f4e626fc7470ec2fe8adc9d318d76d73760030916c961e75bbcbc5c1"), looks := true }, kinds := [], alts := [], laidByText := true, laidKinds := [.data, .data, .data, .handle], laidTests := true, laidLooks := .later }
def TableNoneUptoCardSaid : Prop := Claim7.holds Tryz.pinned (.plain (OpenSpec.upto tableNoneSpec)) tableNoneUptoCard
end Rows
end Go.Proofs.YtcnkdoecfljnlaaGreatDoor
