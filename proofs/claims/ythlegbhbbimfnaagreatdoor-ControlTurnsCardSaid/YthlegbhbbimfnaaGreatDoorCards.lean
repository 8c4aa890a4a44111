/-
  DERIVED. GIVEN WITH THE SEED: THE CARDS: each row of YthlegbhbbimfnaaGreatDoorRows.lean that lists a variable, with what it lists TIED to the program's text (the seventh form; the later family's looks); each row that meets fmt, with fmt's text TOLD by the authors' own Lean function (tested against real Go, not proved from fmt's source: count such statements apart). THE CARD IS WHAT COUNTS. Prove the row's statement (the work); the ties are given (YthlegbhbbimfnaaGreatDoorTie.lean); close each card by the builder's one call (the guide's Derived/Test/ToyasCard.lean, 'card_holds'). Laid BY PROGRAM, IN A SANDBOX (cutbox-door.mjs). By AI agents, Wed Nov 11 2026. No macro, syntax, notation, axiom, sorry.
-/
import Derived.Test.YthlegbhbbimfnaaGreatDoorRows
import GoSem.ClaimSeven
namespace Go.Proofs.YthlegbhbbimfnaaGreatDoor
namespace Rows

/-- THE TIED CARD OF 'swingbridgelaw20.ControlTurns'. -/
def controlTurnsCard : Claim7 := { stood := { row := controlTurnsRow, standIns := [], harness := (true, "c499add716200c8a3cf60041e365d54bae87ebd5c714896e91ee9282fc57e720"), looks := true }, kinds := [], alts := [], laidByText := true, laidKinds := [.data, .data, .data, .handle], laidTests := true, laidLooks := .later }
def ControlTurnsCardSaid : Prop := Claim7.holds Tryz.pinned (.plain (OpenSpec.ofChange controlTurnsSpec)) controlTurnsCard

/-- THE SECOND FORM's CARD OF 'swingbridgelaw20.ControlTurns'. -/
def controlTurnsUptoCard : Claim7 := { stood := { row := controlTurnsUptoRow, standIns := [], harness := (true, "c499add716200c8a3cf60041e365d54bae87ebd5c714896e91ee9282fc57e720"), looks := true }, kinds := [], alts := [], laidByText := true, laidKinds := [.data, .data, .data, .handle], laidTests := true, laidLooks := .later }
def ControlTurnsUptoCardSaid : Prop := Claim7.holds Tryz.pinned (.plain (OpenSpec.upto controlTurnsSpec)) controlTurnsUptoCard
end Rows
end Go.Proofs.YthlegbhbbimfnaaGreatDoor
