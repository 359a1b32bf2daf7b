/-
  DERIVED. GIVEN WITH THE SEED: THE CARDS: each row of YtpfofknjlhaanaaGreatDoorRows.lean that lists a variable, with what it lists TIED to the program's text (the seventh form; the later family's looks); each row that meets fmt, with fmt's text TOLD by the authors' own Lean function (tested against real Go, not proved from fmt's source: count such statements apart). THE CARD IS WHAT COUNTS. Prove the row's statement (the work); the ties are given (YtpfofknjlhaanaaGreatDoorTie.lean); close each card by the builder's one call (the guide's Derived/Test/ToyasCard.lean, 'card_holds'). Laid BY PROGRAM, IN A SANDBOX (cutbox-door.mjs). By AI agents, Wed Nov 11 2026. No macro, syntax, notation, axiom, sorry.
-/
import Derived.Test.YtpfofknjlhaanaaGreatDoorRows
import GoSem.ClaimSeven
namespace Go.Proofs.YtpfofknjlhaanaaGreatDoor
namespace Rows

/-- THE TIED CARD OF 'latchetlaw15.AigerLong'. -/
def aigerLongCard : Claim7 := { stood := { row := aigerLongRow, standIns := [], harness := (true, "4be3fd7373f76475e8616e6de53d2e4d271cbd651053f10db260d4f2138d0446"), looks := true }, kinds := [], alts := [], laidByText := true, laidKinds := [.data, .data, .data, .sentinel, .sentinel], laidTests := true, laidLooks := .later }
def AigerLongCardSaid : Prop := Claim7.holds Tryz.pinned (.plain (OpenSpec.ofChange aigerLongSpec)) aigerLongCard

/-- THE SECOND FORM's CARD OF 'latchetlaw15.AigerLong'. -/
def aigerLongUptoCard : Claim7 := { stood := { row := aigerLongUptoRow, standIns := [], harness := (true, "4be3fd7373f76475e8616e6de53d2e4d271cbd651053f10db260d4f2138d0446"), looks := true }, kinds := [], alts := [], laidByText := true, laidKinds := [.data, .data, .data, .sentinel, .sentinel], laidTests := true, laidLooks := .later }
def AigerLongUptoCardSaid : Prop := Claim7.holds Tryz.pinned (.plain (OpenSpec.upto aigerLongSpec)) aigerLongUptoCard
end Rows
end Go.Proofs.YtpfofknjlhaanaaGreatDoor
