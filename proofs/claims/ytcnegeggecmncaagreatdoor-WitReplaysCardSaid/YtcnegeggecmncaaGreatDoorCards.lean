/-
  DERIVED. GIVEN WITH THE SEED: THE CARDS: each row of YtcnegeggecmncaaGreatDoorRows.lean that lists a variable, with what it lists TIED to the program's text (the seventh form; the later family's looks); each row that meets fmt, with fmt's text TOLD by the authors' own Lean function (tested against real Go, not proved from fmt's source: count such statements apart). THE CARD IS WHAT COUNTS. Prove the row's statement (the work); the ties are given (YtcnegeggecmncaaGreatDoorTie.lean); close each card by the builder's one call (the guide's Derived/Test/ToyasCard.lean, 'card_holds'). Laid BY PROGRAM, IN A SANDBOX (cutbox-door.mjs). By AI agents, Wed Nov 11 2026. No macro, syntax, notation, axiom, sorry.
-/
import Derived.Test.YtcnegeggecmncaaGreatDoorRows
import GoSem.ClaimSeven
namespace Go.Proofs.YtcnegeggecmncaaGreatDoor
namespace Rows

/-- THE TIED CARD OF 'latchetlaw18.WitReplays'. -/
def witReplaysCard : Claim7 := { stood := { row := witReplaysRow, standIns := [], harness := (true, "71c67df1473c18cc0672034e4079278d4a5ea19c4c6bb32dbc1a83e56f654eb7"), looks := true }, kinds := [], alts := [], laidByText := true, laidKinds := [.data, .data, .data, .sentinel, .sentinel], laidTests := true, laidLooks := .later }
def WitReplaysCardSaid : Prop := Claim7.holds Tryz.pinned (.plain (OpenSpec.ofChange witReplaysSpec)) witReplaysCard

/-- THE SECOND FORM's CARD OF 'latchetlaw18.WitReplays'. -/
def witReplaysUptoCard : Claim7 := { stood := { row := witReplaysUptoRow, standIns := [], harness := (true, "71c67df1473c18cc0672034e4079278d4a5ea19c4c6bb32dbc1a83e56f654eb7"), looks := true }, kinds := [], alts := [], laidByText := true, laidKinds := [.data, .data, .data, .sentinel, .sentinel], laidTests := true, laidLooks := .later }
def WitReplaysUptoCardSaid : Prop := Claim7.holds Tryz.pinned (.plain (OpenSpec.upto witReplaysSpec)) witReplaysUptoCard
end Rows
end Go.Proofs.YtcnegeggecmncaaGreatDoor
