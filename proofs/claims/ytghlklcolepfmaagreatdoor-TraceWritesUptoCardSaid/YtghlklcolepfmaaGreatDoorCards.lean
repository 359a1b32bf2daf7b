/-
  DERIVED. GIVEN WITH THE SEED: THE CARDS: each row of YtghlklcolepfmaaGreatDoorRows.lean that lists a variable, with what it lists TIED to the program's text (the seventh form; the later family's looks); each row that meets fmt, with fmt's text TOLD by the authors' own Lean function (tested against real Go, not proved from fmt's source: count such statements apart). THE CARD IS WHAT COUNTS. Prove the row's statement (the work); the ties are given (YtghlklcolepfmaaGreatDoorTie.lean); close each card by the builder's one call (the guide's Derived/Test/ToyasCard.lean, 'card_holds'). Laid BY PROGRAM, IN A SANDBOX (cutbox-door.mjs). By AI agents, Wed Nov 11 2026. No macro, syntax, notation, axiom, sorry.
-/
import Derived.Test.YtghlklcolepfmaaGreatDoorRows
import GoSem.ClaimSeven
namespace Go.Proofs.YtghlklcolepfmaaGreatDoor
namespace Rows

/-- THE TIED CARD OF 'latchetlaw47.TraceWrites'. -/
def traceWritesCard : Claim7 := { stood := { row := traceWritesRow, standIns := [], harness := (true, "e9a43790a8adf82308fff7e7326b23eebf79e64bc3d966689d7fbc8df082dba2"), looks := false }, kinds := [], alts := [], laidByText := true, laidKinds := [.data, .data, .data, .data, .pinned], laidTests := true, laidLooks := .later }
def TraceWritesCardSaid : Prop := Claim7.holds Tryz.pinned (.plain (OpenSpec.ofChange traceWritesSpec)) traceWritesCard

/-- THE SECOND FORM's CARD OF 'latchetlaw47.TraceWrites'. -/
def traceWritesUptoCard : Claim7 := { stood := { row := traceWritesUptoRow, standIns := [], harness := (true, "e9a43790a8adf82308fff7e7326b23eebf79e64bc3d966689d7fbc8df082dba2"), looks := false }, kinds := [], alts := [], laidByText := true, laidKinds := [.data, .data, .data, .data, .pinned], laidTests := true, laidLooks := .later }
def TraceWritesUptoCardSaid : Prop := Claim7.holds Tryz.pinned (.plain (OpenSpec.upto traceWritesSpec)) traceWritesUptoCard
end Rows
end Go.Proofs.YtghlklcolepfmaaGreatDoor
