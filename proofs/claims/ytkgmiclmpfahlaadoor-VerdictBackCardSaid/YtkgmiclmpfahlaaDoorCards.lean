/-
  DERIVED. GIVEN WITH THE SEED: THE CARDS: each row of YtkgmiclmpfahlaaDoorRows.lean that lists a variable, with what it lists TIED to the program's text (the seventh form; the later family's looks); each row that meets fmt, with fmt's text TOLD by the authors' own Lean function (tested against real Go, not proved from fmt's source: count such statements apart). THE CARD IS WHAT COUNTS. Prove the row's statement (the work); the ties are given (YtkgmiclmpfahlaaDoorTie.lean); close each card by the builder's one call (the guide's Derived/Test/ToyasCard.lean, 'card_holds'). Laid BY PROGRAM, IN A SANDBOX (cutbox-door.mjs). By AI agents, Wed Nov 11 2026. No macro, syntax, notation, axiom, sorry.
-/
import Derived.Test.YtkgmiclmpfahlaaDoorRows
import GoSem.ClaimSeven
namespace Go.Proofs.YtkgmiclmpfahlaaDoor
namespace Rows

/-- THE TIED CARD OF 'latchetlaw40.VerdictWrites'. -/
def verdictWritesCard : Claim7 := { stood := { row := verdictWritesRow, standIns := [], harness := (true, "b5e238cb9e627364852ef33e8b3dbe996736457faf97a73bc9453a3cc54a6228"), looks := true }, kinds := [], alts := [], laidByText := true, laidKinds := [.data, .data, .data, .data, .sentinel, .sentinel, .data, .pinned], laidTests := true, laidLooks := .later }
def VerdictWritesCardSaid : Prop := Claim7.holds Tryd.pinned (.plain (OpenSpec.ofChange verdictWritesSpec)) verdictWritesCard

/-- THE TIED CARD OF 'latchetlaw40.VerdictBack'. -/
def verdictBackCard : Claim7 := { stood := { row := verdictBackRow, standIns := [], harness := (true, "b5e238cb9e627364852ef33e8b3dbe996736457faf97a73bc9453a3cc54a6228"), looks := true }, kinds := [], alts := [], laidByText := true, laidKinds := [.data, .data, .data, .data, .sentinel, .sentinel, .data, .pinned], laidTests := true, laidLooks := .later }
def VerdictBackCardSaid : Prop := Claim7.holds Tryd.pinned (.plain (OpenSpec.ofChange verdictBackSpec)) verdictBackCard

/-- THE SECOND FORM's CARD OF 'latchetlaw40.VerdictWrites'. -/
def verdictWritesUptoCard : Claim7 := { stood := { row := verdictWritesUptoRow, standIns := [], harness := (true, "b5e238cb9e627364852ef33e8b3dbe996736457faf97a73bc9453a3cc54a6228"), looks := true }, kinds := [], alts := [], laidByText := true, laidKinds := [.data, .data, .data, .data, .sentinel, .sentinel, .data, .pinned], laidTests := true, laidLooks := .later }
def VerdictWritesUptoCardSaid : Prop := Claim7.holds Tryd.pinned (.plain (OpenSpec.upto verdictWritesSpec)) verdictWritesUptoCard

/-- THE SECOND FORM's CARD OF 'latchetlaw40.VerdictBack'. -/
def verdictBackUptoCard : Claim7 := { stood := { row := verdictBackUptoRow, standIns := [], harness := (true, "b5e238cb9e627364852ef33e8b3dbe996736457faf97a73bc9453a3cc54a6228"), looks := true }, kinds := [], alts := [], laidByText := true, laidKinds := [.data, .data, .data, .data, .sentinel, .sentinel, .data, .pinned], laidTests := true, laidLooks := .later }
def VerdictBackUptoCardSaid : Prop := Claim7.holds Tryd.pinned (.plain (OpenSpec.upto verdictBackSpec)) verdictBackUptoCard
end Rows
end Go.Proofs.YtkgmiclmpfahlaaDoor
