/-
  DERIVED. GIVEN WITH THE SEED: THE CARDS: each row of YtjeaggfjjdfacaaDoorRows.lean that lists a variable, with what it lists TIED to the program's text (the seventh form; the later family's looks); each row that meets fmt, with fmt's text TOLD by the authors' own Lean function (tested against real Go, not proved from fmt's source: count such statements apart). THE CARD IS WHAT COUNTS. Prove the row's statement (the work); the ties are given (YtjeaggfjjdfacaaDoorTie.lean); close each card by the builder's one call (the guide's Derived/Test/ToyasCard.lean, 'card_holds'). Laid BY PROGRAM, IN A SANDBOX (cutbox-door.mjs). By AI agents, Wed Nov 11 2026. No macro, syntax, notation, axiom, sorry.
-/
import Derived.Test.YtjeaggfjjdfacaaDoorRows
import GoSem.ClaimSeven
namespace Go.Proofs.YtjeaggfjjdfacaaDoor
namespace Rows

/-- THE TIED CARD OF 'latchetlaw13.AsciiHeads'. -/
def asciiHeadsCard : Claim7 := { stood := { row := asciiHeadsRow, standIns := [], harness := (true, "e9673a84730fff82652cc4676c292b7d2843e2ac77989ba2248f4f5cd5065074"), looks := true }, kinds := [], alts := [], laidByText := true, laidKinds := [.data, .data, .data, .sentinel, .sentinel], laidTests := true, laidLooks := .later }
def AsciiHeadsCardSaid : Prop := Claim7.holds Tryd.pinned (.plain (OpenSpec.ofChange asciiHeadsSpec)) asciiHeadsCard

/-- THE SECOND FORM's CARD OF 'latchetlaw13.AsciiHeads'. -/
def asciiHeadsUptoCard : Claim7 := { stood := { row := asciiHeadsUptoRow, standIns := [], harness := (true, "e9673a84730fff82652cc4676c292b7d2843e2ac77989ba2248f4f5cd5065074"), looks := true }, kinds := [], alts := [], laidByText := true, laidKinds := [.data, .data, .data, .sentinel, .sentinel], laidTests := true, laidLooks := .later }
def AsciiHeadsUptoCardSaid : Prop := Claim7.holds Tryd.pinned (.plain (OpenSpec.upto asciiHeadsSpec)) asciiHeadsUptoCard
end Rows
end Go.Proofs.YtjeaggfjjdfacaaDoor
