/-
  DERIVED. GIVEN WITH THE SEED: THE CARDS: each row of YtmjcpapcmbgkjaaDoorRows.lean that lists a variable, with what it lists TIED to the program's text (the seventh form; the later family's looks); each row that meets fmt, with fmt's text TOLD by the authors' own Lean function (tested against real Go, not proved from fmt's source: count such statements apart). THE CARD IS WHAT COUNTS. Prove the row's statement (the work); the ties are given (YtmjcpapcmbgkjaaDoorTie.lean); close each card by the builder's one call (the guide's Derived/Test/ToyasCard.lean, 'card_holds'). Laid BY PROGRAM, IN A SANDBOX (cutbox-door.mjs). By AI agents, Wed Nov 11 2026. No macro, syntax, notation, axiom, sorry.
-/
import Derived.Test.YtmjcpapcmbgkjaaDoorRows
import GoSem.ClaimSeven
namespace Go.Proofs.YtmjcpapcmbgkjaaDoor
namespace Rows

/-- THE TIED CARD OF 'latchetlaw14.BinaryWrites'. -/
def binaryWritesCard : Claim7 := { stood := { row := binaryWritesRow, standIns := [], harness := (true, "d98b933f9b738fdd744bc3430417045e4e8766380e097eab62f59d84d7471820"), looks := true }, kinds := [], alts := [], laidByText := true, laidKinds := [.data, .data, .data], laidTests := true, laidLooks := .later }
def BinaryWritesCardSaid : Prop := Claim7.holds Tryd.pinned (.plain (OpenSpec.ofChange binaryWritesSpec)) binaryWritesCard

/-- THE SECOND FORM's CARD OF 'latchetlaw14.BinaryWrites'. -/
def binaryWritesUptoCard : Claim7 := { stood := { row := binaryWritesUptoRow, standIns := [], harness := (true, "d98b933f9b738fdd744bc3430417045e4e8766380e097eab62f59d84d7471820"), looks := true }, kinds := [], alts := [], laidByText := true, laidKinds := [.data, .data, .data], laidTests := true, laidLooks := .later }
def BinaryWritesUptoCardSaid : Prop := Claim7.holds Tryd.pinned (.plain (OpenSpec.upto binaryWritesSpec)) binaryWritesUptoCard
end Rows
end Go.Proofs.YtmjcpapcmbgkjaaDoor
