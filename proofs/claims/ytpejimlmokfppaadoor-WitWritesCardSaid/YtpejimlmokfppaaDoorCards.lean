/-
  DERIVED. GIVEN WITH THE SEED: THE CARDS: each row of YtpejimlmokfppaaDoorRows.lean that lists a variable, with what it lists TIED to the program's text (the seventh form; the later family's looks); each row that meets fmt, with fmt's text TOLD by the authors' own Lean function (tested against real Go, not proved from fmt's source: count such statements apart). THE CARD IS WHAT COUNTS. Prove the row's statement (the work); the ties are given (YtpejimlmokfppaaDoorTie.lean); close each card by the builder's one call (the guide's Derived/Test/ToyasCard.lean, 'card_holds'). Laid BY PROGRAM, IN A SANDBOX (cutbox-door.mjs). By AI agents, Wed Nov 11 2026. No macro, syntax, notation, axiom, sorry.
-/
import Derived.Test.YtpejimlmokfppaaDoorRows
import GoSem.ClaimSeven
namespace Go.Proofs.YtpejimlmokfppaaDoor
namespace Rows

/-- THE TIED CARD OF 'latchetlaw18.WitReads'. -/
def witReadsCard : Claim7 := { stood := { row := witReadsRow, standIns := [], harness := (true, "10241a5313f6cffd95bb83450e6b886843d296cc012d19b11d82053bbf167604"), looks := true }, kinds := [], alts := [], laidByText := true, laidKinds := [.data, .data, .data, .sentinel, .sentinel], laidTests := true, laidLooks := .later }
def WitReadsCardSaid : Prop := Claim7.holds Tryd.pinned (.plain (OpenSpec.ofChange witReadsSpec)) witReadsCard

/-- THE TIED CARD OF 'latchetlaw18.WitWrites'. -/
def witWritesCard : Claim7 := { stood := { row := witWritesRow, standIns := [], harness := (true, "10241a5313f6cffd95bb83450e6b886843d296cc012d19b11d82053bbf167604"), looks := true }, kinds := [], alts := [], laidByText := true, laidKinds := [.data, .data, .data, .sentinel, .sentinel], laidTests := true, laidLooks := .later }
def WitWritesCardSaid : Prop := Claim7.holds Tryd.pinned (.plain (OpenSpec.ofChange witWritesSpec)) witWritesCard

/-- THE SECOND FORM's CARD OF 'latchetlaw18.WitReads'. -/
def witReadsUptoCard : Claim7 := { stood := { row := witReadsUptoRow, standIns := [], harness := (true, "10241a5313f6cffd95bb83450e6b886843d296cc012d19b11d82053bbf167604"), looks := true }, kinds := [], alts := [], laidByText := true, laidKinds := [.data, .data, .data, .sentinel, .sentinel], laidTests := true, laidLooks := .later }
def WitReadsUptoCardSaid : Prop := Claim7.holds Tryd.pinned (.plain (OpenSpec.upto witReadsSpec)) witReadsUptoCard

/-- THE SECOND FORM's CARD OF 'latchetlaw18.WitWrites'. -/
def witWritesUptoCard : Claim7 := { stood := { row := witWritesUptoRow, standIns := [], harness := (true, "10241a5313f6cffd95bb83450e6b886843d296cc012d19b11d82053bbf167604"), looks := true }, kinds := [], alts := [], laidByText := true, laidKinds := [.data, .data, .data, .sentinel, .sentinel], laidTests := true, laidLooks := .later }
def WitWritesUptoCardSaid : Prop := Claim7.holds Tryd.pinned (.plain (OpenSpec.upto witWritesSpec)) witWritesUptoCard
end Rows
end Go.Proofs.YtpejimlmokfppaaDoor
