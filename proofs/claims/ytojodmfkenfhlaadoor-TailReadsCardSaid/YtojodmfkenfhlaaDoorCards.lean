/-
  DERIVED. GIVEN WITH THE SEED: THE CARDS: each row of YtojodmfkenfhlaaDoorRows.lean that lists a variable, with what it lists TIED to the program's text (the seventh form; the later family's looks); each row that meets fmt, with fmt's text TOLD by the authors' own Lean function (tested against real Go, not proved from fmt's source: count such statements apart). THE CARD IS WHAT COUNTS. Prove the row's statement (the work); the ties are given (YtojodmfkenfhlaaDoorTie.lean); close each card by the builder's one call (the guide's Derived/Test/ToyasCard.lean, 'card_holds'). Laid BY PROGRAM, IN A SANDBOX (cutbox-door.mjs). By AI agents, Wed Nov 11 2026. No macro, syntax, notation, axiom, sorry.
-/
import Derived.Test.YtojodmfkenfhlaaDoorRows
import GoSem.ClaimSeven
namespace Go.Proofs.YtojodmfkenfhlaaDoor
namespace Rows

/-- THE TIED CARD OF 'latchetlaw01.OctetPuts'. -/
def octetPutsCard : Claim7 := { stood := { row := octetPutsRow, standIns := [], harness := (true, "d3f907fd545a1adbb5195521b547d9f155731440b40d4b85444815cd9c197a9e"), looks := true }, kinds := [], alts := [], laidByText := true, laidKinds := [.data, .data, .data, .sentinel, .sentinel], laidTests := true, laidLooks := .later }
def OctetPutsCardSaid : Prop := Claim7.holds Tryd.pinned (.plain (OpenSpec.ofChange octetPutsSpec)) octetPutsCard

/-- THE TIED CARD OF 'latchetlaw01.OctetGets'. -/
def octetGetsCard : Claim7 := { stood := { row := octetGetsRow, standIns := [], harness := (true, "d3f907fd545a1adbb5195521b547d9f155731440b40d4b85444815cd9c197a9e"), looks := true }, kinds := [], alts := [], laidByText := true, laidKinds := [.data, .data, .data, .sentinel, .sentinel], laidTests := true, laidLooks := .later }
def OctetGetsCardSaid : Prop := Claim7.holds Tryd.pinned (.plain (OpenSpec.ofChange octetGetsSpec)) octetGetsCard

/-- THE TIED CARD OF 'latchetlaw01.OctetBits'. -/
def octetBitsCard : Claim7 := { stood := { row := octetBitsRow, standIns := [], harness := (true, "d3f907fd545a1adbb5195521b547d9f155731440b40d4b85444815cd9c197a9e"), looks := true }, kinds := [], alts := [], laidByText := true, laidKinds := [.data, .data, .data, .sentinel, .sentinel], laidTests := true, laidLooks := .later }
def OctetBitsCardSaid : Prop := Claim7.holds Tryd.pinned (.plain (OpenSpec.ofChange octetBitsSpec)) octetBitsCard

/-- THE TIED CARD OF 'latchetlaw12.TailReads'. -/
def tailReadsCard : Claim7 := { stood := { row := tailReadsRow, standIns := [], harness := (true, "d3f907fd545a1adbb5195521b547d9f155731440b40d4b85444815cd9c197a9e"), looks := true }, kinds := [], alts := [], laidByText := true, laidKinds := [.data, .data, .data, .sentinel, .sentinel], laidTests := true, laidLooks := .later }
def TailReadsCardSaid : Prop := Claim7.holds Tryd.pinned (.plain (OpenSpec.ofChange tailReadsSpec)) tailReadsCard

/-- THE TIED CARD OF 'latchetlaw12.TailCounts'. -/
def tailCountsCard : Claim7 := { stood := { row := tailCountsRow, standIns := [], harness := (true, "d3f907fd545a1adbb5195521b547d9f155731440b40d4b85444815cd9c197a9e"), looks := true }, kinds := [], alts := [], laidByText := true, laidKinds := [.data, .data, .data, .sentinel, .sentinel], laidTests := true, laidLooks := .later }
def TailCountsCardSaid : Prop := Claim7.holds Tryd.pinned (.plain (OpenSpec.ofChange tailCountsSpec)) tailCountsCard

/-- THE TIED CARD OF 'latchetlaw18.WitReads'. -/
def witReadsCard : Claim7 := { stood := { row := witReadsRow, standIns := [], harness := (true, "d3f907fd545a1adbb5195521b547d9f155731440b40d4b85444815cd9c197a9e"), looks := true }, kinds := [], alts := [], laidByText := true, laidKinds := [.data, .data, .data, .sentinel, .sentinel], laidTests := true, laidLooks := .later }
def WitReadsCardSaid : Prop := Claim7.holds Tryd.pinned (.plain (OpenSpec.ofChange witReadsSpec)) witReadsCard

/-- THE TIED CARD OF 'latchetlaw13.AsciiHeads'. -/
def asciiHeadsCard : Claim7 := { stood := { row := asciiHeadsRow, standIns := [], harness := (true, "d3f907fd545a1adbb5195521b547d9f155731440b40d4b85444815cd9c197a9e"), looks := true }, kinds := [], alts := [], laidByText := true, laidKinds := [.data, .data, .data, .sentinel, .sentinel], laidTests := true, laidLooks := .later }
def AsciiHeadsCardSaid : Prop := Claim7.holds Tryd.pinned (.plain (OpenSpec.ofChange asciiHeadsSpec)) asciiHeadsCard

/-- THE TIED CARD OF 'latchetlaw01.OctetLines'. -/
def octetLinesCard : Claim7 := { stood := { row := octetLinesRow, standIns := [], harness := (true, "d3f907fd545a1adbb5195521b547d9f155731440b40d4b85444815cd9c197a9e"), looks := true }, kinds := [], alts := [], laidByText := true, laidKinds := [.data, .data, .data, .data, .sentinel, .sentinel, .pinned], laidTests := true, laidLooks := .later }
def OctetLinesCardSaid : Prop := Claim7.holds Tryd.pinned (.plain (OpenSpec.ofChange octetLinesSpec)) octetLinesCard

/-- THE TIED CARD OF 'latchetlaw18.WitWrites'. -/
def witWritesCard : Claim7 := { stood := { row := witWritesRow, standIns := [], harness := (true, "d3f907fd545a1adbb5195521b547d9f155731440b40d4b85444815cd9c197a9e"), looks := true }, kinds := [], alts := [], laidByText := true, laidKinds := [.data, .data, .data, .sentinel, .sentinel], laidTests := true, laidLooks := .later }
def WitWritesCardSaid : Prop := Claim7.holds Tryd.pinned (.plain (OpenSpec.ofChange witWritesSpec)) witWritesCard

/-- THE SECOND FORM's CARD OF 'latchetlaw01.OctetPuts'. -/
def octetPutsUptoCard : Claim7 := { stood := { row := octetPutsUptoRow, standIns := [], harness := (true, "d3f907fd545a1adbb5195521b547d9f155731440b40d4b85444815cd9c197a9e"), looks := true }, kinds := [], alts := [], laidByText := true, laidKinds := [.data, .data, .data, .sentinel, .sentinel], laidTests := true, laidLooks := .later }
def OctetPutsUptoCardSaid : Prop := Claim7.holds Tryd.pinned (.plain (OpenSpec.upto octetPutsSpec)) octetPutsUptoCard

/-- THE SECOND FORM's CARD OF 'latchetlaw01.OctetGets'. -/
def octetGetsUptoCard : Claim7 := { stood := { row := octetGetsUptoRow, standIns := [], harness := (true, "d3f907fd545a1adbb5195521b547d9f155731440b40d4b85444815cd9c197a9e"), looks := true }, kinds := [], alts := [], laidByText := true, laidKinds := [.data, .data, .data, .sentinel, .sentinel], laidTests := true, laidLooks := .later }
def OctetGetsUptoCardSaid : Prop := Claim7.holds Tryd.pinned (.plain (OpenSpec.upto octetGetsSpec)) octetGetsUptoCard

/-- THE SECOND FORM's CARD OF 'latchetlaw01.OctetBits'. -/
def octetBitsUptoCard : Claim7 := { stood := { row := octetBitsUptoRow, standIns := [], harness := (true, "d3f907fd545a1adbb5195521b547d9f155731440b40d4b85444815cd9c197a9e"), looks := true }, kinds := [], alts := [], laidByText := true, laidKinds := [.data, .data, .data, .sentinel, .sentinel], laidTests := true, laidLooks := .later }
def OctetBitsUptoCardSaid : Prop := Claim7.holds Tryd.pinned (.plain (OpenSpec.upto octetBitsSpec)) octetBitsUptoCard

/-- THE SECOND FORM's CARD OF 'latchetlaw12.TailReads'. -/
def tailReadsUptoCard : Claim7 := { stood := { row := tailReadsUptoRow, standIns := [], harness := (true, "d3f907fd545a1adbb5195521b547d9f155731440b40d4b85444815cd9c197a9e"), looks := true }, kinds := [], alts := [], laidByText := true, laidKinds := [.data, .data, .data, .sentinel, .sentinel], laidTests := true, laidLooks := .later }
def TailReadsUptoCardSaid : Prop := Claim7.holds Tryd.pinned (.plain (OpenSpec.upto tailReadsSpec)) tailReadsUptoCard

/-- THE SECOND FORM's CARD OF 'latchetlaw12.TailCounts'. -/
def tailCountsUptoCard : Claim7 := { stood := { row := tailCountsUptoRow, standIns := [], harness := (true, "d3f907fd545a1adbb5195521b547d9f155731440b40d4b85444815cd9c197a9e"), looks := true }, kinds := [], alts := [], laidByText := true, laidKinds := [.data, .data, .data, .sentinel, .sentinel], laidTests := true, laidLooks := .later }
def TailCountsUptoCardSaid : Prop := Claim7.holds Tryd.pinned (.plain (OpenSpec.upto tailCountsSpec)) tailCountsUptoCard

/-- THE SECOND FORM's CARD OF 'latchetlaw18.WitReads'. -/
def witReadsUptoCard : Claim7 := { stood := { row := witReadsUptoRow, standIns := [], harness := (true, "d3f907fd545a1adbb5195521b547d9f155731440b40d4b85444815cd9c197a9e"), looks := true }, kinds := [], alts := [], laidByText := true, laidKinds := [.data, .data, .data, .sentinel, .sentinel], laidTests := true, laidLooks := .later }
def WitReadsUptoCardSaid : Prop := Claim7.holds Tryd.pinned (.plain (OpenSpec.upto witReadsSpec)) witReadsUptoCard

/-- THE SECOND FORM's CARD OF 'latchetlaw13.AsciiHeads'. -/
def asciiHeadsUptoCard : Claim7 := { stood := { row := asciiHeadsUptoRow, standIns := [], harness := (true, "d3f907fd545a1adbb5195521b547d9f155731440b40d4b85444815cd9c197a9e"), looks := true }, kinds := [], alts := [], laidByText := true, laidKinds := [.data, .data, .data, .sentinel, .sentinel], laidTests := true, laidLooks := .later }
def AsciiHeadsUptoCardSaid : Prop := Claim7.holds Tryd.pinned (.plain (OpenSpec.upto asciiHeadsSpec)) asciiHeadsUptoCard

/-- THE SECOND FORM's CARD OF 'latchetlaw01.OctetLines'. -/
def octetLinesUptoCard : Claim7 := { stood := { row := octetLinesUptoRow, standIns := [], harness := (true, "d3f907fd545a1adbb5195521b547d9f155731440b40d4b85444815cd9c197a9e"), looks := true }, kinds := [], alts := [], laidByText := true, laidKinds := [.data, .data, .data, .data, .sentinel, .sentinel, .pinned], laidTests := true, laidLooks := .later }
def OctetLinesUptoCardSaid : Prop := Claim7.holds Tryd.pinned (.plain (OpenSpec.upto octetLinesSpec)) octetLinesUptoCard

/-- THE SECOND FORM's CARD OF 'latchetlaw18.WitWrites'. -/
def witWritesUptoCard : Claim7 := { stood := { row := witWritesUptoRow, standIns := [], harness := (true, "d3f907fd545a1adbb5195521b547d9f155731440b40d4b85444815cd9c197a9e"), looks := true }, kinds := [], alts := [], laidByText := true, laidKinds := [.data, .data, .data, .sentinel, .sentinel], laidTests := true, laidLooks := .later }
def WitWritesUptoCardSaid : Prop := Claim7.holds Tryd.pinned (.plain (OpenSpec.upto witWritesSpec)) witWritesUptoCard
end Rows
end Go.Proofs.YtojodmfkenfhlaaDoor
