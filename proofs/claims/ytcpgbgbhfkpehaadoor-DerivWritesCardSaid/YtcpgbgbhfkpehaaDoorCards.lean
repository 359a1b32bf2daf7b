/-
  DERIVED. GIVEN WITH THE SEED: THE CARDS: each row of YtcpgbgbhfkpehaaDoorRows.lean that lists a variable, with what it lists TIED to the program's text (the seventh form; the later family's looks); each row that meets fmt, with fmt's text TOLD by the authors' own Lean function (tested against real Go, not proved from fmt's source: count such statements apart). THE CARD IS WHAT COUNTS. Prove the row's statement (the work); the ties are given (YtcpgbgbhfkpehaaDoorTie.lean); close each card by the builder's one call (the guide's Derived/Test/ToyasCard.lean, 'card_holds'). Laid BY PROGRAM, IN A SANDBOX (cutbox-door.mjs). By AI agents, Wed Nov 11 2026. No macro, syntax, notation, axiom, sorry.
-/
import Derived.Test.YtcpgbgbhfkpehaaDoorRows
import GoSem.ClaimSeven
namespace Go.Proofs.YtcpgbgbhfkpehaaDoor
namespace Rows

/-- THE TIED CARD OF 'latchetlaw01.OctetGets'. -/
def octetGetsCard : Claim7 := { stood := { row := octetGetsRow, standIns := [], harness := (true, "9a405ce2d1b3574e7409602715cf2c7f1efb36a88ad9f1496cf2104a3a5aa8c6"), looks := true }, kinds := [], alts := [], laidByText := true, laidKinds := [.data, .data, .data, .sentinel, .sentinel], laidTests := true, laidLooks := .later }
def OctetGetsCardSaid : Prop := Claim7.holds Tryd.pinned (.plain (OpenSpec.ofChange octetGetsSpec)) octetGetsCard

/-- THE TIED CARD OF 'latchetlaw18.WitReads'. -/
def witReadsCard : Claim7 := { stood := { row := witReadsRow, standIns := [], harness := (true, "9a405ce2d1b3574e7409602715cf2c7f1efb36a88ad9f1496cf2104a3a5aa8c6"), looks := true }, kinds := [], alts := [], laidByText := true, laidKinds := [.data, .data, .data, .sentinel, .sentinel], laidTests := true, laidLooks := .later }
def WitReadsCardSaid : Prop := Claim7.holds Tryd.pinned (.plain (OpenSpec.ofChange witReadsSpec)) witReadsCard

/-- THE TIED CARD OF 'latchetlaw13.AsciiHeads'. -/
def asciiHeadsCard : Claim7 := { stood := { row := asciiHeadsRow, standIns := [], harness := (true, "9a405ce2d1b3574e7409602715cf2c7f1efb36a88ad9f1496cf2104a3a5aa8c6"), looks := true }, kinds := [], alts := [], laidByText := true, laidKinds := [.data, .data, .data, .sentinel, .sentinel], laidTests := true, laidLooks := .later }
def AsciiHeadsCardSaid : Prop := Claim7.holds Tryd.pinned (.plain (OpenSpec.ofChange asciiHeadsSpec)) asciiHeadsCard

/-- THE TIED CARD OF 'latchetlaw18.WitWrites'. -/
def witWritesCard : Claim7 := { stood := { row := witWritesRow, standIns := [], harness := (true, "9a405ce2d1b3574e7409602715cf2c7f1efb36a88ad9f1496cf2104a3a5aa8c6"), looks := true }, kinds := [], alts := [], laidByText := true, laidKinds := [.data, .data, .data, .sentinel, .sentinel], laidTests := true, laidLooks := .later }
def WitWritesCardSaid : Prop := Claim7.holds Tryd.pinned (.plain (OpenSpec.ofChange witWritesSpec)) witWritesCard

/-- THE TIED CARD OF 'latchetlaw14.BinaryWrites'. -/
def binaryWritesCard : Claim7 := { stood := { row := binaryWritesRow, standIns := [], harness := (true, "9a405ce2d1b3574e7409602715cf2c7f1efb36a88ad9f1496cf2104a3a5aa8c6"), looks := true }, kinds := [], alts := [], laidByText := true, laidKinds := [.data, .data, .data], laidTests := true, laidLooks := .later }
def BinaryWritesCardSaid : Prop := Claim7.holds Tryd.pinned (.plain (OpenSpec.ofChange binaryWritesSpec)) binaryWritesCard

/-- THE TIED CARD OF 'latchetlaw28.DerivReads'. -/
def derivReadsCard : Claim7 := { stood := { row := derivReadsRow, standIns := [], harness := (true, "9a405ce2d1b3574e7409602715cf2c7f1efb36a88ad9f1496cf2104a3a5aa8c6"), looks := true }, kinds := [], alts := [], laidByText := true, laidKinds := [.data, .data, .data, .data, .sentinel, .sentinel, .pinned], laidTests := true, laidLooks := .later }
def DerivReadsCardSaid : Prop := Claim7.holds Tryd.pinned (.plain (OpenSpec.ofChange derivReadsSpec)) derivReadsCard

/-- THE TIED CARD OF 'latchetlaw28.DerivLong'. -/
def derivLongCard : Claim7 := { stood := { row := derivLongRow, standIns := [], harness := (true, "9a405ce2d1b3574e7409602715cf2c7f1efb36a88ad9f1496cf2104a3a5aa8c6"), looks := true }, kinds := [], alts := [], laidByText := true, laidKinds := [.data, .data, .data, .data, .sentinel, .sentinel, .pinned], laidTests := true, laidLooks := .later }
def DerivLongCardSaid : Prop := Claim7.holds Tryd.pinned (.plain (OpenSpec.ofChange derivLongSpec)) derivLongCard

/-- THE TIED CARD OF 'latchetlaw28.DerivWrites'. -/
def derivWritesCard : Claim7 := { stood := { row := derivWritesRow, standIns := [], harness := (true, "9a405ce2d1b3574e7409602715cf2c7f1efb36a88ad9f1496cf2104a3a5aa8c6"), looks := true }, kinds := [], alts := [], laidByText := true, laidKinds := [.data, .data, .data, .data, .sentinel, .sentinel, .pinned], laidTests := true, laidLooks := .later }
def DerivWritesCardSaid : Prop := Claim7.holds Tryd.pinned (.plain (OpenSpec.ofChange derivWritesSpec)) derivWritesCard

/-- THE TIED CARD OF 'latchetlaw39.OptsReads'. -/
def optsReadsCard : Claim7 := { stood := { row := optsReadsRow, standIns := [], harness := (true, "9a405ce2d1b3574e7409602715cf2c7f1efb36a88ad9f1496cf2104a3a5aa8c6"), looks := true }, kinds := [], alts := [], laidByText := true, laidKinds := [.data, .data, .data, .data, .sentinel, .sentinel, .pinned], laidTests := true, laidLooks := .later }
def OptsReadsCardSaid : Prop := Claim7.holds Tryd.pinned (.plain (OpenSpec.ofChange optsReadsSpec)) optsReadsCard

/-- THE TIED CARD OF 'latchetlaw39.OptsWrites'. -/
def optsWritesCard : Claim7 := { stood := { row := optsWritesRow, standIns := [], harness := (true, "9a405ce2d1b3574e7409602715cf2c7f1efb36a88ad9f1496cf2104a3a5aa8c6"), looks := true }, kinds := [], alts := [], laidByText := true, laidKinds := [.data, .data, .data, .data, .sentinel, .sentinel, .pinned], laidTests := true, laidLooks := .later }
def OptsWritesCardSaid : Prop := Claim7.holds Tryd.pinned (.plain (OpenSpec.ofChange optsWritesSpec)) optsWritesCard

/-- THE TIED CARD OF 'latchetlaw40.VerdictWrites'. -/
def verdictWritesCard : Claim7 := { stood := { row := verdictWritesRow, standIns := [], harness := (true, "9a405ce2d1b3574e7409602715cf2c7f1efb36a88ad9f1496cf2104a3a5aa8c6"), looks := true }, kinds := [], alts := [], laidByText := true, laidKinds := [.data, .data, .data, .data, .sentinel, .sentinel, .data, .pinned], laidTests := true, laidLooks := .later }
def VerdictWritesCardSaid : Prop := Claim7.holds Tryd.pinned (.plain (OpenSpec.ofChange verdictWritesSpec)) verdictWritesCard

/-- THE TIED CARD OF 'latchetlaw40.VerdictBack'. -/
def verdictBackCard : Claim7 := { stood := { row := verdictBackRow, standIns := [], harness := (true, "9a405ce2d1b3574e7409602715cf2c7f1efb36a88ad9f1496cf2104a3a5aa8c6"), looks := true }, kinds := [], alts := [], laidByText := true, laidKinds := [.data, .data, .data, .data, .sentinel, .sentinel, .data, .pinned], laidTests := true, laidLooks := .later }
def VerdictBackCardSaid : Prop := Claim7.holds Tryd.pinned (.plain (OpenSpec.ofChange verdictBackSpec)) verdictBackCard

/-- THE SECOND FORM's CARD OF 'latchetlaw01.OctetGets'. -/
def octetGetsUptoCard : Claim7 := { stood := { row := octetGetsUptoRow, standIns := [], harness := (true, "9a405ce2d1b3574e7409602715cf2c7f1efb36a88ad9f1496cf2104a3a5aa8c6"), looks := true }, kinds := [], alts := [], laidByText := true, laidKinds := [.data, .data, .data, .sentinel, .sentinel], laidTests := true, laidLooks := .later }
def OctetGetsUptoCardSaid : Prop := Claim7.holds Tryd.pinned (.plain (OpenSpec.upto octetGetsSpec)) octetGetsUptoCard

/-- THE SECOND FORM's CARD OF 'latchetlaw18.WitReads'. -/
def witReadsUptoCard : Claim7 := { stood := { row := witReadsUptoRow, standIns := [], harness := (true, "9a405ce2d1b3574e7409602715cf2c7f1efb36a88ad9f1496cf2104a3a5aa8c6"), looks := true }, kinds := [], alts := [], laidByText := true, laidKinds := [.data, .data, .data, .sentinel, .sentinel], laidTests := true, laidLooks := .later }
def WitReadsUptoCardSaid : Prop := Claim7.holds Tryd.pinned (.plain (OpenSpec.upto witReadsSpec)) witReadsUptoCard

/-- THE SECOND FORM's CARD OF 'latchetlaw13.AsciiHeads'. -/
def asciiHeadsUptoCard : Claim7 := { stood := { row := asciiHeadsUptoRow, standIns := [], harness := (true, "9a405ce2d1b3574e7409602715cf2c7f1efb36a88ad9f1496cf2104a3a5aa8c6"), looks := true }, kinds := [], alts := [], laidByText := true, laidKinds := [.data, .data, .data, .sentinel, .sentinel], laidTests := true, laidLooks := .later }
def AsciiHeadsUptoCardSaid : Prop := Claim7.holds Tryd.pinned (.plain (OpenSpec.upto asciiHeadsSpec)) asciiHeadsUptoCard

/-- THE SECOND FORM's CARD OF 'latchetlaw18.WitWrites'. -/
def witWritesUptoCard : Claim7 := { stood := { row := witWritesUptoRow, standIns := [], harness := (true, "9a405ce2d1b3574e7409602715cf2c7f1efb36a88ad9f1496cf2104a3a5aa8c6"), looks := true }, kinds := [], alts := [], laidByText := true, laidKinds := [.data, .data, .data, .sentinel, .sentinel], laidTests := true, laidLooks := .later }
def WitWritesUptoCardSaid : Prop := Claim7.holds Tryd.pinned (.plain (OpenSpec.upto witWritesSpec)) witWritesUptoCard

/-- THE SECOND FORM's CARD OF 'latchetlaw14.BinaryWrites'. -/
def binaryWritesUptoCard : Claim7 := { stood := { row := binaryWritesUptoRow, standIns := [], harness := (true, "9a405ce2d1b3574e7409602715cf2c7f1efb36a88ad9f1496cf2104a3a5aa8c6"), looks := true }, kinds := [], alts := [], laidByText := true, laidKinds := [.data, .data, .data], laidTests := true, laidLooks := .later }
def BinaryWritesUptoCardSaid : Prop := Claim7.holds Tryd.pinned (.plain (OpenSpec.upto binaryWritesSpec)) binaryWritesUptoCard

/-- THE SECOND FORM's CARD OF 'latchetlaw28.DerivReads'. -/
def derivReadsUptoCard : Claim7 := { stood := { row := derivReadsUptoRow, standIns := [], harness := (true, "9a405ce2d1b3574e7409602715cf2c7f1efb36a88ad9f1496cf2104a3a5aa8c6"), looks := true }, kinds := [], alts := [], laidByText := true, laidKinds := [.data, .data, .data, .data, .sentinel, .sentinel, .pinned], laidTests := true, laidLooks := .later }
def DerivReadsUptoCardSaid : Prop := Claim7.holds Tryd.pinned (.plain (OpenSpec.upto derivReadsSpec)) derivReadsUptoCard

/-- THE SECOND FORM's CARD OF 'latchetlaw28.DerivLong'. -/
def derivLongUptoCard : Claim7 := { stood := { row := derivLongUptoRow, standIns := [], harness := (true, "9a405ce2d1b3574e7409602715cf2c7f1efb36a88ad9f1496cf2104a3a5aa8c6"), looks := true }, kinds := [], alts := [], laidByText := true, laidKinds := [.data, .data, .data, .data, .sentinel, .sentinel, .pinned], laidTests := true, laidLooks := .later }
def DerivLongUptoCardSaid : Prop := Claim7.holds Tryd.pinned (.plain (OpenSpec.upto derivLongSpec)) derivLongUptoCard

/-- THE SECOND FORM's CARD OF 'latchetlaw28.DerivWrites'. -/
def derivWritesUptoCard : Claim7 := { stood := { row := derivWritesUptoRow, standIns := [], harness := (true, "9a405ce2d1b3574e7409602715cf2c7f1efb36a88ad9f1496cf2104a3a5aa8c6"), looks := true }, kinds := [], alts := [], laidByText := true, laidKinds := [.data, .data, .data, .data, .sentinel, .sentinel, .pinned], laidTests := true, laidLooks := .later }
def DerivWritesUptoCardSaid : Prop := Claim7.holds Tryd.pinned (.plain (OpenSpec.upto derivWritesSpec)) derivWritesUptoCard

/-- THE SECOND FORM's CARD OF 'latchetlaw39.OptsReads'. -/
def optsReadsUptoCard : Claim7 := { stood := { row := optsReadsUptoRow, standIns := [], harness := (true, "9a405ce2d1b3574e7409602715cf2c7f1efb36a88ad9f1496cf2104a3a5aa8c6"), looks := true }, kinds := [], alts := [], laidByText := true, laidKinds := [.data, .data, .data, .data, .sentinel, .sentinel, .pinned], laidTests := true, laidLooks := .later }
def OptsReadsUptoCardSaid : Prop := Claim7.holds Tryd.pinned (.plain (OpenSpec.upto optsReadsSpec)) optsReadsUptoCard

/-- THE SECOND FORM's CARD OF 'latchetlaw39.OptsWrites'. -/
def optsWritesUptoCard : Claim7 := { stood := { row := optsWritesUptoRow, standIns := [], harness := (true, "9a405ce2d1b3574e7409602715cf2c7f1efb36a88ad9f1496cf2104a3a5aa8c6"), looks := true }, kinds := [], alts := [], laidByText := true, laidKinds := [.data, .data, .data, .data, .sentinel, .sentinel, .pinned], laidTests := true, laidLooks := .later }
def OptsWritesUptoCardSaid : Prop := Claim7.holds Tryd.pinned (.plain (OpenSpec.upto optsWritesSpec)) optsWritesUptoCard

/-- THE SECOND FORM's CARD OF 'latchetlaw40.VerdictWrites'. -/
def verdictWritesUptoCard : Claim7 := { stood := { row := verdictWritesUptoRow, standIns := [], harness := (true, "9a405ce2d1b3574e7409602715cf2c7f1efb36a88ad9f1496cf2104a3a5aa8c6"), looks := true }, kinds := [], alts := [], laidByText := true, laidKinds := [.data, .data, .data, .data, .sentinel, .sentinel, .data, .pinned], laidTests := true, laidLooks := .later }
def VerdictWritesUptoCardSaid : Prop := Claim7.holds Tryd.pinned (.plain (OpenSpec.upto verdictWritesSpec)) verdictWritesUptoCard

/-- THE SECOND FORM's CARD OF 'latchetlaw40.VerdictBack'. -/
def verdictBackUptoCard : Claim7 := { stood := { row := verdictBackUptoRow, standIns := [], harness := (true, "9a405ce2d1b3574e7409602715cf2c7f1efb36a88ad9f1496cf2104a3a5aa8c6"), looks := true }, kinds := [], alts := [], laidByText := true, laidKinds := [.data, .data, .data, .data, .sentinel, .sentinel, .data, .pinned], laidTests := true, laidLooks := .later }
def VerdictBackUptoCardSaid : Prop := Claim7.holds Tryd.pinned (.plain (OpenSpec.upto verdictBackSpec)) verdictBackUptoCard
end Rows
end Go.Proofs.YtcpgbgbhfkpehaaDoor
