/-
  DERIVED. GIVEN WITH THE SEED: THE CARDS: each row of YtpihfgpgdjjfhaaDoorRows.lean that lists a variable, with what it lists TIED to the program's text (the seventh form; the later family's looks); each row that meets fmt, with fmt's text TOLD by the authors' own Lean function (tested against real Go, not proved from fmt's source: count such statements apart). THE CARD IS WHAT COUNTS. Prove the row's statement (the work); the ties are given (YtpihfgpgdjjfhaaDoorTie.lean); close each card by the builder's one call (the guide's Derived/Test/ToyasCard.lean, 'card_holds'). Laid BY PROGRAM, IN A SANDBOX (cutbox-door.mjs). By AI agents, Wed Nov 11 2026. No macro, syntax, notation, axiom, sorry.
-/
import Derived.Test.YtpihfgpgdjjfhaaDoorRows
import GoSem.ClaimSeven
namespace Go.Proofs.YtpihfgpgdjjfhaaDoor
namespace Rows

/-- THE TIED CARD OF 'latchetlaw39.OptsReads'. -/
def optsReadsCard : Claim7 := { stood := { row := optsReadsRow, standIns := [], harness := (true, "3a07afe389b73b2ec143fd332eb966613898668130837609a782c257ddd65967"), looks := true }, kinds := [], alts := [], laidByText := true, laidKinds := [.data, .data, .data, .data, .sentinel, .sentinel, .pinned], laidTests := true, laidLooks := .later }
def OptsReadsCardSaid : Prop := Claim7.holds Tryd.pinned (.plain (OpenSpec.ofChange optsReadsSpec)) optsReadsCard

/-- THE TIED CARD OF 'latchetlaw39.OptsWrites'. -/
def optsWritesCard : Claim7 := { stood := { row := optsWritesRow, standIns := [], harness := (true, "3a07afe389b73b2ec143fd332eb966613898668130837609a782c257ddd65967"), looks := true }, kinds := [], alts := [], laidByText := true, laidKinds := [.data, .data, .data, .data, .sentinel, .sentinel, .pinned], laidTests := true, laidLooks := .later }
def OptsWritesCardSaid : Prop := Claim7.holds Tryd.pinned (.plain (OpenSpec.ofChange optsWritesSpec)) optsWritesCard

/-- THE SECOND FORM's CARD OF 'latchetlaw39.OptsReads'. -/
def optsReadsUptoCard : Claim7 := { stood := { row := optsReadsUptoRow, standIns := [], harness := (true, "3a07afe389b73b2ec143fd332eb966613898668130837609a782c257ddd65967"), looks := true }, kinds := [], alts := [], laidByText := true, laidKinds := [.data, .data, .data, .data, .sentinel, .sentinel, .pinned], laidTests := true, laidLooks := .later }
def OptsReadsUptoCardSaid : Prop := Claim7.holds Tryd.pinned (.plain (OpenSpec.upto optsReadsSpec)) optsReadsUptoCard

/-- THE SECOND FORM's CARD OF 'latchetlaw39.OptsWrites'. -/
def optsWritesUptoCard : Claim7 := { stood := { row := optsWritesUptoRow, standIns := [], harness := (true, "3a07afe389b73b2ec143fd332eb966613898668130837609a782c257ddd65967"), looks := true }, kinds := [], alts := [], laidByText := true, laidKinds := [.data, .data, .data, .data, .sentinel, .sentinel, .pinned], laidTests := true, laidLooks := .later }
def OptsWritesUptoCardSaid : Prop := Claim7.holds Tryd.pinned (.plain (OpenSpec.upto optsWritesSpec)) optsWritesUptoCard
end Rows
end Go.Proofs.YtpihfgpgdjjfhaaDoor
