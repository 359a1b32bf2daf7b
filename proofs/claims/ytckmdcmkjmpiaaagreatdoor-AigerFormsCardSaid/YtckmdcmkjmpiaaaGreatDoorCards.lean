/-
  DERIVED. GIVEN WITH THE SEED: THE CARDS: each row of YtckmdcmkjmpiaaaGreatDoorRows.lean that lists a variable, with what it lists TIED to the program's text (the seventh form; the later family's looks); each row that meets fmt, with fmt's text TOLD by the authors' own Lean function (tested against real Go, not proved from fmt's source: count such statements apart). THE CARD IS WHAT COUNTS. Prove the row's statement (the work); the ties are given (YtckmdcmkjmpiaaaGreatDoorTie.lean); close each card by the builder's one call (the guide's Derived/Test/ToyasCard.lean, 'card_holds'). Laid BY PROGRAM, IN A SANDBOX (cutbox-door.mjs). By AI agents, Wed Nov 11 2026. No macro, syntax, notation, axiom, sorry.
-/
import Derived.Test.YtckmdcmkjmpiaaaGreatDoorRows
import GoSem.ClaimSeven
namespace Go.Proofs.YtckmdcmkjmpiaaaGreatDoor
namespace Rows

/-- THE TIED CARD OF 'latchetlaw15.AigerParses'. -/
def aigerParsesCard : Claim7 := { stood := { row := aigerParsesRow, standIns := [], harness := (true, "ab26858a42a6705fe6b5d157faf6782391cc923f52e1f8b72d21e75f63855f77"), looks := true }, kinds := [], alts := [], laidByText := true, laidKinds := [.data, .data, .data, .sentinel, .sentinel], laidTests := true, laidLooks := .later }
def AigerParsesCardSaid : Prop := Claim7.holds Tryz.pinned (.plain (OpenSpec.ofChange aigerParsesSpec)) aigerParsesCard

/-- THE TIED CARD OF 'latchetlaw15.AigerForms'. -/
def aigerFormsCard : Claim7 := { stood := { row := aigerFormsRow, standIns := [], harness := (true, "ab26858a42a6705fe6b5d157faf6782391cc923f52e1f8b72d21e75f63855f77"), looks := true }, kinds := [], alts := [], laidByText := true, laidKinds := [.data, .data, .data, .sentinel, .sentinel], laidTests := true, laidLooks := .later }
def AigerFormsCardSaid : Prop := Claim7.holds Tryz.pinned (.plain (OpenSpec.ofChange aigerFormsSpec)) aigerFormsCard

/-- THE SECOND FORM's CARD OF 'latchetlaw15.AigerParses'. -/
def aigerParsesUptoCard : Claim7 := { stood := { row := aigerParsesUptoRow, standIns := [], harness := (true, "ab26858a42a6705fe6b5d157faf6782391cc923f52e1f8b72d21e75f63855f77"), looks := true }, kinds := [], alts := [], laidByText := true, laidKinds := [.data, .data, .data, .sentinel, .sentinel], laidTests := true, laidLooks := .later }
def AigerParsesUptoCardSaid : Prop := Claim7.holds Tryz.pinned (.plain (OpenSpec.upto aigerParsesSpec)) aigerParsesUptoCard

/-- THE SECOND FORM's CARD OF 'latchetlaw15.AigerForms'. -/
def aigerFormsUptoCard : Claim7 := { stood := { row := aigerFormsUptoRow, standIns := [], harness := (true, "ab26858a42a6705fe6b5d157faf6782391cc923f52e1f8b72d21e75f63855f77"), looks := true }, kinds := [], alts := [], laidByText := true, laidKinds := [.data, .data, .data, .sentinel, .sentinel], laidTests := true, laidLooks := .later }
def AigerFormsUptoCardSaid : Prop := Claim7.holds Tryz.pinned (.plain (OpenSpec.upto aigerFormsSpec)) aigerFormsUptoCard
end Rows
end Go.Proofs.YtckmdcmkjmpiaaaGreatDoor
