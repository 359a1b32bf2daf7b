/-
  DERIVED. GIVEN WITH THE SEED: THE CARDS: each row of YthconjhldjaldaaGreatDoorRows.lean that lists a variable, with what it lists TIED to the program's text (the seventh form; the later family's looks); each row that meets fmt, with fmt's text TOLD by the authors' own Lean function (tested against real Go, not proved from fmt's source: count such statements apart). THE CARD IS WHAT COUNTS. Prove the row's statement (the work); the ties are given (YthconjhldjaldaaGreatDoorTie.lean); close each card by the builder's one call (the guide's Derived/Test/ToyasCard.lean, 'card_holds'). Laid BY PROGRAM, IN A SANDBOX (cutbox-door.mjs). By AI agents, Wed Nov 11 2026. No macro, syntax, notation, axiom, sorry.
-/
import Derived.Test.YthconjhldjaldaaGreatDoorRows
import GoSem.ClaimSeven
namespace Go.Proofs.YthconjhldjaldaaGreatDoor
namespace Rows

/-- THE TIED CARD OF 'latchetlaw29.RupFollows'. -/
def rupFollowsCard : Claim7 := { stood := { row := rupFollowsRow, standIns := [], harness := (true, "f094482076d222c31ebc492ce27a801f5966d532e53cd1b945edd9180b093d5b"), looks := false }, kinds := [], alts := [], laidByText := true, laidKinds := [.data, .data, .data], laidTests := true, laidLooks := .later }
def RupFollowsCardSaid : Prop := Claim7.holds Tryz.pinned (.plain (OpenSpec.ofChange rupFollowsSpec)) rupFollowsCard

/-- THE TIED CARD OF 'latchetlaw29.RupSound'. -/
def rupSoundCard : Claim7 := { stood := { row := rupSoundRow, standIns := [], harness := (true, "f094482076d222c31ebc492ce27a801f5966d532e53cd1b945edd9180b093d5b"), looks := false }, kinds := [], alts := [], laidByText := true, laidKinds := [.data, .data, .data], laidTests := true, laidLooks := .later }
def RupSoundCardSaid : Prop := Claim7.holds Tryz.pinned (.plain (OpenSpec.ofChange rupSoundSpec)) rupSoundCard

/-- THE SECOND FORM's CARD OF 'latchetlaw29.RupFollows'. -/
def rupFollowsUptoCard : Claim7 := { stood := { row := rupFollowsUptoRow, standIns := [], harness := (true, "f094482076d222c31ebc492ce27a801f5966d532e53cd1b945edd9180b093d5b"), looks := false }, kinds := [], alts := [], laidByText := true, laidKinds := [.data, .data, .data], laidTests := true, laidLooks := .later }
def RupFollowsUptoCardSaid : Prop := Claim7.holds Tryz.pinned (.plain (OpenSpec.upto rupFollowsSpec)) rupFollowsUptoCard

/-- THE SECOND FORM's CARD OF 'latchetlaw29.RupSound'. -/
def rupSoundUptoCard : Claim7 := { stood := { row := rupSoundUptoRow, standIns := [], harness := (true, "f094482076d222c31ebc492ce27a801f5966d532e53cd1b945edd9180b093d5b"), looks := false }, kinds := [], alts := [], laidByText := true, laidKinds := [.data, .data, .data], laidTests := true, laidLooks := .later }
def RupSoundUptoCardSaid : Prop := Claim7.holds Tryz.pinned (.plain (OpenSpec.upto rupSoundSpec)) rupSoundUptoCard
end Rows
end Go.Proofs.YthconjhldjaldaaGreatDoor
