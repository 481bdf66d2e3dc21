/-
  DERIVED. GIVEN WITH THE SEED: THE CARDS: each row of YtkkbkhcapogobaaGreatDoorRows.lean that lists a variable, with what it lists TIED to the program's text (the seventh form; the later family's looks); each row that meets fmt, with fmt's text TOLD by the authors' own Lean function (tested against real Go, not proved from fmt's source: count such statements apart). THE CARD IS WHAT COUNTS. Prove the row's statement (the work); the ties are given (YtkkbkhcapogobaaGreatDoorTie.lean); close each card by the builder's one call (the guide's Derived/Test/ToyasCard.lean, 'card_holds'). Laid BY PROGRAM, IN A SANDBOX (cutbox-door.mjs). By AI agents, Wed Nov 11 2026. No macro, syntax, notation, axiom, sorry.
-/
import Derived.Test.YtkkbkhcapogobaaGreatDoorRows
import GoSem.ClaimSeven
namespace Go.Proofs.YtkkbkhcapogobaaGreatDoor
namespace Rows

/-- THE TIED CARD OF 'customhouselaw11.AlignMatchesReference'. -/
def alignMatchesReferenceCard : Claim7 := { stood := { row := alignMatchesReferenceRow, standIns := [], harness := (true, "65be91f6e55c29985e172ea87970fb7b68a984092ee020e186816f1053ddaef9"), looks := false }, kinds := [], alts := [], laidByText := true, laidKinds := [.data, .pinned, .pinned], laidTests := true, laidLooks := .later }
def AlignMatchesReferenceCardSaid : Prop := Claim7.holds Tryz.pinned (.plain (OpenSpec.ofChange alignMatchesReferenceSpec)) alignMatchesReferenceCard

/-- THE SECOND FORM's CARD OF 'customhouselaw11.AlignMatchesReference'. -/
def alignMatchesReferenceUptoCard : Claim7 := { stood := { row := alignMatchesReferenceUptoRow, standIns := [], harness := (true, "65be91f6e55c29985e172ea87970fb7b68a984092ee020e186816f1053ddaef9"), looks := false }, kinds := [], alts := [], laidByText := true, laidKinds := [.data, .pinned, .pinned], laidTests := true, laidLooks := .later }
def AlignMatchesReferenceUptoCardSaid : Prop := Claim7.holds Tryz.pinned (.plain (OpenSpec.upto alignMatchesReferenceSpec)) alignMatchesReferenceUptoCard
end Rows
end Go.Proofs.YtkkbkhcapogobaaGreatDoor
