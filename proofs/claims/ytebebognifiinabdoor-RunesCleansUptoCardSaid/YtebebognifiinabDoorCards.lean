/-
  DERIVED. GIVEN WITH THE SEED: THE CARDS: each row of YtebebognifiinabDoorRows.lean that lists a variable, with what it lists TIED to the program's text (the seventh form; the later family's looks); each row that meets fmt, with fmt's text TOLD by the authors' own Lean function (tested against real Go, not proved from fmt's source: count such statements apart). THE CARD IS WHAT COUNTS. Prove the row's statement (the work); the ties are given (YtebebognifiinabDoorTie.lean); close each card by the builder's one call (the guide's Derived/Test/ToyasCard.lean, 'card_holds'). Laid BY PROGRAM, IN A SANDBOX (cutbox-door.mjs). By AI agents, Wed Nov 11 2026. No macro, syntax, notation, axiom, sorry.
-/
import Derived.Test.YtebebognifiinabDoorRows
import GoSem.ClaimSeven
namespace Go.Proofs.YtebebognifiinabDoor
namespace Rows

/-- THE TIED CARD OF 'harrowlaw03.RunesCleans'. -/
def runesCleansCard : Claim7 := { stood := { row := runesCleansRow, standIns := [], harness := (true, "f42a46691557721451b8b4a04ac37535716dbe2fe97d31dca09bbb20613c4787"), looks := false }, kinds := [], alts := [], laidByText := true, laidKinds := [.data, .pinned], laidTests := true, laidLooks := .later }
def RunesCleansCardSaid : Prop := Claim7.holds Tryd.pinned (.plain (OpenSpec.ofChange runesCleansSpec)) runesCleansCard

/-- THE SECOND FORM's CARD OF 'harrowlaw03.RunesCleans'. -/
def runesCleansUptoCard : Claim7 := { stood := { row := runesCleansUptoRow, standIns := [], harness := (true, "f42a46691557721451b8b4a04ac37535716dbe2fe97d31dca09bbb20613c4787"), looks := false }, kinds := [], alts := [], laidByText := true, laidKinds := [.data, .pinned], laidTests := true, laidLooks := .later }
def RunesCleansUptoCardSaid : Prop := Claim7.holds Tryd.pinned (.plain (OpenSpec.upto runesCleansSpec)) runesCleansUptoCard
end Rows
end Go.Proofs.YtebebognifiinabDoor
