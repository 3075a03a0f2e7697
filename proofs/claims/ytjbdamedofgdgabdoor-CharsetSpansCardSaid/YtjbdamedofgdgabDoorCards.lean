/-
  DERIVED. GIVEN WITH THE SEED: THE CARDS: each row of YtjbdamedofgdgabDoorRows.lean that lists a variable, with what it lists TIED to the program's text (the seventh form; the later family's looks); each row that meets fmt, with fmt's text TOLD by the authors' own Lean function (tested against real Go, not proved from fmt's source: count such statements apart). THE CARD IS WHAT COUNTS. Prove the row's statement (the work); the ties are given (YtjbdamedofgdgabDoorTie.lean); close each card by the builder's one call (the guide's Derived/Test/ToyasCard.lean, 'card_holds'). Laid BY PROGRAM, IN A SANDBOX (cutbox-door.mjs). By AI agents, Wed Nov 11 2026. No macro, syntax, notation, axiom, sorry.
-/
import Derived.Test.YtjbdamedofgdgabDoorRows
import GoSem.ClaimSeven
namespace Go.Proofs.YtjbdamedofgdgabDoor
namespace Rows

/-- THE TIED CARD OF 'harrowlaw01.CharsetSpans'. -/
def charsetSpansCard : Claim7 := { stood := { row := charsetSpansRow, standIns := [], harness := (true, "4d9f0acfd12ea222f04855d8d15fca4a2e45fd0df34f581feed7b9b47fa8e8f5"), looks := false }, kinds := [], alts := [], laidByText := true, laidKinds := [.data], laidTests := true, laidLooks := .later }
def CharsetSpansCardSaid : Prop := Claim7.holds Tryd.pinned (.plain (OpenSpec.ofChange charsetSpansSpec)) charsetSpansCard

/-- THE TIED CARD OF 'harrowlaw01.CharsetBack'. -/
def charsetBackCard : Claim7 := { stood := { row := charsetBackRow, standIns := [], harness := (true, "4d9f0acfd12ea222f04855d8d15fca4a2e45fd0df34f581feed7b9b47fa8e8f5"), looks := false }, kinds := [], alts := [], laidByText := true, laidKinds := [.data], laidTests := true, laidLooks := .later }
def CharsetBackCardSaid : Prop := Claim7.holds Tryd.pinned (.plain (OpenSpec.ofChange charsetBackSpec)) charsetBackCard

/-- THE SECOND FORM's CARD OF 'harrowlaw01.CharsetSpans'. -/
def charsetSpansUptoCard : Claim7 := { stood := { row := charsetSpansUptoRow, standIns := [], harness := (true, "4d9f0acfd12ea222f04855d8d15fca4a2e45fd0df34f581feed7b9b47fa8e8f5"), looks := false }, kinds := [], alts := [], laidByText := true, laidKinds := [.data], laidTests := true, laidLooks := .later }
def CharsetSpansUptoCardSaid : Prop := Claim7.holds Tryd.pinned (.plain (OpenSpec.upto charsetSpansSpec)) charsetSpansUptoCard

/-- THE SECOND FORM's CARD OF 'harrowlaw01.CharsetBack'. -/
def charsetBackUptoCard : Claim7 := { stood := { row := charsetBackUptoRow, standIns := [], harness := (true, "4d9f0acfd12ea222f04855d8d15fca4a2e45fd0df34f581feed7b9b47fa8e8f5"), looks := false }, kinds := [], alts := [], laidByText := true, laidKinds := [.data], laidTests := true, laidLooks := .later }
def CharsetBackUptoCardSaid : Prop := Claim7.holds Tryd.pinned (.plain (OpenSpec.upto charsetBackSpec)) charsetBackUptoCard
end Rows
end Go.Proofs.YtjbdamedofgdgabDoor
