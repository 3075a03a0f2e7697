/-
  DERIVED. GIVEN WITH THE SEED: THE CARDS: each row of YthjlpcecfkboiabDoorRows.lean that lists a variable, with what it lists TIED to the program's text (the seventh form; the later family's looks); each row that meets fmt, with fmt's text TOLD by the authors' own Lean function (tested against real Go, not proved from fmt's source: count such statements apart). THE CARD IS WHAT COUNTS. Prove the row's statement (the work); the ties are given (YthjlpcecfkboiabDoorTie.lean); close each card by the builder's one call (the guide's Derived/Test/ToyasCard.lean, 'card_holds'). Laid BY PROGRAM, IN A SANDBOX (cutbox-door.mjs). By AI agents, Wed Nov 11 2026. No macro, syntax, notation, axiom, sorry.
-/
import Derived.Test.YthjlpcecfkboiabDoorRows
import GoSem.ClaimSeven
namespace Go.Proofs.YthjlpcecfkboiabDoor
namespace Rows

/-- THE TIED CARD OF 'harrowlaw22.StepsBack'. -/
def stepsBackCard : Claim7 := { stood := { row := stepsBackRow, standIns := [], harness := (true, "9621ff3e81b1f7ab1987ed9ede7530c5935d550afc15254426abebca89fabf98"), looks := false }, kinds := [], alts := [], laidByText := true, laidKinds := [.data], laidTests := true, laidLooks := .later }
def StepsBackCardSaid : Prop := Claim7.holds Tryd.pinned (.plain (OpenSpec.ofChange stepsBackSpec)) stepsBackCard

/-- THE TIED CARD OF 'harrowlaw22.StepsRuns'. -/
def stepsRunsCard : Claim7 := { stood := { row := stepsRunsRow, standIns := [], harness := (true, "9621ff3e81b1f7ab1987ed9ede7530c5935d550afc15254426abebca89fabf98"), looks := false }, kinds := [], alts := [], laidByText := true, laidKinds := [.data], laidTests := true, laidLooks := .later }
def StepsRunsCardSaid : Prop := Claim7.holds Tryd.pinned (.plain (OpenSpec.ofChange stepsRunsSpec)) stepsRunsCard

/-- THE SECOND FORM's CARD OF 'harrowlaw22.StepsBack'. -/
def stepsBackUptoCard : Claim7 := { stood := { row := stepsBackUptoRow, standIns := [], harness := (true, "9621ff3e81b1f7ab1987ed9ede7530c5935d550afc15254426abebca89fabf98"), looks := false }, kinds := [], alts := [], laidByText := true, laidKinds := [.data], laidTests := true, laidLooks := .later }
def StepsBackUptoCardSaid : Prop := Claim7.holds Tryd.pinned (.plain (OpenSpec.upto stepsBackSpec)) stepsBackUptoCard

/-- THE SECOND FORM's CARD OF 'harrowlaw22.StepsRuns'. -/
def stepsRunsUptoCard : Claim7 := { stood := { row := stepsRunsUptoRow, standIns := [], harness := (true, "9621ff3e81b1f7ab1987ed9ede7530c5935d550afc15254426abebca89fabf98"), looks := false }, kinds := [], alts := [], laidByText := true, laidKinds := [.data], laidTests := true, laidLooks := .later }
def StepsRunsUptoCardSaid : Prop := Claim7.holds Tryd.pinned (.plain (OpenSpec.upto stepsRunsSpec)) stepsRunsUptoCard
end Rows
end Go.Proofs.YthjlpcecfkboiabDoor
