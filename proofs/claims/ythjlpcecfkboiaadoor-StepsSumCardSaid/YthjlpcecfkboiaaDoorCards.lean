/-
  DERIVED. GIVEN WITH THE SEED: THE CARDS: each row of YthjlpcecfkboiaaDoorRows.lean that lists a variable, with what it lists TIED to the program's text (the seventh form; the later family's looks); each row that meets fmt, with fmt's text TOLD by the authors' own Lean function (tested against real Go, not proved from fmt's source: count such statements apart). THE CARD IS WHAT COUNTS. Prove the row's statement (the work); the ties are given (YthjlpcecfkboiaaDoorTie.lean); close each card by the builder's one call (the guide's Derived/Test/ToyasCard.lean, 'card_holds'). Laid BY PROGRAM, IN A SANDBOX (cutbox-door.mjs). By AI agents, Wed Nov 11 2026. No macro, syntax, notation, axiom, sorry.
-/
import Derived.Test.YthjlpcecfkboiaaDoorRows
import GoSem.ClaimSeven
namespace Go.Proofs.YthjlpcecfkboiaaDoor
namespace Rows

/-- THE TIED CARD OF 'harrowlaw22.StepsBegins'. -/
def stepsBeginsCard : Claim7 := { stood := { row := stepsBeginsRow, standIns := [], harness := (true, "ec0544da44464dd45caa75151241a44d5ec585d7b0bcee9e82c6805fda8e2dde"), looks := false }, kinds := [], alts := [], laidByText := true, laidKinds := [.data], laidTests := true, laidLooks := .later }
def StepsBeginsCardSaid : Prop := Claim7.holds Tryd.pinned (.plain (OpenSpec.ofChange stepsBeginsSpec)) stepsBeginsCard

/-- THE TIED CARD OF 'harrowlaw22.StepsSum'. -/
def stepsSumCard : Claim7 := { stood := { row := stepsSumRow, standIns := [], harness := (true, "ec0544da44464dd45caa75151241a44d5ec585d7b0bcee9e82c6805fda8e2dde"), looks := false }, kinds := [], alts := [], laidByText := true, laidKinds := [.data], laidTests := true, laidLooks := .later }
def StepsSumCardSaid : Prop := Claim7.holds Tryd.pinned (.plain (OpenSpec.ofChange stepsSumSpec)) stepsSumCard

/-- THE TIED CARD OF 'harrowlaw22.StepsSaves'. -/
def stepsSavesCard : Claim7 := { stood := { row := stepsSavesRow, standIns := [], harness := (true, "ec0544da44464dd45caa75151241a44d5ec585d7b0bcee9e82c6805fda8e2dde"), looks := false }, kinds := [], alts := [], laidByText := true, laidKinds := [.data], laidTests := true, laidLooks := .later }
def StepsSavesCardSaid : Prop := Claim7.holds Tryd.pinned (.plain (OpenSpec.ofChange stepsSavesSpec)) stepsSavesCard

/-- THE TIED CARD OF 'harrowlaw22.StepsLoads'. -/
def stepsLoadsCard : Claim7 := { stood := { row := stepsLoadsRow, standIns := [], harness := (true, "ec0544da44464dd45caa75151241a44d5ec585d7b0bcee9e82c6805fda8e2dde"), looks := false }, kinds := [], alts := [], laidByText := true, laidKinds := [.data], laidTests := true, laidLooks := .later }
def StepsLoadsCardSaid : Prop := Claim7.holds Tryd.pinned (.plain (OpenSpec.ofChange stepsLoadsSpec)) stepsLoadsCard

/-- THE SECOND FORM's CARD OF 'harrowlaw22.StepsBegins'. -/
def stepsBeginsUptoCard : Claim7 := { stood := { row := stepsBeginsUptoRow, standIns := [], harness := (true, "ec0544da44464dd45caa75151241a44d5ec585d7b0bcee9e82c6805fda8e2dde"), looks := false }, kinds := [], alts := [], laidByText := true, laidKinds := [.data], laidTests := true, laidLooks := .later }
def StepsBeginsUptoCardSaid : Prop := Claim7.holds Tryd.pinned (.plain (OpenSpec.upto stepsBeginsSpec)) stepsBeginsUptoCard

/-- THE SECOND FORM's CARD OF 'harrowlaw22.StepsSum'. -/
def stepsSumUptoCard : Claim7 := { stood := { row := stepsSumUptoRow, standIns := [], harness := (true, "ec0544da44464dd45caa75151241a44d5ec585d7b0bcee9e82c6805fda8e2dde"), looks := false }, kinds := [], alts := [], laidByText := true, laidKinds := [.data], laidTests := true, laidLooks := .later }
def StepsSumUptoCardSaid : Prop := Claim7.holds Tryd.pinned (.plain (OpenSpec.upto stepsSumSpec)) stepsSumUptoCard

/-- THE SECOND FORM's CARD OF 'harrowlaw22.StepsSaves'. -/
def stepsSavesUptoCard : Claim7 := { stood := { row := stepsSavesUptoRow, standIns := [], harness := (true, "ec0544da44464dd45caa75151241a44d5ec585d7b0bcee9e82c6805fda8e2dde"), looks := false }, kinds := [], alts := [], laidByText := true, laidKinds := [.data], laidTests := true, laidLooks := .later }
def StepsSavesUptoCardSaid : Prop := Claim7.holds Tryd.pinned (.plain (OpenSpec.upto stepsSavesSpec)) stepsSavesUptoCard

/-- THE SECOND FORM's CARD OF 'harrowlaw22.StepsLoads'. -/
def stepsLoadsUptoCard : Claim7 := { stood := { row := stepsLoadsUptoRow, standIns := [], harness := (true, "ec0544da44464dd45caa75151241a44d5ec585d7b0bcee9e82c6805fda8e2dde"), looks := false }, kinds := [], alts := [], laidByText := true, laidKinds := [.data], laidTests := true, laidLooks := .later }
def StepsLoadsUptoCardSaid : Prop := Claim7.holds Tryd.pinned (.plain (OpenSpec.upto stepsLoadsSpec)) stepsLoadsUptoCard
end Rows
end Go.Proofs.YthjlpcecfkboiaaDoor
