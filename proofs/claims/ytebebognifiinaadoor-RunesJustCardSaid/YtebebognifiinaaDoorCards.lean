/-
  DERIVED. GIVEN WITH THE SEED: THE CARDS: each row of YtebebognifiinaaDoorRows.lean that lists a variable, with what it lists TIED to the program's text (the seventh form; the later family's looks); each row that meets fmt, with fmt's text TOLD by the authors' own Lean function (tested against real Go, not proved from fmt's source: count such statements apart). THE CARD IS WHAT COUNTS. Prove the row's statement (the work); the ties are given (YtebebognifiinaaDoorTie.lean); close each card by the builder's one call (the guide's Derived/Test/ToyasCard.lean, 'card_holds'). Laid BY PROGRAM, IN A SANDBOX (cutbox-door.mjs). By AI agents, Wed Nov 11 2026. No macro, syntax, notation, axiom, sorry.
-/
import Derived.Test.YtebebognifiinaaDoorRows
import GoSem.ClaimSeven
namespace Go.Proofs.YtebebognifiinaaDoor
namespace Rows

/-- THE TIED CARD OF 'harrowlaw03.RunesJust'. -/
def runesJustCard : Claim7 := { stood := { row := runesJustRow, standIns := [], harness := (true, "fb0af97c635b8a72686155ef7ebbe29b2d353a61a6230399b5570f82597754e6"), looks := false }, kinds := [], alts := [], laidByText := true, laidKinds := [.data, .pinned], laidTests := true, laidLooks := .later }
def RunesJustCardSaid : Prop := Claim7.holds Tryd.pinned (.plain (OpenSpec.ofChange runesJustSpec)) runesJustCard

/-- THE TIED CARD OF 'harrowlaw03.RunesTexts'. -/
def runesTextsCard : Claim7 := { stood := { row := runesTextsRow, standIns := [], harness := (true, "fb0af97c635b8a72686155ef7ebbe29b2d353a61a6230399b5570f82597754e6"), looks := false }, kinds := [], alts := [], laidByText := true, laidKinds := [.data, .pinned], laidTests := true, laidLooks := .later }
def RunesTextsCardSaid : Prop := Claim7.holds Tryd.pinned (.plain (OpenSpec.ofChange runesTextsSpec)) runesTextsCard

/-- THE SECOND FORM's CARD OF 'harrowlaw03.RunesJust'. -/
def runesJustUptoCard : Claim7 := { stood := { row := runesJustUptoRow, standIns := [], harness := (true, "fb0af97c635b8a72686155ef7ebbe29b2d353a61a6230399b5570f82597754e6"), looks := false }, kinds := [], alts := [], laidByText := true, laidKinds := [.data, .pinned], laidTests := true, laidLooks := .later }
def RunesJustUptoCardSaid : Prop := Claim7.holds Tryd.pinned (.plain (OpenSpec.upto runesJustSpec)) runesJustUptoCard

/-- THE SECOND FORM's CARD OF 'harrowlaw03.RunesTexts'. -/
def runesTextsUptoCard : Claim7 := { stood := { row := runesTextsUptoRow, standIns := [], harness := (true, "fb0af97c635b8a72686155ef7ebbe29b2d353a61a6230399b5570f82597754e6"), looks := false }, kinds := [], alts := [], laidByText := true, laidKinds := [.data, .pinned], laidTests := true, laidLooks := .later }
def RunesTextsUptoCardSaid : Prop := Claim7.holds Tryd.pinned (.plain (OpenSpec.upto runesTextsSpec)) runesTextsUptoCard
end Rows
end Go.Proofs.YtebebognifiinaaDoor
