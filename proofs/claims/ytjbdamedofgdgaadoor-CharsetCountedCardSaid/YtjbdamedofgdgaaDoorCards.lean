/-
  DERIVED. GIVEN WITH THE SEED: THE CARDS: each row of YtjbdamedofgdgaaDoorRows.lean that lists a variable, with what it lists TIED to the program's text (the seventh form; the later family's looks); each row that meets fmt, with fmt's text TOLD by the authors' own Lean function (tested against real Go, not proved from fmt's source: count such statements apart). THE CARD IS WHAT COUNTS. Prove the row's statement (the work); the ties are given (YtjbdamedofgdgaaDoorTie.lean); close each card by the builder's one call (the guide's Derived/Test/ToyasCard.lean, 'card_holds'). Laid BY PROGRAM, IN A SANDBOX (cutbox-door.mjs). By AI agents, Wed Nov 11 2026. No macro, syntax, notation, axiom, sorry.
-/
import Derived.Test.YtjbdamedofgdgaaDoorRows
import GoSem.ClaimSeven
namespace Go.Proofs.YtjbdamedofgdgaaDoor
namespace Rows

/-- THE TIED CARD OF 'harrowlaw01.CharsetLists'. -/
def charsetListsCard : Claim7 := { stood := { row := charsetListsRow, standIns := [], harness := (true, "bd35f38f41656c62c06bdf516572b2507a61cf0daf1c8a6dbce8e013c6b3ab38"), looks := false }, kinds := [], alts := [], laidByText := true, laidKinds := [.data], laidTests := true, laidLooks := .later }
def CharsetListsCardSaid : Prop := Claim7.holds Tryd.pinned (.plain (OpenSpec.ofChange charsetListsSpec)) charsetListsCard

/-- THE TIED CARD OF 'harrowlaw01.CharsetCounts'. -/
def charsetCountsCard : Claim7 := { stood := { row := charsetCountsRow, standIns := [], harness := (true, "bd35f38f41656c62c06bdf516572b2507a61cf0daf1c8a6dbce8e013c6b3ab38"), looks := false }, kinds := [], alts := [], laidByText := true, laidKinds := [.data], laidTests := true, laidLooks := .later }
def CharsetCountsCardSaid : Prop := Claim7.holds Tryd.pinned (.plain (OpenSpec.ofChange charsetCountsSpec)) charsetCountsCard

/-- THE TIED CARD OF 'harrowlaw01.CharsetAlgebra'. -/
def charsetAlgebraCard : Claim7 := { stood := { row := charsetAlgebraRow, standIns := [], harness := (true, "bd35f38f41656c62c06bdf516572b2507a61cf0daf1c8a6dbce8e013c6b3ab38"), looks := false }, kinds := [], alts := [], laidByText := true, laidKinds := [.data], laidTests := true, laidLooks := .later }
def CharsetAlgebraCardSaid : Prop := Claim7.holds Tryd.pinned (.plain (OpenSpec.ofChange charsetAlgebraSpec)) charsetAlgebraCard

/-- THE TIED CARD OF 'harrowlaw01.CharsetCounted'. -/
def charsetCountedCard : Claim7 := { stood := { row := charsetCountedRow, standIns := [], harness := (true, "bd35f38f41656c62c06bdf516572b2507a61cf0daf1c8a6dbce8e013c6b3ab38"), looks := false }, kinds := [], alts := [], laidByText := true, laidKinds := [.data], laidTests := true, laidLooks := .later }
def CharsetCountedCardSaid : Prop := Claim7.holds Tryd.pinned (.plain (OpenSpec.ofChange charsetCountedSpec)) charsetCountedCard

/-- THE SECOND FORM's CARD OF 'harrowlaw01.CharsetLists'. -/
def charsetListsUptoCard : Claim7 := { stood := { row := charsetListsUptoRow, standIns := [], harness := (true, "bd35f38f41656c62c06bdf516572b2507a61cf0daf1c8a6dbce8e013c6b3ab38"), looks := false }, kinds := [], alts := [], laidByText := true, laidKinds := [.data], laidTests := true, laidLooks := .later }
def CharsetListsUptoCardSaid : Prop := Claim7.holds Tryd.pinned (.plain (OpenSpec.upto charsetListsSpec)) charsetListsUptoCard

/-- THE SECOND FORM's CARD OF 'harrowlaw01.CharsetCounts'. -/
def charsetCountsUptoCard : Claim7 := { stood := { row := charsetCountsUptoRow, standIns := [], harness := (true, "bd35f38f41656c62c06bdf516572b2507a61cf0daf1c8a6dbce8e013c6b3ab38"), looks := false }, kinds := [], alts := [], laidByText := true, laidKinds := [.data], laidTests := true, laidLooks := .later }
def CharsetCountsUptoCardSaid : Prop := Claim7.holds Tryd.pinned (.plain (OpenSpec.upto charsetCountsSpec)) charsetCountsUptoCard

/-- THE SECOND FORM's CARD OF 'harrowlaw01.CharsetAlgebra'. -/
def charsetAlgebraUptoCard : Claim7 := { stood := { row := charsetAlgebraUptoRow, standIns := [], harness := (true, "bd35f38f41656c62c06bdf516572b2507a61cf0daf1c8a6dbce8e013c6b3ab38"), looks := false }, kinds := [], alts := [], laidByText := true, laidKinds := [.data], laidTests := true, laidLooks := .later }
def CharsetAlgebraUptoCardSaid : Prop := Claim7.holds Tryd.pinned (.plain (OpenSpec.upto charsetAlgebraSpec)) charsetAlgebraUptoCard

/-- THE SECOND FORM's CARD OF 'harrowlaw01.CharsetCounted'. -/
def charsetCountedUptoCard : Claim7 := { stood := { row := charsetCountedUptoRow, standIns := [], harness := (true, "bd35f38f41656c62c06bdf516572b2507a61cf0daf1c8a6dbce8e013c6b3ab38"), looks := false }, kinds := [], alts := [], laidByText := true, laidKinds := [.data], laidTests := true, laidLooks := .later }
def CharsetCountedUptoCardSaid : Prop := Claim7.holds Tryd.pinned (.plain (OpenSpec.upto charsetCountedSpec)) charsetCountedUptoCard
end Rows
end Go.Proofs.YtjbdamedofgdgaaDoor
