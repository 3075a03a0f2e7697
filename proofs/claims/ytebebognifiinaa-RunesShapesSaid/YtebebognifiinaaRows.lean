/-
  No cell of these rows narrows 'for every input' (looked for: loops, veiled, ifaces, maps, wideKeys, modest, calm, conditions, laid).
  DERIVED. THE GIVEN ROWS OF THIS SEAT. 4 by the template 'for every input the law returns true; each argument reads behind the call as it read before'; 0 by the template 'total and deterministic' (their statements: YtebebognifiinaaTotals.lean).
  GIVEN WITH THE SEED: the statements are not yours to turn. If you find one false, say at which input.
  Laid BY PROGRAM, IN A SANDBOX (cutbox-rows.mjs): the forced cells as the released guide's own fill.sh prints them over the translation ad00141fafd5aa70… (all of the seat's roots in one cut). By AI agents, Wed Nov 11 2026. No macro, syntax, notation, axiom, sorry.
-/
import Derived.Test.YtebebognifiinaaChecked
import GoSem.Claim
import GoSem.ClaimJoined
import GoSem.ClaimMapViews
import Derived.JoinedTies
import Derived.KernelRfl
namespace Go.Proofs.Ytebebognifiinaa
/- THE CELL 'sum', in the pinned program and in every row, IS THE sha256 OF THE DUMP (.gsa) THAT YtebebognifiinaaProg.lean LOADS. Nothing in Lean hashes anything: it is a label: what it is worth is what the hold of that sum in a sandbox is worth. -/
noncomputable def Try.pinned : Pinned := { name := "ytebebognifiinaa", sum := "ad00141fafd5aa701762d86e23cedb859830fa9ed52c026ceba1aae3ed1097f6", checked := Try.checked }
namespace Rows
def none {H : Type} : Left H := { results := [], args := [] }

/-- 'harrowlaw23.CaptureForests': WHATEVER THE INPUT: true; the input reads as it did. -/
def captureForestsSpec : ChangeSpec := { name := "captureForests", fn := fun _ => fun
  | [d] => { results := [.lit (.bool true)], args := [d] }
  | _ => none }
def captureForestsRow : OpenClaim := { program := "ytebebognifiinaa", sum := "ad00141fafd5aa701762d86e23cedb859830fa9ed52c026ceba1aae3ed1097f6", func := "harrow/harrowlaw23.CaptureForests", spec := "captureForests", unfollowed := true, recurses := true, apart := false }
def CaptureForestsSaid : Prop := captureForestsRow.holds Try.pinned (OpenSpec.ofChange captureForestsSpec)

/-- ITS FALSE NEIGHBOUR: 'it returns false'. Refute it at one input. -/
def captureForestsWrong : ChangeSpec := { name := "captureForests", fn := fun _ => fun
  | [d] => { results := [.lit (.bool false)], args := [d] }
  | _ => none }
def CaptureForestsWrongFalsely : Prop := captureForestsRow.holds Try.pinned (OpenSpec.ofChange captureForestsWrong)

/-- 'harrowlaw23.CaptureKids': WHATEVER THE INPUT: true; the input reads as it did. -/
def captureKidsSpec : ChangeSpec := { name := "captureKids", fn := fun _ => fun
  | [d] => { results := [.lit (.bool true)], args := [d] }
  | _ => none }
def captureKidsRow : OpenClaim := { program := "ytebebognifiinaa", sum := "ad00141fafd5aa701762d86e23cedb859830fa9ed52c026ceba1aae3ed1097f6", func := "harrow/harrowlaw23.CaptureKids", spec := "captureKids", unfollowed := true, recurses := true, apart := false }
def CaptureKidsSaid : Prop := captureKidsRow.holds Try.pinned (OpenSpec.ofChange captureKidsSpec)

/-- ITS FALSE NEIGHBOUR: 'it returns false'. Refute it at one input. -/
def captureKidsWrong : ChangeSpec := { name := "captureKids", fn := fun _ => fun
  | [d] => { results := [.lit (.bool false)], args := [d] }
  | _ => none }
def CaptureKidsWrongFalsely : Prop := captureKidsRow.holds Try.pinned (OpenSpec.ofChange captureKidsWrong)

/-- 'harrowlaw03.RunesLists': WHATEVER THE INPUT: true; the input reads as it did. -/
def runesListsSpec : ChangeSpec := { name := "runesLists", fn := fun _ => fun
  | [d] => { results := [.lit (.bool true)], args := [d] }
  | _ => none }
def runesListsRow : OpenClaim := { program := "ytebebognifiinaa", sum := "ad00141fafd5aa701762d86e23cedb859830fa9ed52c026ceba1aae3ed1097f6", func := "harrow/harrowlaw03.RunesLists", spec := "runesLists", inPlace := ["internal/abi.NoEscape"], recurses := true, apart := false }
def RunesListsSaid : Prop := runesListsRow.holds Try.pinned (OpenSpec.ofChange runesListsSpec)

/-- ITS FALSE NEIGHBOUR: 'it returns false'. Refute it at one input. -/
def runesListsWrong : ChangeSpec := { name := "runesLists", fn := fun _ => fun
  | [d] => { results := [.lit (.bool false)], args := [d] }
  | _ => none }
def RunesListsWrongFalsely : Prop := runesListsRow.holds Try.pinned (OpenSpec.ofChange runesListsWrong)

/-- 'harrowlaw03.RunesShapes': WHATEVER THE INPUT: true; the input reads as it did. -/
def runesShapesSpec : ChangeSpec := { name := "runesShapes", fn := fun _ => fun
  | [d1, d2] => { results := [.lit (.bool true)], args := [d1, d2] }
  | _ => none }
def runesShapesRow : OpenClaim := { program := "ytebebognifiinaa", sum := "ad00141fafd5aa701762d86e23cedb859830fa9ed52c026ceba1aae3ed1097f6", func := "harrow/harrowlaw03.RunesShapes", spec := "runesShapes", inPlace := ["internal/abi.NoEscape"], recurses := true, apart := false }
def RunesShapesSaid : Prop := runesShapesRow.holds Try.pinned (OpenSpec.ofChange runesShapesSpec)

/-- ITS FALSE NEIGHBOUR: 'it returns false'. Refute it at one input. -/
def runesShapesWrong : ChangeSpec := { name := "runesShapes", fn := fun _ => fun
  | [d1, d2] => { results := [.lit (.bool false)], args := [d1, d2] }
  | _ => none }
def RunesShapesWrongFalsely : Prop := runesShapesRow.holds Try.pinned (OpenSpec.ofChange runesShapesWrong)

/- THE SECOND FORM. 'bulk': how many values and letters a reading holds, each counted each time it is reached (what is shared counts as often as it is met; a slice's spare places count too). A statement '..UptoSaid' is the law's where the arguments, and the package variables that the reading takes, are together of bulk at most 1048576: NARROWER than '..Said'. Prove '..Said' where nothing that the law and all that it calls make is longer than what came in: it says more and counts as full. Else prove '..UptoSaid'. A law counts once. -/
mutual
def uptoBulk {H : Type} : DataW H → Nat
  | .lit (.string bytes) => bytes.length + 1
  | .lit _ => 1
  | .nil => 1
  | .ptr d => uptoBulk d + 1
  | .slice elems spare => uptoBulkAll elems + uptoBulkAll spare + 1
  | .agg parts => uptoBulkAll parts + 1
  | .iface _ d => uptoBulk d + 1
  | .map entries => uptoBulkEntries entries + 1
  | .held _ => 1
def uptoBulkAll {H : Type} : List (DataW H) → Nat
  | [] => 0
  | d :: r => uptoBulk d + uptoBulkAll r
def uptoBulkEntries {H : Type} : List (Lit × DataW H) → Nat
  | [] => 0
  | x :: r => uptoBulkEntry x + uptoBulkEntries r
def uptoBulkEntry {H : Type} : Lit × DataW H → Nat
  | (.string bytes, d) => bytes.length + uptoBulk d + 1
  | (_, d) => uptoBulk d + 1
 end
def uptoSmall : (H : Type) → List (DataW H) → Bool := fun _ ds => decide (uptoBulkAll ds ≤ 1048576)
def OpenSpec.upto (s : _root_.Go.ChangeSpec) : _root_.Go.OpenSpec := { _root_.Go.OpenSpec.ofChange s with cond := some uptoSmall }

/-- 'harrowlaw23.CaptureForests', WHERE WHAT IT READS IS OF BULK AT MOST 1048576: true; the input reads as it did. -/
def captureForestsUptoRow : OpenClaim := { program := "ytebebognifiinaa", sum := "ad00141fafd5aa701762d86e23cedb859830fa9ed52c026ceba1aae3ed1097f6", func := "harrow/harrowlaw23.CaptureForests", spec := "captureForests", unfollowed := true, recurses := true, apart := false, narrowed := true }
def CaptureForestsUptoSaid : Prop := captureForestsUptoRow.holds Try.pinned (OpenSpec.upto captureForestsSpec)

/-- 'harrowlaw23.CaptureKids', WHERE WHAT IT READS IS OF BULK AT MOST 1048576: true; the input reads as it did. -/
def captureKidsUptoRow : OpenClaim := { program := "ytebebognifiinaa", sum := "ad00141fafd5aa701762d86e23cedb859830fa9ed52c026ceba1aae3ed1097f6", func := "harrow/harrowlaw23.CaptureKids", spec := "captureKids", unfollowed := true, recurses := true, apart := false, narrowed := true }
def CaptureKidsUptoSaid : Prop := captureKidsUptoRow.holds Try.pinned (OpenSpec.upto captureKidsSpec)

/-- 'harrowlaw03.RunesLists', WHERE WHAT IT READS IS OF BULK AT MOST 1048576: true; the input reads as it did. -/
def runesListsUptoRow : OpenClaim := { program := "ytebebognifiinaa", sum := "ad00141fafd5aa701762d86e23cedb859830fa9ed52c026ceba1aae3ed1097f6", func := "harrow/harrowlaw03.RunesLists", spec := "runesLists", inPlace := ["internal/abi.NoEscape"], recurses := true, apart := false, narrowed := true }
def RunesListsUptoSaid : Prop := runesListsUptoRow.holds Try.pinned (OpenSpec.upto runesListsSpec)

/-- 'harrowlaw03.RunesShapes', WHERE WHAT IT READS IS OF BULK AT MOST 1048576: true; the input reads as it did. -/
def runesShapesUptoRow : OpenClaim := { program := "ytebebognifiinaa", sum := "ad00141fafd5aa701762d86e23cedb859830fa9ed52c026ceba1aae3ed1097f6", func := "harrow/harrowlaw03.RunesShapes", spec := "runesShapes", inPlace := ["internal/abi.NoEscape"], recurses := true, apart := false, narrowed := true }
def RunesShapesUptoSaid : Prop := runesShapesUptoRow.holds Try.pinned (OpenSpec.upto runesShapesSpec)

end Rows
end Go.Proofs.Ytebebognifiinaa
