/-
  Rows of whole numbers: harrowbook's Same, Lend, Kept and Spoil of them.
-/
import Derived.Test.YtebebognifiinabDoorProg
import Derived.Test.YtebebognifiinabDoorReads
import Derived.WalkSpells
import Derived.WalkLawsBesides
import Derived.BigQuiet
import Derived.Deep.QuietTactic
namespace Go.Proofs.YtebebognifiinabDoor
open Go.RowKit
set_option linter.unusedVariables false
set_option linter.unusedSimpArgs false
def intsC (x : Int) : List Value := [.int .i64 x]
theorem intsC_len (x : Int) : (intsC x).length = 1 := rfl
theorem intsC_one (l : List Int) : ∀ u ∈ l.flatMap intsC, u.oneCell' = true := by
  intro u hu
  simp only [List.mem_flatMap, intsC, List.mem_cons, List.not_mem_nil, or_false] at hu
  obtain ⟨x, -, rfl⟩ := hu
  rfl
theorem info_ints : (Tryd.prog.info? 3).map (fun i => (i.zero, i.size, i.bytes)) = some (some (.int .i64 0), 1, 8) := by kernel_rfl


def markInts : List Value := [.int .i64 (-77)]



end Go.Proofs.YtebebognifiinabDoor
