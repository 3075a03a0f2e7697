/-
  The runner of steps: the top of its stack; back to the last choice.
-/
import Derived.Test.YthjlpcecfkboiaaDoorRunner2
import Derived.WalkKit
import Derived.BigQuiet
import Derived.Deep.RegionLaw
import Derived.BigRegion
namespace Go.Proofs.YthjlpcecfkboiaaDoor
open Go.RowKit
set_option linter.unusedVariables false
set_option linter.unusedSimpArgs false
/-- The choice to which a failure goes back has a log that is no longer. -/
def NotesOk (x : MSt) : Prop := ∀ e ∈ x.stack, e.ret = false → 0 ≤ e.notes ∧ e.notes ≤ x.log.length
end Go.Proofs.YthjlpcecfkboiaaDoor
