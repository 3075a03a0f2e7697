/-
  The runner of steps: one step, the other kinds.
-/
import Derived.Test.YthjlpcecfkboiabDoorRunner6
import Derived.WalkKit
import Derived.BigQuiet
import Derived.BigRegion
namespace Go.Proofs.YthjlpcecfkboiabDoor
open Go.RowKit
set_option linter.unusedVariables false
set_option linter.unusedSimpArgs false
end Go.Proofs.YthjlpcecfkboiabDoor
