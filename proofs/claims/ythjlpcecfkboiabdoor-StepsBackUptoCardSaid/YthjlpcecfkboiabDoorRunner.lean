/-
  The runner of steps: what each of its functions does to its memory.
-/
import Derived.Test.YthjlpcecfkboiabDoorProg
import Derived.Test.YthjlpcecfkboiabDoorRunP
import Derived.WalkKit
import Derived.BigQuiet
import Derived.Deep.RegionHeld3
namespace Go.Proofs.YthjlpcecfkboiabDoor
open Go.RowKit
set_option linter.unusedVariables false
set_option linter.unusedSimpArgs false
/-- The cells of a runner. -/
def runC (code : Value) (s : ByteArray) (l0 l1 l2 : Int) (x : MSt) (sv lv : Value) : Array Value := #[code, .string s, .int .i64 l0, .int .i64 l1, .int .i64 l2, .int .i64 x.pc, .int .i64 x.at_, .int .i64 x.steps, .int .i64 x.kind, sv, lv]
end Go.Proofs.YthjlpcecfkboiabDoor
