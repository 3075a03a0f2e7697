/-
  The reference's Bytes and Count: what each returns, for every set; what lay in memory stays as it was.
-/
import Derived.Test.YtjbdamedofgdgabDoorMix
import Derived.Test.YtjbdamedofgdgabDoorMem
namespace Go.Proofs.YtjbdamedofgdgabDoor
open Go.RowKit
set_option linter.unusedVariables false
set_option linter.unusedSimpArgs false
theorem info_u8 : (Tryd.prog.info? 5).map (fun i => (i.zero, i.size, i.bytes)) = some (some (.int .u8 0), 1, 1) := by kernel_rfl



end Go.Proofs.YtjbdamedofgdgabDoor
