-- PRINTED by print.py (a twelfth state) out of the translation. Not trusted: Lean checks it.
import Derived.Test.YtebebognifiinabDoorTx0
import Derived.Test.YtebebognifiinabDoorTx1
import Derived.Test.YtebebognifiinabDoorTx2
import Derived.Test.YtebebognifiinabDoorTx3
import Derived.Test.YtebebognifiinabDoorTx4
import Derived.Test.YtebebognifiinabDoorTx5
namespace Go.Proofs.YtebebognifiinabDoor.T
open Go.RowKit Go.Proofs.YtebebognifiinabDoorW.PrintWords Go.Proofs.YtebebognifiinabDoorW.PrintLast Go.Proofs.YtebebognifiinabDoorW.PrintMore
attribute [local go_sem] max2_int min2_int max_two min_two max_three min_three max_four min_four   -- for this text's walks alone
set_option linter.unusedVariables false
set_option linter.unusedSimpArgs false

end Go.Proofs.YtebebognifiinabDoor.T
