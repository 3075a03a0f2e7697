-- PRINTED by print.py (a twelfth state) out of the translation. Not trusted: Lean checks it.
import Derived.Test.YtebebognifiinaaUx0
import Derived.Test.YtebebognifiinaaUx1
import Derived.Test.YtebebognifiinaaUx2
import Derived.Test.YtebebognifiinaaUx3
import Derived.Test.YtebebognifiinaaUx4
import Derived.Test.YtebebognifiinaaUx5
import Derived.Test.YtebebognifiinaaUx6
import Derived.Test.YtebebognifiinaaUx7
import Derived.Test.YtebebognifiinaaUx8
import Derived.Test.YtebebognifiinaaUx9
import Derived.Test.YtebebognifiinaaUx10
namespace Go.Proofs.Ytebebognifiinaa.U
open Go.RowKit Go.Proofs.YtebebognifiinaaW.PrintWords Go.Proofs.YtebebognifiinaaW.PrintLast Go.Proofs.YtebebognifiinaaW.PrintMore
attribute [local go_sem] max2_int min2_int max_two min_two max_three min_three max_four min_four   -- for this text's walks alone
set_option linter.unusedVariables false
set_option linter.unusedSimpArgs false

end Go.Proofs.Ytebebognifiinaa.U
