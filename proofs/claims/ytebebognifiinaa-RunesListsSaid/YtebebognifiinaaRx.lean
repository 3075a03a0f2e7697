-- PRINTED by print.py (a twelfth state) out of the translation. Not trusted: Lean checks it.
import Derived.Test.YtebebognifiinaaRx0
import Derived.Test.YtebebognifiinaaRx1
import Derived.Test.YtebebognifiinaaRx2
import Derived.Test.YtebebognifiinaaRx3
import Derived.Test.YtebebognifiinaaRx4
import Derived.Test.YtebebognifiinaaRx5
import Derived.Test.YtebebognifiinaaRx6
namespace Go.Proofs.Ytebebognifiinaa.R
open Go.RowKit Go.Proofs.YtebebognifiinaaW.PrintWords Go.Proofs.YtebebognifiinaaW.PrintLast Go.Proofs.YtebebognifiinaaW.PrintMore
attribute [local go_sem] max2_int min2_int max_two min_two max_three min_three max_four min_four   -- for this text's walks alone
set_option linter.unusedVariables false
set_option linter.unusedSimpArgs false

end Go.Proofs.Ytebebognifiinaa.R
