-- PRINTED by print.py (a twelfth state) out of the translation. Not trusted: Lean checks it.
import Derived.Test.YtebebognifiinaaQx0
import Derived.Test.YtebebognifiinaaQx1
import Derived.Test.YtebebognifiinaaQx2
import Derived.Test.YtebebognifiinaaQx3
import Derived.Test.YtebebognifiinaaQx4
import Derived.Test.YtebebognifiinaaQx5
namespace Go.Proofs.Ytebebognifiinaa.Q
open Go.RowKit Go.Proofs.YtebebognifiinaaW.PrintWords Go.Proofs.YtebebognifiinaaW.PrintLast Go.Proofs.YtebebognifiinaaW.PrintMore
attribute [local go_sem] max2_int min2_int max_two min_two max_three min_three max_four min_four   -- for this text's walks alone
set_option linter.unusedVariables false
set_option linter.unusedSimpArgs false

end Go.Proofs.Ytebebognifiinaa.Q
