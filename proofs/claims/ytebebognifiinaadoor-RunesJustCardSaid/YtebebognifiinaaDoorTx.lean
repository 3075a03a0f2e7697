-- PRINTED by print.py (a twelfth state) out of the translation. Not trusted: Lean checks it.
import Derived.Test.YtebebognifiinaaDoorTx0
import Derived.Test.YtebebognifiinaaDoorTx1
import Derived.Test.YtebebognifiinaaDoorTx2
import Derived.Test.YtebebognifiinaaDoorTx3
import Derived.Test.YtebebognifiinaaDoorTx4
import Derived.Test.YtebebognifiinaaDoorTx5
import Derived.Test.YtebebognifiinaaDoorTx6
namespace Go.Proofs.YtebebognifiinaaDoor.T
open Go.RowKit Go.Proofs.YtebebognifiinaaDoorW.PrintWords Go.Proofs.YtebebognifiinaaDoorW.PrintLast Go.Proofs.YtebebognifiinaaDoorW.PrintMore
attribute [local go_sem] max2_int min2_int max_two min_two max_three min_three max_four min_four   -- for this text's walks alone
set_option linter.unusedVariables false
set_option linter.unusedSimpArgs false

end Go.Proofs.YtebebognifiinaaDoor.T
