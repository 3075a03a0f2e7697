import Derived.Test.YthjlpcecfkboiaaDoorZx0
import Derived.Test.YthjlpcecfkboiaaDoorZx5
import Derived.Test.YthjlpcecfkboiaaDoorZx6
import Derived.Test.YthjlpcecfkboiaaDoorZx7
import Derived.Test.YthjlpcecfkboiaaDoorZx8
import Derived.Test.YthjlpcecfkboiaaDoorZx9
import Derived.Test.YthjlpcecfkboiaaDoorZx14
import Derived.Test.YthjlpcecfkboiaaDoorZx15
-- PRINTED by print.py (a twelfth state) out of the translation. Not trusted: Lean checks it.
namespace Go.Proofs.YthjlpcecfkboiaaDoor.Z
open Go.RowKit Go.Proofs.YthjlpcecfkboiaaDoorW.PrintWords Go.Proofs.YthjlpcecfkboiaaDoorW.PrintLast Go.Proofs.YthjlpcecfkboiaaDoorW.PrintMore
attribute [local go_sem] eqset_a eqset_b max2_int min2_int max_two min_two max_three min_three max_four min_four   -- for this text's walks alone
set_option linter.unusedVariables false
set_option linter.unusedSimpArgs false

end Go.Proofs.YthjlpcecfkboiaaDoor.Z
