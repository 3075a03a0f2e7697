import Derived.Test.YthjlpcecfkboiabDoorZx0
import Derived.Test.YthjlpcecfkboiabDoorZx5
import Derived.Test.YthjlpcecfkboiabDoorZx6
import Derived.Test.YthjlpcecfkboiabDoorZx7
import Derived.Test.YthjlpcecfkboiabDoorZx8
import Derived.Test.YthjlpcecfkboiabDoorZx9
-- PRINTED by print.py (a twelfth state) out of the translation. Not trusted: Lean checks it.
namespace Go.Proofs.YthjlpcecfkboiabDoor.Z
open Go.RowKit Go.Proofs.YthjlpcecfkboiabDoorW.PrintWords Go.Proofs.YthjlpcecfkboiabDoorW.PrintLast Go.Proofs.YthjlpcecfkboiabDoorW.PrintMore
attribute [local go_sem] eqset_a eqset_b max2_int min2_int max_two min_two max_three min_three max_four min_four   -- for this text's walks alone
set_option linter.unusedVariables false
set_option linter.unusedSimpArgs false

end Go.Proofs.YthjlpcecfkboiabDoor.Z
