/-
  The steps' questions and the document's: names, templates, fields, captures, code. No program here but the printed functions.
-/
import Derived.Test.YthjlpcecfkboiaaDoorZx
import Derived.Test.YthjlpcecfkboiaaDoorStepsTot
namespace Go.Proofs.YthjlpcecfkboiaaDoor
open Go.RowKit Go.Proofs.YthjlpcecfkboiaaDoorW.PrintWords Go.Proofs.YthjlpcecfkboiaaDoor.Z
set_option linter.unusedVariables false
set_option linter.unusedSimpArgs false
end Go.Proofs.YthjlpcecfkboiaaDoor
