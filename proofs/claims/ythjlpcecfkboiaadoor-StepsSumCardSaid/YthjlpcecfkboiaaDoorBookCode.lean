/-
  Rows of Ins: harrowbook's Same, Lend, Kept and Spoil of them.
-/
import Derived.Test.YthjlpcecfkboiaaDoorProg
import Derived.Test.YthjlpcecfkboiaaDoorReads
import Derived.Test.YthjlpcecfkboiaaDoorRunP
import Derived.Test.YthjlpcecfkboiaaDoorEqSet
import Derived.WalkSpells
import Derived.WalkLawsBesides
import Derived.BigQuiet
import Derived.Deep.QuietTactic
namespace Go.Proofs.YthjlpcecfkboiaaDoor
open Go.RowKit
set_option linter.unusedVariables false
set_option linter.unusedSimpArgs false
end Go.Proofs.YthjlpcecfkboiaaDoor
