/-
  The runner of steps: the top of its stack; back to the last choice.
-/
import Derived.Test.YthjlpcecfkboiabDoorRunner2
import Derived.WalkKit
import Derived.BigQuiet
import Derived.Deep.RegionLaw
import Derived.BigRegion
namespace Go.Proofs.YthjlpcecfkboiabDoor
open Go.RowKit
set_option linter.unusedVariables false
set_option linter.unusedSimpArgs false
theorem owns_cap {w : World} {base : Nat} {e : TypeId} {size n c m : Nat} {A : Option Addr} {xs : List Value} (h : w.ownsRow base e size (.slice A n c) m xs) : n ≤ c := by
  rcases h.2 with ⟨he, hn⟩ | ⟨g', cap', cur, he, h1, h2, h3, h4, h5, h6⟩
  · injection he with a1 a2 a3; omega
  · injection he with a1 a2 a3; omega
/-- The choice to which a failure goes back has a log that is no longer. -/
def NotesOk (x : MSt) : Prop := ∀ e ∈ x.stack, e.ret = false → 0 ≤ e.notes ∧ e.notes ≤ x.log.length
end Go.Proofs.YthjlpcecfkboiabDoor
