/-
  The runner of steps: an instruction that asks for the last choice.
-/
import Derived.Test.YthjlpcecfkboiabDoorRunner4
import Derived.WalkKit
import Derived.BigQuiet
import Derived.BigRegion
namespace Go.Proofs.YthjlpcecfkboiabDoor
open Go.RowKit
set_option linter.unusedVariables false
set_option linter.unusedSimpArgs false
/-- What an instruction that asks for the last choice does; none: there is no choice. -/
def choiceM (i : Ins) (x : MSt) : Option MSt :=
  match x.stack[x.stack.length - 1]? with
  | none => none
  | some e => if e.ret = true then none else
    if i.op = 10 then some { x with stack := x.stack.set (x.stack.length - 1) ⟨false, e.pc, x.at_, x.log.length⟩, pc := x.pc + i.a }
    else if i.op = 11 then some { x with stack := x.stack.take (x.stack.length - 1), at_ := e.at_, log := x.log.take e.notes.toNat, pc := x.pc + i.a }
    else if i.op = 12 then some (failM { x with stack := x.stack.take (x.stack.length - 1) })
    else some { x with stack := x.stack.take (x.stack.length - 1), pc := x.pc + i.a }
theorem wrap_in {n : Int} (h : -9223372036854775808 ≤ n ∧ n ≤ 9223372036854775807) : IntKind.i64.wrap n = n := IntWalk.i64_in _ h
end Go.Proofs.YthjlpcecfkboiabDoor
