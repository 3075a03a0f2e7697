/-
  The steps' questions always have an answer: names, templates, fields, captures. No program here but the printed functions.
-/
import Derived.Test.YthjlpcecfkboiabDoorZx
import Derived.Test.YthjlpcecfkboiabDoorRunInv
namespace Go.Proofs.YthjlpcecfkboiabDoor
open Go.RowKit Go.Proofs.YthjlpcecfkboiabDoorW.PrintWords Go.Proofs.YthjlpcecfkboiabDoor.Z
set_option linter.unusedVariables false
set_option linter.unusedSimpArgs false
def insOf (x : S68) : Ins := ⟨x.f0, x.f1, x.f2, x.f3, x.f4, x.f5.f0, x.f5.f1, x.f5.f2, x.f5.f3⟩
theorem wrap64_in {x : Int} (h0 : -9223372036854775808 ≤ x) (h1 : x < 9223372036854775808) : wrap64 x = x := by unfold wrap64; omega
/-- What is asked of an instruction at a place. -/
structure InsOk (len j : Nat) (i : Ins) : Prop where
  op0 : 1 ≤ i.op
  op1 : i.op ≤ 20
  a0 : hasM i.op 1 = false → i.a = 0
  a1 : i.op = 20 → 0 ≤ i.a ∧ i.a ≤ 255
  tg : hasM i.op 32 = true → 0 ≤ (j : Int) + i.a ∧ (j : Int) + i.a < len
end Go.Proofs.YthjlpcecfkboiabDoor
