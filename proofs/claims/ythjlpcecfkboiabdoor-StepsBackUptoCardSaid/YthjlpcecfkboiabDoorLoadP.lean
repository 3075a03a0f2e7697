/-
  steps.Load: the state that bytes tell, or that they tell none.
-/
import Derived.Test.YthjlpcecfkboiabDoorLoader
import Derived.Test.YthjlpcecfkboiabDoorClone
import Derived.Test.YthjlpcecfkboiabDoorSave
import Derived.WalkKit
import Derived.BigQuiet
import Derived.BigRegion
import Derived.Deep.RegionLaw
import Derived.Deep.DeepCutAuto
import Derived.Deep.CutBlock
import Derived.Deep.RegionHeld3
import Derived.Laws.ResultCell
import Derived.Lib.ConvBytes
namespace Go.Proofs.YthjlpcecfkboiabDoor
open Go.RowKit
set_option linter.unusedVariables false
set_option linter.unusedSimpArgs false
/-- A state's entries, read one by one. -/
def entL : Nat → List Ent → List Int → Bool → List Ent × List Int × Bool
  | 0, acc, l, bad => (acc, l, bad)
  | k + 1, acc, l, bad => if bad = true then (acc, l, bad) else
    let q0 := smaM l bad
    let q1 := numM q0.2.1 (q0.2.2 || decide (1 < q0.1))
    let q2 := numM q1.2.1 q1.2.2
    let q3 := numM q2.2.1 q2.2.2
    entL k (acc ++ [⟨q0.1 == 1, q1.1, q2.1, q3.1⟩]) q3.2.1 q3.2.2
def notL : Nat → List Not → List Int → Bool → List Not × List Int × Bool
  | 0, acc, l, bad => (acc, l, bad)
  | k + 1, acc, l, bad => if bad = true then (acc, l, bad) else
    let q0 := smaM l bad
    let q1 := smaM q0.2.1 q0.2.2
    let q2 := numM q1.2.1 q1.2.2
    let q3 := numM q2.2.1 q2.2.2
    let q4 := smaM q3.2.1 q3.2.2
    let q5 := smaM q4.2.1 q4.2.2
    let q6 := takM q5.1.toNat q5.2.1 q5.2.2
    notL k (acc ++ [⟨q0.1, q1.1, q2.1, q3.1, q4.1, strOfNums q6.1⟩]) q6.2.1 q6.2.2
/-- What is read of bytes: a state, what is left, whether something was wrong. -/
def loadQ (l : List Int) : MSt × List Int × Bool :=
  let q0 := numM l false
  let q1 := numM q0.2.1 q0.2.2
  let q2 := numM q1.2.1 q1.2.2
  let q3 := smaM q2.2.1 q2.2.2
  let q4 := numM q3.2.1 q3.2.2
  let e := entL q4.1.toNat [] q4.2.1 q4.2.2
  let q5 := if e.2.2 = true then (0, e.2.1, e.2.2) else numM e.2.1 e.2.2
  let n := notL q5.1.toNat [] q5.2.1 q5.2.2
  (⟨q0.1, q1.1, q2.1, q3.1, e.1, n.1⟩, n.2.1, n.2.2)
def bytesL (s : ByteArray) : List Int := s.data.toList.map fun b => (b.toNat : Int)
def loadM (s : ByteArray) : MSt × Int :=
  if 1048576 < s.size then (⟨0, 0, 0, 0, [], []⟩, 2) else
  if (loadQ (bytesL s)).2.2 = true ∨ 0 < (loadQ (bytesL s)).2.1.length then (⟨0, 0, 0, 0, [], []⟩, 220) else ((loadQ (bytesL s)).1, 0)
theorem gen_l {P : World → Prop} {Q : World → Prop} {W0 : World} (h : P W0) (k : ∀ W, P W → Q W) : Q W0 := k _ h
theorem bytesL_len (s : ByteArray) : (bytesL s).length = s.size := by unfold bytesL; rw [List.length_map, Array.length_toList]; rfl
theorem bytesL_u8 (s : ByteArray) : allB (bytesL s) := by
  intro b hb
  obtain ⟨x, _, rfl⟩ := List.mem_map.1 hb
  have := x.toNat_lt
  omega
end Go.Proofs.YthjlpcecfkboiabDoor
