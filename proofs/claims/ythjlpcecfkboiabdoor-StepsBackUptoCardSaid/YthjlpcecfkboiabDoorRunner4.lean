/-
  The runner of steps: an instruction that looks at bytes.
-/
import Derived.Test.YthjlpcecfkboiabDoorRunner3
import Derived.WalkKit
import Derived.BigQuiet
import Derived.BigRegion
namespace Go.Proofs.YthjlpcecfkboiabDoor
open Go.RowKit
set_option linter.unusedVariables false
set_option linter.unusedSimpArgs false
def spanGo (s : ByteArray) (i : Ins) : Nat → Int → Int
  | 0, p => p
  | k + 1, p => if fitsM s p i then spanGo s i k (p + 1) else p
def byteM (s : ByteArray) (i : Ins) (x : MSt) : MSt :=
  if i.op = 7 then { x with at_ := spanGo s i s.size x.at_, pc := x.pc + 1 }
  else if i.op = 4 ∨ i.op = 5 ∨ i.op = 6 then (if fitsM s x.at_ i then { x with pc := x.pc + 1 } else { x with pc := x.pc + i.a })
  else if fitsM s x.at_ i then { x with at_ := x.at_ + 1, pc := x.pc + 1 } else failM x
theorem fits_lt {s : ByteArray} {p : Int} {i : Ins} (h : fitsM s p i = true) : 0 ≤ p ∧ p < s.size := by
  unfold fitsM at h
  by_cases c : 0 ≤ p ∧ p.toNat < s.size
  · omega
  · rw [dif_neg c] at h; cases h
end Go.Proofs.YthjlpcecfkboiabDoor
