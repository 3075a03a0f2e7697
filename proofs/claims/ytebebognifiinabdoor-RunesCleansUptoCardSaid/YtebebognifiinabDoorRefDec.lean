/-
  The document's Decode of a code point: what it answers, as plain words.
-/
import Derived.Test.YtebebognifiinabDoorCode
import Derived.Test.YtebebognifiinabDoorGrow
import Derived.LoopTactic
import Derived.Laws.Strings2
namespace Go.Proofs.YtebebognifiinabDoor
open Go.RowKit
set_option linter.unusedVariables false
set_option linter.unusedSimpArgs false
def byteAt (s : ByteArray) (i : Nat) : Int := ((s.get! i).toNat : Int)
theorem byteAt_lo (s : ByteArray) (i : Nat) : 0 ≤ byteAt s i := Int.natCast_nonneg _
theorem byteAt_hi (s : ByteArray) (i : Nat) : byteAt s i ≤ 255 := by have := (s.get! i).toNat_lt; unfold byteAt; omega
theorem byteAt_get (s : ByteArray) (i : Nat) (h : i < s.size) : ((s[i]'h).toNat : Int) = byteAt s i := by
  unfold byteAt; rw [show s.get! i = s[i]'h from by simp [ByteArray.get!, getElem!_pos, h]; rfl]
def headOf (n : Nat) : Int := if n = 2 then 192 else if n = 3 then 224 else if n = 4 then 240 else 0
/-- The number that so many bytes would tell: from the i-th on. -/
def inFin (s : ByteArray) (a n : Nat) : Nat → Nat → Int → Int
  | 0, _, r => r
  | f + 1, i, r => if i < n ∧ 0 ≤ r then inFin s a n f (i + 1) (r * 64 + byteAt s (a + i) - 128) else r
def sizeL (r : Int) : Nat := if r ≤ 127 then 1 else if r ≤ 2047 then 2 else if r ≤ 65535 then 3 else 4
/-- Is it the code point of so many bytes at a place? -/
def fitsR (s : ByteArray) (a n : Nat) (r : Int) : Prop := isRune r ∧ sizeL r = n ∧ strOfNums (codeL r) = s.extract a (a + n)
instance (s : ByteArray) (a n : Nat) (r : Int) : Decidable (fitsR s a n r) := by unfold fitsR; infer_instance
def decFin (s : ByteArray) (a : Nat) : Nat → Nat → Int × Int × Bool
  | 0, _ => (0, 0, false)
  | f + 1, n => if n ≤ 4 ∧ a + n ≤ s.size then (if fitsR s a n (inFin s a n 4 1 (byteAt s a - headOf n)) then (inFin s a n 4 1 (byteAt s a - headOf n), (n : Int), true) else decFin s a f (n + 1)) else (0, 0, false)
def refDec (s : ByteArray) (at_ : Int) : Int × Int × Bool := if at_ < 0 ∨ (s.size : Int) ≤ at_ then (0, 0, false) else decFin s at_.toNat 5 1
def bndR (m : Nat) : Int := if m = 1 then 300 else if m = 2 then 20000 else if m = 3 then 1300000 else 90000000
theorem text_ne {x y : ByteArray} (h : x ≠ y) : (x.toList == y.toList) = false := by
  rw [beq_eq_false_iff_ne, ByteArray.toList_eq, ByteArray.toList_eq]
  intro e
  exact h (ByteArray.ext (Array.ext' e))
theorem inFin_stop {s : ByteArray} {a n f i : Nat} {r : Int} (h : ¬ (i < n ∧ 0 ≤ r)) : inFin s a n f i r = r := by
  cases f with
  | zero => rfl
  | succ f => simp only [inFin, if_neg h]
end Go.Proofs.YtebebognifiinabDoor
