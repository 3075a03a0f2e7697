/-
  The classes of bytes by their letters (chapter 1): as sets of numbers. No program here.
-/
import Derived.Test.YtjbdamedofgdgaaDoorSets
namespace Go.Proofs.YtjbdamedofgdgaaDoor

/-- The class of a small letter. -/
def clsP (c : Nat) : Nat → Bool :=
  if c = 97 then (uni (rngP 65 91) (rngP 97 123)) else if c = 99 then (ins (rngP 0 32) 127) else if c = 100 then (rngP 48 58) else if c = 103 then (rngP 33 127) else if c = 108 then (rngP 97 123) else if c = 112 then (les (rngP 33 127) (uni (uni (rngP 65 91) (rngP 97 123)) (rngP 48 58))) else if c = 115 then (ins (rngP 9 14) 32) else if c = 117 then (rngP 65 91) else if c = 119 then (uni (uni (rngP 65 91) (rngP 97 123)) (rngP 48 58)) else if c = 120 then (uni (rngP 48 58) (uni (rngP 65 71) (rngP 97 103))) else emp
/-- Is there a class of that small letter? -/
def clsB (c : Nat) : Bool := c == 97 || c == 99 || c == 100 || c == 103 || c == 108 || c == 112 || c == 115 || c == 117 || c == 119 || c == 120
theorem clsB_cases {c : Nat} (h : clsB c = true) : c = 97 ∨ c = 99 ∨ c = 100 ∨ c = 103 ∨ c = 108 ∨ c = 112 ∨ c = 115 ∨ c = 117 ∨ c = 119 ∨ c = 120 := by
  simp [clsB] at h
  omega
theorem clsB_not {c : Nat} (h : clsB c = false) : c ≠ 97 ∧ c ≠ 99 ∧ c ≠ 100 ∧ c ≠ 103 ∧ c ≠ 108 ∧ c ≠ 112 ∧ c ≠ 115 ∧ c ≠ 117 ∧ c ≠ 119 ∧ c ≠ 120 := by
  simp [clsB] at h
  omega
theorem uni_comm (p q : Nat → Bool) : uni p q = uni q p := by
  funext i; simp [uni, Bool.or_comm]
/-- Class of any letter: the set, and whether there is one. -/
def classP (c : Nat) : Nat → Bool := if clsB c = true then clsP c else if 65 ≤ c ∧ c ≤ 90 ∧ clsB (c + 32) = true then neg (clsP (c + 32)) else emp
def classE (c : Nat) : Int := if clsB c = true then 0 else if 65 ≤ c ∧ c ≤ 90 ∧ clsB (c + 32) = true then 0 else 10
theorem class_is_yes {c : Nat} (h : clsB c = true) : classP c = clsP c ∧ classE c = 0 := by simp [classP, classE, h]
theorem class_is_up {c : Nat} (h : clsB c = false) (h0 : 65 ≤ c) (h1 : c ≤ 90) (h2 : clsB (c + 32) = true) : classP c = neg (clsP (c + 32)) ∧ classE c = 0 := by simp [classP, classE, h, h0, h1, h2]
theorem class_is_down {c : Nat} (h : clsB c = false) (h2 : clsB (c + 32) = false) : classP c = emp ∧ classE c = 10 := by simp [classP, classE, h, h2]
theorem class_is_no {c : Nat} (h : clsB c = false) (h2 : ¬ (65 ≤ c ∧ c ≤ 90)) : classP c = emp ∧ classE c = 10 := by
  have h3 : ¬ (65 ≤ c ∧ c ≤ 90 ∧ clsB (c + 32) = true) := fun h => h2 ⟨h.1, h.2.1⟩
  unfold classP classE
  rw [if_neg (by rw [h]; decide), if_neg h3, if_neg (by rw [h]; decide), if_neg h3]
  exact ⟨rfl, rfl⟩
end Go.Proofs.YtjbdamedofgdgaaDoor
