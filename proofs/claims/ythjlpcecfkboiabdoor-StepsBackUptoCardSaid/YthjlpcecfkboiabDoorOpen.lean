/-
  An argument that is a slice of records of m cells, opened: the slice reads as a list of records. No program here.
-/
import Derived.Test.YthjlpcecfkboiabDoorReads
import Derived.Deep.Slices
import Derived.Deep.Fields
import Derived.ChangeSame
import Derived.WideShapes
import Derived.SizedLaws
namespace Go.Proofs.YthjlpcecfkboiabDoor
open Go.RowKit Go.ChangeShapes Go.WideShapes Go.Deep
set_option linter.unusedVariables false
theorem list_of {R : Type} : ∀ {n : Nat} {Q : Nat → R → Prop}, (∀ i, i < n → ∃ x, Q i x) → ∃ l : List R, l.length = n ∧ ∀ i (hi : i < l.length), Q i l[i] := by
  intro n
  induction n with
  | zero => intro Q _; exact ⟨[], rfl, fun i hi => by cases hi⟩
  | succ n ih =>
    intro Q h
    obtain ⟨l, h1, h2⟩ := ih fun i hi => h i (by omega)
    obtain ⟨x, hx⟩ := h n (by omega)
    refine ⟨l ++ [x], by simp [h1], fun i hi => ?_⟩
    by_cases e : i < l.length
    · rw [List.getElem_append_left e]; exact h2 i e
    · have : i = n := by simp at hi; omega
      subst this
      rw [List.getElem_append_right (by omega)]
      simpa [h1] using hx
section
variable {H : Type} {enc : TypeId × Value → H} {P : Program} {w : World} {base : Nat} {spare : Nat → Bool} {held : Bool}
end
end Go.Proofs.YthjlpcecfkboiabDoor
