/-
  An argument of any plain type, opened into what the printed contracts say of it. No program here.
-/
import Derived.Test.YthjlpcecfkboiabDoorOpen
import Derived.Test.YthjlpcecfkboiabDoorBridge
import Derived.OpenShut
namespace Go.Proofs.YthjlpcecfkboiabDoor
open Go.RowKit Go.ChangeShapes Go.WideShapes Go.Deep Go.Proofs.YthjlpcecfkboiabDoorW.PrintWords
set_option linter.unusedVariables false
def Fits {H : Type} (P : Program) (t : TypeId) (y : DataW H) : Prop := ∀ n ∈ y.weights P t, n ≤ 140737488351232
/-- Cells that read as a datum of type t are those of a value of kind d that Q holds of. -/
def Opens (P : Program) (t : TypeId) {α : Type} (d : Kd α) (Q : α → Prop) : Prop :=
  ∀ (H : Type) (enc : TypeId × Value → H) (w : World) (base : Nat) (spare : Nat → Bool) (held : Bool) (k : Nat) (cs : List Value) (y : DataW H × List MemPlace), cs.length = d.sz → DataW.trod enc P w base spare held k t cs = some y → Fits P t y.1 → ∃ x, d.K w x cs ∧ Q x
theorem add_add (a : Addr) (x y : Nat) : (a.add x).add y = a.add (x + y) := by
  unfold Addr.add
  by_cases hx : x = 0 <;> by_cases hy : y = 0 <;> simp [hx, hy, Nat.add_assoc]
theorem weightsAll_mem {H : Type} {P : Program} {e : TypeId} : ∀ {l : List (DataW H)} {d : DataW H} {n : Nat}, d ∈ l → n ∈ d.weights P e → n ∈ DataW.weightsAll P e l
  | x :: l, d, n, hd, hn => by
    simp only [DataW.weightsAll, List.mem_append]
    rcases List.mem_cons.1 hd with rfl | hd
    · exact .inl hn
    · exact .inr (weightsAll_mem hd hn)
end Go.Proofs.YthjlpcecfkboiabDoor
