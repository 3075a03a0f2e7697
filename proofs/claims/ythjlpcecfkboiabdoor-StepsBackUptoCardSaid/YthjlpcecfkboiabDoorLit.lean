/-
  steps.may and harrowref22.Same at states without lists, walked.
-/
import Derived.Test.YthjlpcecfkboiabDoorGo
import Derived.WalkKit
import Derived.BigQuiet
import Derived.BigRegion
namespace Go.Proofs.YthjlpcecfkboiabDoor
open Go.RowKit
set_option linter.unusedVariables false
set_option linter.unusedSimpArgs false
set_option maxHeartbeats 8000000 in
set_option maxRecDepth 20000 in
theorem mayStack_none (w : World) (a b c : Int) : Calls Tryd.prog 46 #[.slice none 0 0, .int .i64 a, .int .i64 b, .int .i64 c] w fun e w' => e = .returned (.bool true) ∧ Below w.heap.size w w' := by
  go_enter Tryd.func46, Tryd.ntmps46
  go_wp2_with (fail)
  refine wp_loop_rounds 1 ?_
  rw [rounds_succ]
  go_wp2_with (fail)
  go_ret
  exact ⟨rfl, Below.refl _ _⟩
set_option maxHeartbeats 8000000 in
set_option maxRecDepth 20000 in
theorem may_none (w : World) (A : Option Addr) (c : Nat) (s : ByteArray) (p : Int) (h0 : 0 ≤ p) (h1 : p ≤ s.size) : Calls Tryd.prog 24 #[.slice A 1 c, .string s, .agg #[.int .i64 0, .int .i64 p, .int .i64 0, .int .i64 0, .slice none 0 0, .slice none 0 0]] w fun e w' => e = .returned (.bool true) ∧ Below w.heap.size w w' := by
  have q0 : decide (p < 0) = false := decide_eq_false (by omega)
  have q1 : decide ((s.size : Int) < p) = false := decide_eq_false (by omega)
  go_enter Tryd.func24, Tryd.ntmps24
  go_wp2_with (fail)
  refine wp_loop_rounds 1 ?_
  rw [rounds_succ]
  go_wp2_with (fail)
  with_reducible refine (mayStack_none _ _ _ _).mono ?_
  rintro e w2 ⟨rfl, hb⟩
  go_wp2_with (fail)
  go_ret
  exact ⟨rfl, g_then (g_al (Below.refl w.heap.size w) (Nat.le_refl _) _) hb⟩
end Go.Proofs.YthjlpcecfkboiabDoor
