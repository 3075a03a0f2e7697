/-
  Sets compared, as the walk meets it: on their own, and within an instruction or a node.
-/
import Derived.Test.YthjlpcecfkboiabDoorProg
import Derived.WalkKit
namespace Go.Proofs.YthjlpcecfkboiabDoor
open Go.RowKit
theorem eqset_a (a0 a1 a2 a3 b0 b1 b2 b3 : Int) (w : World) :
    Sem.run Tryd.prog (Op.equalIn 10000 66 (.agg #[.int .u64 a0, .int .u64 a1, .int .u64 a2, .int .u64 a3]) (.agg #[.int .u64 b0, .int .u64 b1, .int .u64 b2, .int .u64 b3])) w = .ok (a0 == b0 && (a1 == b1 && (a2 == b2 && a3 == b3))) w := by
  have h22 := Tryd.underlying64
  rw [show (10000 : Nat) = 9999 + 1 from rfl, Op.equalIn]
  simp only [Sem.run_bind, run_underlying Tryd.underlying66, Result.andThen_ok]
  simp only [show (9999 : Nat) = 9998 + 1 from rfl]
  simp [go_sem, List.range', run_equalIn_int]
  by_cases h0 : a0 = b0
  · by_cases h1 : a1 = b1
    · by_cases h2 : a2 = b2
      · by_cases h3 : a3 = b3 <;> simp [h0, h1, h2, h3]
      · simp [h0, h1, h2]
    · simp [h0, h1]
  · simp [h0]
theorem eqset_b (a0 a1 a2 a3 b0 b1 b2 b3 : Int) (w : World) :
    Sem.run Tryd.prog (Op.equalIn 9999 66 (.agg #[.int .u64 a0, .int .u64 a1, .int .u64 a2, .int .u64 a3]) (.agg #[.int .u64 b0, .int .u64 b1, .int .u64 b2, .int .u64 b3])) w = .ok (a0 == b0 && (a1 == b1 && (a2 == b2 && a3 == b3))) w := by
  have h22 := Tryd.underlying64
  rw [show (9999 : Nat) = 9998 + 1 from rfl, Op.equalIn]
  simp only [Sem.run_bind, run_underlying Tryd.underlying66, Result.andThen_ok]
  simp only [show (9998 : Nat) = 9997 + 1 from rfl]
  simp [go_sem, List.range', run_equalIn_int]
  by_cases h0 : a0 = b0
  · by_cases h1 : a1 = b1
    · by_cases h2 : a2 = b2
      · by_cases h3 : a3 = b3 <;> simp [h0, h1, h2, h3]
      · simp [h0, h1, h2]
    · simp [h0, h1]
  · simp [h0]
end Go.Proofs.YthjlpcecfkboiabDoor
