/-
  The record State, as the print spells records.
-/
import Derived.Test.YthjlpcecfkboiabDoorZx
namespace Go.Proofs.YthjlpcecfkboiabDoor.Z
open Go.RowKit Go.Proofs.YthjlpcecfkboiabDoorW.PrintWords
set_option linter.unusedVariables false
structure S25 where
  f0 : Int
  f1 : Int
  f2 : Int
  f3 : Int
  f4 : List S56
  f5 : List S59
def k25 : Kd S25 := Kd.iso (Kd.pair (Kd.int .i64) (Kd.pair (Kd.int .i64) (Kd.pair (Kd.int .i64) (Kd.pair (Kd.int .i64) (Kd.pair (Kd.slice 56 k56) (Kd.slice 59 k59)))))) (fun x : S25 => (x.f0, x.f1, x.f2, x.f3, x.f4, x.f5))
theorem k25_open {w : World} {x : S25} {cs : List Value} (h : k25.K w x cs) : ∃ A4 c4 A5 c5, cs = [.int .i64 x.f0, .int .i64 x.f1, .int .i64 x.f2, .int .i64 x.f3, .slice A4 x.f4.length c4, .slice A5 x.f5.length c5] ∧ x.f4.length ≤ c4 ∧ Kd.C k56 w A4 x.f4.length x.f4 ∧ x.f5.length ≤ c5 ∧ Kd.C k59 w A5 x.f5.length x.f5 := by
  obtain ⟨_, _, rfl, rfl, ⟨_, _, rfl, rfl, ⟨_, _, rfl, rfl, ⟨_, _, rfl, rfl, ⟨_, _, rfl, s4, s5⟩⟩⟩⟩⟩ := h
  obtain ⟨A4, c4, rfl, hc4, hr4⟩ := s4
  obtain ⟨A5, c5, rfl, hc5, hr5⟩ := s5
  exact ⟨A4, c4, A5, c5, rfl, hc4, hr4, hc5, hr5⟩
end Go.Proofs.YthjlpcecfkboiabDoor.Z
