/-
  The record Given and the record Limits, as the print spells records.
-/
import Derived.Test.YthjlpcecfkboiaaDoorZx
namespace Go.Proofs.YthjlpcecfkboiaaDoor.Z
open Go.RowKit Go.Proofs.YthjlpcecfkboiaaDoorW.PrintWords
set_option linter.unusedVariables false
structure S24 where
  f0 : Int
  f1 : Int
  f2 : Int
def k24 : Kd S24 := Kd.iso (Kd.pair (Kd.int .i64) (Kd.pair (Kd.int .i64) (Kd.int .i64))) (fun x : S24 => (x.f0, x.f1, x.f2))
theorem k24_open {w : World} {x : S24} {cs : List Value} (h : k24.K w x cs) : cs = [.int .i64 x.f0, .int .i64 x.f1, .int .i64 x.f2] := by
  obtain ⟨_, _, rfl, rfl, ⟨_, _, rfl, rfl, rfl⟩⟩ := h
  exact rfl
structure S26 where
  f0 : List S52
  f1 : ByteArray
  f2 : Int
  f3 : S24
def k26 : Kd S26 := Kd.iso (Kd.pair (Kd.slice 52 k52) (Kd.pair Kd.string (Kd.pair (Kd.int .i64) k24))) (fun x : S26 => (x.f0, x.f1, x.f2, x.f3))
theorem k26_open {w : World} {x : S26} {cs : List Value} (h : k26.K w x cs) : ∃ A c, cs = [.slice A x.f0.length c, .string x.f1, .int .i64 x.f2, .int .i64 x.f3.f0, .int .i64 x.f3.f1, .int .i64 x.f3.f2] ∧ x.f0.length ≤ c ∧ Kd.C k52 w A x.f0.length x.f0 := by
  obtain ⟨_, _, rfl, s0, ⟨_, _, rfl, rfl, ⟨_, _, rfl, rfl, s3⟩⟩⟩ := h
  obtain rfl := k24_open s3
  obtain ⟨A, c, rfl, hc, hr⟩ := s0
  exact ⟨A, c, rfl, hc, hr⟩
end Go.Proofs.YthjlpcecfkboiaaDoor.Z
