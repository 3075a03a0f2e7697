/-
  An argument that is a list of spans, opened.
-/
import Derived.Test.YtjbdamedofgdgabDoorOpen
import Derived.Test.YtjbdamedofgdgabDoorSpans
import Derived.Test.YtjbdamedofgdgabDoorProg
namespace Go.Proofs.YtjbdamedofgdgabDoor
open Go.RowKit Go.ChangeShapes Go.WideShapes Go.Deep
set_option linter.unusedVariables false
section
variable {H : Type} {enc : TypeId × Value → H} {w : World} {base : Nat} {spare : Nat → Bool} {held : Bool}
theorem el_span : ∀ k cs' (y : DataW H × List MemPlace), cs'.length = 2 → DataW.trod enc Tryd.prog w base spare held k 24 cs' = some y → ∃ r : Int × Int, cs' = [.int .i64 r.1, .int .i64 r.2] := by
  intro k cs' y hl h
  match cs', hl with
  | [c0, c1], _ =>
    obtain ⟨ys, n, _, _, _, hlen, hf⟩ := DataW.trod_struct Tryd.underlying24 h
    have c3 : Tryd.prog.cellsOf 3 = 1 := by kernel_rfl
    have h0 : DataW.trod enc Tryd.prog w base spare held n 3 (List.take (Tryd.prog.cellsOf 3) (List.drop 0 [c0, c1])) = ys[0]? := hf 0 _ rfl
    have h1 : DataW.trod enc Tryd.prog w base spare held n 3 (List.take (Tryd.prog.cellsOf 3) (List.drop 1 [c0, c1])) = ys[1]? := hf 1 _ rfl
    rw [c3] at h0 h1
    match ys, hlen with
    | [y0, y1], _ =>
      obtain ⟨z0, e0, _⟩ := DataW.trod_int Tryd.underlying3 h0
      obtain ⟨z1, e1, _⟩ := DataW.trod_int Tryd.underlying3 h1
      injection e0 with e0; injection e1 with e1
      subst e0; subst e1
      exact ⟨(z0, z1), rfl⟩
end
end Go.Proofs.YtjbdamedofgdgabDoor

