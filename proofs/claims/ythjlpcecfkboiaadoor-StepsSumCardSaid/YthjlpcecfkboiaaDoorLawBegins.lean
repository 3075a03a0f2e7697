/-
  StepsBegins holds: of any code, subject, place.
-/
import Derived.Test.YthjlpcecfkboiaaDoorZx
import Derived.Test.YthjlpcecfkboiaaDoorStepsRef
import Derived.Test.YthjlpcecfkboiaaDoorLives
import Derived.Test.YthjlpcecfkboiaaDoorBookCode
import Derived.WalkKit
import Derived.BigQuiet
import Derived.BigRegion
import Derived.Laws.ResultCell
namespace Go.Proofs.YthjlpcecfkboiaaDoor
open Go.RowKit Go.Proofs.YthjlpcecfkboiaaDoorW.PrintWords Go.Proofs.YthjlpcecfkboiaaDoor.Z
set_option linter.unusedVariables false
set_option linter.unusedSimpArgs false
def begV (e p : Int) : Value := .tuple #[.agg #[.int .i64 0, .int .i64 (if e = 0 then p else 0), .int .i64 0, .int .i64 0, .slice none 0 0, .slice none 0 0], .int .i64 e]
theorem begin_any (w : World) (A : Option Addr) (c : Nat) (l : List S52) (s : ByteArray) (p e : Int) (hr : Kd.C k52 w A l.length l) (hc : l.length ≤ c) (hU : UsesOk w) (he : steps_looked.f 8601 l s p 0 0 0 = some e) :
    Calls Tryd.prog 8 #[.slice A l.length c, .string s, .int .i64 p] w fun en w' => en = .returned (begV e p) ∧ Below w.heap.size w w' := by
  have hl : ∀ w2, Below w.heap.size w w2 → Calls Tryd.prog 20 #[.slice A l.length c, .string s, .int .i64 p, .agg #[.int .i64 0, .int .i64 0, .int .i64 0]] w2 fun en w' => en = .returned (.int .i64 e) ∧ Below w2.heap.size w2 w' := fun w2 hb => steps_looked.calls 8601 A c l s p 0 0 0 e w2 (Kd.C_below hr hb) hc he (hU.below hb)
  unfold begV
  by_cases c0 : e = 0
  · rw [if_pos c0]
    have h := begin_ok w A l.length c s p e hl c0
    subst c0
    exact h
  · rw [if_neg c0]; exact begin_err w A l.length c s p e hl c0
end Go.Proofs.YthjlpcecfkboiaaDoor
