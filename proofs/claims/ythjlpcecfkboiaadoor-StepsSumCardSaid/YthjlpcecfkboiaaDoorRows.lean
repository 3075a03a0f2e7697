/-
  NARROWER THAN 'FOR EVERY INPUT', by the rows' own cells (each row's printed sentence says how): StepsBegins: laid · StepsSum: laid · StepsSaves: laid · StepsLoads: laid.
  DERIVED. THE GIVEN ROWS OF THIS SEAT. 4 by the template 'for every input the law returns true; each argument reads behind the call as it read before'; 0 by the template 'total and deterministic' (their statements: YthjlpcecfkboiaaDoorTotals.lean).
  GIVEN WITH THE SEED: the statements are not yours to turn. If you find one false, say at which input.
  Laid BY PROGRAM, IN A SANDBOX (cutbox-rows.mjs): the forced cells as the released guide's own fill.sh prints them over the translation 6829b40e37c002e9… (all of the seat's roots in one cut). By AI agents, Wed Nov 11 2026. No macro, syntax, notation, axiom, sorry.
-/
import Derived.Test.YthjlpcecfkboiaaDoorChecked
import GoSem.Claim
import GoSem.ClaimJoined
import GoSem.ClaimMapViews
import Derived.JoinedTies
import Derived.KernelRfl
namespace Go.Proofs.YthjlpcecfkboiaaDoor
/- THE CELL 'sum', in the pinned program and in every row, IS THE sha256 OF THE DUMP (.gsa) THAT YthjlpcecfkboiaaDoorProg.lean LOADS. Nothing in Lean hashes anything: it is a label: what it is worth is what the hold of that sum in a sandbox is worth. -/
noncomputable def Tryd.pinned : Pinned := { name := "ythjlpcecfkboiaadoor", sum := "6829b40e37c002e92145a11abe49b29ace7a21ce43aacca6464f1bd433223118", checked := Tryd.checked }
namespace Rows
def none {H : Type} : Left H := { results := [], args := [] }

/- WHAT THE LISTED PACKAGE-LEVEL VARIABLES READ AS WHEN THE CALL BEGINS. Each datum BY PROGRAM (the guide's laid-datum.mjs) off the statement by which the dump's own 'gosem.cut.vars' lays the variable. In a bare row this is a premise. The card (YthjlpcecfkboiaaDoorCards.lean) ties it to the program's text. -/
def laid_harrow_instr_uses {H : Type} : DataW H := .agg [.lit (.int .i64 0), .lit (.int .i64 64), .lit (.int .i64 66), .lit (.int .i64 80), .lit (.int .i64 97), .lit (.int .i64 99), .lit (.int .i64 113), .lit (.int .i64 80), .lit (.int .i64 97), .lit (.int .i64 33), .lit (.int .i64 33), .lit (.int .i64 33), .lit (.int .i64 0), .lit (.int .i64 0), .lit (.int .i64 33), .lit (.int .i64 97), .lit (.int .i64 0), .lit (.int .i64 0), .lit (.int .i64 78), .lit (.int .i64 64), .lit (.int .i64 79)]

/-- 'harrowlaw22.StepsBegins': WHATEVER THE INPUT: true; the input reads as it did. -/
def stepsBeginsSpec : ChangeSpec := { name := "stepsBegins", fn := fun _ => fun
  | [d] => { results := [.lit (.bool true)], args := [d] }
  | _ => none }
def stepsBeginsRow : OpenClaim := { program := "ythjlpcecfkboiaadoor", sum := "6829b40e37c002e92145a11abe49b29ace7a21ce43aacca6464f1bd433223118", func := "harrow/harrowlaw22.StepsBegins", spec := "stepsBegins", unfollowed := true, recurses := true, named := ["harrow/instr.uses"], apart := false, laid := [("harrow/instr.uses", laid_harrow_instr_uses)] }
def StepsBeginsSaid : Prop := stepsBeginsRow.holds Tryd.pinned (OpenSpec.ofChange stepsBeginsSpec)

/-- ITS FALSE NEIGHBOUR: 'it returns false'. Refute it at one input. -/
def stepsBeginsWrong : ChangeSpec := { name := "stepsBegins", fn := fun _ => fun
  | [d] => { results := [.lit (.bool false)], args := [d] }
  | _ => none }
def StepsBeginsWrongFalsely : Prop := stepsBeginsRow.holds Tryd.pinned (OpenSpec.ofChange stepsBeginsWrong)

/-- 'harrowlaw22.StepsSum': WHATEVER THE INPUT: true; the input reads as it did. -/
def stepsSumSpec : ChangeSpec := { name := "stepsSum", fn := fun _ => fun
  | [d1, d2, d3] => { results := [.lit (.bool true)], args := [d1, d2, d3] }
  | _ => none }
def stepsSumRow : OpenClaim := { program := "ythjlpcecfkboiaadoor", sum := "6829b40e37c002e92145a11abe49b29ace7a21ce43aacca6464f1bd433223118", func := "harrow/harrowlaw22.StepsSum", spec := "stepsSum", unfollowed := true, recurses := true, named := ["harrow/instr.uses"], apart := false, laid := [("harrow/instr.uses", laid_harrow_instr_uses)] }
def StepsSumSaid : Prop := stepsSumRow.holds Tryd.pinned (OpenSpec.ofChange stepsSumSpec)

/-- ITS FALSE NEIGHBOUR: 'it returns false'. Refute it at one input. -/
def stepsSumWrong : ChangeSpec := { name := "stepsSum", fn := fun _ => fun
  | [d1, d2, d3] => { results := [.lit (.bool false)], args := [d1, d2, d3] }
  | _ => none }
def StepsSumWrongFalsely : Prop := stepsSumRow.holds Tryd.pinned (OpenSpec.ofChange stepsSumWrong)

/-- 'harrowlaw22.StepsSaves': WHATEVER THE INPUT: true; the input reads as it did. -/
def stepsSavesSpec : ChangeSpec := { name := "stepsSaves", fn := fun _ => fun
  | [d] => { results := [.lit (.bool true)], args := [d] }
  | _ => none }
def stepsSavesRow : OpenClaim := { program := "ythjlpcecfkboiaadoor", sum := "6829b40e37c002e92145a11abe49b29ace7a21ce43aacca6464f1bd433223118", func := "harrow/harrowlaw22.StepsSaves", spec := "stepsSaves", unfollowed := true, recurses := true, named := ["harrow/instr.uses"], apart := false, laid := [("harrow/instr.uses", laid_harrow_instr_uses)] }
def StepsSavesSaid : Prop := stepsSavesRow.holds Tryd.pinned (OpenSpec.ofChange stepsSavesSpec)

/-- ITS FALSE NEIGHBOUR: 'it returns false'. Refute it at one input. -/
def stepsSavesWrong : ChangeSpec := { name := "stepsSaves", fn := fun _ => fun
  | [d] => { results := [.lit (.bool false)], args := [d] }
  | _ => none }
def StepsSavesWrongFalsely : Prop := stepsSavesRow.holds Tryd.pinned (OpenSpec.ofChange stepsSavesWrong)

/-- 'harrowlaw22.StepsLoads': WHATEVER THE INPUT: true; the input reads as it did. -/
def stepsLoadsSpec : ChangeSpec := { name := "stepsLoads", fn := fun _ => fun
  | [d] => { results := [.lit (.bool true)], args := [d] }
  | _ => none }
def stepsLoadsRow : OpenClaim := { program := "ythjlpcecfkboiaadoor", sum := "6829b40e37c002e92145a11abe49b29ace7a21ce43aacca6464f1bd433223118", func := "harrow/harrowlaw22.StepsLoads", spec := "stepsLoads", unfollowed := true, recurses := true, named := ["harrow/instr.uses"], apart := false, laid := [("harrow/instr.uses", laid_harrow_instr_uses)] }
def StepsLoadsSaid : Prop := stepsLoadsRow.holds Tryd.pinned (OpenSpec.ofChange stepsLoadsSpec)

/-- ITS FALSE NEIGHBOUR: 'it returns false'. Refute it at one input. -/
def stepsLoadsWrong : ChangeSpec := { name := "stepsLoads", fn := fun _ => fun
  | [d] => { results := [.lit (.bool false)], args := [d] }
  | _ => none }
def StepsLoadsWrongFalsely : Prop := stepsLoadsRow.holds Tryd.pinned (OpenSpec.ofChange stepsLoadsWrong)

/- THE SECOND FORM. 'bulk': how many values and letters a reading holds, each counted each time it is reached (what is shared counts as often as it is met; a slice's spare places count too). A statement '..UptoSaid' is the law's where the arguments, and the package variables that the reading takes, are together of bulk at most 1048576: NARROWER than '..Said'. Prove '..Said' where nothing that the law and all that it calls make is longer than what came in: it says more and counts as full. Else prove '..UptoSaid'. A law counts once. -/
mutual
def uptoBulk {H : Type} : DataW H → Nat
  | .lit (.string bytes) => bytes.length + 1
  | .lit _ => 1
  | .nil => 1
  | .ptr d => uptoBulk d + 1
  | .slice elems spare => uptoBulkAll elems + uptoBulkAll spare + 1
  | .agg parts => uptoBulkAll parts + 1
  | .iface _ d => uptoBulk d + 1
  | .map entries => uptoBulkEntries entries + 1
  | .held _ => 1
def uptoBulkAll {H : Type} : List (DataW H) → Nat
  | [] => 0
  | d :: r => uptoBulk d + uptoBulkAll r
def uptoBulkEntries {H : Type} : List (Lit × DataW H) → Nat
  | [] => 0
  | x :: r => uptoBulkEntry x + uptoBulkEntries r
def uptoBulkEntry {H : Type} : Lit × DataW H → Nat
  | (.string bytes, d) => bytes.length + uptoBulk d + 1
  | (_, d) => uptoBulk d + 1
 end
def uptoSmall : (H : Type) → List (DataW H) → Bool := fun _ ds => decide (uptoBulkAll ds ≤ 1048576)
def OpenSpec.upto (s : _root_.Go.ChangeSpec) : _root_.Go.OpenSpec := { _root_.Go.OpenSpec.ofChange s with cond := some uptoSmall }

/-- 'harrowlaw22.StepsBegins', WHERE WHAT IT READS IS OF BULK AT MOST 1048576: true; the input reads as it did. -/
def stepsBeginsUptoRow : OpenClaim := { program := "ythjlpcecfkboiaadoor", sum := "6829b40e37c002e92145a11abe49b29ace7a21ce43aacca6464f1bd433223118", func := "harrow/harrowlaw22.StepsBegins", spec := "stepsBegins", unfollowed := true, recurses := true, named := ["harrow/instr.uses"], apart := false, laid := [("harrow/instr.uses", laid_harrow_instr_uses)], narrowed := true }
def StepsBeginsUptoSaid : Prop := stepsBeginsUptoRow.holds Tryd.pinned (OpenSpec.upto stepsBeginsSpec)

/-- 'harrowlaw22.StepsSum', WHERE WHAT IT READS IS OF BULK AT MOST 1048576: true; the input reads as it did. -/
def stepsSumUptoRow : OpenClaim := { program := "ythjlpcecfkboiaadoor", sum := "6829b40e37c002e92145a11abe49b29ace7a21ce43aacca6464f1bd433223118", func := "harrow/harrowlaw22.StepsSum", spec := "stepsSum", unfollowed := true, recurses := true, named := ["harrow/instr.uses"], apart := false, laid := [("harrow/instr.uses", laid_harrow_instr_uses)], narrowed := true }
def StepsSumUptoSaid : Prop := stepsSumUptoRow.holds Tryd.pinned (OpenSpec.upto stepsSumSpec)

/-- 'harrowlaw22.StepsSaves', WHERE WHAT IT READS IS OF BULK AT MOST 1048576: true; the input reads as it did. -/
def stepsSavesUptoRow : OpenClaim := { program := "ythjlpcecfkboiaadoor", sum := "6829b40e37c002e92145a11abe49b29ace7a21ce43aacca6464f1bd433223118", func := "harrow/harrowlaw22.StepsSaves", spec := "stepsSaves", unfollowed := true, recurses := true, named := ["harrow/instr.uses"], apart := false, laid := [("harrow/instr.uses", laid_harrow_instr_uses)], narrowed := true }
def StepsSavesUptoSaid : Prop := stepsSavesUptoRow.holds Tryd.pinned (OpenSpec.upto stepsSavesSpec)

/-- 'harrowlaw22.StepsLoads', WHERE WHAT IT READS IS OF BULK AT MOST 1048576: true; the input reads as it did. -/
def stepsLoadsUptoRow : OpenClaim := { program := "ythjlpcecfkboiaadoor", sum := "6829b40e37c002e92145a11abe49b29ace7a21ce43aacca6464f1bd433223118", func := "harrow/harrowlaw22.StepsLoads", spec := "stepsLoads", unfollowed := true, recurses := true, named := ["harrow/instr.uses"], apart := false, laid := [("harrow/instr.uses", laid_harrow_instr_uses)], narrowed := true }
def StepsLoadsUptoSaid : Prop := stepsLoadsUptoRow.holds Tryd.pinned (OpenSpec.upto stepsLoadsSpec)

end Rows
end Go.Proofs.YthjlpcecfkboiaaDoor
