/-
  NARROWER THAN 'FOR EVERY INPUT', by the rows' own cells (each row's printed sentence says how): StepsBack: laid · StepsRuns: laid.
  DERIVED. THE GIVEN ROWS OF THIS SEAT. 2 by the template 'for every input the law returns true; each argument reads behind the call as it read before'; 0 by the template 'total and deterministic' (their statements: YthjlpcecfkboiabDoorTotals.lean).
  GIVEN WITH THE SEED: the statements are not yours to turn. If you find one false, say at which input.
  Laid BY PROGRAM, IN A SANDBOX (cutbox-rows.mjs): the forced cells as the released guide's own fill.sh prints them over the translation c45a1ddb3275cc55… (all of the seat's roots in one cut). By AI agents, Wed Nov 11 2026. No macro, syntax, notation, axiom, sorry.
-/
import Derived.Test.YthjlpcecfkboiabDoorChecked
import GoSem.Claim
import GoSem.ClaimJoined
import GoSem.ClaimMapViews
import Derived.JoinedTies
import Derived.KernelRfl
namespace Go.Proofs.YthjlpcecfkboiabDoor
/- THE CELL 'sum', in the pinned program and in every row, IS THE sha256 OF THE DUMP (.gsa) THAT YthjlpcecfkboiabDoorProg.lean LOADS. Nothing in Lean hashes anything: it is a label: what it is worth is what the hold of that sum in a sandbox is worth. -/
noncomputable def Tryd.pinned : Pinned := { name := "ythjlpcecfkboiabdoor", sum := "c45a1ddb3275cc554228f8d8ed133f09f86af6833cd496178f0ce2452b4a1526", checked := Tryd.checked }
namespace Rows
def none {H : Type} : Left H := { results := [], args := [] }

/- WHAT THE LISTED PACKAGE-LEVEL VARIABLES READ AS WHEN THE CALL BEGINS. Each datum BY PROGRAM (the guide's laid-datum.mjs) off the statement by which the dump's own 'gosem.cut.vars' lays the variable. In a bare row this is a premise. The card (YthjlpcecfkboiabDoorCards.lean) ties it to the program's text. -/
def laid_harrow_instr_uses {H : Type} : DataW H := .agg [.lit (.int .i64 0), .lit (.int .i64 64), .lit (.int .i64 66), .lit (.int .i64 80), .lit (.int .i64 97), .lit (.int .i64 99), .lit (.int .i64 113), .lit (.int .i64 80), .lit (.int .i64 97), .lit (.int .i64 33), .lit (.int .i64 33), .lit (.int .i64 33), .lit (.int .i64 0), .lit (.int .i64 0), .lit (.int .i64 33), .lit (.int .i64 97), .lit (.int .i64 0), .lit (.int .i64 0), .lit (.int .i64 78), .lit (.int .i64 64), .lit (.int .i64 79)]

/-- 'harrowlaw22.StepsBack': WHATEVER THE INPUT: true; the input reads as it did. -/
def stepsBackSpec : ChangeSpec := { name := "stepsBack", fn := fun _ => fun
  | [d1, d2] => { results := [.lit (.bool true)], args := [d1, d2] }
  | _ => none }
def stepsBackRow : OpenClaim := { program := "ythjlpcecfkboiabdoor", sum := "c45a1ddb3275cc554228f8d8ed133f09f86af6833cd496178f0ce2452b4a1526", func := "harrow/harrowlaw22.StepsBack", spec := "stepsBack", unfollowed := true, recurses := true, named := ["harrow/instr.uses"], apart := false, laid := [("harrow/instr.uses", laid_harrow_instr_uses)] }
def StepsBackSaid : Prop := stepsBackRow.holds Tryd.pinned (OpenSpec.ofChange stepsBackSpec)

/-- ITS FALSE NEIGHBOUR: 'it returns false'. Refute it at one input. -/
def stepsBackWrong : ChangeSpec := { name := "stepsBack", fn := fun _ => fun
  | [d1, d2] => { results := [.lit (.bool false)], args := [d1, d2] }
  | _ => none }
def StepsBackWrongFalsely : Prop := stepsBackRow.holds Tryd.pinned (OpenSpec.ofChange stepsBackWrong)

/-- 'harrowlaw22.StepsRuns': WHATEVER THE INPUT: true; the input reads as it did. -/
def stepsRunsSpec : ChangeSpec := { name := "stepsRuns", fn := fun _ => fun
  | [d1, d2] => { results := [.lit (.bool true)], args := [d1, d2] }
  | _ => none }
def stepsRunsRow : OpenClaim := { program := "ythjlpcecfkboiabdoor", sum := "c45a1ddb3275cc554228f8d8ed133f09f86af6833cd496178f0ce2452b4a1526", func := "harrow/harrowlaw22.StepsRuns", spec := "stepsRuns", unfollowed := true, recurses := true, named := ["harrow/instr.uses"], apart := false, laid := [("harrow/instr.uses", laid_harrow_instr_uses)] }
def StepsRunsSaid : Prop := stepsRunsRow.holds Tryd.pinned (OpenSpec.ofChange stepsRunsSpec)

/-- ITS FALSE NEIGHBOUR: 'it returns false'. Refute it at one input. -/
def stepsRunsWrong : ChangeSpec := { name := "stepsRuns", fn := fun _ => fun
  | [d1, d2] => { results := [.lit (.bool false)], args := [d1, d2] }
  | _ => none }
def StepsRunsWrongFalsely : Prop := stepsRunsRow.holds Tryd.pinned (OpenSpec.ofChange stepsRunsWrong)

/- THE SECOND FORM. 'bulk': how many values and letters a reading holds, each counted each time it is reached (what is shared counts as often as it is met; a slice's spare places count too). A statement '..UptoSaid' is the law's where the arguments, and the package variables that the reading takes, are together of bulk at most 1048576: NARROWER than '..Said'. Prove '..Said' where nothing that the law and all that it calls make is longer than what came in: it says more and counts as full. Else prove '..UptoSaid'. A law counts once. -/
mutual
def uptoBulk {H : Type} : DataW H → Nat
  | .lit (.string bytes) => bytes.length + 1
  | .lit _ => 1
  | .nil => 1
  | .ptr d => uptoBulk d + 1
  | .slice elems spare => uptoBulkAll elems + uptoBulkAll spare + 1
  | .agg parts => uptoBulkAll parts + 1
  | .iface _ d => uptoBulk d + 1
  | .map entries => uptoBulkEntries entries + 1
  | .held _ => 1
def uptoBulkAll {H : Type} : List (DataW H) → Nat
  | [] => 0
  | d :: r => uptoBulk d + uptoBulkAll r
def uptoBulkEntries {H : Type} : List (Lit × DataW H) → Nat
  | [] => 0
  | x :: r => uptoBulkEntry x + uptoBulkEntries r
def uptoBulkEntry {H : Type} : Lit × DataW H → Nat
  | (.string bytes, d) => bytes.length + uptoBulk d + 1
  | (_, d) => uptoBulk d + 1
 end
def uptoSmall : (H : Type) → List (DataW H) → Bool := fun _ ds => decide (uptoBulkAll ds ≤ 1048576)
def OpenSpec.upto (s : _root_.Go.ChangeSpec) : _root_.Go.OpenSpec := { _root_.Go.OpenSpec.ofChange s with cond := some uptoSmall }

/-- 'harrowlaw22.StepsBack', WHERE WHAT IT READS IS OF BULK AT MOST 1048576: true; the input reads as it did. -/
def stepsBackUptoRow : OpenClaim := { program := "ythjlpcecfkboiabdoor", sum := "c45a1ddb3275cc554228f8d8ed133f09f86af6833cd496178f0ce2452b4a1526", func := "harrow/harrowlaw22.StepsBack", spec := "stepsBack", unfollowed := true, recurses := true, named := ["harrow/instr.uses"], apart := false, laid := [("harrow/instr.uses", laid_harrow_instr_uses)], narrowed := true }
def StepsBackUptoSaid : Prop := stepsBackUptoRow.holds Tryd.pinned (OpenSpec.upto stepsBackSpec)

/-- 'harrowlaw22.StepsRuns', WHERE WHAT IT READS IS OF BULK AT MOST 1048576: true; the input reads as it did. -/
def stepsRunsUptoRow : OpenClaim := { program := "ythjlpcecfkboiabdoor", sum := "c45a1ddb3275cc554228f8d8ed133f09f86af6833cd496178f0ce2452b4a1526", func := "harrow/harrowlaw22.StepsRuns", spec := "stepsRuns", unfollowed := true, recurses := true, named := ["harrow/instr.uses"], apart := false, laid := [("harrow/instr.uses", laid_harrow_instr_uses)], narrowed := true }
def StepsRunsUptoSaid : Prop := stepsRunsUptoRow.holds Tryd.pinned (OpenSpec.upto stepsRunsSpec)

end Rows
end Go.Proofs.YthjlpcecfkboiabDoor
