/-
  The machine in slices, as numbers and lists: an entry, a note, an instruction, a state, one step. No program here.
-/
import Derived.Test.YthjlpcecfkboiabDoorReads
namespace Go.Proofs.YthjlpcecfkboiabDoor
open Go.RowKit
set_option linter.unusedVariables false
set_option linter.unusedSimpArgs false
structure Ent where
  ret : Bool
  pc : Int
  at_ : Int
  notes : Int
structure Not where
  op : Int
  kind : Int
  at_ : Int
  len : Int
  n : Int
  text : ByteArray
structure Ins where
  op : Int
  a : Int
  b : Int
  n : Int
  text : ByteArray
  s0 : Int
  s1 : Int
  s2 : Int
  s3 : Int
structure MSt where
  pc : Int
  at_ : Int
  steps : Int
  kind : Int
  stack : List Ent
  log : List Not
def entC (e : Ent) : List Value := [.bool e.ret, .int .i64 e.pc, .int .i64 e.at_, .int .i64 e.notes]
def notC (n : Not) : List Value := [.int .i64 n.op, .int .i64 n.kind, .int .i64 n.at_, .int .i64 n.len, .int .i64 n.n, .string n.text]
def insC (i : Ins) : List Value := [.int .i64 i.op, .int .i64 i.a, .int .i64 i.b, .int .i64 i.n, .string i.text, .int .u64 i.s0, .int .u64 i.s1, .int .u64 i.s2, .int .u64 i.s3]
theorem entC_len (e : Ent) : (entC e).length = 4 := rfl
theorem notC_len (n : Not) : (notC n).length = 6 := rfl
theorem insC_len (i : Ins) : (insC i).length = 9 := rfl
def insA (i : Ins) : Value := .agg #[.int .i64 i.op, .int .i64 i.a, .int .i64 i.b, .int .i64 i.n, .string i.text, .int .u64 i.s0, .int .u64 i.s1, .int .u64 i.s2, .int .u64 i.s3]
/-- The word of a set in which a byte is. -/
def Ins.word (i : Ins) (q : Nat) : Int := if q = 0 then i.s0 else if q = 1 then i.s1 else if q = 2 then i.s2 else i.s3
def bitM (i : Ins) (b : Nat) : Bool := bits .and .u64 (i.word (b / 64) / 2 ^ (b % 64)) 1 == 1
/-- Is the next byte what an instruction asks for? -/
def fitsM (s : ByteArray) (p : Int) (i : Ins) : Bool :=
  if h : 0 ≤ p ∧ p.toNat < s.size then
    (if i.op = 2 ∨ i.op = 5 then ((s[p.toNat]'h.2).toNat : Int) == i.b else if i.op = 3 ∨ i.op = 6 ∨ i.op = 7 then bitM i (s[p.toNat]'h.2).toNat else true)
  else false
/-- Back to the last choice among the first n entries. -/
def failAt (x : MSt) : Nat → MSt
  | 0 => ⟨0, 0, x.steps, 2, [], []⟩
  | n + 1 => match x.stack[n]? with
    | none => ⟨0, 0, x.steps, 2, [], []⟩
    | some e => if e.ret then failAt x n else { x with pc := e.pc, at_ := e.at_, stack := x.stack.take n, log := x.log.take e.notes.toNat }
def failM (x : MSt) : MSt := failAt x x.stack.length
end Go.Proofs.YthjlpcecfkboiabDoor
