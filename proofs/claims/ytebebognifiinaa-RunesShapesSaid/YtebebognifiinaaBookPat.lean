/-
  Rows of Node: harrowbook.SamePattern of equal rows.
-/
import Derived.Test.YtebebognifiinaaProg
import Derived.Test.YtebebognifiinaaReads
import Derived.Test.YtebebognifiinaaBits
import Derived.WalkSpells
import Derived.WalkLawsBesides
import Derived.BigQuiet
import Derived.Deep.QuietTactic
namespace Go.Proofs.Ytebebognifiinaa
open Go.RowKit
set_option linter.unusedVariables false
set_option linter.unusedSimpArgs false
structure Nod where
  op : Int
  n : Int
  text : ByteArray
  s0 : Int
  s1 : Int
  s2 : Int
  s3 : Int
def nodC (x : Nod) : List Value := [.int .i64 x.op, .int .i64 x.n, .string x.text, .int .u64 x.s0, .int .u64 x.s1, .int .u64 x.s2, .int .u64 x.s3]
theorem nodC_len (x : Nod) : (nodC x).length = 7 := rfl
set_option maxHeartbeats 1000000 in
theorem eq_nod (x0 : Int) (x1 : Int) (x2 : ByteArray) (x3 : Int) (x4 : Int) (x5 : Int) (x6 : Int) (w : World) : Sem.run Try.prog (Op.equalIn 10000 96 (.agg #[.int .i64 x0, .int .i64 x1, .string x2, .int .u64 x3, .int .u64 x4, .int .u64 x5, .int .u64 x6]) (.agg #[.int .i64 x0, .int .i64 x1, .string x2, .int .u64 x3, .int .u64 x4, .int .u64 x5, .int .u64 x6])) w = .ok true w := by
  have h1 := Try.underlying3
  have h2 := Try.underlying9
  have h3 := Try.underlying92
  have h4 := Try.underlying94
  have hu := Try.underlying96
  have hp : Try.prog.stoodInHeld 96 = false := by kernel_rfl
  rw [show (10000 : Nat) = 9998 + 1 + 1 from rfl, run_equalIn_struct w _ _ _ _ (by rw [fieldsOf_of hu]; exact hu) hp, fieldsOf_of hu]
  simp only [Op.eqFields]
  have hse : Sem.run Try.prog (Op.equalIn (9998 + 1) 94 (.agg #[.int .u64 x3, .int .u64 x4, .int .u64 x5, .int .u64 x6]) (.agg #[.int .u64 x3, .int .u64 x4, .int .u64 x5, .int .u64 x6])) w = .ok true w := by
    rw [Op.equalIn]
    simp only [Sem.run_bind, run_underlying Try.underlying94, Result.andThen_ok]
    simp only [show (9998 : Nat) = 9997 + 1 from rfl]
    simp [go_sem, List.range', run_equalIn_int, h3]
  simp [go_sem, run_equalIn_int, run_equalIn_string, h1, h2, hse]
set_option maxRecDepth 100000 in
set_option maxHeartbeats 4000000 in
theorem samePat_yes (l : List Nod) (hl : l.length ≤ 4611686018427387904) (a b : Value) (w : World) (ha : RowIs w a 7 l.length (l.flatMap nodC)) (hb : RowIs w b 7 l.length (l.flatMap nodC)) :
    Calls Try.prog 27 #[a, b] w fun e w' => e = .returned (.bool true) ∧ ∃ m, w' = w.drewN m := by
  obtain ⟨-, ao, ac, rfl, ha⟩ := ha
  obtain ⟨-, bo, bc, rfl, hb⟩ := hb
  have heq := fun (x0 : Int) (x1 : Int) (x2 : ByteArray) (x3 : Int) (x4 : Int) (x5 : Int) (x6 : Int) w => eq_nod x0 x1 x2 x3 x4 x5 x6 w
  go_enter Try.func27, Try.ntmps27
  go_wp2
  go_loopw [5] (fun i wr => ∃ k : Nat, k ≤ l.length ∧ i = .int .i64 k ∧ ∃ m, wr = w.drewN m) (fun i _ => l.length - (intOf i).toNat)
  case atStart => exact ⟨0, Nat.zero_le _, rfl, 0, rfl⟩
  case round =>
    obtain ⟨k, hk, rfl, m, rfl⟩ := hrel
    by_cases hlt : k < l.length
    · obtain ⟨ag, ao, rfl, hca⟩ := ha (by omega)
      obtain ⟨bg, bo, rfl, hcb⟩ := hb (by omega)
      have p0 : w.cell? ⟨ag, ao + k * 7, none⟩ = some (.int .i64 l[k].op) := row_cell0 nodC_len hca hlt (by decide)
      have p1 : w.cell? ⟨ag, ao + k * 7 + 1, none⟩ = some (.int .i64 l[k].n) := row_cell nodC_len hca hlt (j := 1) (by decide)
      have p2 : w.cell? ⟨ag, ao + k * 7 + 2, none⟩ = some (.string l[k].text) := row_cell nodC_len hca hlt (j := 2) (by decide)
      have p3 : w.cell? ⟨ag, ao + k * 7 + 3, none⟩ = some (.int .u64 l[k].s0) := row_cell nodC_len hca hlt (j := 3) (by decide)
      have p4 : w.cell? ⟨ag, ao + k * 7 + 4, none⟩ = some (.int .u64 l[k].s1) := row_cell nodC_len hca hlt (j := 4) (by decide)
      have p5 : w.cell? ⟨ag, ao + k * 7 + 5, none⟩ = some (.int .u64 l[k].s2) := row_cell nodC_len hca hlt (j := 5) (by decide)
      have p6 : w.cell? ⟨ag, ao + k * 7 + 6, none⟩ = some (.int .u64 l[k].s3) := row_cell nodC_len hca hlt (j := 6) (by decide)
      have q0 : w.cell? ⟨bg, bo + k * 7, none⟩ = some (.int .i64 l[k].op) := row_cell0 nodC_len hcb hlt (by decide)
      have q1 : w.cell? ⟨bg, bo + k * 7 + 1, none⟩ = some (.int .i64 l[k].n) := row_cell nodC_len hcb hlt (j := 1) (by decide)
      have q2 : w.cell? ⟨bg, bo + k * 7 + 2, none⟩ = some (.string l[k].text) := row_cell nodC_len hcb hlt (j := 2) (by decide)
      have q3 : w.cell? ⟨bg, bo + k * 7 + 3, none⟩ = some (.int .u64 l[k].s0) := row_cell nodC_len hcb hlt (j := 3) (by decide)
      have q4 : w.cell? ⟨bg, bo + k * 7 + 4, none⟩ = some (.int .u64 l[k].s1) := row_cell nodC_len hcb hlt (j := 4) (by decide)
      have q5 : w.cell? ⟨bg, bo + k * 7 + 5, none⟩ = some (.int .u64 l[k].s2) := row_cell nodC_len hcb hlt (j := 5) (by decide)
      have q6 : w.cell? ⟨bg, bo + k * 7 + 6, none⟩ = some (.int .u64 l[k].s3) := row_cell nodC_len hcb hlt (j := 6) (by decide)
      clear hca hcb ha hb
      generalize l[k].op = x0 at *
      generalize l[k].n = x1 at *
      generalize l[k].text = x2 at *
      generalize l[k].s0 = x3 at *
      generalize l[k].s1 = x4 at *
      generalize l[k].s2 = x5 at *
      generalize l[k].s3 = x6 at *
      have hw1 : IntKind.i64.wrap ((k : Int) + 1) = (k : Int) + 1 := IntWalk.i64_in _ (by omega)
      go_wp2
      go_quiet (fail)
      go_wp2
      go_roundw
      case rel => exact ⟨k + 1, by omega, by go_num, _, rfl⟩
      case measure => simp [intOf]; omega
    · have hk2 : k = l.length := by omega
      subst hk2
      go_wp2
      go_ret
      exact ⟨rfl, m, rfl⟩
end Go.Proofs.Ytebebognifiinaa
