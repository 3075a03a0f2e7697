/-
  Rows of Ins: harrowbook's Same, Lend, Kept and Spoil of them.
-/
import Derived.Test.YthjlpcecfkboiaaDoorProg
import Derived.Test.YthjlpcecfkboiaaDoorReads
import Derived.Test.YthjlpcecfkboiaaDoorRunP
import Derived.Test.YthjlpcecfkboiaaDoorEqSet
import Derived.WalkSpells
import Derived.WalkLawsBesides
import Derived.BigQuiet
import Derived.Deep.QuietTactic
namespace Go.Proofs.YthjlpcecfkboiaaDoor
open Go.RowKit
set_option linter.unusedVariables false
set_option linter.unusedSimpArgs false
def codeC (x : Ins) : List Value := [.int .i64 x.op, .int .i64 x.a, .int .i64 x.b, .int .i64 x.n, .string x.text, .int .u64 x.s0, .int .u64 x.s1, .int .u64 x.s2, .int .u64 x.s3]
theorem codeC_len (x : Ins) : (codeC x).length = 9 := rfl
theorem codeC_one (l : List Ins) : ∀ u ∈ l.flatMap codeC, u.oneCell' = true := by
  intro u hu
  simp only [List.mem_flatMap, codeC, List.mem_cons, List.not_mem_nil, or_false] at hu
  obtain ⟨x, -, h⟩ := hu
  rcases h with rfl | rfl | rfl | rfl | rfl | rfl | rfl | rfl | rfl <;> rfl
theorem info_code : (Tryd.prog.info? 52).map (fun i => (i.zero, i.size, i.bytes)) = some (some (.agg #[.int .i64 0, .int .i64 0, .int .i64 0, .int .i64 0, .string { data := #[] }, .int .u64 0, .int .u64 0, .int .u64 0, .int .u64 0]), 9, 80) := by kernel_rfl
set_option maxHeartbeats 1000000 in
theorem eq_code (x0 : Int) (x1 : Int) (x2 : Int) (x3 : Int) (x4 : ByteArray) (x5 : Int) (x6 : Int) (x7 : Int) (x8 : Int) (w : World) : Sem.run Tryd.prog (Op.equalIn 10000 52 (.agg #[.int .i64 x0, .int .i64 x1, .int .i64 x2, .int .i64 x3, .string x4, .int .u64 x5, .int .u64 x6, .int .u64 x7, .int .u64 x8]) (.agg #[.int .i64 x0, .int .i64 x1, .int .i64 x2, .int .i64 x3, .string x4, .int .u64 x5, .int .u64 x6, .int .u64 x7, .int .u64 x8])) w = .ok true w := by
  have h1 := Tryd.underlying3
  have h2 := Tryd.underlying9
  have hu := Tryd.underlying52
  have hp : Tryd.prog.stoodInHeld 52 = false := by kernel_rfl
  rw [show (10000 : Nat) = 9998 + 1 + 1 from rfl, run_equalIn_struct w _ _ _ _ (by rw [fieldsOf_of hu]; exact hu) hp, fieldsOf_of hu]
  simp only [Op.eqFields]
  simp [go_sem, run_equalIn_int, run_equalIn_string, h1, h2, eqset_a, eqset_b]

set_option maxRecDepth 100000 in
set_option maxHeartbeats 4000000 in
theorem sameCode_yes (l : List Ins) (hl : l.length ≤ 4611686018427387904) (a b : Value) (w : World) (ha : RowIs w a 9 l.length (l.flatMap codeC)) (hb : RowIs w b 9 l.length (l.flatMap codeC)) :
    Calls Tryd.prog 22 #[a, b] w fun e w' => e = .returned (.bool true) ∧ Below w.heap.size w w' := by
  obtain ⟨-, ao, ac, rfl, ha⟩ := ha
  obtain ⟨-, bo, bc, rfl, hb⟩ := hb
  have heq := fun (x0 : Int) (x1 : Int) (x2 : Int) (x3 : Int) (x4 : ByteArray) (x5 : Int) (x6 : Int) (x7 : Int) (x8 : Int) w => eq_code x0 x1 x2 x3 x4 x5 x6 x7 x8 w
  go_enter Tryd.func22, Tryd.ntmps22
  go_wp2
  go_loopw [5] (fun i wr => ∃ k : Nat, k ≤ l.length ∧ i = .int .i64 k ∧ ∃ m, wr = w.drewN m) (fun i _ => l.length - (intOf i).toNat)
  case atStart => exact ⟨0, Nat.zero_le _, rfl, 0, rfl⟩
  case round =>
    obtain ⟨k, hk, rfl, m, rfl⟩ := hrel
    by_cases hlt : k < l.length
    · obtain ⟨ag, ao, rfl, hca⟩ := ha (by omega)
      obtain ⟨bg, bo, rfl, hcb⟩ := hb (by omega)
      have p0 : w.cell? ⟨ag, ao + k * 9, none⟩ = some (.int .i64 l[k].op) := row_cell0 codeC_len hca hlt (by decide)
      have p1 : w.cell? ⟨ag, ao + k * 9 + 1, none⟩ = some (.int .i64 l[k].a) := row_cell codeC_len hca hlt (j := 1) (by decide)
      have p2 : w.cell? ⟨ag, ao + k * 9 + 2, none⟩ = some (.int .i64 l[k].b) := row_cell codeC_len hca hlt (j := 2) (by decide)
      have p3 : w.cell? ⟨ag, ao + k * 9 + 3, none⟩ = some (.int .i64 l[k].n) := row_cell codeC_len hca hlt (j := 3) (by decide)
      have p4 : w.cell? ⟨ag, ao + k * 9 + 4, none⟩ = some (.string l[k].text) := row_cell codeC_len hca hlt (j := 4) (by decide)
      have p5 : w.cell? ⟨ag, ao + k * 9 + 5, none⟩ = some (.int .u64 l[k].s0) := row_cell codeC_len hca hlt (j := 5) (by decide)
      have p6 : w.cell? ⟨ag, ao + k * 9 + 6, none⟩ = some (.int .u64 l[k].s1) := row_cell codeC_len hca hlt (j := 6) (by decide)
      have p7 : w.cell? ⟨ag, ao + k * 9 + 7, none⟩ = some (.int .u64 l[k].s2) := row_cell codeC_len hca hlt (j := 7) (by decide)
      have p8 : w.cell? ⟨ag, ao + k * 9 + 8, none⟩ = some (.int .u64 l[k].s3) := row_cell codeC_len hca hlt (j := 8) (by decide)
      have q0 : w.cell? ⟨bg, bo + k * 9, none⟩ = some (.int .i64 l[k].op) := row_cell0 codeC_len hcb hlt (by decide)
      have q1 : w.cell? ⟨bg, bo + k * 9 + 1, none⟩ = some (.int .i64 l[k].a) := row_cell codeC_len hcb hlt (j := 1) (by decide)
      have q2 : w.cell? ⟨bg, bo + k * 9 + 2, none⟩ = some (.int .i64 l[k].b) := row_cell codeC_len hcb hlt (j := 2) (by decide)
      have q3 : w.cell? ⟨bg, bo + k * 9 + 3, none⟩ = some (.int .i64 l[k].n) := row_cell codeC_len hcb hlt (j := 3) (by decide)
      have q4 : w.cell? ⟨bg, bo + k * 9 + 4, none⟩ = some (.string l[k].text) := row_cell codeC_len hcb hlt (j := 4) (by decide)
      have q5 : w.cell? ⟨bg, bo + k * 9 + 5, none⟩ = some (.int .u64 l[k].s0) := row_cell codeC_len hcb hlt (j := 5) (by decide)
      have q6 : w.cell? ⟨bg, bo + k * 9 + 6, none⟩ = some (.int .u64 l[k].s1) := row_cell codeC_len hcb hlt (j := 6) (by decide)
      have q7 : w.cell? ⟨bg, bo + k * 9 + 7, none⟩ = some (.int .u64 l[k].s2) := row_cell codeC_len hcb hlt (j := 7) (by decide)
      have q8 : w.cell? ⟨bg, bo + k * 9 + 8, none⟩ = some (.int .u64 l[k].s3) := row_cell codeC_len hcb hlt (j := 8) (by decide)
      clear hca hcb ha hb
      generalize l[k].op = x0 at *
      generalize l[k].a = x1 at *
      generalize l[k].b = x2 at *
      generalize l[k].n = x3 at *
      generalize l[k].text = x4 at *
      generalize l[k].s0 = x5 at *
      generalize l[k].s1 = x6 at *
      generalize l[k].s2 = x7 at *
      generalize l[k].s3 = x8 at *
      have hw1 : IntKind.i64.wrap ((k : Int) + 1) = (k : Int) + 1 := IntWalk.i64_in _ (by omega)
      go_wp2
      go_quiet (fail)
      go_wp2
      go_roundw
      case rel => exact ⟨k + 1, by omega, by go_num, _, rfl⟩
      case measure => simp [intOf]; omega
    · have hk2 : k = l.length := by omega
      subst hk2
      go_wp2
      go_ret
      exact ⟨rfl, below_drewN (Below.refl _ _) _⟩

def markCode : List Value := [.int .i64 (-77), .int .i64 0, .int .i64 0, .int .i64 0, .string { data := #[] }, .int .u64 0, .int .u64 0, .int .u64 0, .int .u64 0]
set_option maxRecDepth 100000 in
set_option maxHeartbeats 4000000 in
theorem lendCode_any (l : List Ins) (hl : (l.length + 1) * 80 ≤ 140737488355328) (v : Value) (w : World) (hv : RowIs w v 9 l.length (l.flatMap codeC)) :
    Calls Tryd.prog 7 #[v] w fun e w' => ∃ v', e = .returned v' ∧ Lent w' w.heap.size v' 9 l.length (l.flatMap codeC) markCode ∧ Below w.heap.size w w' := by
  obtain ⟨i0, hi, hz0, hz1, hz2⟩ := info_parts info_code
  obtain ⟨ao, cap, rfl⟩ := hv.form
  have hv1 := hv.below ((Below.refl w.heap.size w).alloc (Nat.le_refl _) (.cells #[] 52))
  have hB0 := (Below.refl w.heap.size w).alloc (Nat.le_refl _) (.cells #[] 52)
  have hown := owns_empty w w.heap.size 52 9 (Nat.le_refl _)
  go_enter Tryd.func7, Tryd.ntmps7
  go_wp2_with (at_builtin; refine wpList_append_row rfl _ _ 22 rfl w.heap.size 52 i0 _ 9 80 Tryd.underlying22 hi hz0 hz1 hz2 rfl (by decide) (.slice (some ⟨w.heap.size, 0, none⟩) 0 0) 0 [] rfl hown (.slice ao l.length cap) l.length (l.flatMap codeC) rfl hv1 (codeC_one l) ?c3 ?c4 ?c5 ?_)
  case c3 => unfold maxLen; omega
  case c4 => omega
  case c5 => simp
  intro v1 w1 hown1 hg1 hb1
  have hB1 : Below w.heap.size w w1 := hB0.grown hg1 (by simp) (fun b e => by cases e; exact Nat.le_refl _)
  have hv2 := row_new w1 52 #[.int .i64 (-77), .int .i64 0, .int .i64 0, .int .i64 0, .string { data := #[] }, .int .u64 0, .int .u64 0, .int .u64 0, .int .u64 0] 9 rfl
  have hB2 := hB1.alloc hB1.size (.cells #[.int .i64 (-77), .int .i64 0, .int .i64 0, .int .i64 0, .string { data := #[] }, .int .u64 0, .int .u64 0, .int .u64 0, .int .u64 0] 52)
  have hge1 := own_block_ge hown1
  go_wp2_with (at_builtin; refine wpList_append_row rfl _ _ 22 rfl w.heap.size 52 i0 _ 9 80 Tryd.underlying22 hi hz0 hz1 hz2 rfl (by decide) v1 _ _ rfl (hown1.alloc _) (.slice (some ⟨w1.heap.size, 0, none⟩) 1 1) 1 (#[.int .i64 (-77), .int .i64 0, .int .i64 0, .int .i64 0, .string { data := #[] }, .int .u64 0, .int .u64 0, .int .u64 0, .int .u64 0] : Array Value).toList rfl hv2 ?d6 ?d3 ?d4 ?d5 ?_)
  case d6 => simp [Value.oneCell']
  case d3 => unfold maxLen; omega
  try case d4 => omega
  case d5 => have := hB1.size; simp; omega
  intro v2 w2 hown2 hg2 hb2
  try simp only [Nat.zero_add, List.nil_append] at hown2
  have hB3 : Below w.heap.size w w2 := hB2.grown hg2 (by have := hB1.size; simp; omega) (fun b e => hge1 b e)
  obtain ⟨g, cap2, rfl⟩ := owns_succ hown2
  obtain ⟨hlent, hcap⟩ := Lent.of_owns (y := markCode) hown2 (flat_len codeC_len l) rfl
  have hcap2 : l.length ≤ cap2 := by omega
  clear hown2 hown1 hown hv1 hv2 hg1 hg2 hb1 hb2 hge1
  go_wp2
  go_ret
  exact ⟨_, rfl, hlent, hB3⟩

set_option maxRecDepth 100000 in
set_option maxHeartbeats 4000000 in
theorem keptCode_yes (l : List Ins) (hl : l.length ≤ 4611686018427387904) (base : Nat) (a b : Value) (w : World) (ha : Lent w base a 9 l.length (l.flatMap codeC) markCode) (hb : RowIs w b 9 l.length (l.flatMap codeC)) :
    Calls Tryd.prog 12 #[a, b] w fun e w' => e = .returned (.bool true) ∧ Below w.heap.size w w' := by
  have HS := hid (sameCode_yes l hl a b w ha.row hb)
  obtain ⟨hx, hy, g, cap, rfl, hcap, -, hg, hc⟩ := ha
  obtain ⟨ao, bc, rfl⟩ := hb.form
  have heq := fun (x0 : Int) (x1 : Int) (x2 : Int) (x3 : Int) (x4 : ByteArray) (x5 : Int) (x6 : Int) (x7 : Int) (x8 : Int) w => eq_code x0 x1 x2 x3 x4 x5 x6 x7 x8 w
  have c0 : ∀ w', Below w.heap.size w w' → w'.cell? ⟨g, l.length * 9, none⟩ = some (.int .i64 (-77)) := fun w' hB => (hB.cell (p := ⟨g, l.length * 9, none⟩) hg).trans ((hc (l.length * 9 + 0) (by omega)).trans (by rw [List.getElem?_append_right (by omega)]; simp [hx, markCode]))
  have c1 : ∀ w', Below w.heap.size w w' → w'.cell? ⟨g, l.length * 9 + 1, none⟩ = some (.int .i64 0) := fun w' hB => (hB.cell (p := ⟨g, l.length * 9 + 1, none⟩) hg).trans ((hc (l.length * 9 + 1) (by omega)).trans (by rw [List.getElem?_append_right (by omega)]; simp [hx, markCode]))
  have c2 : ∀ w', Below w.heap.size w w' → w'.cell? ⟨g, l.length * 9 + 2, none⟩ = some (.int .i64 0) := fun w' hB => (hB.cell (p := ⟨g, l.length * 9 + 2, none⟩) hg).trans ((hc (l.length * 9 + 2) (by omega)).trans (by rw [List.getElem?_append_right (by omega)]; simp [hx, markCode]))
  have c3 : ∀ w', Below w.heap.size w w' → w'.cell? ⟨g, l.length * 9 + 3, none⟩ = some (.int .i64 0) := fun w' hB => (hB.cell (p := ⟨g, l.length * 9 + 3, none⟩) hg).trans ((hc (l.length * 9 + 3) (by omega)).trans (by rw [List.getElem?_append_right (by omega)]; simp [hx, markCode]))
  have c4 : ∀ w', Below w.heap.size w w' → w'.cell? ⟨g, l.length * 9 + 4, none⟩ = some (.string { data := #[] }) := fun w' hB => (hB.cell (p := ⟨g, l.length * 9 + 4, none⟩) hg).trans ((hc (l.length * 9 + 4) (by omega)).trans (by rw [List.getElem?_append_right (by omega)]; simp [hx, markCode]))
  have c5 : ∀ w', Below w.heap.size w w' → w'.cell? ⟨g, l.length * 9 + 5, none⟩ = some (.int .u64 0) := fun w' hB => (hB.cell (p := ⟨g, l.length * 9 + 5, none⟩) hg).trans ((hc (l.length * 9 + 5) (by omega)).trans (by rw [List.getElem?_append_right (by omega)]; simp [hx, markCode]))
  have c6 : ∀ w', Below w.heap.size w w' → w'.cell? ⟨g, l.length * 9 + 6, none⟩ = some (.int .u64 0) := fun w' hB => (hB.cell (p := ⟨g, l.length * 9 + 6, none⟩) hg).trans ((hc (l.length * 9 + 6) (by omega)).trans (by rw [List.getElem?_append_right (by omega)]; simp [hx, markCode]))
  have c7 : ∀ w', Below w.heap.size w w' → w'.cell? ⟨g, l.length * 9 + 7, none⟩ = some (.int .u64 0) := fun w' hB => (hB.cell (p := ⟨g, l.length * 9 + 7, none⟩) hg).trans ((hc (l.length * 9 + 7) (by omega)).trans (by rw [List.getElem?_append_right (by omega)]; simp [hx, markCode]))
  have c8 : ∀ w', Below w.heap.size w w' → w'.cell? ⟨g, l.length * 9 + 8, none⟩ = some (.int .u64 0) := fun w' hB => (hB.cell (p := ⟨g, l.length * 9 + 8, none⟩) hg).trans ((hc (l.length * 9 + 8) (by omega)).trans (by rw [List.getElem?_append_right (by omega)]; simp [hx, markCode]))
  have hcap0 : l.length ≤ cap := by omega
  have hw1 : IntKind.i64.wrap ((l.length : Int) + 1) = (l.length : Int) + 1 := IntWalk.i64_in _ (by omega)
  clear hc hb hx hy
  go_enter Tryd.func12, Tryd.ntmps12
  go_wp2_with (fail)
  refine HS.out.mono ?_
  rintro e w1 ⟨rfl, hB⟩
  have d0 := c0 w1 hB
  have d1 := c1 w1 hB
  have d2 := c2 w1 hB
  have d3 := c3 w1 hB
  have d4 := c4 w1 hB
  have d5 := c5 w1 hB
  have d6 := c6 w1 hB
  have d7 := c7 w1 hB
  have d8 := c8 w1 hB
  clear c0 c1 c2 c3 c4 c5 c6 c7 c8
  go_wp2_with (fail)
  go_ret
  exact ⟨rfl, hB⟩


end Go.Proofs.YthjlpcecfkboiaaDoor
