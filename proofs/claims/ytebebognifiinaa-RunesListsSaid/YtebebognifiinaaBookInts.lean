/-
  Rows of whole numbers: harrowbook's Same, Lend, Kept and Spoil of them.
-/
import Derived.Test.YtebebognifiinaaProg
import Derived.Test.YtebebognifiinaaReads
import Derived.WalkSpells
import Derived.WalkLawsBesides
import Derived.BigQuiet
import Derived.Deep.QuietTactic
namespace Go.Proofs.Ytebebognifiinaa
open Go.RowKit
set_option linter.unusedVariables false
set_option linter.unusedSimpArgs false
def intsC (x : Int) : List Value := [.int .i64 x]
theorem intsC_len (x : Int) : (intsC x).length = 1 := rfl
theorem intsC_one (l : List Int) : ∀ u ∈ l.flatMap intsC, u.oneCell' = true := by
  intro u hu
  simp only [List.mem_flatMap, intsC, List.mem_cons, List.not_mem_nil, or_false] at hu
  obtain ⟨x, -, rfl⟩ := hu
  rfl
theorem info_ints : (Try.prog.info? 3).map (fun i => (i.zero, i.size, i.bytes)) = some (some (.int .i64 0), 1, 8) := by kernel_rfl

set_option maxRecDepth 100000 in
set_option maxHeartbeats 4000000 in
theorem sameInts_yes (l : List Int) (hl : l.length ≤ 4611686018427387904) (a b : Value) (w : World) (ha : RowIs w a 1 l.length (l.flatMap intsC)) (hb : RowIs w b 1 l.length (l.flatMap intsC)) :
    Calls Try.prog 42 #[a, b] w fun e w' => e = .returned (.bool true) ∧ Below w.heap.size w w' := by
  obtain ⟨-, ao, ac, rfl, ha⟩ := ha
  obtain ⟨-, bo, bc, rfl, hb⟩ := hb
  go_enter Try.func42, Try.ntmps42
  go_wp2
  go_loopw [5] (fun i wr => ∃ k : Nat, k ≤ l.length ∧ i = .int .i64 k ∧ ∃ m, wr = w.drewN m) (fun i _ => l.length - (intOf i).toNat)
  case atStart => exact ⟨0, Nat.zero_le _, rfl, 0, rfl⟩
  case round =>
    obtain ⟨k, hk, rfl, m, rfl⟩ := hrel
    by_cases hlt : k < l.length
    · obtain ⟨ag, ao, rfl, hca⟩ := ha (by omega)
      obtain ⟨bg, bo, rfl, hcb⟩ := hb (by omega)
      have p0 : w.cell? ⟨ag, ao + k, none⟩ = some (.int .i64 l[k]) := by have h := row_cell0 intsC_len hca hlt (by decide); rwa [Nat.mul_one] at h
      have q0 : w.cell? ⟨bg, bo + k, none⟩ = some (.int .i64 l[k]) := by have h := row_cell0 intsC_len hcb hlt (by decide); rwa [Nat.mul_one] at h
      clear hca hcb ha hb
      generalize l[k] = x0 at *
      have hw1 : IntKind.i64.wrap ((k : Int) + 1) = (k : Int) + 1 := IntWalk.i64_in _ (by omega)
      go_wp2
      go_quiet (fail)
      go_wp2
      go_roundw
      case rel => exact ⟨k + 1, by omega, by go_num, _, rfl⟩
      case measure => simp [intOf]; omega
    · have hk2 : k = l.length := by omega
      subst hk2
      go_wp2
      go_ret
      exact ⟨rfl, below_drewN (Below.refl _ _) _⟩

def markInts : List Value := [.int .i64 (-77)]
set_option maxRecDepth 100000 in
set_option maxHeartbeats 4000000 in
theorem lendInts_any (l : List Int) (hl : (l.length + 1) * 8 ≤ 140737488355328) (v : Value) (w : World) (hv : RowIs w v 1 l.length (l.flatMap intsC)) :
    Calls Try.prog 17 #[v] w fun e w' => ∃ v', e = .returned v' ∧ Lent w' w.heap.size v' 1 l.length (l.flatMap intsC) markInts ∧ Below w.heap.size w w' := by
  obtain ⟨i0, hi, hz0, hz1, hz2⟩ := info_parts info_ints
  obtain ⟨ao, cap, rfl⟩ := hv.form
  have hv1 := hv.below ((Below.refl w.heap.size w).alloc (Nat.le_refl _) (.cells #[] 3))
  have hB0 := (Below.refl w.heap.size w).alloc (Nat.le_refl _) (.cells #[] 3)
  have hown := owns_empty w w.heap.size 3 1 (Nat.le_refl _)
  go_enter Try.func17, Try.ntmps17
  go_wp2_with (at_builtin; refine wpList_append_row rfl _ _ 35 rfl w.heap.size 3 i0 _ 1 8 Try.underlying35 hi hz0 hz1 hz2 rfl (by decide) (.slice (some ⟨w.heap.size, 0, none⟩) 0 0) 0 [] rfl hown (.slice ao l.length cap) l.length (l.flatMap intsC) rfl hv1 (intsC_one l) ?c3 ?c4 ?c5 ?_)
  case c3 => unfold maxLen; omega
  case c4 => omega
  case c5 => simp
  intro v1 w1 hown1 hg1 hb1
  have hB1 : Below w.heap.size w w1 := hB0.grown hg1 (by simp) (fun b e => by cases e; exact Nat.le_refl _)
  have hv2 := row_new w1 3 #[.int .i64 (-77)] 1 rfl
  have hB2 := hB1.alloc hB1.size (.cells #[.int .i64 (-77)] 3)
  have hge1 := own_block_ge hown1
  go_wp2_with (at_builtin; refine wpList_append_row rfl _ _ 35 rfl w.heap.size 3 i0 _ 1 8 Try.underlying35 hi hz0 hz1 hz2 rfl (by decide) v1 _ _ rfl (hown1.alloc _) (.slice (some ⟨w1.heap.size, 0, none⟩) 1 1) 1 (#[.int .i64 (-77)] : Array Value).toList rfl hv2 ?d6 ?d3 ?d4 ?d5 ?_)
  case d6 => simp [Value.oneCell']
  case d3 => unfold maxLen; omega
  try case d4 => omega
  case d5 => have := hB1.size; simp; omega
  intro v2 w2 hown2 hg2 hb2
  try simp only [Nat.zero_add, List.nil_append] at hown2
  have hB3 : Below w.heap.size w w2 := hB2.grown hg2 (by have := hB1.size; simp; omega) (fun b e => hge1 b e)
  obtain ⟨g, cap2, rfl⟩ := owns_succ hown2
  obtain ⟨hlent, hcap⟩ := Lent.of_owns (y := markInts) hown2 (flat_len intsC_len l) rfl
  have hcap2 : l.length ≤ cap2 := by omega
  clear hown2 hown1 hown hv1 hv2 hg1 hg2 hb1 hb2 hge1
  go_wp2
  go_ret
  exact ⟨_, rfl, hlent, hB3⟩

set_option maxRecDepth 100000 in
set_option maxHeartbeats 4000000 in
theorem keptInts_yes (l : List Int) (hl : l.length ≤ 4611686018427387904) (base : Nat) (a b : Value) (w : World) (ha : Lent w base a 1 l.length (l.flatMap intsC) markInts) (hb : RowIs w b 1 l.length (l.flatMap intsC)) :
    Calls Try.prog 20 #[a, b] w fun e w' => e = .returned (.bool true) ∧ Below w.heap.size w w' := by
  have HS := hid (sameInts_yes l hl a b w ha.row hb)
  obtain ⟨hx, hy, g, cap, rfl, hcap, -, hg, hc⟩ := ha
  obtain ⟨ao, bc, rfl⟩ := hb.form
  have c0 : ∀ w', Below w.heap.size w w' → w'.cell? ⟨g, l.length, none⟩ = some (.int .i64 (-77)) := fun w' hB => (hB.cell (p := ⟨g, l.length, none⟩) hg).trans ((hc (l.length) (by omega)).trans (by rw [List.getElem?_append_right (by omega)]; simp [hx, markInts]))
  have hcap0 : l.length ≤ cap := by omega
  have hw1 : IntKind.i64.wrap ((l.length : Int) + 1) = (l.length : Int) + 1 := IntWalk.i64_in _ (by omega)
  clear hc hb hx hy
  go_enter Try.func20, Try.ntmps20
  go_wp2_with (fail)
  refine HS.out.mono ?_
  rintro e w1 ⟨rfl, hB⟩
  have d0 := c0 w1 hB
  clear c0
  go_wp2_with (fail)
  go_ret
  exact ⟨rfl, hB⟩


end Go.Proofs.Ytebebognifiinaa
