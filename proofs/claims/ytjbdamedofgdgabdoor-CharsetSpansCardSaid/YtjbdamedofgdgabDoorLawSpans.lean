/-
  harrowlaw01.CharsetSpans returns true, for every list of spans; what lay in memory stays as it was.
-/
import Derived.Test.YtjbdamedofgdgabDoorWorks01
import Derived.Test.YtjbdamedofgdgabDoorFromSpans
namespace Go.Proofs.YtjbdamedofgdgabDoor
open Go.RowKit
set_option linter.unusedVariables false
set_option linter.unusedSimpArgs false
theorem spCells_one (l : Sps) : ∀ u ∈ spCells l, u.oneCell' = true := by
  intro u hu
  simp only [spCells, List.mem_flatMap, List.mem_cons, List.not_mem_nil, or_false] at hu
  obtain ⟨x, -, h⟩ := hu
  rcases h with rfl | rfl <;> rfl
def markSp : List Value := [.int .i64 (-77), .int .i64 (-77)]

set_option maxHeartbeats 16000000 in
set_option maxRecDepth 100000 in
theorem lawSpans_any (l : Sps) (hl : (l.length + 1) * 16 ≤ 140737488355328) (v : Value) (w : World) (hv : RowIs w v 2 l.length (spCells l)) (hT : TabOk w) :
    Calls Tryd.prog 3 #[v] w fun e w' => e = .returned (.bool true) ∧ Below w.heap.size w w' := by
  obtain ⟨i0, hi, hz0, hz1, hz2⟩ := info_parts info_span
  have hes := fun (P : Nat → Bool) w => eq_same (W P 0) (W P 1) (W P 2) (W P 3) w
  have hez := fun w => eq_same 0 0 0 0 w
  have heq : ∀ w, Sem.run Tryd.prog (Op.equalIn 10000 24 (.agg #[.int .i64 (-77), .int .i64 (-77)]) (.agg #[.int .i64 (-77), .int .i64 (-77)])) w = .ok true w := fun w => by kernel_rfl
  obtain ⟨ao, cap, rfl⟩ := hv.form
  have HV := hid hv
  have HT := hid hT
  have hw0 := hT.1
  have hv1 := hv.below ((Below.refl w.heap.size w).alloc (Nat.le_refl _) (.cells #[] 24))
  have hB0 := (Below.refl w.heap.size w).alloc (Nat.le_refl _) (.cells #[] 24)
  have hown := owns_empty w w.heap.size 24 2 (Nat.le_refl _)
  clear hv hT
  go_enter Tryd.func3, Tryd.ntmps3
  go_wp2_with (at_builtin; refine wpList_append_row rfl _ _ 22 rfl w.heap.size 24 i0 _ 2 16 Tryd.underlying22 hi hz0 hz1 hz2 rfl (by decide) (.slice (some ⟨w.heap.size, 0, none⟩) 0 0) 0 [] rfl hown (.slice ao l.length cap) l.length (spCells l) rfl hv1 (spCells_one l) ?c3 ?c4 ?c5 ?_)
  case c3 => unfold maxLen; omega
  try case c4 => omega
  case c5 => first | omega | (simp; omega) | simp
  intro v1 w1 hown1 hg1 hb1
  have hB1 : Below w.heap.size w w1 := hB0.grown hg1 (by simp) (fun b e => by cases e; exact Nat.le_refl _)
  have hv2 := row_new w1 24 #[.int .i64 (-77), .int .i64 (-77)] 2 rfl
  have hB2 := hB1.alloc hB1.size (.cells #[.int .i64 (-77), .int .i64 (-77)] 24)
  have hge1 := own_block_ge hown1
  go_wp2_with (at_builtin; refine wpList_append_row rfl _ _ 22 rfl w.heap.size 24 i0 _ 2 16 Tryd.underlying22 hi hz0 hz1 hz2 rfl (by decide) v1 _ _ rfl (hown1.alloc _) (.slice (some ⟨w1.heap.size, 0, none⟩) 1 1) 1 (#[.int .i64 (-77), .int .i64 (-77)] : Array Value).toList rfl hv2 ?d6 ?d3 ?d4 ?d5 ?_)
  case d6 => simp [Value.oneCell']
  case d3 => unfold maxLen; omega
  try case d4 => omega
  case d5 => have := hB1.size; first | omega | (simp; omega)
  intro v2 w2 hown2 hg2 hb2
  try simp only [Nat.zero_add, List.nil_append] at hown2
  have hB3 : Below w.heap.size w w2 := hB2.grown hg2 (by have := hB1.size; simp; omega) (fun b e => hge1 b e)
  obtain ⟨g, cap2, rfl⟩ := owns_succ hown2
  obtain ⟨hlent, hcap⟩ := Lent.of_owns (y := markSp) hown2 (spCells_len l) rfl
  have hcap2 : l.length ≤ cap2 := by omega
  clear hown2 hown1 hown hv1 hv2 hg1 hg2 hb1 hb2 hge1 hB0 hB1 hB2
  have hs3 := hB3.size
  go_wp2_with (fail)
  refine (fspans_any l _ _ hlent.row).mono ?_
  rintro e w3 ⟨hb3, hp3⟩
  have hlent3 := hlent.below hb3
  have hB4 := hB3.trans (hb3.mono hs3)
  have hs4 := hB4.size
  clear hlent
  cases hX : fsR l with
  | ok q =>
    rw [hX] at hp3
    simp only at hp3
    subst hp3
    have HX := hid hX
    clear hX
    have x4 := alloc_new w3 (.cells #[.int .u64 (W q 0), .int .u64 (W q 1), .int .u64 (W q 2), .int .u64 (W q 3)] 27)
    have hB5 := hB4.alloc hs4 (.cells #[.int .u64 (W q 0), .int .u64 (W q 1), .int .u64 (W q 2), .int .u64 (W q 3)] 27)
    have hlent4 := hlent3.below ((Below.refl _ w3).alloc (Nat.le_refl _) (.cells #[.int .u64 (W q 0), .int .u64 (W q 1), .int .u64 (W q 2), .int .u64 (W q 3)] 27))
    go_wp2_with (fail)
    refine (rfspans_any l _ _ (HV.out.below hB5)).mono ?_
    rintro e w5 ⟨hb5, hp5⟩
    rw [HX.out] at hp5
    simp only at hp5
    subst hp5
    have x5 := keep hb5 x4
    have hlent5 := hlent4.below hb5
    have hB6 := hB5.trans (hb5.mono hB5.size)
    have x6 := alloc_old (y := .cells #[.int .u64 (W q 0), .int .u64 (W q 1), .int .u64 (W q 2), .int .u64 (W q 3)] 27) x5
    have y6 := alloc_new w5 (.cells #[.int .u64 (W q 0), .int .u64 (W q 1), .int .u64 (W q 2), .int .u64 (W q 3)] 27)
    have hB7 := hB6.alloc hB6.size (.cells #[.int .u64 (W q 0), .int .u64 (W q 1), .int .u64 (W q 2), .int .u64 (W q 3)] 27)
    have hlent6 := hlent5.below ((Below.refl _ w5).alloc (Nat.le_refl _) (.cells #[.int .u64 (W q 0), .int .u64 (W q 1), .int .u64 (W q 2), .int .u64 (W q 3)] 27))
    have hcx6 := block_cell x6; have hcy6 := block_cell y6; have hcx5 := block_cell x5
    clear hlent3 hlent4 hlent5
    go_wp2_with (fail)
    refine (sameSpans_yes l (by omega) _ _ _ hlent6.row (HV.out.below hB7)).mono ?_
    rintro e w8 ⟨rfl, hb8⟩
    have hlent8 := hlent6.below hb8
    have hB8 := hB7.trans (hb8.mono hB7.size)
    obtain ⟨hx, hy, g', cap', e', -, -, hg', hc⟩ := hlent8
    injection e' with e1 e2 e3; injection e1 with e1; injection e1 with e1; subst e1; subst e3
    have c0 := (hc (l.length * 2) (by omega)).trans (by rw [List.getElem?_append_right (by omega)]; simp [hx, markSp] : _ = some (.int .i64 (-77)))
    have c1 := (hc (l.length * 2 + 1) (by omega)).trans (by rw [List.getElem?_append_right (by omega)]; simp [hx, markSp] : _ = some (.int .i64 (-77)))
    have hw1 : IntKind.i64.wrap ((l.length : Int) + 1) = (l.length : Int) + 1 := IntWalk.i64_in _ (by omega)
    clear hc hlent6 hx hy e2
    go_wp2_with (fail)
    refine (works_any _ (HT.out.below hB8 hw0)).mono ?_
    rintro e w9 ⟨rfl, hb9⟩
    go_wp2_with (fail)
    go_ret
    exact ⟨rfl, hB8.trans (hb9.mono hB8.size)⟩
  | error c =>
    rw [hX] at hp3
    simp only at hp3
    subst hp3
    have HX := hid hX
    clear hX
    have x4 := alloc_new w3 (.cells #[.int .u64 0, .int .u64 0, .int .u64 0, .int .u64 0] 27)
    have hB5 := hB4.alloc hs4 (.cells #[.int .u64 0, .int .u64 0, .int .u64 0, .int .u64 0] 27)
    have hlent4 := hlent3.below ((Below.refl _ w3).alloc (Nat.le_refl _) (.cells #[.int .u64 0, .int .u64 0, .int .u64 0, .int .u64 0] 27))
    go_wp2_with (fail)
    refine (rfspans_any l _ _ (HV.out.below hB5)).mono ?_
    rintro e w5 ⟨hb5, hp5⟩
    rw [HX.out] at hp5
    simp only at hp5
    subst hp5
    have x5 := keep hb5 x4
    have hlent5 := hlent4.below hb5
    have hB6 := hB5.trans (hb5.mono hB5.size)
    have x6 := alloc_old (y := .cells #[.int .u64 0, .int .u64 0, .int .u64 0, .int .u64 0] 27) x5
    have y6 := alloc_new w5 (.cells #[.int .u64 0, .int .u64 0, .int .u64 0, .int .u64 0] 27)
    have hB7 := hB6.alloc hB6.size (.cells #[.int .u64 0, .int .u64 0, .int .u64 0, .int .u64 0] 27)
    have hlent6 := hlent5.below ((Below.refl _ w5).alloc (Nat.le_refl _) (.cells #[.int .u64 0, .int .u64 0, .int .u64 0, .int .u64 0] 27))
    have hcx6 := block_cell x6; have hcy6 := block_cell y6; have hcx5 := block_cell x5
    clear hlent3 hlent4 hlent5
    go_wp2_with (fail)
    refine (sameSpans_yes l (by omega) _ _ _ hlent6.row (HV.out.below hB7)).mono ?_
    rintro e w8 ⟨rfl, hb8⟩
    have hlent8 := hlent6.below hb8
    have hB8 := hB7.trans (hb8.mono hB7.size)
    obtain ⟨hx, hy, g', cap', e', -, -, hg', hc⟩ := hlent8
    injection e' with e1 e2 e3; injection e1 with e1; injection e1 with e1; subst e1; subst e3
    have c0 := (hc (l.length * 2) (by omega)).trans (by rw [List.getElem?_append_right (by omega)]; simp [hx, markSp] : _ = some (.int .i64 (-77)))
    have c1 := (hc (l.length * 2 + 1) (by omega)).trans (by rw [List.getElem?_append_right (by omega)]; simp [hx, markSp] : _ = some (.int .i64 (-77)))
    have hw1 : IntKind.i64.wrap ((l.length : Int) + 1) = (l.length : Int) + 1 := IntWalk.i64_in _ (by omega)
    clear hc hlent6 hx hy e2
    go_wp2_with (fail)
    refine (works_any _ (HT.out.below hB8 hw0)).mono ?_
    rintro e w9 ⟨rfl, hb9⟩
    go_wp2_with (fail)
    go_ret
    exact ⟨rfl, hB8.trans (hb9.mono hB8.size)⟩

end Go.Proofs.YtjbdamedofgdgabDoor
