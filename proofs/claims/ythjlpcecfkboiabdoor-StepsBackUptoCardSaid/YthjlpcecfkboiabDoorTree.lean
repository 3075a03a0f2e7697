/-
  tree.each and tree.Check of a node without parts, and of it and a node of one part behind it.
-/
import Derived.Test.YthjlpcecfkboiabDoorProg
import Derived.Test.YthjlpcecfkboiabDoorGrow
import Derived.Test.YthjlpcecfkboiabDoorReads
import Derived.WalkKit
import Derived.BigQuiet
import Derived.BigRegion
import Derived.Laws.MakeOwn
import Derived.Test.YthjlpcecfkboiabDoorWWords
namespace Go.Proofs.YthjlpcecfkboiabDoor
open Go.RowKit Go.Proofs.YthjlpcecfkboiabDoorW.PrintWords
set_option linter.unusedVariables false
set_option linter.unusedSimpArgs false
theorem info_shape : (Tryd.prog.info? 129).map (fun i => (i.zero, i.size, i.bytes)) = some (some (.agg #[.int .i64 0, .int .i64 0]), 2, 16) := by kernel_rfl
theorem made1 : madeCells (Value.agg #[.int .i64 0, .int .i64 0]).cells (Int.toNat 1 * 2) = #[.int .i64 0, .int .i64 0] := by kernel_rfl
theorem made2 : madeCells (Value.agg #[.int .i64 0, .int .i64 0]).cells (Int.toNat 2 * 2) = #[.int .i64 0, .int .i64 0, .int .i64 0, .int .i64 0] := by kernel_rfl
theorem t_al {B : Nat} {a w : World} (h : Below B a w) (hB : B ≤ w.heap.size) (x : Obj) : Below B a (w.alloc x) := h.alloc hB x
theorem t_then {a b c : World} (h : Below a.heap.size a b) (k : Below b.heap.size b c) : Below a.heap.size a c := h.trans ⟨k.os, k.tape, k.output, k.size, fun i hi => k.block i (Nat.lt_of_lt_of_le hi h.size)⟩
theorem t_cell {a b : World} (hb : Below a.heap.size a b) {g o : Nat} {v : Value} (h : a.cell? ⟨g, o, none⟩ = some v) : b.cell? ⟨g, o, none⟩ = some v := (hb.cell (p := ⟨g, o, none⟩) (cell_lt h)).trans h
theorem t_move {w w1 : World} {base : Nat} {e : TypeId} {size n : Nat} {v : Value} {xs : List Value} (h : w.ownsRow base e size v n xs) (hm : ∀ k, v.ownBlock = some k → w1.heap[k]? = w.heap[k]?) : w1.ownsRow base e size v n xs := by
  obtain ⟨h1, h2⟩ := h
  refine ⟨h1, ?_⟩
  rcases h2 with h2 | ⟨g, cap, cur, rfl, hg, hb, r⟩
  · exact .inl h2
  · exact .inr ⟨g, cap, cur, rfl, hg, (hm g rfl).trans hb, r⟩
theorem nop_any (i : Int) (a b : Int) (w : World) : Calls Tryd.prog 84 #[.int .i64 i, .agg #[.int .i64 a, .int .i64 b]] w fun e w' => e = .returned (.tuple #[]) ∧ Below w.heap.size w w' := by
  go_enter Tryd.func84, Tryd.ntmps84
  go_wp2_with (fail)
  go_end0
  exact ⟨rfl, (Below.refl _ _).alloc (Nat.le_refl _) _⟩
set_option maxHeartbeats 8000000 in
set_option maxRecDepth 20000 in
theorem each_1 (w : World) (g o c : Nat) (op0 n0 : Int) (x0 : ByteArray) (s0_0 s0_1 s0_2 s0_3 : Int) (hA0 : ∀ w2, Calls Tryd.prog 76 #[.int .i64 op0] w2 fun e w' => e = .returned (.int .i64 0) ∧ Below w2.heap.size w2 w') (hF0 : ∀ w2, Calls Tryd.prog 77 #[.agg #[.int .i64 op0, .int .i64 n0, .string x0, .int .u64 s0_0, .int .u64 s0_1, .int .u64 s0_2, .int .u64 s0_3]] w2 fun e w' => e = .returned (.bool true) ∧ Below w2.heap.size w2 w') (d0_0 : w.cell? ⟨g, o, none⟩ = some (.int .i64 op0)) (d0_1 : w.cell? ⟨g, o + 1, none⟩ = some (.int .i64 n0)) (d0_2 : w.cell? ⟨g, o + 2, none⟩ = some (.string x0)) (d0_3 : w.cell? ⟨g, o + 3, none⟩ = some (.int .u64 s0_0)) (d0_4 : w.cell? ⟨g, o + 4, none⟩ = some (.int .u64 s0_1)) (d0_5 : w.cell? ⟨g, o + 5, none⟩ = some (.int .u64 s0_2)) (d0_6 : w.cell? ⟨g, o + 6, none⟩ = some (.int .u64 s0_3)) :
    Calls Tryd.prog 83 #[.slice (some ⟨g, o, none⟩) 1 c, .func (.func 84) #[] #[]] w fun e w' => e = .returned (.tuple #[.int .i64 0, .int .i64 0]) ∧ Below w.heap.size w w' := by
  have hgw : g < w.heap.size := cell_lt d0_0
  obtain ⟨i0, hi, hz0, hz1, hz2⟩ := info_parts info_shape
  have hmk : ∀ w : World, (Instr.makeSlice 131 (.int .i64 0) (.int .i64 1)).run Tryd.prog w = .ok (.slice (some ⟨w.heap.size, 0, none⟩) 0 1) (w.alloc (.cells #[.int .i64 0, .int .i64 0] 129)) := fun w => (run_make w _ 129 i0 _ Tryd.underlying131 hi hz0 .i64 .i64 0 1 (by decide) (by decide) (by rw [hz2]; decide) (by decide)).trans (by rw [hz1, made1]; rfl)
  go_enter Tryd.func83, Tryd.ntmps83
  go_wp2_with (fail)
  have hb0 := t_al (Below.refl w.heap.size w) (Nat.le_refl _) (.cells #[.int .i64 0, .int .i64 0] 129)
  have hown : (w.alloc (.cells #[.int .i64 0, .int .i64 0] 129)).ownsRow w.heap.size 129 2 (.slice (some ⟨w.heap.size, 0, none⟩) 0 1) 0 [] := ⟨by simp, .inr ⟨w.heap.size, 1, #[.int .i64 0, .int .i64 0], rfl, Nat.le_refl _, alloc_new w _, Nat.zero_le _, by decide, rfl, rfl⟩⟩
  replace d0_0 := t_cell hb0 d0_0
  replace d0_1 := t_cell hb0 d0_1
  replace d0_2 := t_cell hb0 d0_2
  replace d0_3 := t_cell hb0 d0_3
  replace d0_4 := t_cell hb0 d0_4
  replace d0_5 := t_cell hb0 d0_5
  replace d0_6 := t_cell hb0 d0_6
  generalize w.alloc (.cells #[.int .i64 0, .int .i64 0] 129) = W at *
  have HKQ := hid (fun (k : Nat) (hk : (Value.slice (some ⟨w.heap.size, 0, none⟩) 0 1).ownBlock = some k) => (hown.lt k hk).2)
  generalize (some ⟨w.heap.size, 0, none⟩ : Option Addr) = A0 at *
  refine wp_loop_rounds 2 ?_
  rw [rounds_succ]
  go_wp2_with (fail)
  have hN := alloc_new W (.cells #[.int .i64 op0, .int .i64 n0, .string x0, .int .u64 s0_0, .int .u64 s0_1, .int .u64 s0_2, .int .u64 s0_3] 116)
  have hb1 := t_al (Below.refl W.heap.size W) (Nat.le_refl _) (.cells #[.int .i64 op0, .int .i64 n0, .string x0, .int .u64 s0_0, .int .u64 s0_1, .int .u64 s0_2, .int .u64 s0_3] 116)
  with_reducible refine (hA0 _).mono ?_
  rintro e w2 ⟨rfl, hb2⟩
  replace hN := keep hb2 hN
  have hb3 := t_then hb1 hb2
  clear hb1 hb2
  have hcN := block_cell hN
  go_wp2_with (fail)
  with_reducible refine (hF0 _).mono ?_
  rintro e w4 ⟨rfl, hb4⟩
  replace hN := keep hb4 hN
  replace hb3 := t_then hb3 hb4
  clear hb4
  replace hcN := block_cell hN
  go_wp2_with (fail)
  have hS := alloc_new w4 (.cells #[.int .i64 0, .int .i64 0] 129)
  have hN5 := alloc_old (y := (.cells #[.int .i64 0, .int .i64 0] 129)) hN
  have hb5 := t_al hb3 hb3.size (.cells #[.int .i64 0, .int .i64 0] 129)
  have hown5 := own_below hown hb5
  have hq : W.heap.size < w4.heap.size := block_lt hN
  clear hN hb3 hcN
  generalize w4.alloc (.cells #[.int .i64 0, .int .i64 0] 129) = w5 at *
  generalize w4.heap.size = q at *
  have hcN := block_cell hN5
  have hcS := block_cell hS
  have hfS := block_free hS
  have hlS := block_lt hS
  refine wp_loop_rounds 1 ?_
  rw [rounds_succ]
  have hkq : ∀ k, (Value.slice A0 0 1).ownBlock = some k → k < W.heap.size := fun k hk => HKQ.out k hk
  have hS2 := heap_setCell_self hS 1 (.int .i64 1)
  have hown6 : (w5.setCell ⟨q, 1, none⟩ (.int .i64 1)).ownsRow w.heap.size 129 2 (Value.slice A0 0 1) 0 [] := t_move hown5 (fun k hk => heap_setCell_ne _ _ _ (fun he => by have := hkq k hk; omega))
  have hb6 := Below.setCell (p := ⟨q, 1, none⟩) hb5 (Nat.le_of_lt hq) (.int .i64 1)
  have hal := t_al (Below.refl (w5.setCell ⟨q, 1, none⟩ (.int .i64 1)).heap.size (w5.setCell ⟨q, 1, none⟩ (.int .i64 1))) (Nat.le_refl _) (.cells #[.int .i64 0, .int .i64 1] 129)
  have hown7 := own_below hown6 hal
  have hS7 := alloc_old (y := (.cells #[.int .i64 0, .int .i64 1] 129)) hS2
  have hb7 := t_al hb6 hb6.size (.cells #[.int .i64 0, .int .i64 1] 129)
  have hrow := row_new (w5.setCell ⟨q, 1, none⟩ (.int .i64 1)) 129 #[.int .i64 0, .int .i64 1] 2 rfl
  rw [show (w5.setCell ⟨q, 1, none⟩ (.int .i64 1)).heap.size = w5.heap.size by simp [World.setCell]] at hrow
  have hone : ∀ x ∈ [Value.int .i64 0, .int .i64 1], x.oneCell' = true := by intro x hx; simp at hx; rcases hx with rfl | rfl <;> rfl
  have hbase : w.heap.size ≤ ((w5.setCell ⟨q, 1, none⟩ (.int .i64 1)).alloc (.cells #[.int .i64 0, .int .i64 1] 129)).heap.size := Nat.le_trans hb0.size hb7.size
  have hqne : some q ≠ (Value.slice A0 0 1).ownBlock := fun e => by have := hkq q e.symm; omega
  go_wp2_with (at_builtin; refine wpList_append_row rfl _ _ 131 rfl w.heap.size 129 i0 _ 2 16 Tryd.underlying131 hi hz0 hz1 hz2 rfl (by decide) _ 0 [] rfl hown7 _ 1 _ rfl hrow hone (by unfold maxLen; omega) (by omega) hbase ?_)
  intro v8 w8 hown8 hg8 hab8
  have hB8 : Below w.heap.size w w8 := (hb0.trans (hb7.mono hb0.size)).grown hg8 hbase (fun b e => (hown7.lt b e).1)
  obtain ⟨A8, c8, rfl⟩ := (RowIs.of_owns hown8).form
  obtain ⟨_, ao8, c82, e8, hr8⟩ := RowIs.of_owns hown8
  injection e8 with e8 _ ec
  subst ec
  subst e8
  obtain ⟨g8, o8, rfl, hr9⟩ := hr8 (by decide)
  have hS8 := (hg8.block q (block_lt hS7) hqne).trans hS7
  have hcS8 := block_cell hS8
  go_wp2_with (fail)
  with_reducible refine (nop_any _ _ _ _).mono ?_
  rintro e w9 ⟨rfl, hb9⟩
  have hc0 : w9.cell? ⟨g8, o8, none⟩ = some (.int .i64 0) := t_cell hb9 (hr9 0 (by decide))
  have hB9 := t_then hB8 hb9
  clear hB8 hb9 hr8 hr9 hown8
  go_wp2_with (fail)
  rw [rounds_succ]
  go_wp2_with (fail)
  go_ret2
  exact ⟨rfl, hB9⟩
set_option maxHeartbeats 8000000 in
set_option maxRecDepth 20000 in
theorem each_2 (w : World) (g o c : Nat) (op0 n0 : Int) (x0 : ByteArray) (s0_0 s0_1 s0_2 s0_3 : Int) (op1 n1 : Int) (x1 : ByteArray) (s1_0 s1_1 s1_2 s1_3 : Int) (hA0 : ∀ w2, Calls Tryd.prog 76 #[.int .i64 op0] w2 fun e w' => e = .returned (.int .i64 0) ∧ Below w2.heap.size w2 w') (hF0 : ∀ w2, Calls Tryd.prog 77 #[.agg #[.int .i64 op0, .int .i64 n0, .string x0, .int .u64 s0_0, .int .u64 s0_1, .int .u64 s0_2, .int .u64 s0_3]] w2 fun e w' => e = .returned (.bool true) ∧ Below w2.heap.size w2 w') (hA1 : ∀ w2, Calls Tryd.prog 76 #[.int .i64 op1] w2 fun e w' => e = .returned (.int .i64 1) ∧ Below w2.heap.size w2 w') (hF1 : ∀ w2, Calls Tryd.prog 77 #[.agg #[.int .i64 op1, .int .i64 n1, .string x1, .int .u64 s1_0, .int .u64 s1_1, .int .u64 s1_2, .int .u64 s1_3]] w2 fun e w' => e = .returned (.bool true) ∧ Below w2.heap.size w2 w') (d0_0 : w.cell? ⟨g, o, none⟩ = some (.int .i64 op0)) (d0_1 : w.cell? ⟨g, o + 1, none⟩ = some (.int .i64 n0)) (d0_2 : w.cell? ⟨g, o + 2, none⟩ = some (.string x0)) (d0_3 : w.cell? ⟨g, o + 3, none⟩ = some (.int .u64 s0_0)) (d0_4 : w.cell? ⟨g, o + 4, none⟩ = some (.int .u64 s0_1)) (d0_5 : w.cell? ⟨g, o + 5, none⟩ = some (.int .u64 s0_2)) (d0_6 : w.cell? ⟨g, o + 6, none⟩ = some (.int .u64 s0_3)) (d1_0 : w.cell? ⟨g, o + 7, none⟩ = some (.int .i64 op1)) (d1_1 : w.cell? ⟨g, o + 8, none⟩ = some (.int .i64 n1)) (d1_2 : w.cell? ⟨g, o + 9, none⟩ = some (.string x1)) (d1_3 : w.cell? ⟨g, o + 10, none⟩ = some (.int .u64 s1_0)) (d1_4 : w.cell? ⟨g, o + 11, none⟩ = some (.int .u64 s1_1)) (d1_5 : w.cell? ⟨g, o + 12, none⟩ = some (.int .u64 s1_2)) (d1_6 : w.cell? ⟨g, o + 13, none⟩ = some (.int .u64 s1_3)) :
    Calls Tryd.prog 83 #[.slice (some ⟨g, o, none⟩) 2 c, .func (.func 84) #[] #[]] w fun e w' => e = .returned (.tuple #[.int .i64 0, .int .i64 0]) ∧ Below w.heap.size w w' := by
  have HD1_0 := hid d1_0
  have HD1_1 := hid d1_1
  have HD1_2 := hid d1_2
  have HD1_3 := hid d1_3
  have HD1_4 := hid d1_4
  have HD1_5 := hid d1_5
  have HD1_6 := hid d1_6
  have hgw : g < w.heap.size := cell_lt d0_0
  clear d1_0 d1_1 d1_2 d1_3 d1_4 d1_5 d1_6
  obtain ⟨i0, hi, hz0, hz1, hz2⟩ := info_parts info_shape
  have hmk : ∀ w : World, (Instr.makeSlice 131 (.int .i64 0) (.int .i64 2)).run Tryd.prog w = .ok (.slice (some ⟨w.heap.size, 0, none⟩) 0 2) (w.alloc (.cells #[.int .i64 0, .int .i64 0, .int .i64 0, .int .i64 0] 129)) := fun w => (run_make w _ 129 i0 _ Tryd.underlying131 hi hz0 .i64 .i64 0 2 (by decide) (by decide) (by rw [hz2]; decide) (by decide)).trans (by rw [hz1, made2]; rfl)
  go_enter Tryd.func83, Tryd.ntmps83
  go_wp2_with (fail)
  have hb0 := t_al (Below.refl w.heap.size w) (Nat.le_refl _) (.cells #[.int .i64 0, .int .i64 0, .int .i64 0, .int .i64 0] 129)
  have hown : (w.alloc (.cells #[.int .i64 0, .int .i64 0, .int .i64 0, .int .i64 0] 129)).ownsRow w.heap.size 129 2 (.slice (some ⟨w.heap.size, 0, none⟩) 0 2) 0 [] := ⟨by simp, .inr ⟨w.heap.size, 2, #[.int .i64 0, .int .i64 0, .int .i64 0, .int .i64 0], rfl, Nat.le_refl _, alloc_new w _, Nat.zero_le _, by decide, rfl, rfl⟩⟩
  replace d0_0 := t_cell hb0 d0_0
  replace d0_1 := t_cell hb0 d0_1
  replace d0_2 := t_cell hb0 d0_2
  replace d0_3 := t_cell hb0 d0_3
  replace d0_4 := t_cell hb0 d0_4
  replace d0_5 := t_cell hb0 d0_5
  replace d0_6 := t_cell hb0 d0_6
  generalize w.alloc (.cells #[.int .i64 0, .int .i64 0, .int .i64 0, .int .i64 0] 129) = W at *
  have HKQ := hid (fun (k : Nat) (hk : (Value.slice (some ⟨w.heap.size, 0, none⟩) 0 2).ownBlock = some k) => (hown.lt k hk).2)
  generalize (some ⟨w.heap.size, 0, none⟩ : Option Addr) = A0 at *
  refine wp_loop_rounds 3 ?_
  rw [rounds_succ]
  go_wp2_with (fail)
  have hN := alloc_new W (.cells #[.int .i64 op0, .int .i64 n0, .string x0, .int .u64 s0_0, .int .u64 s0_1, .int .u64 s0_2, .int .u64 s0_3] 116)
  have hb1 := t_al (Below.refl W.heap.size W) (Nat.le_refl _) (.cells #[.int .i64 op0, .int .i64 n0, .string x0, .int .u64 s0_0, .int .u64 s0_1, .int .u64 s0_2, .int .u64 s0_3] 116)
  with_reducible refine (hA0 _).mono ?_
  rintro e w2 ⟨rfl, hb2⟩
  replace hN := keep hb2 hN
  have hb3 := t_then hb1 hb2
  clear hb1 hb2
  have hcN := block_cell hN
  go_wp2_with (fail)
  with_reducible refine (hF0 _).mono ?_
  rintro e w4 ⟨rfl, hb4⟩
  replace hN := keep hb4 hN
  replace hb3 := t_then hb3 hb4
  clear hb4
  replace hcN := block_cell hN
  go_wp2_with (fail)
  have hS := alloc_new w4 (.cells #[.int .i64 0, .int .i64 0] 129)
  have hN5 := alloc_old (y := (.cells #[.int .i64 0, .int .i64 0] 129)) hN
  have hb5 := t_al hb3 hb3.size (.cells #[.int .i64 0, .int .i64 0] 129)
  have hown5 := own_below hown hb5
  have hq : W.heap.size < w4.heap.size := block_lt hN
  clear hN hb3 hcN
  generalize w4.alloc (.cells #[.int .i64 0, .int .i64 0] 129) = w5 at *
  generalize w4.heap.size = q at *
  have hcN := block_cell hN5
  have hcS := block_cell hS
  have hfS := block_free hS
  have hlS := block_lt hS
  refine wp_loop_rounds 1 ?_
  rw [rounds_succ]
  have hkq : ∀ k, (Value.slice A0 0 2).ownBlock = some k → k < W.heap.size := fun k hk => HKQ.out k hk
  have hS2 := heap_setCell_self hS 1 (.int .i64 1)
  have hown6 : (w5.setCell ⟨q, 1, none⟩ (.int .i64 1)).ownsRow w.heap.size 129 2 (Value.slice A0 0 2) 0 [] := t_move hown5 (fun k hk => heap_setCell_ne _ _ _ (fun he => by have := hkq k hk; omega))
  have hb6 := Below.setCell (p := ⟨q, 1, none⟩) hb5 (Nat.le_of_lt hq) (.int .i64 1)
  have hal := t_al (Below.refl (w5.setCell ⟨q, 1, none⟩ (.int .i64 1)).heap.size (w5.setCell ⟨q, 1, none⟩ (.int .i64 1))) (Nat.le_refl _) (.cells #[.int .i64 0, .int .i64 1] 129)
  have hown7 := own_below hown6 hal
  have hS7 := alloc_old (y := (.cells #[.int .i64 0, .int .i64 1] 129)) hS2
  have hb7 := t_al hb6 hb6.size (.cells #[.int .i64 0, .int .i64 1] 129)
  have hrow := row_new (w5.setCell ⟨q, 1, none⟩ (.int .i64 1)) 129 #[.int .i64 0, .int .i64 1] 2 rfl
  rw [show (w5.setCell ⟨q, 1, none⟩ (.int .i64 1)).heap.size = w5.heap.size by simp [World.setCell]] at hrow
  have hone : ∀ x ∈ [Value.int .i64 0, .int .i64 1], x.oneCell' = true := by intro x hx; simp at hx; rcases hx with rfl | rfl <;> rfl
  have hbase : w.heap.size ≤ ((w5.setCell ⟨q, 1, none⟩ (.int .i64 1)).alloc (.cells #[.int .i64 0, .int .i64 1] 129)).heap.size := Nat.le_trans hb0.size hb7.size
  have hqne : some q ≠ (Value.slice A0 0 2).ownBlock := fun e => by have := hkq q e.symm; omega
  go_wp2_with (at_builtin; refine wpList_append_row rfl _ _ 131 rfl w.heap.size 129 i0 _ 2 16 Tryd.underlying131 hi hz0 hz1 hz2 rfl (by decide) _ 0 [] rfl hown7 _ 1 _ rfl hrow hone (by unfold maxLen; omega) (by omega) hbase ?_)
  intro v8 w8 hown8 hg8 hab8
  have hB8 : Below w.heap.size w w8 := (hb0.trans (hb7.mono hb0.size)).grown hg8 hbase (fun b e => (hown7.lt b e).1)
  obtain ⟨A8, c8, rfl⟩ := (RowIs.of_owns hown8).form
  obtain ⟨_, ao8, c82, e8, hr8⟩ := RowIs.of_owns hown8
  injection e8 with e8 _ ec
  subst ec
  subst e8
  obtain ⟨g8, o8, rfl, hr9⟩ := hr8 (by decide)
  have hS8 := (hg8.block q (block_lt hS7) hqne).trans hS7
  have hcS8 := block_cell hS8
  go_wp2_with (fail)
  with_reducible refine (nop_any _ _ _ _).mono ?_
  rintro e w9 ⟨rfl, hb9⟩
  have hB9 := t_then hB8 hb9
  have hown9 := own_below hown8 hb9
  have HKQ2 := hid (fun (k : Nat) (hk : (Value.slice (some ⟨g8, o8, none⟩) 1 c8).ownBlock = some k) => (hown9.lt k hk).2)
  clear hbase hown8 hb9 hB8 hr8 hr9 hS8 hcS8 hg8 hab8 hown7 hS7 hb7 hrow hone hqne hkq hS2 hown6 hb6 hal hcN hcS hfS hlS hN5 hS hb5 hown5 hq HKQ hb0 hown
  clear d0_0 d0_1 d0_2 d0_3 d0_4 d0_5 d0_6
  have HKQ := HKQ2
  have d1_0 : w9.cell? ⟨g, o + 7, none⟩ = some (.int .i64 op1) := (hB9.cell (p := ⟨g, o + 7, none⟩) hgw).trans HD1_0.out
  have d1_1 : w9.cell? ⟨g, o + 8, none⟩ = some (.int .i64 n1) := (hB9.cell (p := ⟨g, o + 8, none⟩) hgw).trans HD1_1.out
  have d1_2 : w9.cell? ⟨g, o + 9, none⟩ = some (.string x1) := (hB9.cell (p := ⟨g, o + 9, none⟩) hgw).trans HD1_2.out
  have d1_3 : w9.cell? ⟨g, o + 10, none⟩ = some (.int .u64 s1_0) := (hB9.cell (p := ⟨g, o + 10, none⟩) hgw).trans HD1_3.out
  have d1_4 : w9.cell? ⟨g, o + 11, none⟩ = some (.int .u64 s1_1) := (hB9.cell (p := ⟨g, o + 11, none⟩) hgw).trans HD1_4.out
  have d1_5 : w9.cell? ⟨g, o + 12, none⟩ = some (.int .u64 s1_2) := (hB9.cell (p := ⟨g, o + 12, none⟩) hgw).trans HD1_5.out
  have d1_6 : w9.cell? ⟨g, o + 13, none⟩ = some (.int .u64 s1_3) := (hB9.cell (p := ⟨g, o + 13, none⟩) hgw).trans HD1_6.out
  go_wp2_with (fail)
  rw [rounds_succ]
  go_wp2_with (fail)
  have hN := alloc_new w9 (.cells #[.int .i64 op1, .int .i64 n1, .string x1, .int .u64 s1_0, .int .u64 s1_1, .int .u64 s1_2, .int .u64 s1_3] 116)
  have hb1 := t_al (Below.refl w9.heap.size w9) (Nat.le_refl _) (.cells #[.int .i64 op1, .int .i64 n1, .string x1, .int .u64 s1_0, .int .u64 s1_1, .int .u64 s1_2, .int .u64 s1_3] 116)
  with_reducible refine (hA1 _).mono ?_
  rintro e w2 ⟨rfl, hb2⟩
  replace hN := keep hb2 hN
  have hb3 := t_then hb1 hb2
  clear hb1 hb2
  have hcN := block_cell hN
  go_wp2_with (fail)
  with_reducible refine (hF1 _).mono ?_
  rintro e w4 ⟨rfl, hb4⟩
  replace hN := keep hb4 hN
  replace hb3 := t_then hb3 hb4
  clear hb4
  replace hcN := block_cell hN
  go_wp2_with (fail)
  have hS := alloc_new w4 (.cells #[.int .i64 1, .int .i64 0] 129)
  have hN5 := alloc_old (y := (.cells #[.int .i64 1, .int .i64 0] 129)) hN
  have hb5 := t_al hb3 hb3.size (.cells #[.int .i64 1, .int .i64 0] 129)
  have hown5 := own_below hown9 hb5
  have hq : w9.heap.size < w4.heap.size := block_lt hN
  clear hN hb3 hcN
  generalize w4.alloc (.cells #[.int .i64 1, .int .i64 0] 129) = w5 at *
  generalize w4.heap.size = q at *
  have hcN := block_cell hN5
  have hcS := block_cell hS
  have hfS := block_free hS
  have hlS := block_lt hS
  obtain ⟨_, ao9, c9, e9, hr10⟩ := RowIs.of_owns hown5
  injection e9 with e9 _ ec
  subst ec
  subst e9
  obtain ⟨g9, o9, e10, hr11⟩ := hr10 (by decide)
  injection e10 with e10
  injection e10 with e11 e12
  subst e11 e12
  have hp0 : w5.cell? ⟨g8, o8, none⟩ = some (.int .i64 0) := hr11 0 (by decide)
  have hp1 : w5.cell? ⟨g8, o8 + 1, none⟩ = some (.int .i64 1) := hr11 1 (by decide)
  clear hr10 hr11
  refine wp_loop_rounds 2 ?_
  rw [rounds_succ]
  go_wp2_with (fail)
  have hP := alloc_new w5 (.cells #[.int .i64 0, .int .i64 1] 129)
  have hal0 := t_al (Below.refl w5.heap.size w5) (Nat.le_refl _) (.cells #[.int .i64 0, .int .i64 1] 129)
  have hS6 := alloc_old (y := .cells #[.int .i64 0, .int .i64 1] 129) hS
  have hb6 := t_al hb5 hb5.size (.cells #[.int .i64 0, .int .i64 1] 129)
  have hown6 := own_below hown5 hal0
  replace hcS := block_cell hS6
  replace hfS := block_free hS6
  have hlS6 := block_lt hS6
  have hcP := block_cell hP
  have hlP := block_lt hP
  clear hS hb5 hown5 hal0 hlS hp0 hp1 hN5 hcN
  generalize w5.alloc (.cells #[.int .i64 0, .int .i64 1] 129) = w6 at *
  generalize w5.heap.size = r at *
  go_quiet (fail)
  go_wp2_with (fail)
  have hS := heap_setCell_self (heap_setCell_self (show (w6.drewN nq).heap[q]? = _ from hS6) 0 (.int .i64 0)) 1 (.int .i64 1)
  have hkq : ∀ k, (Value.slice (some ⟨g8, o8, none⟩) 1 c8).ownBlock = some k → k < w9.heap.size := fun k hk => HKQ.out k hk
  have hown5 : (((w6.drewN nq).setCell ⟨q, 0, none⟩ (.int .i64 0)).setCell ⟨q, 1, none⟩ (.int .i64 1)).ownsRow w.heap.size 129 2 (Value.slice (some ⟨g8, o8, none⟩) 1 c8) 1 [.int .i64 0, .int .i64 1] := t_move (t_move (t_move (w := w6) (w1 := w6.drewN nq) hown6 (fun k hk => rfl)) (fun k hk => heap_setCell_ne _ _ _ (fun he => by have := hkq k hk; omega))) (fun k hk => heap_setCell_ne _ _ _ (fun he => by have := hkq k hk; omega))
  have hb5 := Below.setCell (p := ⟨q, 1, none⟩) (Below.setCell (p := ⟨q, 0, none⟩) (below_drewN' hb6 nq) (Nat.le_of_lt hq) (.int .i64 0)) (Nat.le_of_lt hq) (.int .i64 1)
  clear hS6 hb6 hown6 hcS hfS hlS6 hcP hlP hP hkq
  generalize ((w6.drewN nq).setCell ⟨q, 0, none⟩ (.int .i64 0)).setCell ⟨q, 1, none⟩ (.int .i64 1) = w5 at *
  have hcS := block_cell hS
  have hfS := block_free hS
  have hlS := block_lt hS
  rw [rounds_succ]
  have hkq : ∀ k, (Value.slice (some ⟨g8, o8, none⟩) 1 c8).ownBlock = some k → k < w9.heap.size := fun k hk => HKQ.out k hk
  have hS2 := heap_setCell_self hS 1 (.int .i64 2)
  have hown6 : (w5.setCell ⟨q, 1, none⟩ (.int .i64 2)).ownsRow w.heap.size 129 2 (Value.slice (some ⟨g8, o8, none⟩) 1 c8) 1 [.int .i64 0, .int .i64 1] := t_move hown5 (fun k hk => heap_setCell_ne _ _ _ (fun he => by have := hkq k hk; omega))
  have hb6 := Below.setCell (p := ⟨q, 1, none⟩) hb5 (Nat.le_of_lt hq) (.int .i64 2)
  have hal := t_al (Below.refl (w5.setCell ⟨q, 1, none⟩ (.int .i64 2)).heap.size (w5.setCell ⟨q, 1, none⟩ (.int .i64 2))) (Nat.le_refl _) (.cells #[.int .i64 0, .int .i64 2] 129)
  have hown7 := own_below hown6 hal
  have hS7 := alloc_old (y := (.cells #[.int .i64 0, .int .i64 2] 129)) hS2
  have hb7 := t_al hb6 hb6.size (.cells #[.int .i64 0, .int .i64 2] 129)
  have hrow := row_new (w5.setCell ⟨q, 1, none⟩ (.int .i64 2)) 129 #[.int .i64 0, .int .i64 2] 2 rfl
  rw [show (w5.setCell ⟨q, 1, none⟩ (.int .i64 2)).heap.size = w5.heap.size by simp [World.setCell]] at hrow
  have hone : ∀ x ∈ [Value.int .i64 0, .int .i64 2], x.oneCell' = true := by intro x hx; simp at hx; rcases hx with rfl | rfl <;> rfl
  have hbase : w.heap.size ≤ ((w5.setCell ⟨q, 1, none⟩ (.int .i64 2)).alloc (.cells #[.int .i64 0, .int .i64 2] 129)).heap.size := Nat.le_trans hB9.size hb7.size
  have hqne : some q ≠ (Value.slice (some ⟨g8, o8, none⟩) 1 c8).ownBlock := fun e => by have := hkq q e.symm; omega
  go_wp2_with (at_builtin; refine wpList_append_row rfl _ _ 131 rfl w.heap.size 129 i0 _ 2 16 Tryd.underlying131 hi hz0 hz1 hz2 rfl (by decide) _ 1 [.int .i64 0, .int .i64 1] rfl hown7 _ 1 _ rfl hrow hone (by unfold maxLen; omega) (by omega) hbase ?_)
  intro v8 w8 hown8 hg8 hab8
  have hB8 : Below w.heap.size w w8 := (hB9.trans (hb7.mono hB9.size)).grown hg8 hbase (fun b e => (hown7.lt b e).1)
  obtain ⟨A8, c8, rfl⟩ := (RowIs.of_owns hown8).form
  obtain ⟨_, ao8, c82, e8, hr8⟩ := RowIs.of_owns hown8
  injection e8 with e8 _ ec
  subst ec
  subst e8
  obtain ⟨g8, o8, rfl, hr9⟩ := hr8 (by decide)
  have hS8 := (hg8.block q (block_lt hS7) hqne).trans hS7
  have hcS8 := block_cell hS8
  go_wp2_with (fail)
  with_reducible refine (nop_any _ _ _ _).mono ?_
  rintro e w9 ⟨rfl, hb9⟩
  have hc0 : w9.cell? ⟨g8, o8 + 2, none⟩ = some (.int .i64 0) := t_cell hb9 (hr9 2 (by decide))
  have hB9 := t_then hB8 hb9
  clear hB8 hb9 hr8 hr9 hown8
  go_wp2_with (fail)
  rw [rounds_succ]
  go_wp2_with (fail)
  go_ret2
  exact ⟨rfl, hB9⟩
set_option maxHeartbeats 8000000 in
set_option maxRecDepth 20000 in
theorem check_1 (w : World) (g o c : Nat) (op0 n0 : Int) (x0 : ByteArray) (s0_0 s0_1 s0_2 s0_3 : Int) (hA0 : ∀ w2, Calls Tryd.prog 76 #[.int .i64 op0] w2 fun e w' => e = .returned (.int .i64 0) ∧ Below w2.heap.size w2 w') (hF0 : ∀ w2, Calls Tryd.prog 77 #[.agg #[.int .i64 op0, .int .i64 n0, .string x0, .int .u64 s0_0, .int .u64 s0_1, .int .u64 s0_2, .int .u64 s0_3]] w2 fun e w' => e = .returned (.bool true) ∧ Below w2.heap.size w2 w') (d0_0 : w.cell? ⟨g, o, none⟩ = some (.int .i64 op0)) (d0_1 : w.cell? ⟨g, o + 1, none⟩ = some (.int .i64 n0)) (d0_2 : w.cell? ⟨g, o + 2, none⟩ = some (.string x0)) (d0_3 : w.cell? ⟨g, o + 3, none⟩ = some (.int .u64 s0_0)) (d0_4 : w.cell? ⟨g, o + 4, none⟩ = some (.int .u64 s0_1)) (d0_5 : w.cell? ⟨g, o + 5, none⟩ = some (.int .u64 s0_2)) (d0_6 : w.cell? ⟨g, o + 6, none⟩ = some (.int .u64 s0_3)) :
    Calls Tryd.prog 78 #[.slice (some ⟨g, o, none⟩) 1 c] w fun e w' => e = .returned (.tuple #[.int .i64 0, .int .i64 0]) ∧ Below w.heap.size w w' := by
  have hE := each_1 w g o c op0 n0 x0 s0_0 s0_1 s0_2 s0_3 hA0 hF0 d0_0 d0_1 d0_2 d0_3 d0_4 d0_5 d0_6
  go_enter Tryd.func78, Tryd.ntmps78
  go_wp2_with (fail)
  with_reducible refine hE.mono ?_
  rintro e w2 ⟨rfl, hb⟩
  go_wp2_with (fail)
  go_ret2
  exact ⟨rfl, hb⟩
set_option maxHeartbeats 8000000 in
set_option maxRecDepth 20000 in
theorem check_2 (w : World) (g o c : Nat) (op0 n0 : Int) (x0 : ByteArray) (s0_0 s0_1 s0_2 s0_3 : Int) (op1 n1 : Int) (x1 : ByteArray) (s1_0 s1_1 s1_2 s1_3 : Int) (hA0 : ∀ w2, Calls Tryd.prog 76 #[.int .i64 op0] w2 fun e w' => e = .returned (.int .i64 0) ∧ Below w2.heap.size w2 w') (hF0 : ∀ w2, Calls Tryd.prog 77 #[.agg #[.int .i64 op0, .int .i64 n0, .string x0, .int .u64 s0_0, .int .u64 s0_1, .int .u64 s0_2, .int .u64 s0_3]] w2 fun e w' => e = .returned (.bool true) ∧ Below w2.heap.size w2 w') (hA1 : ∀ w2, Calls Tryd.prog 76 #[.int .i64 op1] w2 fun e w' => e = .returned (.int .i64 1) ∧ Below w2.heap.size w2 w') (hF1 : ∀ w2, Calls Tryd.prog 77 #[.agg #[.int .i64 op1, .int .i64 n1, .string x1, .int .u64 s1_0, .int .u64 s1_1, .int .u64 s1_2, .int .u64 s1_3]] w2 fun e w' => e = .returned (.bool true) ∧ Below w2.heap.size w2 w') (d0_0 : w.cell? ⟨g, o, none⟩ = some (.int .i64 op0)) (d0_1 : w.cell? ⟨g, o + 1, none⟩ = some (.int .i64 n0)) (d0_2 : w.cell? ⟨g, o + 2, none⟩ = some (.string x0)) (d0_3 : w.cell? ⟨g, o + 3, none⟩ = some (.int .u64 s0_0)) (d0_4 : w.cell? ⟨g, o + 4, none⟩ = some (.int .u64 s0_1)) (d0_5 : w.cell? ⟨g, o + 5, none⟩ = some (.int .u64 s0_2)) (d0_6 : w.cell? ⟨g, o + 6, none⟩ = some (.int .u64 s0_3)) (d1_0 : w.cell? ⟨g, o + 7, none⟩ = some (.int .i64 op1)) (d1_1 : w.cell? ⟨g, o + 8, none⟩ = some (.int .i64 n1)) (d1_2 : w.cell? ⟨g, o + 9, none⟩ = some (.string x1)) (d1_3 : w.cell? ⟨g, o + 10, none⟩ = some (.int .u64 s1_0)) (d1_4 : w.cell? ⟨g, o + 11, none⟩ = some (.int .u64 s1_1)) (d1_5 : w.cell? ⟨g, o + 12, none⟩ = some (.int .u64 s1_2)) (d1_6 : w.cell? ⟨g, o + 13, none⟩ = some (.int .u64 s1_3)) :
    Calls Tryd.prog 78 #[.slice (some ⟨g, o, none⟩) 2 c] w fun e w' => e = .returned (.tuple #[.int .i64 0, .int .i64 0]) ∧ Below w.heap.size w w' := by
  have hE := each_2 w g o c op0 n0 x0 s0_0 s0_1 s0_2 s0_3 op1 n1 x1 s1_0 s1_1 s1_2 s1_3 hA0 hF0 hA1 hF1 d0_0 d0_1 d0_2 d0_3 d0_4 d0_5 d0_6 d1_0 d1_1 d1_2 d1_3 d1_4 d1_5 d1_6
  go_enter Tryd.func78, Tryd.ntmps78
  go_wp2_with (fail)
  with_reducible refine hE.mono ?_
  rintro e w2 ⟨rfl, hb⟩
  go_wp2_with (fail)
  go_ret2
  exact ⟨rfl, hb⟩
theorem drawn_below {w w' : World} (h : Drawn0 w w') : Below w.heap.size w w' := by
  obtain ⟨n, rfl⟩ := h
  exact below_drewN' (Below.refl _ _) n
end Go.Proofs.YthjlpcecfkboiabDoor
