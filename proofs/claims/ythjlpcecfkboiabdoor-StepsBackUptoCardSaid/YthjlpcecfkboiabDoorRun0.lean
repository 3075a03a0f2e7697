/-
  The machine's Run where it ends ahead of the first step: what it refuses, or no steps at all.
-/
import Derived.Test.YthjlpcecfkboiabDoorInstr
import Derived.WalkKit
import Derived.BigQuiet
import Derived.BigRegion
import Derived.Laws.ResultCell
namespace Go.Proofs.YthjlpcecfkboiabDoor
open Go.RowKit
set_option linter.unusedVariables false
set_option linter.unusedSimpArgs false
theorem gen_w {P : World → Prop} {Q : World → Prop} {W0 : World} (h : P W0) (k : ∀ W, P W → Q W) : Q W0 := k _ h
def runV (e : Int) : Value := .tuple #[.agg #[.int .i64 0, .int .i64 0, .slice none 0 0, .int .i64 0, .int .i64 0, .int .i64 0], .int .i64 e]
set_option maxHeartbeats 8000000 in
set_option maxRecDepth 20000 in
theorem run0_chk (w : World) (A : Option Addr) (n c : Nat) (c0 er : Int) (s : ByteArray) (p l0 l1 l2 : Int) (hC : ∀ w2, Below w.heap.size w w2 → Calls Tryd.prog 21 #[.slice A n c] w2 fun e w' => e = .returned (.tuple #[.int .i64 c0, .int .i64 er]) ∧ Below w2.heap.size w2 w') (he : er ≠ 0) :
    Calls Tryd.prog 10 #[.slice A n c, .string s, .int .i64 p, .agg #[.int .i64 l0, .int .i64 l1, .int .i64 l2]] w fun e w' => e = .returned (runV er) ∧ Below w.heap.size w w' := by
  have hb0 := below_al (below_al (Below.refl w.heap.size w) (.cells #[.int .i64 l0, .int .i64 l1, .int .i64 l2] 36)) (.cells #[.int .i64 0, .int .i64 0, .slice none 0 0, .int .i64 0, .int .i64 0, .int .i64 0] 42)
  have hA := alloc_old (y := (.cells #[.int .i64 0, .int .i64 0, .slice none 0 0, .int .i64 0, .int .i64 0, .int .i64 0] 42)) (alloc_new w (.cells #[.int .i64 l0, .int .i64 l1, .int .i64 l2] 36))
  have hA2 : ((w.alloc (.cells #[.int .i64 l0, .int .i64 l1, .int .i64 l2] 36)).alloc (.cells #[.int .i64 0, .int .i64 0, .slice none 0 0, .int .i64 0, .int .i64 0, .int .i64 0] 42)).heap[w.heap.size + 1]? = _ := alloc_new_at _ (show w.heap.size + 1 = (w.heap.push _).size by simp)
  go_enter Tryd.func10, Tryd.ntmps10
  go_wp2_with (fail)
  with_reducible refine (hC _ hb0).mono ?_
  rintro e w2 ⟨rfl, hb2⟩
  have hA3 := keep hb2 hA
  have hA4 := keep hb2 hA2
  have hb3 := hb0.trans ⟨hb2.os, hb2.tape, hb2.output, hb2.size, fun i hi => hb2.block i (Nat.lt_of_lt_of_le hi hb0.size)⟩
  have hlt := block_lt hA4
  have hc7 := block_cell hA3
  have hc8 := block_cell hA4
  have hf7 := block_free hA3
  have hf8 := block_free hA4
  clear hA hA2 hb0 hb2
  have he2 : (er != 0) = true := bne_iff_ne.mpr he
  go_wp2_with (fail)
  refine gen_w (P := fun W' => W'.heap[w.heap.size + 1]? = some (.cells #[.int .i64 0, .int .i64 0, .slice none 0 0, .int .i64 0, .int .i64 0, .int .i64 0] 42) ∧ Below w.heap.size w W') (Q := fun W' => bodyPost Tryd.prog _ _ _ _ W') ⟨?_, ?_⟩ ?_
  · exact heap_setCell_self (heap_setCell_self (heap_setCell_self (heap_setCell_self (heap_setCell_self (heap_setCell_self hA4 0 _) 1 _) 2 _) 3 _) 4 _) 5 _
  · exact below_st (below_st (below_st (below_st (below_st (below_st hb3 (by omega) _ _) (by omega) _ _) (by omega) _ _) (by omega) _ _) (by omega) _ _) (by omega) _ _
  rintro W ⟨hW, hbW⟩
  have hcW := block_cell hW
  refine bodyPost_ret (v := runV er) ?_ rfl ⟨rfl, hbW⟩
  rw [results_cell_tmp (show Tryd.f10.results = _ from rfl)]
  go_simp
  rfl

set_option maxHeartbeats 8000000 in
set_option maxRecDepth 20000 in
theorem run0_long (w : World) (A : Option Addr) (n c : Nat) (c0 er : Int) (s : ByteArray) (p l0 l1 l2 : Int) (hC : ∀ w2, Below w.heap.size w w2 → Calls Tryd.prog 21 #[.slice A n c] w2 fun e w' => e = .returned (.tuple #[.int .i64 c0, .int .i64 er]) ∧ Below w2.heap.size w2 w') (he : er = 0) (hs : (65536 : Int) < s.size) :
    Calls Tryd.prog 10 #[.slice A n c, .string s, .int .i64 p, .agg #[.int .i64 l0, .int .i64 l1, .int .i64 l2]] w fun e w' => e = .returned (runV 2) ∧ Below w.heap.size w w' := by
  have hb0 := below_al (below_al (Below.refl w.heap.size w) (.cells #[.int .i64 l0, .int .i64 l1, .int .i64 l2] 36)) (.cells #[.int .i64 0, .int .i64 0, .slice none 0 0, .int .i64 0, .int .i64 0, .int .i64 0] 42)
  have hA := alloc_old (y := (.cells #[.int .i64 0, .int .i64 0, .slice none 0 0, .int .i64 0, .int .i64 0, .int .i64 0] 42)) (alloc_new w (.cells #[.int .i64 l0, .int .i64 l1, .int .i64 l2] 36))
  have hA2 : ((w.alloc (.cells #[.int .i64 l0, .int .i64 l1, .int .i64 l2] 36)).alloc (.cells #[.int .i64 0, .int .i64 0, .slice none 0 0, .int .i64 0, .int .i64 0, .int .i64 0] 42)).heap[w.heap.size + 1]? = _ := alloc_new_at _ (show w.heap.size + 1 = (w.heap.push _).size by simp)
  go_enter Tryd.func10, Tryd.ntmps10
  go_wp2_with (fail)
  with_reducible refine (hC _ hb0).mono ?_
  rintro e w2 ⟨rfl, hb2⟩
  have hA3 := keep hb2 hA
  have hA4 := keep hb2 hA2
  have hb3 := hb0.trans ⟨hb2.os, hb2.tape, hb2.output, hb2.size, fun i hi => hb2.block i (Nat.lt_of_lt_of_le hi hb0.size)⟩
  have hlt := block_lt hA4
  have hc7 := block_cell hA3
  have hc8 := block_cell hA4
  have hf7 := block_free hA3
  have hf8 := block_free hA4
  clear hA hA2 hb0 hb2
  have he2 : (er != 0) = false := by subst he; rfl
  have hs2 : decide ((65536 : Int) < (s.size : Int)) = true := decide_eq_true hs
  go_wp2_with (fail)
  refine gen_w (P := fun W' => W'.heap[w.heap.size + 1]? = some (.cells #[.int .i64 0, .int .i64 0, .slice none 0 0, .int .i64 0, .int .i64 0, .int .i64 0] 42) ∧ Below w.heap.size w W') (Q := fun W' => bodyPost Tryd.prog _ _ _ _ W') ⟨?_, ?_⟩ ?_
  · exact heap_setCell_self (heap_setCell_self (heap_setCell_self (heap_setCell_self (heap_setCell_self (heap_setCell_self hA4 0 _) 1 _) 2 _) 3 _) 4 _) 5 _
  · exact below_st (below_st (below_st (below_st (below_st (below_st hb3 (by omega) _ _) (by omega) _ _) (by omega) _ _) (by omega) _ _) (by omega) _ _) (by omega) _ _
  rintro W ⟨hW, hbW⟩
  have hcW := block_cell hW
  refine bodyPost_ret (v := runV 2) ?_ rfl ⟨rfl, hbW⟩
  rw [results_cell_tmp (show Tryd.f10.results = _ from rfl)]
  go_simp
  rfl
set_option maxHeartbeats 8000000 in
set_option maxRecDepth 20000 in
theorem run0_bad0 (w : World) (A : Option Addr) (n c : Nat) (c0 er : Int) (s : ByteArray) (p l0 l1 l2 : Int) (hC : ∀ w2, Below w.heap.size w w2 → Calls Tryd.prog 21 #[.slice A n c] w2 fun e w' => e = .returned (.tuple #[.int .i64 c0, .int .i64 er]) ∧ Below w2.heap.size w2 w') (he : er = 0) (hs : ¬ (65536 : Int) < s.size) (d0 : p < 0) :
    Calls Tryd.prog 10 #[.slice A n c, .string s, .int .i64 p, .agg #[.int .i64 l0, .int .i64 l1, .int .i64 l2]] w fun e w' => e = .returned (runV 1) ∧ Below w.heap.size w w' := by
  have hb0 := below_al (below_al (Below.refl w.heap.size w) (.cells #[.int .i64 l0, .int .i64 l1, .int .i64 l2] 36)) (.cells #[.int .i64 0, .int .i64 0, .slice none 0 0, .int .i64 0, .int .i64 0, .int .i64 0] 42)
  have hA := alloc_old (y := (.cells #[.int .i64 0, .int .i64 0, .slice none 0 0, .int .i64 0, .int .i64 0, .int .i64 0] 42)) (alloc_new w (.cells #[.int .i64 l0, .int .i64 l1, .int .i64 l2] 36))
  have hA2 : ((w.alloc (.cells #[.int .i64 l0, .int .i64 l1, .int .i64 l2] 36)).alloc (.cells #[.int .i64 0, .int .i64 0, .slice none 0 0, .int .i64 0, .int .i64 0, .int .i64 0] 42)).heap[w.heap.size + 1]? = _ := alloc_new_at _ (show w.heap.size + 1 = (w.heap.push _).size by simp)
  go_enter Tryd.func10, Tryd.ntmps10
  go_wp2_with (fail)
  with_reducible refine (hC _ hb0).mono ?_
  rintro e w2 ⟨rfl, hb2⟩
  have hA3 := keep hb2 hA
  have hA4 := keep hb2 hA2
  have hb3 := hb0.trans ⟨hb2.os, hb2.tape, hb2.output, hb2.size, fun i hi => hb2.block i (Nat.lt_of_lt_of_le hi hb0.size)⟩
  have hlt := block_lt hA4
  have hc7 := block_cell hA3
  have hc8 := block_cell hA4
  have hf7 := block_free hA3
  have hf8 := block_free hA4
  clear hA hA2 hb0 hb2
  have he2 : (er != 0) = false := by subst he; rfl
  have hs2 : decide ((65536 : Int) < (s.size : Int)) = false := decide_eq_false (by omega)
  have d0b : decide (p < 0) = true := decide_eq_true (by omega)
  go_wp2_with (fail)
  refine gen_w (P := fun W' => W'.heap[w.heap.size + 1]? = some (.cells #[.int .i64 0, .int .i64 0, .slice none 0 0, .int .i64 0, .int .i64 0, .int .i64 0] 42) ∧ Below w.heap.size w W') (Q := fun W' => bodyPost Tryd.prog _ _ _ _ W') ⟨?_, ?_⟩ ?_
  · exact heap_setCell_self (heap_setCell_self (heap_setCell_self (heap_setCell_self (heap_setCell_self (heap_setCell_self hA4 0 _) 1 _) 2 _) 3 _) 4 _) 5 _
  · exact below_st (below_st (below_st (below_st (below_st (below_st hb3 (by omega) _ _) (by omega) _ _) (by omega) _ _) (by omega) _ _) (by omega) _ _) (by omega) _ _
  rintro W ⟨hW, hbW⟩
  have hcW := block_cell hW
  refine bodyPost_ret (v := runV 1) ?_ rfl ⟨rfl, hbW⟩
  rw [results_cell_tmp (show Tryd.f10.results = _ from rfl)]
  go_simp
  rfl
set_option maxHeartbeats 8000000 in
set_option maxRecDepth 20000 in
theorem run0_bad1 (w : World) (A : Option Addr) (n c : Nat) (c0 er : Int) (s : ByteArray) (p l0 l1 l2 : Int) (hC : ∀ w2, Below w.heap.size w w2 → Calls Tryd.prog 21 #[.slice A n c] w2 fun e w' => e = .returned (.tuple #[.int .i64 c0, .int .i64 er]) ∧ Below w2.heap.size w2 w') (he : er = 0) (hs : ¬ (65536 : Int) < s.size) (d0 : ¬ p < 0) (d1 : (s.size : Int) < p) :
    Calls Tryd.prog 10 #[.slice A n c, .string s, .int .i64 p, .agg #[.int .i64 l0, .int .i64 l1, .int .i64 l2]] w fun e w' => e = .returned (runV 1) ∧ Below w.heap.size w w' := by
  have hb0 := below_al (below_al (Below.refl w.heap.size w) (.cells #[.int .i64 l0, .int .i64 l1, .int .i64 l2] 36)) (.cells #[.int .i64 0, .int .i64 0, .slice none 0 0, .int .i64 0, .int .i64 0, .int .i64 0] 42)
  have hA := alloc_old (y := (.cells #[.int .i64 0, .int .i64 0, .slice none 0 0, .int .i64 0, .int .i64 0, .int .i64 0] 42)) (alloc_new w (.cells #[.int .i64 l0, .int .i64 l1, .int .i64 l2] 36))
  have hA2 : ((w.alloc (.cells #[.int .i64 l0, .int .i64 l1, .int .i64 l2] 36)).alloc (.cells #[.int .i64 0, .int .i64 0, .slice none 0 0, .int .i64 0, .int .i64 0, .int .i64 0] 42)).heap[w.heap.size + 1]? = _ := alloc_new_at _ (show w.heap.size + 1 = (w.heap.push _).size by simp)
  go_enter Tryd.func10, Tryd.ntmps10
  go_wp2_with (fail)
  with_reducible refine (hC _ hb0).mono ?_
  rintro e w2 ⟨rfl, hb2⟩
  have hA3 := keep hb2 hA
  have hA4 := keep hb2 hA2
  have hb3 := hb0.trans ⟨hb2.os, hb2.tape, hb2.output, hb2.size, fun i hi => hb2.block i (Nat.lt_of_lt_of_le hi hb0.size)⟩
  have hlt := block_lt hA4
  have hc7 := block_cell hA3
  have hc8 := block_cell hA4
  have hf7 := block_free hA3
  have hf8 := block_free hA4
  clear hA hA2 hb0 hb2
  have he2 : (er != 0) = false := by subst he; rfl
  have hs2 : decide ((65536 : Int) < (s.size : Int)) = false := decide_eq_false (by omega)
  have d0b : decide (p < 0) = false := decide_eq_false (by omega)
  have d1b : decide ((s.size : Int) < p) = true := decide_eq_true (by omega)
  go_wp2_with (fail)
  refine gen_w (P := fun W' => W'.heap[w.heap.size + 1]? = some (.cells #[.int .i64 0, .int .i64 0, .slice none 0 0, .int .i64 0, .int .i64 0, .int .i64 0] 42) ∧ Below w.heap.size w W') (Q := fun W' => bodyPost Tryd.prog _ _ _ _ W') ⟨?_, ?_⟩ ?_
  · exact heap_setCell_self (heap_setCell_self (heap_setCell_self (heap_setCell_self (heap_setCell_self (heap_setCell_self hA4 0 _) 1 _) 2 _) 3 _) 4 _) 5 _
  · exact below_st (below_st (below_st (below_st (below_st (below_st hb3 (by omega) _ _) (by omega) _ _) (by omega) _ _) (by omega) _ _) (by omega) _ _) (by omega) _ _
  rintro W ⟨hW, hbW⟩
  have hcW := block_cell hW
  refine bodyPost_ret (v := runV 1) ?_ rfl ⟨rfl, hbW⟩
  rw [results_cell_tmp (show Tryd.f10.results = _ from rfl)]
  go_simp
  rfl
set_option maxHeartbeats 8000000 in
set_option maxRecDepth 20000 in
theorem run0_bad2 (w : World) (A : Option Addr) (n c : Nat) (c0 er : Int) (s : ByteArray) (p l0 l1 l2 : Int) (hC : ∀ w2, Below w.heap.size w w2 → Calls Tryd.prog 21 #[.slice A n c] w2 fun e w' => e = .returned (.tuple #[.int .i64 c0, .int .i64 er]) ∧ Below w2.heap.size w2 w') (he : er = 0) (hs : ¬ (65536 : Int) < s.size) (d0 : ¬ p < 0) (d1 : ¬ (s.size : Int) < p) (d2 : l0 < 0) :
    Calls Tryd.prog 10 #[.slice A n c, .string s, .int .i64 p, .agg #[.int .i64 l0, .int .i64 l1, .int .i64 l2]] w fun e w' => e = .returned (runV 1) ∧ Below w.heap.size w w' := by
  have hb0 := below_al (below_al (Below.refl w.heap.size w) (.cells #[.int .i64 l0, .int .i64 l1, .int .i64 l2] 36)) (.cells #[.int .i64 0, .int .i64 0, .slice none 0 0, .int .i64 0, .int .i64 0, .int .i64 0] 42)
  have hA := alloc_old (y := (.cells #[.int .i64 0, .int .i64 0, .slice none 0 0, .int .i64 0, .int .i64 0, .int .i64 0] 42)) (alloc_new w (.cells #[.int .i64 l0, .int .i64 l1, .int .i64 l2] 36))
  have hA2 : ((w.alloc (.cells #[.int .i64 l0, .int .i64 l1, .int .i64 l2] 36)).alloc (.cells #[.int .i64 0, .int .i64 0, .slice none 0 0, .int .i64 0, .int .i64 0, .int .i64 0] 42)).heap[w.heap.size + 1]? = _ := alloc_new_at _ (show w.heap.size + 1 = (w.heap.push _).size by simp)
  go_enter Tryd.func10, Tryd.ntmps10
  go_wp2_with (fail)
  with_reducible refine (hC _ hb0).mono ?_
  rintro e w2 ⟨rfl, hb2⟩
  have hA3 := keep hb2 hA
  have hA4 := keep hb2 hA2
  have hb3 := hb0.trans ⟨hb2.os, hb2.tape, hb2.output, hb2.size, fun i hi => hb2.block i (Nat.lt_of_lt_of_le hi hb0.size)⟩
  have hlt := block_lt hA4
  have hc7 := block_cell hA3
  have hc8 := block_cell hA4
  have hf7 := block_free hA3
  have hf8 := block_free hA4
  clear hA hA2 hb0 hb2
  have he2 : (er != 0) = false := by subst he; rfl
  have hs2 : decide ((65536 : Int) < (s.size : Int)) = false := decide_eq_false (by omega)
  have d0b : decide (p < 0) = false := decide_eq_false (by omega)
  have d1b : decide ((s.size : Int) < p) = false := decide_eq_false (by omega)
  have d2b : decide (l0 < 0) = true := decide_eq_true (by omega)
  go_wp2_with (fail)
  refine gen_w (P := fun W' => W'.heap[w.heap.size + 1]? = some (.cells #[.int .i64 0, .int .i64 0, .slice none 0 0, .int .i64 0, .int .i64 0, .int .i64 0] 42) ∧ Below w.heap.size w W') (Q := fun W' => bodyPost Tryd.prog _ _ _ _ W') ⟨?_, ?_⟩ ?_
  · exact heap_setCell_self (heap_setCell_self (heap_setCell_self (heap_setCell_self (heap_setCell_self (heap_setCell_self hA4 0 _) 1 _) 2 _) 3 _) 4 _) 5 _
  · exact below_st (below_st (below_st (below_st (below_st (below_st hb3 (by omega) _ _) (by omega) _ _) (by omega) _ _) (by omega) _ _) (by omega) _ _) (by omega) _ _
  rintro W ⟨hW, hbW⟩
  have hcW := block_cell hW
  refine bodyPost_ret (v := runV 1) ?_ rfl ⟨rfl, hbW⟩
  rw [results_cell_tmp (show Tryd.f10.results = _ from rfl)]
  go_simp
  rfl
set_option maxHeartbeats 8000000 in
set_option maxRecDepth 20000 in
theorem run0_bad3 (w : World) (A : Option Addr) (n c : Nat) (c0 er : Int) (s : ByteArray) (p l0 l1 l2 : Int) (hC : ∀ w2, Below w.heap.size w w2 → Calls Tryd.prog 21 #[.slice A n c] w2 fun e w' => e = .returned (.tuple #[.int .i64 c0, .int .i64 er]) ∧ Below w2.heap.size w2 w') (he : er = 0) (hs : ¬ (65536 : Int) < s.size) (d0 : ¬ p < 0) (d1 : ¬ (s.size : Int) < p) (d2 : ¬ l0 < 0) (d3 : 1048576 < l0) :
    Calls Tryd.prog 10 #[.slice A n c, .string s, .int .i64 p, .agg #[.int .i64 l0, .int .i64 l1, .int .i64 l2]] w fun e w' => e = .returned (runV 1) ∧ Below w.heap.size w w' := by
  have hb0 := below_al (below_al (Below.refl w.heap.size w) (.cells #[.int .i64 l0, .int .i64 l1, .int .i64 l2] 36)) (.cells #[.int .i64 0, .int .i64 0, .slice none 0 0, .int .i64 0, .int .i64 0, .int .i64 0] 42)
  have hA := alloc_old (y := (.cells #[.int .i64 0, .int .i64 0, .slice none 0 0, .int .i64 0, .int .i64 0, .int .i64 0] 42)) (alloc_new w (.cells #[.int .i64 l0, .int .i64 l1, .int .i64 l2] 36))
  have hA2 : ((w.alloc (.cells #[.int .i64 l0, .int .i64 l1, .int .i64 l2] 36)).alloc (.cells #[.int .i64 0, .int .i64 0, .slice none 0 0, .int .i64 0, .int .i64 0, .int .i64 0] 42)).heap[w.heap.size + 1]? = _ := alloc_new_at _ (show w.heap.size + 1 = (w.heap.push _).size by simp)
  go_enter Tryd.func10, Tryd.ntmps10
  go_wp2_with (fail)
  with_reducible refine (hC _ hb0).mono ?_
  rintro e w2 ⟨rfl, hb2⟩
  have hA3 := keep hb2 hA
  have hA4 := keep hb2 hA2
  have hb3 := hb0.trans ⟨hb2.os, hb2.tape, hb2.output, hb2.size, fun i hi => hb2.block i (Nat.lt_of_lt_of_le hi hb0.size)⟩
  have hlt := block_lt hA4
  have hc7 := block_cell hA3
  have hc8 := block_cell hA4
  have hf7 := block_free hA3
  have hf8 := block_free hA4
  clear hA hA2 hb0 hb2
  have he2 : (er != 0) = false := by subst he; rfl
  have hs2 : decide ((65536 : Int) < (s.size : Int)) = false := decide_eq_false (by omega)
  have d0b : decide (p < 0) = false := decide_eq_false (by omega)
  have d1b : decide ((s.size : Int) < p) = false := decide_eq_false (by omega)
  have d2b : decide (l0 < 0) = false := decide_eq_false (by omega)
  have d3b : decide (1048576 < l0) = true := decide_eq_true (by omega)
  go_wp2_with (fail)
  refine gen_w (P := fun W' => W'.heap[w.heap.size + 1]? = some (.cells #[.int .i64 0, .int .i64 0, .slice none 0 0, .int .i64 0, .int .i64 0, .int .i64 0] 42) ∧ Below w.heap.size w W') (Q := fun W' => bodyPost Tryd.prog _ _ _ _ W') ⟨?_, ?_⟩ ?_
  · exact heap_setCell_self (heap_setCell_self (heap_setCell_self (heap_setCell_self (heap_setCell_self (heap_setCell_self hA4 0 _) 1 _) 2 _) 3 _) 4 _) 5 _
  · exact below_st (below_st (below_st (below_st (below_st (below_st hb3 (by omega) _ _) (by omega) _ _) (by omega) _ _) (by omega) _ _) (by omega) _ _) (by omega) _ _
  rintro W ⟨hW, hbW⟩
  have hcW := block_cell hW
  refine bodyPost_ret (v := runV 1) ?_ rfl ⟨rfl, hbW⟩
  rw [results_cell_tmp (show Tryd.f10.results = _ from rfl)]
  go_simp
  rfl
set_option maxHeartbeats 8000000 in
set_option maxRecDepth 20000 in
theorem run0_bad4 (w : World) (A : Option Addr) (n c : Nat) (c0 er : Int) (s : ByteArray) (p l0 l1 l2 : Int) (hC : ∀ w2, Below w.heap.size w w2 → Calls Tryd.prog 21 #[.slice A n c] w2 fun e w' => e = .returned (.tuple #[.int .i64 c0, .int .i64 er]) ∧ Below w2.heap.size w2 w') (he : er = 0) (hs : ¬ (65536 : Int) < s.size) (d0 : ¬ p < 0) (d1 : ¬ (s.size : Int) < p) (d2 : ¬ l0 < 0) (d3 : ¬ 1048576 < l0) (d4 : l1 < 0) :
    Calls Tryd.prog 10 #[.slice A n c, .string s, .int .i64 p, .agg #[.int .i64 l0, .int .i64 l1, .int .i64 l2]] w fun e w' => e = .returned (runV 1) ∧ Below w.heap.size w w' := by
  have hb0 := below_al (below_al (Below.refl w.heap.size w) (.cells #[.int .i64 l0, .int .i64 l1, .int .i64 l2] 36)) (.cells #[.int .i64 0, .int .i64 0, .slice none 0 0, .int .i64 0, .int .i64 0, .int .i64 0] 42)
  have hA := alloc_old (y := (.cells #[.int .i64 0, .int .i64 0, .slice none 0 0, .int .i64 0, .int .i64 0, .int .i64 0] 42)) (alloc_new w (.cells #[.int .i64 l0, .int .i64 l1, .int .i64 l2] 36))
  have hA2 : ((w.alloc (.cells #[.int .i64 l0, .int .i64 l1, .int .i64 l2] 36)).alloc (.cells #[.int .i64 0, .int .i64 0, .slice none 0 0, .int .i64 0, .int .i64 0, .int .i64 0] 42)).heap[w.heap.size + 1]? = _ := alloc_new_at _ (show w.heap.size + 1 = (w.heap.push _).size by simp)
  go_enter Tryd.func10, Tryd.ntmps10
  go_wp2_with (fail)
  with_reducible refine (hC _ hb0).mono ?_
  rintro e w2 ⟨rfl, hb2⟩
  have hA3 := keep hb2 hA
  have hA4 := keep hb2 hA2
  have hb3 := hb0.trans ⟨hb2.os, hb2.tape, hb2.output, hb2.size, fun i hi => hb2.block i (Nat.lt_of_lt_of_le hi hb0.size)⟩
  have hlt := block_lt hA4
  have hc7 := block_cell hA3
  have hc8 := block_cell hA4
  have hf7 := block_free hA3
  have hf8 := block_free hA4
  clear hA hA2 hb0 hb2
  have he2 : (er != 0) = false := by subst he; rfl
  have hs2 : decide ((65536 : Int) < (s.size : Int)) = false := decide_eq_false (by omega)
  have d0b : decide (p < 0) = false := decide_eq_false (by omega)
  have d1b : decide ((s.size : Int) < p) = false := decide_eq_false (by omega)
  have d2b : decide (l0 < 0) = false := decide_eq_false (by omega)
  have d3b : decide (1048576 < l0) = false := decide_eq_false (by omega)
  have d4b : decide (l1 < 0) = true := decide_eq_true (by omega)
  go_wp2_with (fail)
  refine gen_w (P := fun W' => W'.heap[w.heap.size + 1]? = some (.cells #[.int .i64 0, .int .i64 0, .slice none 0 0, .int .i64 0, .int .i64 0, .int .i64 0] 42) ∧ Below w.heap.size w W') (Q := fun W' => bodyPost Tryd.prog _ _ _ _ W') ⟨?_, ?_⟩ ?_
  · exact heap_setCell_self (heap_setCell_self (heap_setCell_self (heap_setCell_self (heap_setCell_self (heap_setCell_self hA4 0 _) 1 _) 2 _) 3 _) 4 _) 5 _
  · exact below_st (below_st (below_st (below_st (below_st (below_st hb3 (by omega) _ _) (by omega) _ _) (by omega) _ _) (by omega) _ _) (by omega) _ _) (by omega) _ _
  rintro W ⟨hW, hbW⟩
  have hcW := block_cell hW
  refine bodyPost_ret (v := runV 1) ?_ rfl ⟨rfl, hbW⟩
  rw [results_cell_tmp (show Tryd.f10.results = _ from rfl)]
  go_simp
  rfl
set_option maxHeartbeats 8000000 in
set_option maxRecDepth 20000 in
theorem run0_bad5 (w : World) (A : Option Addr) (n c : Nat) (c0 er : Int) (s : ByteArray) (p l0 l1 l2 : Int) (hC : ∀ w2, Below w.heap.size w w2 → Calls Tryd.prog 21 #[.slice A n c] w2 fun e w' => e = .returned (.tuple #[.int .i64 c0, .int .i64 er]) ∧ Below w2.heap.size w2 w') (he : er = 0) (hs : ¬ (65536 : Int) < s.size) (d0 : ¬ p < 0) (d1 : ¬ (s.size : Int) < p) (d2 : ¬ l0 < 0) (d3 : ¬ 1048576 < l0) (d4 : ¬ l1 < 0) (d5 : 1048576 < l1) :
    Calls Tryd.prog 10 #[.slice A n c, .string s, .int .i64 p, .agg #[.int .i64 l0, .int .i64 l1, .int .i64 l2]] w fun e w' => e = .returned (runV 1) ∧ Below w.heap.size w w' := by
  have hb0 := below_al (below_al (Below.refl w.heap.size w) (.cells #[.int .i64 l0, .int .i64 l1, .int .i64 l2] 36)) (.cells #[.int .i64 0, .int .i64 0, .slice none 0 0, .int .i64 0, .int .i64 0, .int .i64 0] 42)
  have hA := alloc_old (y := (.cells #[.int .i64 0, .int .i64 0, .slice none 0 0, .int .i64 0, .int .i64 0, .int .i64 0] 42)) (alloc_new w (.cells #[.int .i64 l0, .int .i64 l1, .int .i64 l2] 36))
  have hA2 : ((w.alloc (.cells #[.int .i64 l0, .int .i64 l1, .int .i64 l2] 36)).alloc (.cells #[.int .i64 0, .int .i64 0, .slice none 0 0, .int .i64 0, .int .i64 0, .int .i64 0] 42)).heap[w.heap.size + 1]? = _ := alloc_new_at _ (show w.heap.size + 1 = (w.heap.push _).size by simp)
  go_enter Tryd.func10, Tryd.ntmps10
  go_wp2_with (fail)
  with_reducible refine (hC _ hb0).mono ?_
  rintro e w2 ⟨rfl, hb2⟩
  have hA3 := keep hb2 hA
  have hA4 := keep hb2 hA2
  have hb3 := hb0.trans ⟨hb2.os, hb2.tape, hb2.output, hb2.size, fun i hi => hb2.block i (Nat.lt_of_lt_of_le hi hb0.size)⟩
  have hlt := block_lt hA4
  have hc7 := block_cell hA3
  have hc8 := block_cell hA4
  have hf7 := block_free hA3
  have hf8 := block_free hA4
  clear hA hA2 hb0 hb2
  have he2 : (er != 0) = false := by subst he; rfl
  have hs2 : decide ((65536 : Int) < (s.size : Int)) = false := decide_eq_false (by omega)
  have d0b : decide (p < 0) = false := decide_eq_false (by omega)
  have d1b : decide ((s.size : Int) < p) = false := decide_eq_false (by omega)
  have d2b : decide (l0 < 0) = false := decide_eq_false (by omega)
  have d3b : decide (1048576 < l0) = false := decide_eq_false (by omega)
  have d4b : decide (l1 < 0) = false := decide_eq_false (by omega)
  have d5b : decide (1048576 < l1) = true := decide_eq_true (by omega)
  go_wp2_with (fail)
  refine gen_w (P := fun W' => W'.heap[w.heap.size + 1]? = some (.cells #[.int .i64 0, .int .i64 0, .slice none 0 0, .int .i64 0, .int .i64 0, .int .i64 0] 42) ∧ Below w.heap.size w W') (Q := fun W' => bodyPost Tryd.prog _ _ _ _ W') ⟨?_, ?_⟩ ?_
  · exact heap_setCell_self (heap_setCell_self (heap_setCell_self (heap_setCell_self (heap_setCell_self (heap_setCell_self hA4 0 _) 1 _) 2 _) 3 _) 4 _) 5 _
  · exact below_st (below_st (below_st (below_st (below_st (below_st hb3 (by omega) _ _) (by omega) _ _) (by omega) _ _) (by omega) _ _) (by omega) _ _) (by omega) _ _
  rintro W ⟨hW, hbW⟩
  have hcW := block_cell hW
  refine bodyPost_ret (v := runV 1) ?_ rfl ⟨rfl, hbW⟩
  rw [results_cell_tmp (show Tryd.f10.results = _ from rfl)]
  go_simp
  rfl
set_option maxHeartbeats 8000000 in
set_option maxRecDepth 20000 in
theorem run0_bad6 (w : World) (A : Option Addr) (n c : Nat) (c0 er : Int) (s : ByteArray) (p l0 l1 l2 : Int) (hC : ∀ w2, Below w.heap.size w w2 → Calls Tryd.prog 21 #[.slice A n c] w2 fun e w' => e = .returned (.tuple #[.int .i64 c0, .int .i64 er]) ∧ Below w2.heap.size w2 w') (he : er = 0) (hs : ¬ (65536 : Int) < s.size) (d0 : ¬ p < 0) (d1 : ¬ (s.size : Int) < p) (d2 : ¬ l0 < 0) (d3 : ¬ 1048576 < l0) (d4 : ¬ l1 < 0) (d5 : ¬ 1048576 < l1) (d6 : l2 < 0) :
    Calls Tryd.prog 10 #[.slice A n c, .string s, .int .i64 p, .agg #[.int .i64 l0, .int .i64 l1, .int .i64 l2]] w fun e w' => e = .returned (runV 1) ∧ Below w.heap.size w w' := by
  have hb0 := below_al (below_al (Below.refl w.heap.size w) (.cells #[.int .i64 l0, .int .i64 l1, .int .i64 l2] 36)) (.cells #[.int .i64 0, .int .i64 0, .slice none 0 0, .int .i64 0, .int .i64 0, .int .i64 0] 42)
  have hA := alloc_old (y := (.cells #[.int .i64 0, .int .i64 0, .slice none 0 0, .int .i64 0, .int .i64 0, .int .i64 0] 42)) (alloc_new w (.cells #[.int .i64 l0, .int .i64 l1, .int .i64 l2] 36))
  have hA2 : ((w.alloc (.cells #[.int .i64 l0, .int .i64 l1, .int .i64 l2] 36)).alloc (.cells #[.int .i64 0, .int .i64 0, .slice none 0 0, .int .i64 0, .int .i64 0, .int .i64 0] 42)).heap[w.heap.size + 1]? = _ := alloc_new_at _ (show w.heap.size + 1 = (w.heap.push _).size by simp)
  go_enter Tryd.func10, Tryd.ntmps10
  go_wp2_with (fail)
  with_reducible refine (hC _ hb0).mono ?_
  rintro e w2 ⟨rfl, hb2⟩
  have hA3 := keep hb2 hA
  have hA4 := keep hb2 hA2
  have hb3 := hb0.trans ⟨hb2.os, hb2.tape, hb2.output, hb2.size, fun i hi => hb2.block i (Nat.lt_of_lt_of_le hi hb0.size)⟩
  have hlt := block_lt hA4
  have hc7 := block_cell hA3
  have hc8 := block_cell hA4
  have hf7 := block_free hA3
  have hf8 := block_free hA4
  clear hA hA2 hb0 hb2
  have he2 : (er != 0) = false := by subst he; rfl
  have hs2 : decide ((65536 : Int) < (s.size : Int)) = false := decide_eq_false (by omega)
  have d0b : decide (p < 0) = false := decide_eq_false (by omega)
  have d1b : decide ((s.size : Int) < p) = false := decide_eq_false (by omega)
  have d2b : decide (l0 < 0) = false := decide_eq_false (by omega)
  have d3b : decide (1048576 < l0) = false := decide_eq_false (by omega)
  have d4b : decide (l1 < 0) = false := decide_eq_false (by omega)
  have d5b : decide (1048576 < l1) = false := decide_eq_false (by omega)
  have d6b : decide (l2 < 0) = true := decide_eq_true (by omega)
  go_wp2_with (fail)
  refine gen_w (P := fun W' => W'.heap[w.heap.size + 1]? = some (.cells #[.int .i64 0, .int .i64 0, .slice none 0 0, .int .i64 0, .int .i64 0, .int .i64 0] 42) ∧ Below w.heap.size w W') (Q := fun W' => bodyPost Tryd.prog _ _ _ _ W') ⟨?_, ?_⟩ ?_
  · exact heap_setCell_self (heap_setCell_self (heap_setCell_self (heap_setCell_self (heap_setCell_self (heap_setCell_self hA4 0 _) 1 _) 2 _) 3 _) 4 _) 5 _
  · exact below_st (below_st (below_st (below_st (below_st (below_st hb3 (by omega) _ _) (by omega) _ _) (by omega) _ _) (by omega) _ _) (by omega) _ _) (by omega) _ _
  rintro W ⟨hW, hbW⟩
  have hcW := block_cell hW
  refine bodyPost_ret (v := runV 1) ?_ rfl ⟨rfl, hbW⟩
  rw [results_cell_tmp (show Tryd.f10.results = _ from rfl)]
  go_simp
  rfl
set_option maxHeartbeats 8000000 in
set_option maxRecDepth 20000 in
theorem run0_bad7 (w : World) (A : Option Addr) (n c : Nat) (c0 er : Int) (s : ByteArray) (p l0 l1 l2 : Int) (hC : ∀ w2, Below w.heap.size w w2 → Calls Tryd.prog 21 #[.slice A n c] w2 fun e w' => e = .returned (.tuple #[.int .i64 c0, .int .i64 er]) ∧ Below w2.heap.size w2 w') (he : er = 0) (hs : ¬ (65536 : Int) < s.size) (d0 : ¬ p < 0) (d1 : ¬ (s.size : Int) < p) (d2 : ¬ l0 < 0) (d3 : ¬ 1048576 < l0) (d4 : ¬ l1 < 0) (d5 : ¬ 1048576 < l1) (d6 : ¬ l2 < 0) (d7 : 1073741824 < l2) :
    Calls Tryd.prog 10 #[.slice A n c, .string s, .int .i64 p, .agg #[.int .i64 l0, .int .i64 l1, .int .i64 l2]] w fun e w' => e = .returned (runV 1) ∧ Below w.heap.size w w' := by
  have hb0 := below_al (below_al (Below.refl w.heap.size w) (.cells #[.int .i64 l0, .int .i64 l1, .int .i64 l2] 36)) (.cells #[.int .i64 0, .int .i64 0, .slice none 0 0, .int .i64 0, .int .i64 0, .int .i64 0] 42)
  have hA := alloc_old (y := (.cells #[.int .i64 0, .int .i64 0, .slice none 0 0, .int .i64 0, .int .i64 0, .int .i64 0] 42)) (alloc_new w (.cells #[.int .i64 l0, .int .i64 l1, .int .i64 l2] 36))
  have hA2 : ((w.alloc (.cells #[.int .i64 l0, .int .i64 l1, .int .i64 l2] 36)).alloc (.cells #[.int .i64 0, .int .i64 0, .slice none 0 0, .int .i64 0, .int .i64 0, .int .i64 0] 42)).heap[w.heap.size + 1]? = _ := alloc_new_at _ (show w.heap.size + 1 = (w.heap.push _).size by simp)
  go_enter Tryd.func10, Tryd.ntmps10
  go_wp2_with (fail)
  with_reducible refine (hC _ hb0).mono ?_
  rintro e w2 ⟨rfl, hb2⟩
  have hA3 := keep hb2 hA
  have hA4 := keep hb2 hA2
  have hb3 := hb0.trans ⟨hb2.os, hb2.tape, hb2.output, hb2.size, fun i hi => hb2.block i (Nat.lt_of_lt_of_le hi hb0.size)⟩
  have hlt := block_lt hA4
  have hc7 := block_cell hA3
  have hc8 := block_cell hA4
  have hf7 := block_free hA3
  have hf8 := block_free hA4
  clear hA hA2 hb0 hb2
  have he2 : (er != 0) = false := by subst he; rfl
  have hs2 : decide ((65536 : Int) < (s.size : Int)) = false := decide_eq_false (by omega)
  have d0b : decide (p < 0) = false := decide_eq_false (by omega)
  have d1b : decide ((s.size : Int) < p) = false := decide_eq_false (by omega)
  have d2b : decide (l0 < 0) = false := decide_eq_false (by omega)
  have d3b : decide (1048576 < l0) = false := decide_eq_false (by omega)
  have d4b : decide (l1 < 0) = false := decide_eq_false (by omega)
  have d5b : decide (1048576 < l1) = false := decide_eq_false (by omega)
  have d6b : decide (l2 < 0) = false := decide_eq_false (by omega)
  have d7b : decide (1073741824 < l2) = true := decide_eq_true (by omega)
  go_wp2_with (fail)
  refine gen_w (P := fun W' => W'.heap[w.heap.size + 1]? = some (.cells #[.int .i64 0, .int .i64 0, .slice none 0 0, .int .i64 0, .int .i64 0, .int .i64 0] 42) ∧ Below w.heap.size w W') (Q := fun W' => bodyPost Tryd.prog _ _ _ _ W') ⟨?_, ?_⟩ ?_
  · exact heap_setCell_self (heap_setCell_self (heap_setCell_self (heap_setCell_self (heap_setCell_self (heap_setCell_self hA4 0 _) 1 _) 2 _) 3 _) 4 _) 5 _
  · exact below_st (below_st (below_st (below_st (below_st (below_st hb3 (by omega) _ _) (by omega) _ _) (by omega) _ _) (by omega) _ _) (by omega) _ _) (by omega) _ _
  rintro W ⟨hW, hbW⟩
  have hcW := block_cell hW
  refine bodyPost_ret (v := runV 1) ?_ rfl ⟨rfl, hbW⟩
  rw [results_cell_tmp (show Tryd.f10.results = _ from rfl)]
  go_simp
  rfl
set_option maxHeartbeats 8000000 in
set_option maxRecDepth 20000 in
theorem run0_none (w : World) (A : Option Addr) (n c : Nat) (c0 er : Int) (s : ByteArray) (p l0 l1 l2 : Int) (hC : ∀ w2, Below w.heap.size w w2 → Calls Tryd.prog 21 #[.slice A n c] w2 fun e w' => e = .returned (.tuple #[.int .i64 c0, .int .i64 er]) ∧ Below w2.heap.size w2 w') (hT : ∀ w2, Calls Tryd.prog 22 #[] w2 fun e w' => (∃ v, e = .returned v) ∧ Below w2.heap.size w2 w') (he : er = 0) (hs : ¬ (65536 : Int) < s.size) (d0 : ¬ p < 0) (d1 : ¬ (s.size : Int) < p) (d2 : ¬ l0 < 0) (d3 : ¬ 1048576 < l0) (d4 : ¬ l1 < 0) (d5 : ¬ 1048576 < l1) (d6 : ¬ l2 < 0) (d7 : ¬ 1073741824 < l2) (h0 : l2 ≤ 0) :
    Calls Tryd.prog 10 #[.slice A n c, .string s, .int .i64 p, .agg #[.int .i64 l0, .int .i64 l1, .int .i64 l2]] w fun e w' => e = .returned (runV 212) ∧ Below w.heap.size w w' := by
  have hb0 := below_al (below_al (Below.refl w.heap.size w) (.cells #[.int .i64 l0, .int .i64 l1, .int .i64 l2] 36)) (.cells #[.int .i64 0, .int .i64 0, .slice none 0 0, .int .i64 0, .int .i64 0, .int .i64 0] 42)
  have hA := alloc_old (y := (.cells #[.int .i64 0, .int .i64 0, .slice none 0 0, .int .i64 0, .int .i64 0, .int .i64 0] 42)) (alloc_new w (.cells #[.int .i64 l0, .int .i64 l1, .int .i64 l2] 36))
  have hA2 : ((w.alloc (.cells #[.int .i64 l0, .int .i64 l1, .int .i64 l2] 36)).alloc (.cells #[.int .i64 0, .int .i64 0, .slice none 0 0, .int .i64 0, .int .i64 0, .int .i64 0] 42)).heap[w.heap.size + 1]? = _ := alloc_new_at _ (show w.heap.size + 1 = (w.heap.push _).size by simp)
  go_enter Tryd.func10, Tryd.ntmps10
  go_wp2_with (fail)
  with_reducible refine (hC _ hb0).mono ?_
  rintro e w2 ⟨rfl, hb2⟩
  have hA3 := keep hb2 hA
  have hA4 := keep hb2 hA2
  have hb3 := hb0.trans ⟨hb2.os, hb2.tape, hb2.output, hb2.size, fun i hi => hb2.block i (Nat.lt_of_lt_of_le hi hb0.size)⟩
  have hlt := block_lt hA4
  have hc7 := block_cell hA3
  have hc8 := block_cell hA4
  have hf7 := block_free hA3
  have hf8 := block_free hA4
  clear hA hA2 hb0 hb2
  have he2 : (er != 0) = false := by subst he; rfl
  have h0b : decide (l2 ≤ 0) = true := decide_eq_true (by omega)
  have hs2 : decide ((65536 : Int) < (s.size : Int)) = false := decide_eq_false (by omega)
  have d0b : decide (p < 0) = false := decide_eq_false (by omega)
  have d1b : decide ((s.size : Int) < p) = false := decide_eq_false (by omega)
  have d2b : decide (l0 < 0) = false := decide_eq_false (by omega)
  have d3b : decide (1048576 < l0) = false := decide_eq_false (by omega)
  have d4b : decide (l1 < 0) = false := decide_eq_false (by omega)
  have d5b : decide (1048576 < l1) = false := decide_eq_false (by omega)
  have d6b : decide (l2 < 0) = false := decide_eq_false (by omega)
  have d7b : decide (1073741824 < l2) = false := decide_eq_false (by omega)
  go_wp2_with (fail)
  have hM := alloc_new w2 (.cells #[.slice A n c, .string s, .int .i64 l0, .int .i64 l1, .int .i64 l2, .int .i64 0, .int .i64 p, .slice none 0 0, .slice none 0 0, .int .i64 0, .int .i64 0, .slice none 0 0, .int .i64 0, .int .i64 0, .int .i64 0, .int .i64 0] 74)
  have hA5 := alloc_old (y := (.cells #[.slice A n c, .string s, .int .i64 l0, .int .i64 l1, .int .i64 l2, .int .i64 0, .int .i64 p, .slice none 0 0, .slice none 0 0, .int .i64 0, .int .i64 0, .slice none 0 0, .int .i64 0, .int .i64 0, .int .i64 0, .int .i64 0] 74)) hA3
  have hA6 := alloc_old (y := (.cells #[.slice A n c, .string s, .int .i64 l0, .int .i64 l1, .int .i64 l2, .int .i64 0, .int .i64 p, .slice none 0 0, .slice none 0 0, .int .i64 0, .int .i64 0, .slice none 0 0, .int .i64 0, .int .i64 0, .int .i64 0, .int .i64 0] 74)) hA4
  have hb5 := below_al hb3 (.cells #[.slice A n c, .string s, .int .i64 l0, .int .i64 l1, .int .i64 l2, .int .i64 0, .int .i64 p, .slice none 0 0, .slice none 0 0, .int .i64 0, .int .i64 0, .slice none 0 0, .int .i64 0, .int .i64 0, .int .i64 0, .int .i64 0] 74)
  with_reducible refine (hT _).mono ?_
  rintro e w5 ⟨⟨v5, rfl⟩, hb6⟩
  have hM5 := keep hb6 hM
  have hA7 := keep hb6 hA5
  have hA8 := keep hb6 hA6
  have hb7 := hb5.trans ⟨hb6.os, hb6.tape, hb6.output, hb6.size, fun i hi => hb6.block i (Nat.lt_of_lt_of_le hi hb5.size)⟩
  clear hM hA5 hA6 hb5 hb6 hA3 hA4 hb3 hc7 hc8 hf7 hf8
  have hlt5 := block_lt hM5
  have hc7 := block_cell hA7
  have hc8 := block_cell hA8
  have hcM := block_cell hM5
  have hf8 := block_free hA8
  generalize w2.heap.size = q at *
  go_wp2_with (fail)
  refine wp_loop_rounds 1 ?_
  rw [rounds_succ]
  go_wp2_with (fail)
  go_quiet (fail)
  go_wp2_with (fail)
  (try simp only [Exit.inBlock, Exit.then])
  have hA4 : (w5.drewN nq).heap[w.heap.size + 1]? = _ := hA8
  have hb3 : Below w.heap.size w (w5.drewN nq) := ⟨hb7.os, hb7.tape, hb7.output, hb7.size, hb7.block⟩
  refine gen_w (P := fun W' => W'.heap[w.heap.size + 1]? = some (.cells #[.int .i64 0, .int .i64 0, .slice none 0 0, .int .i64 0, .int .i64 0, .int .i64 0] 42) ∧ Below w.heap.size w W') (Q := fun W' => bodyPost Tryd.prog _ _ _ _ W') ⟨?_, ?_⟩ ?_
  · exact heap_setCell_self (heap_setCell_self (heap_setCell_self (heap_setCell_self (heap_setCell_self (heap_setCell_self hA4 0 _) 1 _) 2 _) 3 _) 4 _) 5 _
  · exact below_st (below_st (below_st (below_st (below_st (below_st hb3 (by omega) _ _) (by omega) _ _) (by omega) _ _) (by omega) _ _) (by omega) _ _) (by omega) _ _
  rintro W ⟨hW, hbW⟩
  have hcW := block_cell hW
  refine bodyPost_ret (v := runV 212) ?_ rfl ⟨rfl, hbW⟩
  rw [results_cell_tmp (show Tryd.f10.results = _ from rfl)]
  go_simp
  rfl
/-- What Run refuses; none: it goes on to its first step. -/
def run0E (er sz p l0 l1 l2 : Int) : Option Int := if er ≠ 0 then some er else if 65536 < sz then some 2 else if p < 0 then some 1 else if sz < p then some 1 else if l0 < 0 then some 1 else if 1048576 < l0 then some 1 else if l1 < 0 then some 1 else if 1048576 < l1 then some 1 else if l2 < 0 then some 1 else if 1073741824 < l2 then some 1 else if l2 ≤ 0 then some 212 else none
theorem run0_any (w : World) (A : Option Addr) (n c : Nat) (c0 er : Int) (s : ByteArray) (p l0 l1 l2 : Int) (hC : ∀ w2, Below w.heap.size w w2 → Calls Tryd.prog 21 #[.slice A n c] w2 fun e w' => e = .returned (.tuple #[.int .i64 c0, .int .i64 er]) ∧ Below w2.heap.size w2 w') (hT : ∀ w2, Calls Tryd.prog 22 #[] w2 fun e w' => (∃ v, e = .returned v) ∧ Below w2.heap.size w2 w') (r : Int) (h : run0E er (s.size : Int) p l0 l1 l2 = some r) :
    Calls Tryd.prog 10 #[.slice A n c, .string s, .int .i64 p, .agg #[.int .i64 l0, .int .i64 l1, .int .i64 l2]] w fun e w' => e = .returned (runV r) ∧ Below w.heap.size w w' := by
  unfold run0E at h
  by_cases he : er ≠ 0
  · rw [if_pos he] at h; injection h with h; subst h; exact run0_chk w A n c c0 er s p l0 l1 l2 hC he
  rw [if_neg he] at h
  have he : er = 0 := by omega
  by_cases hs : (65536 : Int) < (s.size : Int)
  · rw [if_pos hs] at h; injection h with h; subst h; exact run0_long w A n c c0 er s p l0 l1 l2 hC he hs
  rw [if_neg hs] at h
  by_cases d0 : p < 0
  · rw [if_pos d0] at h; injection h with h; subst h; exact run0_bad0 w A n c c0 er s p l0 l1 l2 hC he hs d0
  rw [if_neg d0] at h
  by_cases d1 : (s.size : Int) < p
  · rw [if_pos d1] at h; injection h with h; subst h; exact run0_bad1 w A n c c0 er s p l0 l1 l2 hC he hs d0 d1
  rw [if_neg d1] at h
  by_cases d2 : l0 < 0
  · rw [if_pos d2] at h; injection h with h; subst h; exact run0_bad2 w A n c c0 er s p l0 l1 l2 hC he hs d0 d1 d2
  rw [if_neg d2] at h
  by_cases d3 : 1048576 < l0
  · rw [if_pos d3] at h; injection h with h; subst h; exact run0_bad3 w A n c c0 er s p l0 l1 l2 hC he hs d0 d1 d2 d3
  rw [if_neg d3] at h
  by_cases d4 : l1 < 0
  · rw [if_pos d4] at h; injection h with h; subst h; exact run0_bad4 w A n c c0 er s p l0 l1 l2 hC he hs d0 d1 d2 d3 d4
  rw [if_neg d4] at h
  by_cases d5 : 1048576 < l1
  · rw [if_pos d5] at h; injection h with h; subst h; exact run0_bad5 w A n c c0 er s p l0 l1 l2 hC he hs d0 d1 d2 d3 d4 d5
  rw [if_neg d5] at h
  by_cases d6 : l2 < 0
  · rw [if_pos d6] at h; injection h with h; subst h; exact run0_bad6 w A n c c0 er s p l0 l1 l2 hC he hs d0 d1 d2 d3 d4 d5 d6
  rw [if_neg d6] at h
  by_cases d7 : 1073741824 < l2
  · rw [if_pos d7] at h; injection h with h; subst h; exact run0_bad7 w A n c c0 er s p l0 l1 l2 hC he hs d0 d1 d2 d3 d4 d5 d6 d7
  rw [if_neg d7] at h
  by_cases h0 : l2 ≤ 0
  · rw [if_pos h0] at h; injection h with h; subst h; exact run0_none w A n c c0 er s p l0 l1 l2 hC hT he hs d0 d1 d2 d3 d4 d5 d6 d7 h0
  rw [if_neg h0] at h
  cases h
end Go.Proofs.YthjlpcecfkboiabDoor
