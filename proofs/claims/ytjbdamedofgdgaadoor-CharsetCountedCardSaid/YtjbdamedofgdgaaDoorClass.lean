/-
  charset.small, Class and the reference's Class: what each returns, for every letter; what lay in memory stays as it was.
-/
import Derived.Test.YtjbdamedofgdgaaDoorSpan
import Derived.Test.YtjbdamedofgdgaaDoorMix
import Derived.Test.YtjbdamedofgdgaaDoorClassP
namespace Go.Proofs.YtjbdamedofgdgaaDoor
open Go.RowKit
set_option linter.unusedVariables false
set_option linter.unusedSimpArgs false

theorem sp_65_90 (w : World) : Calls Tryd.prog 43 #[.int .i64 65, .int .i64 90] w fun e w' => e = .returned (.agg #[.int .u64 (W (rngP 65 91) 0), .int .u64 (W (rngP 65 91) 1), .int .u64 (W (rngP 65 91) 2), .int .u64 (W (rngP 65 91) 3)]) ∧ Below w.heap.size w w' := span_any 65 90 (by decide) (by decide) w
theorem sp_97_122 (w : World) : Calls Tryd.prog 43 #[.int .i64 97, .int .i64 122] w fun e w' => e = .returned (.agg #[.int .u64 (W (rngP 97 123) 0), .int .u64 (W (rngP 97 123) 1), .int .u64 (W (rngP 97 123) 2), .int .u64 (W (rngP 97 123) 3)]) ∧ Below w.heap.size w w' := span_any 97 122 (by decide) (by decide) w
theorem sp_48_57 (w : World) : Calls Tryd.prog 43 #[.int .i64 48, .int .i64 57] w fun e w' => e = .returned (.agg #[.int .u64 (W (rngP 48 58) 0), .int .u64 (W (rngP 48 58) 1), .int .u64 (W (rngP 48 58) 2), .int .u64 (W (rngP 48 58) 3)]) ∧ Below w.heap.size w w' := span_any 48 57 (by decide) (by decide) w
theorem sp_0_31 (w : World) : Calls Tryd.prog 43 #[.int .i64 0, .int .i64 31] w fun e w' => e = .returned (.agg #[.int .u64 (W (rngP 0 32) 0), .int .u64 (W (rngP 0 32) 1), .int .u64 (W (rngP 0 32) 2), .int .u64 (W (rngP 0 32) 3)]) ∧ Below w.heap.size w w' := span_any 0 31 (by decide) (by decide) w
theorem sp_33_126 (w : World) : Calls Tryd.prog 43 #[.int .i64 33, .int .i64 126] w fun e w' => e = .returned (.agg #[.int .u64 (W (rngP 33 127) 0), .int .u64 (W (rngP 33 127) 1), .int .u64 (W (rngP 33 127) 2), .int .u64 (W (rngP 33 127) 3)]) ∧ Below w.heap.size w w' := span_any 33 126 (by decide) (by decide) w
theorem sp_9_13 (w : World) : Calls Tryd.prog 43 #[.int .i64 9, .int .i64 13] w fun e w' => e = .returned (.agg #[.int .u64 (W (rngP 9 14) 0), .int .u64 (W (rngP 9 14) 1), .int .u64 (W (rngP 9 14) 2), .int .u64 (W (rngP 9 14) 3)]) ∧ Below w.heap.size w w' := span_any 9 13 (by decide) (by decide) w
theorem sp_65_70 (w : World) : Calls Tryd.prog 43 #[.int .i64 65, .int .i64 70] w fun e w' => e = .returned (.agg #[.int .u64 (W (rngP 65 71) 0), .int .u64 (W (rngP 65 71) 1), .int .u64 (W (rngP 65 71) 2), .int .u64 (W (rngP 65 71) 3)]) ∧ Below w.heap.size w w' := span_any 65 70 (by decide) (by decide) w
theorem sp_97_102 (w : World) : Calls Tryd.prog 43 #[.int .i64 97, .int .i64 102] w fun e w' => e = .returned (.agg #[.int .u64 (W (rngP 97 103) 0), .int .u64 (W (rngP 97 103) 1), .int .u64 (W (rngP 97 103) 2), .int .u64 (W (rngP 97 103) 3)]) ∧ Below w.heap.size w w' := span_any 97 102 (by decide) (by decide) w


theorem wi_127 (w : World) : Calls Tryd.prog 33 #[.agg #[.int .u64 (W (rngP 0 32) 0), .int .u64 (W (rngP 0 32) 1), .int .u64 (W (rngP 0 32) 2), .int .u64 (W (rngP 0 32) 3)], .int .i64 127] w fun e w' => e = .returned (.agg #[.int .u64 (W (ins (rngP 0 32) 127) 0), .int .u64 (W (ins (rngP 0 32) 127) 1), .int .u64 (W (ins (rngP 0 32) 127) 2), .int .u64 (W (ins (rngP 0 32) 127) 3)]) ∧ Below w.heap.size w w' := with_any (rngP 0 32) 127 (by decide) w
theorem wi_32 (w : World) : Calls Tryd.prog 33 #[.agg #[.int .u64 (W (rngP 9 14) 0), .int .u64 (W (rngP 9 14) 1), .int .u64 (W (rngP 9 14) 2), .int .u64 (W (rngP 9 14) 3)], .int .i64 32] w fun e w' => e = .returned (.agg #[.int .u64 (W (ins (rngP 9 14) 32) 0), .int .u64 (W (ins (rngP 9 14) 32) 1), .int .u64 (W (ins (rngP 9 14) 32) 2), .int .u64 (W (ins (rngP 9 14) 32) 3)]) ∧ Below w.heap.size w w' := with_any (rngP 9 14) 32 (by decide) w

theorem rwi_127 (w : World) : Calls Tryd.prog 34 #[.agg #[.int .u64 (W (rngP 0 32) 0), .int .u64 (W (rngP 0 32) 1), .int .u64 (W (rngP 0 32) 2), .int .u64 (W (rngP 0 32) 3)], .int .i64 127] w fun e w' => e = .returned (.agg #[.int .u64 (W (ins (rngP 0 32) 127) 0), .int .u64 (W (ins (rngP 0 32) 127) 1), .int .u64 (W (ins (rngP 0 32) 127) 2), .int .u64 (W (ins (rngP 0 32) 127) 3)]) ∧ Below w.heap.size w w' := rwith_any (rngP 0 32) 127 (by decide) w
theorem rwi_32 (w : World) : Calls Tryd.prog 34 #[.agg #[.int .u64 (W (rngP 9 14) 0), .int .u64 (W (rngP 9 14) 1), .int .u64 (W (rngP 9 14) 2), .int .u64 (W (rngP 9 14) 3)], .int .i64 32] w fun e w' => e = .returned (.agg #[.int .u64 (W (ins (rngP 9 14) 32) 0), .int .u64 (W (ins (rngP 9 14) 32) 1), .int .u64 (W (ins (rngP 9 14) 32) 2), .int .u64 (W (ins (rngP 9 14) 32) 3)]) ∧ Below w.heap.size w w' := rwith_any (rngP 9 14) 32 (by decide) w


set_option maxHeartbeats 4000000 in
set_option maxRecDepth 20000 in
theorem small_97 (w : World) : Calls Tryd.prog 55 #[.int .u8 97] w fun e w' => e = .returned (.tuple #[.agg #[.int .u64 (W (uni (rngP 65 91) (rngP 97 123)) 0), .int .u64 (W (uni (rngP 65 91) (rngP 97 123)) 1), .int .u64 (W (uni (rngP 65 91) (rngP 97 123)) 2), .int .u64 (W (uni (rngP 65 91) (rngP 97 123)) 3)], .bool true]) ∧ Below w.heap.size w w' := by
  go_enter Tryd.func55, Tryd.ntmps55
  go_wp2_with (first | (go_at_call 43; with_reducible refine Calls.mono (sp_65_90 _) ?_; rintro e w1 ⟨rfl, hb1⟩; have hR1 := below_heap hb1 (b := w.heap.size) (by simp) (alloc_new _ _)) | (go_at_call 43; with_reducible refine Calls.mono (sp_97_122 _) ?_; rintro e w2 ⟨rfl, hb2⟩; have hR2 := below_heap hb2 (b := w.heap.size) (block_lt hR1) hR1) | (go_at_call 43; with_reducible refine Calls.mono (sp_48_57 _) ?_; rintro e w3 ⟨rfl, hb3⟩; have hR3 := below_heap hb3 (b := w.heap.size) (block_lt hR2) hR2) | (go_at_call 27; with_reducible refine Calls.mono (union_any (rngP 65 91) (rngP 97 123) _) ?_; rintro e w4 ⟨rfl, hb4⟩; have hR4 := below_heap hb4 (b := w.heap.size) (by have := block_lt hR3; simp; omega) (alloc_old (alloc_old (alloc_old hR3))); have hX0 := below_heap hb4 (b := w3.heap.size) (by simp <;> omega) (alloc_old (alloc_old (alloc_new _ _))); have hX1 := below_heap hb4 (b := w3.heap.size + 1) (by simp <;> omega) (alloc_old (by have h := alloc_new (w3.alloc (.cells #[.int .u64 (W (rngP 65 91) 0), .int .u64 (W (rngP 65 91) 1), .int .u64 (W (rngP 65 91) 2), .int .u64 (W (rngP 65 91) 3)] 24)) (.cells #[.int .u64 (W (rngP 97 123) 0), .int .u64 (W (rngP 97 123) 1), .int .u64 (W (rngP 97 123) 2), .int .u64 (W (rngP 97 123) 3)] 24); simpa using h)); have hX2 := below_heap hb4 (b := w3.heap.size + 1 + 1) (by simp <;> omega) (by have h := alloc_new ((w3.alloc (.cells #[.int .u64 (W (rngP 65 91) 0), .int .u64 (W (rngP 65 91) 1), .int .u64 (W (rngP 65 91) 2), .int .u64 (W (rngP 65 91) 3)] 24)).alloc (.cells #[.int .u64 (W (rngP 97 123) 0), .int .u64 (W (rngP 97 123) 1), .int .u64 (W (rngP 97 123) 2), .int .u64 (W (rngP 97 123) 3)] 24)) (.cells #[.int .u64 (W (rngP 48 58) 0), .int .u64 (W (rngP 48 58) 1), .int .u64 (W (rngP 48 58) 2), .int .u64 (W (rngP 48 58) 3)] 24); simpa using h); have hR5 := alloc_old (y := .cells #[.int .u64 (W (uni (rngP 65 91) (rngP 97 123)) 0), .int .u64 (W (uni (rngP 65 91) (rngP 97 123)) 1), .int .u64 (W (uni (rngP 65 91) (rngP 97 123)) 2), .int .u64 (W (uni (rngP 65 91) (rngP 97 123)) 3)] 24) hR4; have hst := block_free hR5; have hcr := block_cell hR5))
  have b1 := ((Below.refl w.heap.size w).alloc (Nat.le_refl _) (.cells #[.int .u64 0, .int .u64 0, .int .u64 0, .int .u64 0] 24)).trans (hb1.mono (by simp))
  have b2 := b1.trans (hb2.mono b1.size)
  have b3 := b2.trans (hb3.mono b2.size)
  have z3 := b3.size
  have b4 := (((b3.alloc z3 (.cells #[.int .u64 (W (rngP 65 91) 0), .int .u64 (W (rngP 65 91) 1), .int .u64 (W (rngP 65 91) 2), .int .u64 (W (rngP 65 91) 3)] 24)).alloc (by simp; omega) (.cells #[.int .u64 (W (rngP 97 123) 0), .int .u64 (W (rngP 97 123) 1), .int .u64 (W (rngP 97 123) 2), .int .u64 (W (rngP 97 123) 3)] 24)).alloc (by simp; omega) (.cells #[.int .u64 (W (rngP 48 58) 0), .int .u64 (W (rngP 48 58) 1), .int .u64 (W (rngP 48 58) 2), .int .u64 (W (rngP 48 58) 3)] 24)).trans (hb4.mono (by simp; omega))
  have z4 := b4.size
  have b5 := b4.alloc z4 (.cells #[.int .u64 (W (uni (rngP 65 91) (rngP 97 123)) 0), .int .u64 (W (uni (rngP 65 91) (rngP 97 123)) 1), .int .u64 (W (uni (rngP 65 91) (rngP 97 123)) 2), .int .u64 (W (uni (rngP 65 91) (rngP 97 123)) 3)] 24)
  have z5 := b5.size
  have hfin := set4 hR5 (.int .u64 (W (uni (rngP 65 91) (rngP 97 123)) 0)) (.int .u64 (W (uni (rngP 65 91) (rngP 97 123)) 1)) (.int .u64 (W (uni (rngP 65 91) (rngP 97 123)) 2)) (.int .u64 (W (uni (rngP 65 91) (rngP 97 123)) 3))
  have hfc := block_cell hfin
  clear hfin
  exact bodyPost_ret (v := .tuple #[.agg #[.int .u64 (W (uni (rngP 65 91) (rngP 97 123)) 0), .int .u64 (W (uni (rngP 65 91) (rngP 97 123)) 1), .int .u64 (W (uni (rngP 65 91) (rngP 97 123)) 2), .int .u64 (W (uni (rngP 65 91) (rngP 97 123)) 3)], .bool true]) (by simp [results, Tryd.results55, go_sem, hfc]) rfl ⟨rfl, below_set4 (b5) (Nat.le_refl _) _ _ _ _⟩

set_option maxHeartbeats 4000000 in
set_option maxRecDepth 20000 in
theorem small_99 (w : World) : Calls Tryd.prog 55 #[.int .u8 99] w fun e w' => e = .returned (.tuple #[.agg #[.int .u64 (W (ins (rngP 0 32) 127) 0), .int .u64 (W (ins (rngP 0 32) 127) 1), .int .u64 (W (ins (rngP 0 32) 127) 2), .int .u64 (W (ins (rngP 0 32) 127) 3)], .bool true]) ∧ Below w.heap.size w w' := by
  go_enter Tryd.func55, Tryd.ntmps55
  go_wp2_with (first | (go_at_call 33; with_reducible refine Calls.mono (wi_127 _) ?_; rintro e w6 ⟨rfl, hb6⟩; have hR5 := below_heap hb6 (block_lt hR5') hR5'; have hst := block_free hR5; have hcr := block_cell hR5) | (go_at_call 43; with_reducible refine Calls.mono (sp_0_31 _) ?_; rintro e w5 ⟨rfl, hb5⟩; have hR5' := below_heap hb5 (b := w.heap.size) (by have := block_lt hR4; simp; omega) (alloc_old hR4)) | (go_at_call 43; with_reducible refine Calls.mono (sp_65_90 _) ?_; rintro e w1 ⟨rfl, hb1⟩; have hR1 := below_heap hb1 (b := w.heap.size) (by simp) (alloc_new _ _)) | (go_at_call 43; with_reducible refine Calls.mono (sp_97_122 _) ?_; rintro e w2 ⟨rfl, hb2⟩; have hR2 := below_heap hb2 (b := w.heap.size) (block_lt hR1) hR1) | (go_at_call 43; with_reducible refine Calls.mono (sp_48_57 _) ?_; rintro e w3 ⟨rfl, hb3⟩; have hR3 := below_heap hb3 (b := w.heap.size) (block_lt hR2) hR2) | (go_at_call 27; with_reducible refine Calls.mono (union_any (rngP 65 91) (rngP 97 123) _) ?_; rintro e w4 ⟨rfl, hb4⟩; have hR4 := below_heap hb4 (b := w.heap.size) (by have := block_lt hR3; simp; omega) (alloc_old (alloc_old (alloc_old hR3))); have hX0 := below_heap hb4 (b := w3.heap.size) (by simp <;> omega) (alloc_old (alloc_old (alloc_new _ _))); have hX1 := below_heap hb4 (b := w3.heap.size + 1) (by simp <;> omega) (alloc_old (by have h := alloc_new (w3.alloc (.cells #[.int .u64 (W (rngP 65 91) 0), .int .u64 (W (rngP 65 91) 1), .int .u64 (W (rngP 65 91) 2), .int .u64 (W (rngP 65 91) 3)] 24)) (.cells #[.int .u64 (W (rngP 97 123) 0), .int .u64 (W (rngP 97 123) 1), .int .u64 (W (rngP 97 123) 2), .int .u64 (W (rngP 97 123) 3)] 24); simpa using h)); have hX2 := below_heap hb4 (b := w3.heap.size + 1 + 1) (by simp <;> omega) (by have h := alloc_new ((w3.alloc (.cells #[.int .u64 (W (rngP 65 91) 0), .int .u64 (W (rngP 65 91) 1), .int .u64 (W (rngP 65 91) 2), .int .u64 (W (rngP 65 91) 3)] 24)).alloc (.cells #[.int .u64 (W (rngP 97 123) 0), .int .u64 (W (rngP 97 123) 1), .int .u64 (W (rngP 97 123) 2), .int .u64 (W (rngP 97 123) 3)] 24)) (.cells #[.int .u64 (W (rngP 48 58) 0), .int .u64 (W (rngP 48 58) 1), .int .u64 (W (rngP 48 58) 2), .int .u64 (W (rngP 48 58) 3)] 24); simpa using h)))
  have b1 := ((Below.refl w.heap.size w).alloc (Nat.le_refl _) (.cells #[.int .u64 0, .int .u64 0, .int .u64 0, .int .u64 0] 24)).trans (hb1.mono (by simp))
  have b2 := b1.trans (hb2.mono b1.size)
  have b3 := b2.trans (hb3.mono b2.size)
  have z3 := b3.size
  have b4 := (((b3.alloc z3 (.cells #[.int .u64 (W (rngP 65 91) 0), .int .u64 (W (rngP 65 91) 1), .int .u64 (W (rngP 65 91) 2), .int .u64 (W (rngP 65 91) 3)] 24)).alloc (by simp; omega) (.cells #[.int .u64 (W (rngP 97 123) 0), .int .u64 (W (rngP 97 123) 1), .int .u64 (W (rngP 97 123) 2), .int .u64 (W (rngP 97 123) 3)] 24)).alloc (by simp; omega) (.cells #[.int .u64 (W (rngP 48 58) 0), .int .u64 (W (rngP 48 58) 1), .int .u64 (W (rngP 48 58) 2), .int .u64 (W (rngP 48 58) 3)] 24)).trans (hb4.mono (by simp; omega))
  have z4 := b4.size
  have b5 := b4.alloc z4 (.cells #[.int .u64 (W (uni (rngP 65 91) (rngP 97 123)) 0), .int .u64 (W (uni (rngP 65 91) (rngP 97 123)) 1), .int .u64 (W (uni (rngP 65 91) (rngP 97 123)) 2), .int .u64 (W (uni (rngP 65 91) (rngP 97 123)) 3)] 24)
  have z5 := b5.size
  have hfin := set4 hR5 (.int .u64 (W (ins (rngP 0 32) 127) 0)) (.int .u64 (W (ins (rngP 0 32) 127) 1)) (.int .u64 (W (ins (rngP 0 32) 127) 2)) (.int .u64 (W (ins (rngP 0 32) 127) 3))
  have hfc := block_cell hfin
  clear hfin
  exact bodyPost_ret (v := .tuple #[.agg #[.int .u64 (W (ins (rngP 0 32) 127) 0), .int .u64 (W (ins (rngP 0 32) 127) 1), .int .u64 (W (ins (rngP 0 32) 127) 2), .int .u64 (W (ins (rngP 0 32) 127) 3)], .bool true]) (by simp [results, Tryd.results55, go_sem, hfc]) rfl ⟨rfl, below_set4 ((b5.trans (hb5.mono z5)).trans (hb6.mono (Nat.le_trans z5 hb5.size))) (Nat.le_refl _) _ _ _ _⟩

set_option maxHeartbeats 4000000 in
set_option maxRecDepth 20000 in
theorem small_100 (w : World) : Calls Tryd.prog 55 #[.int .u8 100] w fun e w' => e = .returned (.tuple #[.agg #[.int .u64 (W (rngP 48 58) 0), .int .u64 (W (rngP 48 58) 1), .int .u64 (W (rngP 48 58) 2), .int .u64 (W (rngP 48 58) 3)], .bool true]) ∧ Below w.heap.size w w' := by
  go_enter Tryd.func55, Tryd.ntmps55
  go_wp2_with (first | (go_at_call 43; with_reducible refine Calls.mono (sp_65_90 _) ?_; rintro e w1 ⟨rfl, hb1⟩; have hR1 := below_heap hb1 (b := w.heap.size) (by simp) (alloc_new _ _)) | (go_at_call 43; with_reducible refine Calls.mono (sp_97_122 _) ?_; rintro e w2 ⟨rfl, hb2⟩; have hR2 := below_heap hb2 (b := w.heap.size) (block_lt hR1) hR1) | (go_at_call 43; with_reducible refine Calls.mono (sp_48_57 _) ?_; rintro e w3 ⟨rfl, hb3⟩; have hR3 := below_heap hb3 (b := w.heap.size) (block_lt hR2) hR2) | (go_at_call 27; with_reducible refine Calls.mono (union_any (rngP 65 91) (rngP 97 123) _) ?_; rintro e w4 ⟨rfl, hb4⟩; have hR4 := below_heap hb4 (b := w.heap.size) (by have := block_lt hR3; simp; omega) (alloc_old (alloc_old (alloc_old hR3))); have hX0 := below_heap hb4 (b := w3.heap.size) (by simp <;> omega) (alloc_old (alloc_old (alloc_new _ _))); have hX1 := below_heap hb4 (b := w3.heap.size + 1) (by simp <;> omega) (alloc_old (by have h := alloc_new (w3.alloc (.cells #[.int .u64 (W (rngP 65 91) 0), .int .u64 (W (rngP 65 91) 1), .int .u64 (W (rngP 65 91) 2), .int .u64 (W (rngP 65 91) 3)] 24)) (.cells #[.int .u64 (W (rngP 97 123) 0), .int .u64 (W (rngP 97 123) 1), .int .u64 (W (rngP 97 123) 2), .int .u64 (W (rngP 97 123) 3)] 24); simpa using h)); have hX2 := below_heap hb4 (b := w3.heap.size + 1 + 1) (by simp <;> omega) (by have h := alloc_new ((w3.alloc (.cells #[.int .u64 (W (rngP 65 91) 0), .int .u64 (W (rngP 65 91) 1), .int .u64 (W (rngP 65 91) 2), .int .u64 (W (rngP 65 91) 3)] 24)).alloc (.cells #[.int .u64 (W (rngP 97 123) 0), .int .u64 (W (rngP 97 123) 1), .int .u64 (W (rngP 97 123) 2), .int .u64 (W (rngP 97 123) 3)] 24)) (.cells #[.int .u64 (W (rngP 48 58) 0), .int .u64 (W (rngP 48 58) 1), .int .u64 (W (rngP 48 58) 2), .int .u64 (W (rngP 48 58) 3)] 24); simpa using h); have hR5 := alloc_old (y := .cells #[.int .u64 (W (uni (rngP 65 91) (rngP 97 123)) 0), .int .u64 (W (uni (rngP 65 91) (rngP 97 123)) 1), .int .u64 (W (uni (rngP 65 91) (rngP 97 123)) 2), .int .u64 (W (uni (rngP 65 91) (rngP 97 123)) 3)] 24) hR4; have hst := block_free hR5; have hcr := block_cell hR5; have hcx := block_cell (alloc_old (y := .cells #[.int .u64 (W (uni (rngP 65 91) (rngP 97 123)) 0), .int .u64 (W (uni (rngP 65 91) (rngP 97 123)) 1), .int .u64 (W (uni (rngP 65 91) (rngP 97 123)) 2), .int .u64 (W (uni (rngP 65 91) (rngP 97 123)) 3)] 24) hX2)))
  have b1 := ((Below.refl w.heap.size w).alloc (Nat.le_refl _) (.cells #[.int .u64 0, .int .u64 0, .int .u64 0, .int .u64 0] 24)).trans (hb1.mono (by simp))
  have b2 := b1.trans (hb2.mono b1.size)
  have b3 := b2.trans (hb3.mono b2.size)
  have z3 := b3.size
  have b4 := (((b3.alloc z3 (.cells #[.int .u64 (W (rngP 65 91) 0), .int .u64 (W (rngP 65 91) 1), .int .u64 (W (rngP 65 91) 2), .int .u64 (W (rngP 65 91) 3)] 24)).alloc (by simp; omega) (.cells #[.int .u64 (W (rngP 97 123) 0), .int .u64 (W (rngP 97 123) 1), .int .u64 (W (rngP 97 123) 2), .int .u64 (W (rngP 97 123) 3)] 24)).alloc (by simp; omega) (.cells #[.int .u64 (W (rngP 48 58) 0), .int .u64 (W (rngP 48 58) 1), .int .u64 (W (rngP 48 58) 2), .int .u64 (W (rngP 48 58) 3)] 24)).trans (hb4.mono (by simp; omega))
  have z4 := b4.size
  have b5 := b4.alloc z4 (.cells #[.int .u64 (W (uni (rngP 65 91) (rngP 97 123)) 0), .int .u64 (W (uni (rngP 65 91) (rngP 97 123)) 1), .int .u64 (W (uni (rngP 65 91) (rngP 97 123)) 2), .int .u64 (W (uni (rngP 65 91) (rngP 97 123)) 3)] 24)
  have z5 := b5.size
  have hfin := set4 hR5 (.int .u64 (W (rngP 48 58) 0)) (.int .u64 (W (rngP 48 58) 1)) (.int .u64 (W (rngP 48 58) 2)) (.int .u64 (W (rngP 48 58) 3))
  have hfc := block_cell hfin
  clear hfin
  exact bodyPost_ret (v := .tuple #[.agg #[.int .u64 (W (rngP 48 58) 0), .int .u64 (W (rngP 48 58) 1), .int .u64 (W (rngP 48 58) 2), .int .u64 (W (rngP 48 58) 3)], .bool true]) (by simp [results, Tryd.results55, go_sem, hfc]) rfl ⟨rfl, below_set4 (b5) (Nat.le_refl _) _ _ _ _⟩

set_option maxHeartbeats 4000000 in
set_option maxRecDepth 20000 in
theorem small_103 (w : World) : Calls Tryd.prog 55 #[.int .u8 103] w fun e w' => e = .returned (.tuple #[.agg #[.int .u64 (W (rngP 33 127) 0), .int .u64 (W (rngP 33 127) 1), .int .u64 (W (rngP 33 127) 2), .int .u64 (W (rngP 33 127) 3)], .bool true]) ∧ Below w.heap.size w w' := by
  go_enter Tryd.func55, Tryd.ntmps55
  go_wp2_with (first | (go_at_call 43; with_reducible refine Calls.mono (sp_33_126 _) ?_; rintro e w5 ⟨rfl, hb5⟩; have hR5 := below_heap hb5 (b := w.heap.size) (by have := block_lt hR4; simp; omega) (alloc_old hR4); have hst := block_free hR5; have hcr := block_cell hR5) | (go_at_call 43; with_reducible refine Calls.mono (sp_65_90 _) ?_; rintro e w1 ⟨rfl, hb1⟩; have hR1 := below_heap hb1 (b := w.heap.size) (by simp) (alloc_new _ _)) | (go_at_call 43; with_reducible refine Calls.mono (sp_97_122 _) ?_; rintro e w2 ⟨rfl, hb2⟩; have hR2 := below_heap hb2 (b := w.heap.size) (block_lt hR1) hR1) | (go_at_call 43; with_reducible refine Calls.mono (sp_48_57 _) ?_; rintro e w3 ⟨rfl, hb3⟩; have hR3 := below_heap hb3 (b := w.heap.size) (block_lt hR2) hR2) | (go_at_call 27; with_reducible refine Calls.mono (union_any (rngP 65 91) (rngP 97 123) _) ?_; rintro e w4 ⟨rfl, hb4⟩; have hR4 := below_heap hb4 (b := w.heap.size) (by have := block_lt hR3; simp; omega) (alloc_old (alloc_old (alloc_old hR3))); have hX0 := below_heap hb4 (b := w3.heap.size) (by simp <;> omega) (alloc_old (alloc_old (alloc_new _ _))); have hX1 := below_heap hb4 (b := w3.heap.size + 1) (by simp <;> omega) (alloc_old (by have h := alloc_new (w3.alloc (.cells #[.int .u64 (W (rngP 65 91) 0), .int .u64 (W (rngP 65 91) 1), .int .u64 (W (rngP 65 91) 2), .int .u64 (W (rngP 65 91) 3)] 24)) (.cells #[.int .u64 (W (rngP 97 123) 0), .int .u64 (W (rngP 97 123) 1), .int .u64 (W (rngP 97 123) 2), .int .u64 (W (rngP 97 123) 3)] 24); simpa using h)); have hX2 := below_heap hb4 (b := w3.heap.size + 1 + 1) (by simp <;> omega) (by have h := alloc_new ((w3.alloc (.cells #[.int .u64 (W (rngP 65 91) 0), .int .u64 (W (rngP 65 91) 1), .int .u64 (W (rngP 65 91) 2), .int .u64 (W (rngP 65 91) 3)] 24)).alloc (.cells #[.int .u64 (W (rngP 97 123) 0), .int .u64 (W (rngP 97 123) 1), .int .u64 (W (rngP 97 123) 2), .int .u64 (W (rngP 97 123) 3)] 24)) (.cells #[.int .u64 (W (rngP 48 58) 0), .int .u64 (W (rngP 48 58) 1), .int .u64 (W (rngP 48 58) 2), .int .u64 (W (rngP 48 58) 3)] 24); simpa using h)))
  have b1 := ((Below.refl w.heap.size w).alloc (Nat.le_refl _) (.cells #[.int .u64 0, .int .u64 0, .int .u64 0, .int .u64 0] 24)).trans (hb1.mono (by simp))
  have b2 := b1.trans (hb2.mono b1.size)
  have b3 := b2.trans (hb3.mono b2.size)
  have z3 := b3.size
  have b4 := (((b3.alloc z3 (.cells #[.int .u64 (W (rngP 65 91) 0), .int .u64 (W (rngP 65 91) 1), .int .u64 (W (rngP 65 91) 2), .int .u64 (W (rngP 65 91) 3)] 24)).alloc (by simp; omega) (.cells #[.int .u64 (W (rngP 97 123) 0), .int .u64 (W (rngP 97 123) 1), .int .u64 (W (rngP 97 123) 2), .int .u64 (W (rngP 97 123) 3)] 24)).alloc (by simp; omega) (.cells #[.int .u64 (W (rngP 48 58) 0), .int .u64 (W (rngP 48 58) 1), .int .u64 (W (rngP 48 58) 2), .int .u64 (W (rngP 48 58) 3)] 24)).trans (hb4.mono (by simp; omega))
  have z4 := b4.size
  have b5 := b4.alloc z4 (.cells #[.int .u64 (W (uni (rngP 65 91) (rngP 97 123)) 0), .int .u64 (W (uni (rngP 65 91) (rngP 97 123)) 1), .int .u64 (W (uni (rngP 65 91) (rngP 97 123)) 2), .int .u64 (W (uni (rngP 65 91) (rngP 97 123)) 3)] 24)
  have z5 := b5.size
  have hfin := set4 hR5 (.int .u64 (W (rngP 33 127) 0)) (.int .u64 (W (rngP 33 127) 1)) (.int .u64 (W (rngP 33 127) 2)) (.int .u64 (W (rngP 33 127) 3))
  have hfc := block_cell hfin
  clear hfin
  exact bodyPost_ret (v := .tuple #[.agg #[.int .u64 (W (rngP 33 127) 0), .int .u64 (W (rngP 33 127) 1), .int .u64 (W (rngP 33 127) 2), .int .u64 (W (rngP 33 127) 3)], .bool true]) (by simp [results, Tryd.results55, go_sem, hfc]) rfl ⟨rfl, below_set4 (b5.trans (hb5.mono z5)) (Nat.le_refl _) _ _ _ _⟩

set_option maxHeartbeats 4000000 in
set_option maxRecDepth 20000 in
theorem small_108 (w : World) : Calls Tryd.prog 55 #[.int .u8 108] w fun e w' => e = .returned (.tuple #[.agg #[.int .u64 (W (rngP 97 123) 0), .int .u64 (W (rngP 97 123) 1), .int .u64 (W (rngP 97 123) 2), .int .u64 (W (rngP 97 123) 3)], .bool true]) ∧ Below w.heap.size w w' := by
  go_enter Tryd.func55, Tryd.ntmps55
  go_wp2_with (first | (go_at_call 43; with_reducible refine Calls.mono (sp_65_90 _) ?_; rintro e w1 ⟨rfl, hb1⟩; have hR1 := below_heap hb1 (b := w.heap.size) (by simp) (alloc_new _ _)) | (go_at_call 43; with_reducible refine Calls.mono (sp_97_122 _) ?_; rintro e w2 ⟨rfl, hb2⟩; have hR2 := below_heap hb2 (b := w.heap.size) (block_lt hR1) hR1) | (go_at_call 43; with_reducible refine Calls.mono (sp_48_57 _) ?_; rintro e w3 ⟨rfl, hb3⟩; have hR3 := below_heap hb3 (b := w.heap.size) (block_lt hR2) hR2) | (go_at_call 27; with_reducible refine Calls.mono (union_any (rngP 65 91) (rngP 97 123) _) ?_; rintro e w4 ⟨rfl, hb4⟩; have hR4 := below_heap hb4 (b := w.heap.size) (by have := block_lt hR3; simp; omega) (alloc_old (alloc_old (alloc_old hR3))); have hX0 := below_heap hb4 (b := w3.heap.size) (by simp <;> omega) (alloc_old (alloc_old (alloc_new _ _))); have hX1 := below_heap hb4 (b := w3.heap.size + 1) (by simp <;> omega) (alloc_old (by have h := alloc_new (w3.alloc (.cells #[.int .u64 (W (rngP 65 91) 0), .int .u64 (W (rngP 65 91) 1), .int .u64 (W (rngP 65 91) 2), .int .u64 (W (rngP 65 91) 3)] 24)) (.cells #[.int .u64 (W (rngP 97 123) 0), .int .u64 (W (rngP 97 123) 1), .int .u64 (W (rngP 97 123) 2), .int .u64 (W (rngP 97 123) 3)] 24); simpa using h)); have hX2 := below_heap hb4 (b := w3.heap.size + 1 + 1) (by simp <;> omega) (by have h := alloc_new ((w3.alloc (.cells #[.int .u64 (W (rngP 65 91) 0), .int .u64 (W (rngP 65 91) 1), .int .u64 (W (rngP 65 91) 2), .int .u64 (W (rngP 65 91) 3)] 24)).alloc (.cells #[.int .u64 (W (rngP 97 123) 0), .int .u64 (W (rngP 97 123) 1), .int .u64 (W (rngP 97 123) 2), .int .u64 (W (rngP 97 123) 3)] 24)) (.cells #[.int .u64 (W (rngP 48 58) 0), .int .u64 (W (rngP 48 58) 1), .int .u64 (W (rngP 48 58) 2), .int .u64 (W (rngP 48 58) 3)] 24); simpa using h); have hR5 := alloc_old (y := .cells #[.int .u64 (W (uni (rngP 65 91) (rngP 97 123)) 0), .int .u64 (W (uni (rngP 65 91) (rngP 97 123)) 1), .int .u64 (W (uni (rngP 65 91) (rngP 97 123)) 2), .int .u64 (W (uni (rngP 65 91) (rngP 97 123)) 3)] 24) hR4; have hst := block_free hR5; have hcr := block_cell hR5; have hcx := block_cell (alloc_old (y := .cells #[.int .u64 (W (uni (rngP 65 91) (rngP 97 123)) 0), .int .u64 (W (uni (rngP 65 91) (rngP 97 123)) 1), .int .u64 (W (uni (rngP 65 91) (rngP 97 123)) 2), .int .u64 (W (uni (rngP 65 91) (rngP 97 123)) 3)] 24) hX1)))
  have b1 := ((Below.refl w.heap.size w).alloc (Nat.le_refl _) (.cells #[.int .u64 0, .int .u64 0, .int .u64 0, .int .u64 0] 24)).trans (hb1.mono (by simp))
  have b2 := b1.trans (hb2.mono b1.size)
  have b3 := b2.trans (hb3.mono b2.size)
  have z3 := b3.size
  have b4 := (((b3.alloc z3 (.cells #[.int .u64 (W (rngP 65 91) 0), .int .u64 (W (rngP 65 91) 1), .int .u64 (W (rngP 65 91) 2), .int .u64 (W (rngP 65 91) 3)] 24)).alloc (by simp; omega) (.cells #[.int .u64 (W (rngP 97 123) 0), .int .u64 (W (rngP 97 123) 1), .int .u64 (W (rngP 97 123) 2), .int .u64 (W (rngP 97 123) 3)] 24)).alloc (by simp; omega) (.cells #[.int .u64 (W (rngP 48 58) 0), .int .u64 (W (rngP 48 58) 1), .int .u64 (W (rngP 48 58) 2), .int .u64 (W (rngP 48 58) 3)] 24)).trans (hb4.mono (by simp; omega))
  have z4 := b4.size
  have b5 := b4.alloc z4 (.cells #[.int .u64 (W (uni (rngP 65 91) (rngP 97 123)) 0), .int .u64 (W (uni (rngP 65 91) (rngP 97 123)) 1), .int .u64 (W (uni (rngP 65 91) (rngP 97 123)) 2), .int .u64 (W (uni (rngP 65 91) (rngP 97 123)) 3)] 24)
  have z5 := b5.size
  have hfin := set4 hR5 (.int .u64 (W (rngP 97 123) 0)) (.int .u64 (W (rngP 97 123) 1)) (.int .u64 (W (rngP 97 123) 2)) (.int .u64 (W (rngP 97 123) 3))
  have hfc := block_cell hfin
  clear hfin
  exact bodyPost_ret (v := .tuple #[.agg #[.int .u64 (W (rngP 97 123) 0), .int .u64 (W (rngP 97 123) 1), .int .u64 (W (rngP 97 123) 2), .int .u64 (W (rngP 97 123) 3)], .bool true]) (by simp [results, Tryd.results55, go_sem, hfc]) rfl ⟨rfl, below_set4 (b5) (Nat.le_refl _) _ _ _ _⟩

set_option maxHeartbeats 4000000 in
set_option maxRecDepth 20000 in
theorem small_112 (w : World) : Calls Tryd.prog 55 #[.int .u8 112] w fun e w' => e = .returned (.tuple #[.agg #[.int .u64 (W (les (rngP 33 127) (uni (uni (rngP 65 91) (rngP 97 123)) (rngP 48 58))) 0), .int .u64 (W (les (rngP 33 127) (uni (uni (rngP 65 91) (rngP 97 123)) (rngP 48 58))) 1), .int .u64 (W (les (rngP 33 127) (uni (uni (rngP 65 91) (rngP 97 123)) (rngP 48 58))) 2), .int .u64 (W (les (rngP 33 127) (uni (uni (rngP 65 91) (rngP 97 123)) (rngP 48 58))) 3)], .bool true]) ∧ Below w.heap.size w w' := by
  go_enter Tryd.func55, Tryd.ntmps55
  go_wp2_with (first | (go_at_call 43; with_reducible refine Calls.mono (sp_65_90 _) ?_; rintro e w1 ⟨rfl, hb1⟩; have hR1 := below_heap hb1 (b := w.heap.size) (by simp) (alloc_new _ _)) | (go_at_call 43; with_reducible refine Calls.mono (sp_97_122 _) ?_; rintro e w2 ⟨rfl, hb2⟩; have hR2 := below_heap hb2 (b := w.heap.size) (block_lt hR1) hR1) | (go_at_call 43; with_reducible refine Calls.mono (sp_48_57 _) ?_; rintro e w3 ⟨rfl, hb3⟩; have hR3 := below_heap hb3 (b := w.heap.size) (block_lt hR2) hR2) | (go_at_call 27; with_reducible refine Calls.mono (union_any (rngP 65 91) (rngP 97 123) _) ?_; rintro e w4 ⟨rfl, hb4⟩; have hR4 := below_heap hb4 (b := w.heap.size) (by have := block_lt hR3; simp; omega) (alloc_old (alloc_old (alloc_old hR3))); have hX0 := below_heap hb4 (b := w3.heap.size) (by simp <;> omega) (alloc_old (alloc_old (alloc_new _ _))); have hX1 := below_heap hb4 (b := w3.heap.size + 1) (by simp <;> omega) (alloc_old (by have h := alloc_new (w3.alloc (.cells #[.int .u64 (W (rngP 65 91) 0), .int .u64 (W (rngP 65 91) 1), .int .u64 (W (rngP 65 91) 2), .int .u64 (W (rngP 65 91) 3)] 24)) (.cells #[.int .u64 (W (rngP 97 123) 0), .int .u64 (W (rngP 97 123) 1), .int .u64 (W (rngP 97 123) 2), .int .u64 (W (rngP 97 123) 3)] 24); simpa using h)); have hX2 := below_heap hb4 (b := w3.heap.size + 1 + 1) (by simp <;> omega) (by have h := alloc_new ((w3.alloc (.cells #[.int .u64 (W (rngP 65 91) 0), .int .u64 (W (rngP 65 91) 1), .int .u64 (W (rngP 65 91) 2), .int .u64 (W (rngP 65 91) 3)] 24)).alloc (.cells #[.int .u64 (W (rngP 97 123) 0), .int .u64 (W (rngP 97 123) 1), .int .u64 (W (rngP 97 123) 2), .int .u64 (W (rngP 97 123) 3)] 24)) (.cells #[.int .u64 (W (rngP 48 58) 0), .int .u64 (W (rngP 48 58) 1), .int .u64 (W (rngP 48 58) 2), .int .u64 (W (rngP 48 58) 3)] 24); simpa using h)))
  have b1 := ((Below.refl w.heap.size w).alloc (Nat.le_refl _) (.cells #[.int .u64 0, .int .u64 0, .int .u64 0, .int .u64 0] 24)).trans (hb1.mono (by simp))
  have b2 := b1.trans (hb2.mono b1.size)
  have b3 := b2.trans (hb3.mono b2.size)
  have z3 := b3.size
  have b4 := (((b3.alloc z3 (.cells #[.int .u64 (W (rngP 65 91) 0), .int .u64 (W (rngP 65 91) 1), .int .u64 (W (rngP 65 91) 2), .int .u64 (W (rngP 65 91) 3)] 24)).alloc (by simp; omega) (.cells #[.int .u64 (W (rngP 97 123) 0), .int .u64 (W (rngP 97 123) 1), .int .u64 (W (rngP 97 123) 2), .int .u64 (W (rngP 97 123) 3)] 24)).alloc (by simp; omega) (.cells #[.int .u64 (W (rngP 48 58) 0), .int .u64 (W (rngP 48 58) 1), .int .u64 (W (rngP 48 58) 2), .int .u64 (W (rngP 48 58) 3)] 24)).trans (hb4.mono (by simp; omega))
  have z4 := b4.size
  have b5 := b4.alloc z4 (.cells #[.int .u64 (W (uni (rngP 65 91) (rngP 97 123)) 0), .int .u64 (W (uni (rngP 65 91) (rngP 97 123)) 1), .int .u64 (W (uni (rngP 65 91) (rngP 97 123)) 2), .int .u64 (W (uni (rngP 65 91) (rngP 97 123)) 3)] 24)
  have z5 := b5.size
  have hL5 := alloc_new w4 (.cells #[.int .u64 (W (uni (rngP 65 91) (rngP 97 123)) 0), .int .u64 (W (uni (rngP 65 91) (rngP 97 123)) 1), .int .u64 (W (uni (rngP 65 91) (rngP 97 123)) 2), .int .u64 (W (uni (rngP 65 91) (rngP 97 123)) 3)] 24)
  have hD5 := alloc_old (y := .cells #[.int .u64 (W (uni (rngP 65 91) (rngP 97 123)) 0), .int .u64 (W (uni (rngP 65 91) (rngP 97 123)) 1), .int .u64 (W (uni (rngP 65 91) (rngP 97 123)) 2), .int .u64 (W (uni (rngP 65 91) (rngP 97 123)) 3)] 24) hX2
  have hR5 := alloc_old (y := .cells #[.int .u64 (W (uni (rngP 65 91) (rngP 97 123)) 0), .int .u64 (W (uni (rngP 65 91) (rngP 97 123)) 1), .int .u64 (W (uni (rngP 65 91) (rngP 97 123)) 2), .int .u64 (W (uni (rngP 65 91) (rngP 97 123)) 3)] 24) hR4
  clear hX0 hX1 hX2 hR4 hR3 hR2 hR1 b1 b2 b3 b4 hb1 hb2 hb3 hb4
  generalize w4.alloc (.cells #[.int .u64 (W (uni (rngP 65 91) (rngP 97 123)) 0), .int .u64 (W (uni (rngP 65 91) (rngP 97 123)) 1), .int .u64 (W (uni (rngP 65 91) (rngP 97 123)) 2), .int .u64 (W (uni (rngP 65 91) (rngP 97 123)) 3)] 24) = w5 at *
  have lL := grow_cell hL5 (block_lt hL5)
  have lD := grow_cell hD5 (block_lt hD5)
  refine wp_region_grow_tail w5.heap.size 5 (by kernel_rfl) (by kernel_rfl) ?_
  simp only [List.take_succ_cons, List.take_zero, List.drop_succ_cons, List.drop_zero]
  repeat (go_big_quiet_step (first | (go_at_call 43; with_reducible refine Calls.grow_of (Nat.le_refl _) (sp_33_126 _); done) | (go_at_call 27; with_reducible refine Calls.grow_of (Nat.le_refl _) (union_any (uni (rngP 65 91) (rngP 97 123)) (rngP 48 58) _); done) | (go_at_call 30; with_reducible refine Calls.grow_of (Nat.le_refl _) (less_any _ _ _); done)))
  refine wpQuiet_nil ?_
  rintro _ ⟨g, rfl⟩
  have hR6 := grow_heap hR5 (block_lt hR5) g
  have b6 := b5.trans (g.below.mono z5)
  clear lL lD
  generalize g.val = w6 at *
  have hst := block_free hR6
  have hcr := block_cell hR6
  go_wp2
  have hfin := set4 hR6 (.int .u64 (W (les (rngP 33 127) (uni (uni (rngP 65 91) (rngP 97 123)) (rngP 48 58))) 0)) (.int .u64 (W (les (rngP 33 127) (uni (uni (rngP 65 91) (rngP 97 123)) (rngP 48 58))) 1)) (.int .u64 (W (les (rngP 33 127) (uni (uni (rngP 65 91) (rngP 97 123)) (rngP 48 58))) 2)) (.int .u64 (W (les (rngP 33 127) (uni (uni (rngP 65 91) (rngP 97 123)) (rngP 48 58))) 3))
  have hfc := block_cell hfin
  clear hfin
  exact bodyPost_ret (v := .tuple #[.agg #[.int .u64 (W (les (rngP 33 127) (uni (uni (rngP 65 91) (rngP 97 123)) (rngP 48 58))) 0), .int .u64 (W (les (rngP 33 127) (uni (uni (rngP 65 91) (rngP 97 123)) (rngP 48 58))) 1), .int .u64 (W (les (rngP 33 127) (uni (uni (rngP 65 91) (rngP 97 123)) (rngP 48 58))) 2), .int .u64 (W (les (rngP 33 127) (uni (uni (rngP 65 91) (rngP 97 123)) (rngP 48 58))) 3)], .bool true]) (by simp [results, Tryd.results55, go_sem, hfc]) rfl ⟨rfl, below_set4 (b6) (Nat.le_refl _) _ _ _ _⟩

set_option maxHeartbeats 4000000 in
set_option maxRecDepth 20000 in
theorem small_115 (w : World) : Calls Tryd.prog 55 #[.int .u8 115] w fun e w' => e = .returned (.tuple #[.agg #[.int .u64 (W (ins (rngP 9 14) 32) 0), .int .u64 (W (ins (rngP 9 14) 32) 1), .int .u64 (W (ins (rngP 9 14) 32) 2), .int .u64 (W (ins (rngP 9 14) 32) 3)], .bool true]) ∧ Below w.heap.size w w' := by
  go_enter Tryd.func55, Tryd.ntmps55
  go_wp2_with (first | (go_at_call 33; with_reducible refine Calls.mono (wi_32 _) ?_; rintro e w6 ⟨rfl, hb6⟩; have hR5 := below_heap hb6 (block_lt hR5') hR5'; have hst := block_free hR5; have hcr := block_cell hR5) | (go_at_call 43; with_reducible refine Calls.mono (sp_9_13 _) ?_; rintro e w5 ⟨rfl, hb5⟩; have hR5' := below_heap hb5 (b := w.heap.size) (by have := block_lt hR4; simp; omega) (alloc_old hR4)) | (go_at_call 43; with_reducible refine Calls.mono (sp_65_90 _) ?_; rintro e w1 ⟨rfl, hb1⟩; have hR1 := below_heap hb1 (b := w.heap.size) (by simp) (alloc_new _ _)) | (go_at_call 43; with_reducible refine Calls.mono (sp_97_122 _) ?_; rintro e w2 ⟨rfl, hb2⟩; have hR2 := below_heap hb2 (b := w.heap.size) (block_lt hR1) hR1) | (go_at_call 43; with_reducible refine Calls.mono (sp_48_57 _) ?_; rintro e w3 ⟨rfl, hb3⟩; have hR3 := below_heap hb3 (b := w.heap.size) (block_lt hR2) hR2) | (go_at_call 27; with_reducible refine Calls.mono (union_any (rngP 65 91) (rngP 97 123) _) ?_; rintro e w4 ⟨rfl, hb4⟩; have hR4 := below_heap hb4 (b := w.heap.size) (by have := block_lt hR3; simp; omega) (alloc_old (alloc_old (alloc_old hR3))); have hX0 := below_heap hb4 (b := w3.heap.size) (by simp <;> omega) (alloc_old (alloc_old (alloc_new _ _))); have hX1 := below_heap hb4 (b := w3.heap.size + 1) (by simp <;> omega) (alloc_old (by have h := alloc_new (w3.alloc (.cells #[.int .u64 (W (rngP 65 91) 0), .int .u64 (W (rngP 65 91) 1), .int .u64 (W (rngP 65 91) 2), .int .u64 (W (rngP 65 91) 3)] 24)) (.cells #[.int .u64 (W (rngP 97 123) 0), .int .u64 (W (rngP 97 123) 1), .int .u64 (W (rngP 97 123) 2), .int .u64 (W (rngP 97 123) 3)] 24); simpa using h)); have hX2 := below_heap hb4 (b := w3.heap.size + 1 + 1) (by simp <;> omega) (by have h := alloc_new ((w3.alloc (.cells #[.int .u64 (W (rngP 65 91) 0), .int .u64 (W (rngP 65 91) 1), .int .u64 (W (rngP 65 91) 2), .int .u64 (W (rngP 65 91) 3)] 24)).alloc (.cells #[.int .u64 (W (rngP 97 123) 0), .int .u64 (W (rngP 97 123) 1), .int .u64 (W (rngP 97 123) 2), .int .u64 (W (rngP 97 123) 3)] 24)) (.cells #[.int .u64 (W (rngP 48 58) 0), .int .u64 (W (rngP 48 58) 1), .int .u64 (W (rngP 48 58) 2), .int .u64 (W (rngP 48 58) 3)] 24); simpa using h)))
  have b1 := ((Below.refl w.heap.size w).alloc (Nat.le_refl _) (.cells #[.int .u64 0, .int .u64 0, .int .u64 0, .int .u64 0] 24)).trans (hb1.mono (by simp))
  have b2 := b1.trans (hb2.mono b1.size)
  have b3 := b2.trans (hb3.mono b2.size)
  have z3 := b3.size
  have b4 := (((b3.alloc z3 (.cells #[.int .u64 (W (rngP 65 91) 0), .int .u64 (W (rngP 65 91) 1), .int .u64 (W (rngP 65 91) 2), .int .u64 (W (rngP 65 91) 3)] 24)).alloc (by simp; omega) (.cells #[.int .u64 (W (rngP 97 123) 0), .int .u64 (W (rngP 97 123) 1), .int .u64 (W (rngP 97 123) 2), .int .u64 (W (rngP 97 123) 3)] 24)).alloc (by simp; omega) (.cells #[.int .u64 (W (rngP 48 58) 0), .int .u64 (W (rngP 48 58) 1), .int .u64 (W (rngP 48 58) 2), .int .u64 (W (rngP 48 58) 3)] 24)).trans (hb4.mono (by simp; omega))
  have z4 := b4.size
  have b5 := b4.alloc z4 (.cells #[.int .u64 (W (uni (rngP 65 91) (rngP 97 123)) 0), .int .u64 (W (uni (rngP 65 91) (rngP 97 123)) 1), .int .u64 (W (uni (rngP 65 91) (rngP 97 123)) 2), .int .u64 (W (uni (rngP 65 91) (rngP 97 123)) 3)] 24)
  have z5 := b5.size
  have hfin := set4 hR5 (.int .u64 (W (ins (rngP 9 14) 32) 0)) (.int .u64 (W (ins (rngP 9 14) 32) 1)) (.int .u64 (W (ins (rngP 9 14) 32) 2)) (.int .u64 (W (ins (rngP 9 14) 32) 3))
  have hfc := block_cell hfin
  clear hfin
  exact bodyPost_ret (v := .tuple #[.agg #[.int .u64 (W (ins (rngP 9 14) 32) 0), .int .u64 (W (ins (rngP 9 14) 32) 1), .int .u64 (W (ins (rngP 9 14) 32) 2), .int .u64 (W (ins (rngP 9 14) 32) 3)], .bool true]) (by simp [results, Tryd.results55, go_sem, hfc]) rfl ⟨rfl, below_set4 ((b5.trans (hb5.mono z5)).trans (hb6.mono (Nat.le_trans z5 hb5.size))) (Nat.le_refl _) _ _ _ _⟩

set_option maxHeartbeats 4000000 in
set_option maxRecDepth 20000 in
theorem small_117 (w : World) : Calls Tryd.prog 55 #[.int .u8 117] w fun e w' => e = .returned (.tuple #[.agg #[.int .u64 (W (rngP 65 91) 0), .int .u64 (W (rngP 65 91) 1), .int .u64 (W (rngP 65 91) 2), .int .u64 (W (rngP 65 91) 3)], .bool true]) ∧ Below w.heap.size w w' := by
  go_enter Tryd.func55, Tryd.ntmps55
  go_wp2_with (first | (go_at_call 43; with_reducible refine Calls.mono (sp_65_90 _) ?_; rintro e w1 ⟨rfl, hb1⟩; have hR1 := below_heap hb1 (b := w.heap.size) (by simp) (alloc_new _ _)) | (go_at_call 43; with_reducible refine Calls.mono (sp_97_122 _) ?_; rintro e w2 ⟨rfl, hb2⟩; have hR2 := below_heap hb2 (b := w.heap.size) (block_lt hR1) hR1) | (go_at_call 43; with_reducible refine Calls.mono (sp_48_57 _) ?_; rintro e w3 ⟨rfl, hb3⟩; have hR3 := below_heap hb3 (b := w.heap.size) (block_lt hR2) hR2) | (go_at_call 27; with_reducible refine Calls.mono (union_any (rngP 65 91) (rngP 97 123) _) ?_; rintro e w4 ⟨rfl, hb4⟩; have hR4 := below_heap hb4 (b := w.heap.size) (by have := block_lt hR3; simp; omega) (alloc_old (alloc_old (alloc_old hR3))); have hX0 := below_heap hb4 (b := w3.heap.size) (by simp <;> omega) (alloc_old (alloc_old (alloc_new _ _))); have hX1 := below_heap hb4 (b := w3.heap.size + 1) (by simp <;> omega) (alloc_old (by have h := alloc_new (w3.alloc (.cells #[.int .u64 (W (rngP 65 91) 0), .int .u64 (W (rngP 65 91) 1), .int .u64 (W (rngP 65 91) 2), .int .u64 (W (rngP 65 91) 3)] 24)) (.cells #[.int .u64 (W (rngP 97 123) 0), .int .u64 (W (rngP 97 123) 1), .int .u64 (W (rngP 97 123) 2), .int .u64 (W (rngP 97 123) 3)] 24); simpa using h)); have hX2 := below_heap hb4 (b := w3.heap.size + 1 + 1) (by simp <;> omega) (by have h := alloc_new ((w3.alloc (.cells #[.int .u64 (W (rngP 65 91) 0), .int .u64 (W (rngP 65 91) 1), .int .u64 (W (rngP 65 91) 2), .int .u64 (W (rngP 65 91) 3)] 24)).alloc (.cells #[.int .u64 (W (rngP 97 123) 0), .int .u64 (W (rngP 97 123) 1), .int .u64 (W (rngP 97 123) 2), .int .u64 (W (rngP 97 123) 3)] 24)) (.cells #[.int .u64 (W (rngP 48 58) 0), .int .u64 (W (rngP 48 58) 1), .int .u64 (W (rngP 48 58) 2), .int .u64 (W (rngP 48 58) 3)] 24); simpa using h); have hR5 := alloc_old (y := .cells #[.int .u64 (W (uni (rngP 65 91) (rngP 97 123)) 0), .int .u64 (W (uni (rngP 65 91) (rngP 97 123)) 1), .int .u64 (W (uni (rngP 65 91) (rngP 97 123)) 2), .int .u64 (W (uni (rngP 65 91) (rngP 97 123)) 3)] 24) hR4; have hst := block_free hR5; have hcr := block_cell hR5; have hcx := block_cell (alloc_old (y := .cells #[.int .u64 (W (uni (rngP 65 91) (rngP 97 123)) 0), .int .u64 (W (uni (rngP 65 91) (rngP 97 123)) 1), .int .u64 (W (uni (rngP 65 91) (rngP 97 123)) 2), .int .u64 (W (uni (rngP 65 91) (rngP 97 123)) 3)] 24) hX0)))
  have b1 := ((Below.refl w.heap.size w).alloc (Nat.le_refl _) (.cells #[.int .u64 0, .int .u64 0, .int .u64 0, .int .u64 0] 24)).trans (hb1.mono (by simp))
  have b2 := b1.trans (hb2.mono b1.size)
  have b3 := b2.trans (hb3.mono b2.size)
  have z3 := b3.size
  have b4 := (((b3.alloc z3 (.cells #[.int .u64 (W (rngP 65 91) 0), .int .u64 (W (rngP 65 91) 1), .int .u64 (W (rngP 65 91) 2), .int .u64 (W (rngP 65 91) 3)] 24)).alloc (by simp; omega) (.cells #[.int .u64 (W (rngP 97 123) 0), .int .u64 (W (rngP 97 123) 1), .int .u64 (W (rngP 97 123) 2), .int .u64 (W (rngP 97 123) 3)] 24)).alloc (by simp; omega) (.cells #[.int .u64 (W (rngP 48 58) 0), .int .u64 (W (rngP 48 58) 1), .int .u64 (W (rngP 48 58) 2), .int .u64 (W (rngP 48 58) 3)] 24)).trans (hb4.mono (by simp; omega))
  have z4 := b4.size
  have b5 := b4.alloc z4 (.cells #[.int .u64 (W (uni (rngP 65 91) (rngP 97 123)) 0), .int .u64 (W (uni (rngP 65 91) (rngP 97 123)) 1), .int .u64 (W (uni (rngP 65 91) (rngP 97 123)) 2), .int .u64 (W (uni (rngP 65 91) (rngP 97 123)) 3)] 24)
  have z5 := b5.size
  have hfin := set4 hR5 (.int .u64 (W (rngP 65 91) 0)) (.int .u64 (W (rngP 65 91) 1)) (.int .u64 (W (rngP 65 91) 2)) (.int .u64 (W (rngP 65 91) 3))
  have hfc := block_cell hfin
  clear hfin
  exact bodyPost_ret (v := .tuple #[.agg #[.int .u64 (W (rngP 65 91) 0), .int .u64 (W (rngP 65 91) 1), .int .u64 (W (rngP 65 91) 2), .int .u64 (W (rngP 65 91) 3)], .bool true]) (by simp [results, Tryd.results55, go_sem, hfc]) rfl ⟨rfl, below_set4 (b5) (Nat.le_refl _) _ _ _ _⟩

set_option maxHeartbeats 4000000 in
set_option maxRecDepth 20000 in
theorem small_119 (w : World) : Calls Tryd.prog 55 #[.int .u8 119] w fun e w' => e = .returned (.tuple #[.agg #[.int .u64 (W (uni (uni (rngP 65 91) (rngP 97 123)) (rngP 48 58)) 0), .int .u64 (W (uni (uni (rngP 65 91) (rngP 97 123)) (rngP 48 58)) 1), .int .u64 (W (uni (uni (rngP 65 91) (rngP 97 123)) (rngP 48 58)) 2), .int .u64 (W (uni (uni (rngP 65 91) (rngP 97 123)) (rngP 48 58)) 3)], .bool true]) ∧ Below w.heap.size w w' := by
  go_enter Tryd.func55, Tryd.ntmps55
  go_wp2_with (first | (go_at_call 27; with_reducible refine Calls.mono (union_any (uni (rngP 65 91) (rngP 97 123)) (rngP 48 58) _) ?_; rintro e w5 ⟨rfl, hb5⟩; have hR5 := below_heap hb5 (b := w.heap.size) (by have := block_lt hR4; simp; omega) (alloc_old hR4); have hst := block_free hR5; have hcr := block_cell hR5) | (go_at_call 43; with_reducible refine Calls.mono (sp_65_90 _) ?_; rintro e w1 ⟨rfl, hb1⟩; have hR1 := below_heap hb1 (b := w.heap.size) (by simp) (alloc_new _ _)) | (go_at_call 43; with_reducible refine Calls.mono (sp_97_122 _) ?_; rintro e w2 ⟨rfl, hb2⟩; have hR2 := below_heap hb2 (b := w.heap.size) (block_lt hR1) hR1) | (go_at_call 43; with_reducible refine Calls.mono (sp_48_57 _) ?_; rintro e w3 ⟨rfl, hb3⟩; have hR3 := below_heap hb3 (b := w.heap.size) (block_lt hR2) hR2) | (go_at_call 27; with_reducible refine Calls.mono (union_any (rngP 65 91) (rngP 97 123) _) ?_; rintro e w4 ⟨rfl, hb4⟩; have hR4 := below_heap hb4 (b := w.heap.size) (by have := block_lt hR3; simp; omega) (alloc_old (alloc_old (alloc_old hR3))); have hX0 := below_heap hb4 (b := w3.heap.size) (by simp <;> omega) (alloc_old (alloc_old (alloc_new _ _))); have hX1 := below_heap hb4 (b := w3.heap.size + 1) (by simp <;> omega) (alloc_old (by have h := alloc_new (w3.alloc (.cells #[.int .u64 (W (rngP 65 91) 0), .int .u64 (W (rngP 65 91) 1), .int .u64 (W (rngP 65 91) 2), .int .u64 (W (rngP 65 91) 3)] 24)) (.cells #[.int .u64 (W (rngP 97 123) 0), .int .u64 (W (rngP 97 123) 1), .int .u64 (W (rngP 97 123) 2), .int .u64 (W (rngP 97 123) 3)] 24); simpa using h)); have hX2 := below_heap hb4 (b := w3.heap.size + 1 + 1) (by simp <;> omega) (by have h := alloc_new ((w3.alloc (.cells #[.int .u64 (W (rngP 65 91) 0), .int .u64 (W (rngP 65 91) 1), .int .u64 (W (rngP 65 91) 2), .int .u64 (W (rngP 65 91) 3)] 24)).alloc (.cells #[.int .u64 (W (rngP 97 123) 0), .int .u64 (W (rngP 97 123) 1), .int .u64 (W (rngP 97 123) 2), .int .u64 (W (rngP 97 123) 3)] 24)) (.cells #[.int .u64 (W (rngP 48 58) 0), .int .u64 (W (rngP 48 58) 1), .int .u64 (W (rngP 48 58) 2), .int .u64 (W (rngP 48 58) 3)] 24); simpa using h); have hcx := block_cell (alloc_old (y := .cells #[.int .u64 (W (uni (rngP 65 91) (rngP 97 123)) 0), .int .u64 (W (uni (rngP 65 91) (rngP 97 123)) 1), .int .u64 (W (uni (rngP 65 91) (rngP 97 123)) 2), .int .u64 (W (uni (rngP 65 91) (rngP 97 123)) 3)] 24) hX2)))
  have b1 := ((Below.refl w.heap.size w).alloc (Nat.le_refl _) (.cells #[.int .u64 0, .int .u64 0, .int .u64 0, .int .u64 0] 24)).trans (hb1.mono (by simp))
  have b2 := b1.trans (hb2.mono b1.size)
  have b3 := b2.trans (hb3.mono b2.size)
  have z3 := b3.size
  have b4 := (((b3.alloc z3 (.cells #[.int .u64 (W (rngP 65 91) 0), .int .u64 (W (rngP 65 91) 1), .int .u64 (W (rngP 65 91) 2), .int .u64 (W (rngP 65 91) 3)] 24)).alloc (by simp; omega) (.cells #[.int .u64 (W (rngP 97 123) 0), .int .u64 (W (rngP 97 123) 1), .int .u64 (W (rngP 97 123) 2), .int .u64 (W (rngP 97 123) 3)] 24)).alloc (by simp; omega) (.cells #[.int .u64 (W (rngP 48 58) 0), .int .u64 (W (rngP 48 58) 1), .int .u64 (W (rngP 48 58) 2), .int .u64 (W (rngP 48 58) 3)] 24)).trans (hb4.mono (by simp; omega))
  have z4 := b4.size
  have b5 := b4.alloc z4 (.cells #[.int .u64 (W (uni (rngP 65 91) (rngP 97 123)) 0), .int .u64 (W (uni (rngP 65 91) (rngP 97 123)) 1), .int .u64 (W (uni (rngP 65 91) (rngP 97 123)) 2), .int .u64 (W (uni (rngP 65 91) (rngP 97 123)) 3)] 24)
  have z5 := b5.size
  have hfin := set4 hR5 (.int .u64 (W (uni (uni (rngP 65 91) (rngP 97 123)) (rngP 48 58)) 0)) (.int .u64 (W (uni (uni (rngP 65 91) (rngP 97 123)) (rngP 48 58)) 1)) (.int .u64 (W (uni (uni (rngP 65 91) (rngP 97 123)) (rngP 48 58)) 2)) (.int .u64 (W (uni (uni (rngP 65 91) (rngP 97 123)) (rngP 48 58)) 3))
  have hfc := block_cell hfin
  clear hfin
  exact bodyPost_ret (v := .tuple #[.agg #[.int .u64 (W (uni (uni (rngP 65 91) (rngP 97 123)) (rngP 48 58)) 0), .int .u64 (W (uni (uni (rngP 65 91) (rngP 97 123)) (rngP 48 58)) 1), .int .u64 (W (uni (uni (rngP 65 91) (rngP 97 123)) (rngP 48 58)) 2), .int .u64 (W (uni (uni (rngP 65 91) (rngP 97 123)) (rngP 48 58)) 3)], .bool true]) (by simp [results, Tryd.results55, go_sem, hfc]) rfl ⟨rfl, below_set4 (b5.trans (hb5.mono z5)) (Nat.le_refl _) _ _ _ _⟩

set_option maxHeartbeats 4000000 in
set_option maxRecDepth 20000 in
theorem small_120 (w : World) : Calls Tryd.prog 55 #[.int .u8 120] w fun e w' => e = .returned (.tuple #[.agg #[.int .u64 (W (uni (rngP 48 58) (uni (rngP 65 71) (rngP 97 103))) 0), .int .u64 (W (uni (rngP 48 58) (uni (rngP 65 71) (rngP 97 103))) 1), .int .u64 (W (uni (rngP 48 58) (uni (rngP 65 71) (rngP 97 103))) 2), .int .u64 (W (uni (rngP 48 58) (uni (rngP 65 71) (rngP 97 103))) 3)], .bool true]) ∧ Below w.heap.size w w' := by
  go_enter Tryd.func55, Tryd.ntmps55
  go_wp2_with (first | (go_at_call 43; with_reducible refine Calls.mono (sp_65_90 _) ?_; rintro e w1 ⟨rfl, hb1⟩; have hR1 := below_heap hb1 (b := w.heap.size) (by simp) (alloc_new _ _)) | (go_at_call 43; with_reducible refine Calls.mono (sp_97_122 _) ?_; rintro e w2 ⟨rfl, hb2⟩; have hR2 := below_heap hb2 (b := w.heap.size) (block_lt hR1) hR1) | (go_at_call 43; with_reducible refine Calls.mono (sp_48_57 _) ?_; rintro e w3 ⟨rfl, hb3⟩; have hR3 := below_heap hb3 (b := w.heap.size) (block_lt hR2) hR2) | (go_at_call 27; with_reducible refine Calls.mono (union_any (rngP 65 91) (rngP 97 123) _) ?_; rintro e w4 ⟨rfl, hb4⟩; have hR4 := below_heap hb4 (b := w.heap.size) (by have := block_lt hR3; simp; omega) (alloc_old (alloc_old (alloc_old hR3))); have hX0 := below_heap hb4 (b := w3.heap.size) (by simp <;> omega) (alloc_old (alloc_old (alloc_new _ _))); have hX1 := below_heap hb4 (b := w3.heap.size + 1) (by simp <;> omega) (alloc_old (by have h := alloc_new (w3.alloc (.cells #[.int .u64 (W (rngP 65 91) 0), .int .u64 (W (rngP 65 91) 1), .int .u64 (W (rngP 65 91) 2), .int .u64 (W (rngP 65 91) 3)] 24)) (.cells #[.int .u64 (W (rngP 97 123) 0), .int .u64 (W (rngP 97 123) 1), .int .u64 (W (rngP 97 123) 2), .int .u64 (W (rngP 97 123) 3)] 24); simpa using h)); have hX2 := below_heap hb4 (b := w3.heap.size + 1 + 1) (by simp <;> omega) (by have h := alloc_new ((w3.alloc (.cells #[.int .u64 (W (rngP 65 91) 0), .int .u64 (W (rngP 65 91) 1), .int .u64 (W (rngP 65 91) 2), .int .u64 (W (rngP 65 91) 3)] 24)).alloc (.cells #[.int .u64 (W (rngP 97 123) 0), .int .u64 (W (rngP 97 123) 1), .int .u64 (W (rngP 97 123) 2), .int .u64 (W (rngP 97 123) 3)] 24)) (.cells #[.int .u64 (W (rngP 48 58) 0), .int .u64 (W (rngP 48 58) 1), .int .u64 (W (rngP 48 58) 2), .int .u64 (W (rngP 48 58) 3)] 24); simpa using h)))
  have b1 := ((Below.refl w.heap.size w).alloc (Nat.le_refl _) (.cells #[.int .u64 0, .int .u64 0, .int .u64 0, .int .u64 0] 24)).trans (hb1.mono (by simp))
  have b2 := b1.trans (hb2.mono b1.size)
  have b3 := b2.trans (hb3.mono b2.size)
  have z3 := b3.size
  have b4 := (((b3.alloc z3 (.cells #[.int .u64 (W (rngP 65 91) 0), .int .u64 (W (rngP 65 91) 1), .int .u64 (W (rngP 65 91) 2), .int .u64 (W (rngP 65 91) 3)] 24)).alloc (by simp; omega) (.cells #[.int .u64 (W (rngP 97 123) 0), .int .u64 (W (rngP 97 123) 1), .int .u64 (W (rngP 97 123) 2), .int .u64 (W (rngP 97 123) 3)] 24)).alloc (by simp; omega) (.cells #[.int .u64 (W (rngP 48 58) 0), .int .u64 (W (rngP 48 58) 1), .int .u64 (W (rngP 48 58) 2), .int .u64 (W (rngP 48 58) 3)] 24)).trans (hb4.mono (by simp; omega))
  have z4 := b4.size
  have b5 := b4.alloc z4 (.cells #[.int .u64 (W (uni (rngP 65 91) (rngP 97 123)) 0), .int .u64 (W (uni (rngP 65 91) (rngP 97 123)) 1), .int .u64 (W (uni (rngP 65 91) (rngP 97 123)) 2), .int .u64 (W (uni (rngP 65 91) (rngP 97 123)) 3)] 24)
  have z5 := b5.size
  have hL5 := alloc_new w4 (.cells #[.int .u64 (W (uni (rngP 65 91) (rngP 97 123)) 0), .int .u64 (W (uni (rngP 65 91) (rngP 97 123)) 1), .int .u64 (W (uni (rngP 65 91) (rngP 97 123)) 2), .int .u64 (W (uni (rngP 65 91) (rngP 97 123)) 3)] 24)
  have hD5 := alloc_old (y := .cells #[.int .u64 (W (uni (rngP 65 91) (rngP 97 123)) 0), .int .u64 (W (uni (rngP 65 91) (rngP 97 123)) 1), .int .u64 (W (uni (rngP 65 91) (rngP 97 123)) 2), .int .u64 (W (uni (rngP 65 91) (rngP 97 123)) 3)] 24) hX2
  have hR5 := alloc_old (y := .cells #[.int .u64 (W (uni (rngP 65 91) (rngP 97 123)) 0), .int .u64 (W (uni (rngP 65 91) (rngP 97 123)) 1), .int .u64 (W (uni (rngP 65 91) (rngP 97 123)) 2), .int .u64 (W (uni (rngP 65 91) (rngP 97 123)) 3)] 24) hR4
  clear hX0 hX1 hX2 hR4 hR3 hR2 hR1 b1 b2 b3 b4 hb1 hb2 hb3 hb4
  generalize w4.alloc (.cells #[.int .u64 (W (uni (rngP 65 91) (rngP 97 123)) 0), .int .u64 (W (uni (rngP 65 91) (rngP 97 123)) 1), .int .u64 (W (uni (rngP 65 91) (rngP 97 123)) 2), .int .u64 (W (uni (rngP 65 91) (rngP 97 123)) 3)] 24) = w5 at *
  have lL := grow_cell hL5 (block_lt hL5)
  have lD := grow_cell hD5 (block_lt hD5)
  refine wp_region_grow_tail w5.heap.size 5 (by kernel_rfl) (by kernel_rfl) ?_
  simp only [List.take_succ_cons, List.take_zero, List.drop_succ_cons, List.drop_zero]
  repeat (go_big_quiet_step (first | (go_at_call 43; with_reducible refine Calls.grow_of (Nat.le_refl _) (sp_65_70 _); done) | (go_at_call 43; with_reducible refine Calls.grow_of (Nat.le_refl _) (sp_97_102 _); done) | (go_at_call 27; with_reducible refine Calls.grow_of (Nat.le_refl _) (union_any (rngP 65 71) (rngP 97 103) _); done) | (go_at_call 27; with_reducible refine Calls.grow_of (Nat.le_refl _) (union_any (rngP 48 58) (uni (rngP 65 71) (rngP 97 103)) _); done)))
  refine wpQuiet_nil ?_
  rintro _ ⟨g, rfl⟩
  have hR6 := grow_heap hR5 (block_lt hR5) g
  have b6 := b5.trans (g.below.mono z5)
  clear lL lD
  generalize g.val = w6 at *
  have hst := block_free hR6
  have hcr := block_cell hR6
  go_wp2
  have hfin := set4 hR6 (.int .u64 (W (uni (rngP 48 58) (uni (rngP 65 71) (rngP 97 103))) 0)) (.int .u64 (W (uni (rngP 48 58) (uni (rngP 65 71) (rngP 97 103))) 1)) (.int .u64 (W (uni (rngP 48 58) (uni (rngP 65 71) (rngP 97 103))) 2)) (.int .u64 (W (uni (rngP 48 58) (uni (rngP 65 71) (rngP 97 103))) 3))
  have hfc := block_cell hfin
  clear hfin
  exact bodyPost_ret (v := .tuple #[.agg #[.int .u64 (W (uni (rngP 48 58) (uni (rngP 65 71) (rngP 97 103))) 0), .int .u64 (W (uni (rngP 48 58) (uni (rngP 65 71) (rngP 97 103))) 1), .int .u64 (W (uni (rngP 48 58) (uni (rngP 65 71) (rngP 97 103))) 2), .int .u64 (W (uni (rngP 48 58) (uni (rngP 65 71) (rngP 97 103))) 3)], .bool true]) (by simp [results, Tryd.results55, go_sem, hfc]) rfl ⟨rfl, below_set4 (b6) (Nat.le_refl _) _ _ _ _⟩

set_option maxHeartbeats 4000000 in
set_option maxRecDepth 20000 in
theorem small_no (c : Nat) (hc : clsB c = false) (w : World) : Calls Tryd.prog 55 #[.int .u8 (c : Int)] w fun e w' => e = .returned (.tuple #[.agg #[.int .u64 0, .int .u64 0, .int .u64 0, .int .u64 0], .bool false]) ∧ Below w.heap.size w w' := by
  obtain ⟨n97, n99, n100, n103, n108, n112, n115, n117, n119, n120⟩ := clsB_not hc
  have m97 : ((c : Int) == 97) = false := beq_eq_false_iff_ne.2 (by omega)
  have m99 : ((c : Int) == 99) = false := beq_eq_false_iff_ne.2 (by omega)
  have m100 : ((c : Int) == 100) = false := beq_eq_false_iff_ne.2 (by omega)
  have m103 : ((c : Int) == 103) = false := beq_eq_false_iff_ne.2 (by omega)
  have m108 : ((c : Int) == 108) = false := beq_eq_false_iff_ne.2 (by omega)
  have m112 : ((c : Int) == 112) = false := beq_eq_false_iff_ne.2 (by omega)
  have m115 : ((c : Int) == 115) = false := beq_eq_false_iff_ne.2 (by omega)
  have m117 : ((c : Int) == 117) = false := beq_eq_false_iff_ne.2 (by omega)
  have m119 : ((c : Int) == 119) = false := beq_eq_false_iff_ne.2 (by omega)
  have m120 : ((c : Int) == 120) = false := beq_eq_false_iff_ne.2 (by omega)
  clear hc n97 n99 n100 n103 n108 n112 n115 n117 n119 n120
  go_enter Tryd.func55, Tryd.ntmps55
  go_wp2_with (first | (go_at_call 43; with_reducible refine Calls.mono (sp_65_90 _) ?_; rintro e w1 ⟨rfl, hb1⟩; have hR1 := below_heap hb1 (b := w.heap.size) (by simp) (alloc_new _ _)) | (go_at_call 43; with_reducible refine Calls.mono (sp_97_122 _) ?_; rintro e w2 ⟨rfl, hb2⟩; have hR2 := below_heap hb2 (b := w.heap.size) (block_lt hR1) hR1) | (go_at_call 43; with_reducible refine Calls.mono (sp_48_57 _) ?_; rintro e w3 ⟨rfl, hb3⟩; have hR3 := below_heap hb3 (b := w.heap.size) (block_lt hR2) hR2) | (go_at_call 27; with_reducible refine Calls.mono (union_any (rngP 65 91) (rngP 97 123) _) ?_; rintro e w4 ⟨rfl, hb4⟩; have hR4 := below_heap hb4 (b := w.heap.size) (by have := block_lt hR3; simp; omega) (alloc_old (alloc_old (alloc_old hR3))); have hX0 := below_heap hb4 (b := w3.heap.size) (by simp <;> omega) (alloc_old (alloc_old (alloc_new _ _))); have hX1 := below_heap hb4 (b := w3.heap.size + 1) (by simp <;> omega) (alloc_old (by have h := alloc_new (w3.alloc (.cells #[.int .u64 (W (rngP 65 91) 0), .int .u64 (W (rngP 65 91) 1), .int .u64 (W (rngP 65 91) 2), .int .u64 (W (rngP 65 91) 3)] 24)) (.cells #[.int .u64 (W (rngP 97 123) 0), .int .u64 (W (rngP 97 123) 1), .int .u64 (W (rngP 97 123) 2), .int .u64 (W (rngP 97 123) 3)] 24); simpa using h)); have hX2 := below_heap hb4 (b := w3.heap.size + 1 + 1) (by simp <;> omega) (by have h := alloc_new ((w3.alloc (.cells #[.int .u64 (W (rngP 65 91) 0), .int .u64 (W (rngP 65 91) 1), .int .u64 (W (rngP 65 91) 2), .int .u64 (W (rngP 65 91) 3)] 24)).alloc (.cells #[.int .u64 (W (rngP 97 123) 0), .int .u64 (W (rngP 97 123) 1), .int .u64 (W (rngP 97 123) 2), .int .u64 (W (rngP 97 123) 3)] 24)) (.cells #[.int .u64 (W (rngP 48 58) 0), .int .u64 (W (rngP 48 58) 1), .int .u64 (W (rngP 48 58) 2), .int .u64 (W (rngP 48 58) 3)] 24); simpa using h); have hR5 := alloc_old (y := .cells #[.int .u64 (W (uni (rngP 65 91) (rngP 97 123)) 0), .int .u64 (W (uni (rngP 65 91) (rngP 97 123)) 1), .int .u64 (W (uni (rngP 65 91) (rngP 97 123)) 2), .int .u64 (W (uni (rngP 65 91) (rngP 97 123)) 3)] 24) hR4; have hst := block_free hR5; have hcr := block_cell hR5))
  have b1 := ((Below.refl w.heap.size w).alloc (Nat.le_refl _) (.cells #[.int .u64 0, .int .u64 0, .int .u64 0, .int .u64 0] 24)).trans (hb1.mono (by simp))
  have b2 := b1.trans (hb2.mono b1.size)
  have b3 := b2.trans (hb3.mono b2.size)
  have z3 := b3.size
  have b4 := (((b3.alloc z3 (.cells #[.int .u64 (W (rngP 65 91) 0), .int .u64 (W (rngP 65 91) 1), .int .u64 (W (rngP 65 91) 2), .int .u64 (W (rngP 65 91) 3)] 24)).alloc (by simp; omega) (.cells #[.int .u64 (W (rngP 97 123) 0), .int .u64 (W (rngP 97 123) 1), .int .u64 (W (rngP 97 123) 2), .int .u64 (W (rngP 97 123) 3)] 24)).alloc (by simp; omega) (.cells #[.int .u64 (W (rngP 48 58) 0), .int .u64 (W (rngP 48 58) 1), .int .u64 (W (rngP 48 58) 2), .int .u64 (W (rngP 48 58) 3)] 24)).trans (hb4.mono (by simp; omega))
  have z4 := b4.size
  have b5 := b4.alloc z4 (.cells #[.int .u64 (W (uni (rngP 65 91) (rngP 97 123)) 0), .int .u64 (W (uni (rngP 65 91) (rngP 97 123)) 1), .int .u64 (W (uni (rngP 65 91) (rngP 97 123)) 2), .int .u64 (W (uni (rngP 65 91) (rngP 97 123)) 3)] 24)
  have z5 := b5.size
  have hfin := set4 hR5 (.int .u64 0) (.int .u64 0) (.int .u64 0) (.int .u64 0)
  have hfc := block_cell hfin
  clear hfin
  exact bodyPost_ret (v := .tuple #[.agg #[.int .u64 0, .int .u64 0, .int .u64 0, .int .u64 0], .bool false]) (by simp [results, Tryd.results55, go_sem, hfc]) rfl ⟨rfl, below_set4 (b5) (Nat.le_refl _) _ _ _ _⟩

theorem small_yes (c : Nat) (hc : clsB c = true) (w : World) : Calls Tryd.prog 55 #[.int .u8 (c : Int)] w fun e w' => e = .returned (.tuple #[.agg #[.int .u64 (W (clsP c) 0), .int .u64 (W (clsP c) 1), .int .u64 (W (clsP c) 2), .int .u64 (W (clsP c) 3)], .bool true]) ∧ Below w.heap.size w w' := by
  rcases clsB_cases hc with rfl | rfl | rfl | rfl | rfl | rfl | rfl | rfl | rfl | rfl
  · exact small_97 w
  · exact small_99 w
  · exact small_100 w
  · exact small_103 w
  · exact small_108 w
  · exact small_112 w
  · exact small_115 w
  · exact small_117 w
  · exact small_119 w
  · exact small_120 w

end Go.Proofs.YtjbdamedofgdgaaDoor
