/-
  The reference's Class: what it returns for every letter; what lay in memory stays as it was.
-/
import Derived.Test.YtjbdamedofgdgaaClass
namespace Go.Proofs.Ytjbdamedofgdgaa
open Go.RowKit
set_option linter.unusedVariables false
set_option linter.unusedSimpArgs false

set_option maxHeartbeats 4000000 in
set_option maxRecDepth 20000 in
theorem rsmall_97 (w : World) : Calls Try.prog 21 #[.int .i64 97] w fun e w' => e = .returned (.tuple #[.agg #[.int .u64 (W (uni (rngP 65 91) (rngP 97 123)) 0), .int .u64 (W (uni (rngP 65 91) (rngP 97 123)) 1), .int .u64 (W (uni (rngP 65 91) (rngP 97 123)) 2), .int .u64 (W (uni (rngP 65 91) (rngP 97 123)) 3)], .int .i64 0]) ∧ Below w.heap.size w w' := by
  go_enter Try.func21, Try.ntmps21
  go_wp2_with (first | (go_at_call 27; with_reducible refine Calls.mono (rsp_97_122 _) ?_; rintro e w1 ⟨rfl, hb1⟩; have hR1 := below_heap hb1 (b := w.heap.size) (by simp) (alloc_new _ _)) | (go_at_call 27; with_reducible refine Calls.mono (rsp_65_90 _) ?_; rintro e w2 ⟨rfl, hb2⟩; have hR2 := below_heap hb2 (b := w.heap.size) (block_lt hR1) hR1) | (go_at_call 27; with_reducible refine Calls.mono (rsp_48_57 _) ?_; rintro e w3 ⟨rfl, hb3⟩; have hR3 := below_heap hb3 (b := w.heap.size) (block_lt hR2) hR2) | (go_at_call 11; with_reducible refine Calls.mono (runion_let _) ?_; rintro e w4 ⟨rfl, hb4⟩; have hR4 := below_heap hb4 (b := w.heap.size) (by have := block_lt hR3; simp; omega) (alloc_old (alloc_old (alloc_old hR3))); have hX0 := below_heap hb4 (b := w3.heap.size) (by simp <;> omega) (alloc_old (alloc_old (alloc_new _ _))); have hX1 := below_heap hb4 (b := w3.heap.size + 1) (by simp <;> omega) (alloc_old (by have h := alloc_new (w3.alloc (.cells #[.int .u64 (W (rngP 97 123) 0), .int .u64 (W (rngP 97 123) 1), .int .u64 (W (rngP 97 123) 2), .int .u64 (W (rngP 97 123) 3)] 24)) (.cells #[.int .u64 (W (rngP 65 91) 0), .int .u64 (W (rngP 65 91) 1), .int .u64 (W (rngP 65 91) 2), .int .u64 (W (rngP 65 91) 3)] 24); simpa using h)); have hX2 := below_heap hb4 (b := w3.heap.size + 1 + 1) (by simp <;> omega) (by have h := alloc_new ((w3.alloc (.cells #[.int .u64 (W (rngP 97 123) 0), .int .u64 (W (rngP 97 123) 1), .int .u64 (W (rngP 97 123) 2), .int .u64 (W (rngP 97 123) 3)] 24)).alloc (.cells #[.int .u64 (W (rngP 65 91) 0), .int .u64 (W (rngP 65 91) 1), .int .u64 (W (rngP 65 91) 2), .int .u64 (W (rngP 65 91) 3)] 24)) (.cells #[.int .u64 (W (rngP 48 58) 0), .int .u64 (W (rngP 48 58) 1), .int .u64 (W (rngP 48 58) 2), .int .u64 (W (rngP 48 58) 3)] 24); simpa using h); have hR5 := alloc_old (y := .cells #[.int .u64 (W (uni (rngP 65 91) (rngP 97 123)) 0), .int .u64 (W (uni (rngP 65 91) (rngP 97 123)) 1), .int .u64 (W (uni (rngP 65 91) (rngP 97 123)) 2), .int .u64 (W (uni (rngP 65 91) (rngP 97 123)) 3)] 24) hR4; have hst := block_free hR5; have hcr := block_cell hR5))
  have b1 := ((Below.refl w.heap.size w).alloc (Nat.le_refl _) (.cells #[.int .u64 0, .int .u64 0, .int .u64 0, .int .u64 0] 24)).trans (hb1.mono (by simp))
  have b2 := b1.trans (hb2.mono b1.size)
  have b3 := b2.trans (hb3.mono b2.size)
  have z3 := b3.size
  have b4 := (((b3.alloc z3 (.cells #[.int .u64 (W (rngP 97 123) 0), .int .u64 (W (rngP 97 123) 1), .int .u64 (W (rngP 97 123) 2), .int .u64 (W (rngP 97 123) 3)] 24)).alloc (by simp; omega) (.cells #[.int .u64 (W (rngP 65 91) 0), .int .u64 (W (rngP 65 91) 1), .int .u64 (W (rngP 65 91) 2), .int .u64 (W (rngP 65 91) 3)] 24)).alloc (by simp; omega) (.cells #[.int .u64 (W (rngP 48 58) 0), .int .u64 (W (rngP 48 58) 1), .int .u64 (W (rngP 48 58) 2), .int .u64 (W (rngP 48 58) 3)] 24)).trans (hb4.mono (by simp; omega))
  have z4 := b4.size
  have b5 := b4.alloc z4 (.cells #[.int .u64 (W (uni (rngP 65 91) (rngP 97 123)) 0), .int .u64 (W (uni (rngP 65 91) (rngP 97 123)) 1), .int .u64 (W (uni (rngP 65 91) (rngP 97 123)) 2), .int .u64 (W (uni (rngP 65 91) (rngP 97 123)) 3)] 24)
  have z5 := b5.size
  have hfin := set4 hR5 (.int .u64 (W (uni (rngP 65 91) (rngP 97 123)) 0)) (.int .u64 (W (uni (rngP 65 91) (rngP 97 123)) 1)) (.int .u64 (W (uni (rngP 65 91) (rngP 97 123)) 2)) (.int .u64 (W (uni (rngP 65 91) (rngP 97 123)) 3))
  have hfc := block_cell hfin
  clear hfin
  exact bodyPost_ret (v := .tuple #[.agg #[.int .u64 (W (uni (rngP 65 91) (rngP 97 123)) 0), .int .u64 (W (uni (rngP 65 91) (rngP 97 123)) 1), .int .u64 (W (uni (rngP 65 91) (rngP 97 123)) 2), .int .u64 (W (uni (rngP 65 91) (rngP 97 123)) 3)], .int .i64 0]) (by simp [results, Try.results21, go_sem, hfc]) rfl ⟨rfl, below_set4 (b5) (Nat.le_refl _) _ _ _ _⟩

set_option maxHeartbeats 4000000 in
set_option maxRecDepth 20000 in
theorem rsmall_99 (w : World) : Calls Try.prog 21 #[.int .i64 99] w fun e w' => e = .returned (.tuple #[.agg #[.int .u64 (W (ins (rngP 0 32) 127) 0), .int .u64 (W (ins (rngP 0 32) 127) 1), .int .u64 (W (ins (rngP 0 32) 127) 2), .int .u64 (W (ins (rngP 0 32) 127) 3)], .int .i64 0]) ∧ Below w.heap.size w w' := by
  go_enter Try.func21, Try.ntmps21
  go_wp2_with (first | (go_at_call 23; with_reducible refine Calls.mono (rwi_127 _) ?_; rintro e w6 ⟨rfl, hb6⟩; have hR5 := below_heap hb6 (block_lt hR5') hR5'; have hst := block_free hR5; have hcr := block_cell hR5) | (go_at_call 27; with_reducible refine Calls.mono (rsp_0_31 _) ?_; rintro e w5 ⟨rfl, hb5⟩; have hR5' := below_heap hb5 (b := w.heap.size) (by have := block_lt hR4; simp; omega) (alloc_old hR4)) | (go_at_call 27; with_reducible refine Calls.mono (rsp_97_122 _) ?_; rintro e w1 ⟨rfl, hb1⟩; have hR1 := below_heap hb1 (b := w.heap.size) (by simp) (alloc_new _ _)) | (go_at_call 27; with_reducible refine Calls.mono (rsp_65_90 _) ?_; rintro e w2 ⟨rfl, hb2⟩; have hR2 := below_heap hb2 (b := w.heap.size) (block_lt hR1) hR1) | (go_at_call 27; with_reducible refine Calls.mono (rsp_48_57 _) ?_; rintro e w3 ⟨rfl, hb3⟩; have hR3 := below_heap hb3 (b := w.heap.size) (block_lt hR2) hR2) | (go_at_call 11; with_reducible refine Calls.mono (runion_let _) ?_; rintro e w4 ⟨rfl, hb4⟩; have hR4 := below_heap hb4 (b := w.heap.size) (by have := block_lt hR3; simp; omega) (alloc_old (alloc_old (alloc_old hR3))); have hX0 := below_heap hb4 (b := w3.heap.size) (by simp <;> omega) (alloc_old (alloc_old (alloc_new _ _))); have hX1 := below_heap hb4 (b := w3.heap.size + 1) (by simp <;> omega) (alloc_old (by have h := alloc_new (w3.alloc (.cells #[.int .u64 (W (rngP 97 123) 0), .int .u64 (W (rngP 97 123) 1), .int .u64 (W (rngP 97 123) 2), .int .u64 (W (rngP 97 123) 3)] 24)) (.cells #[.int .u64 (W (rngP 65 91) 0), .int .u64 (W (rngP 65 91) 1), .int .u64 (W (rngP 65 91) 2), .int .u64 (W (rngP 65 91) 3)] 24); simpa using h)); have hX2 := below_heap hb4 (b := w3.heap.size + 1 + 1) (by simp <;> omega) (by have h := alloc_new ((w3.alloc (.cells #[.int .u64 (W (rngP 97 123) 0), .int .u64 (W (rngP 97 123) 1), .int .u64 (W (rngP 97 123) 2), .int .u64 (W (rngP 97 123) 3)] 24)).alloc (.cells #[.int .u64 (W (rngP 65 91) 0), .int .u64 (W (rngP 65 91) 1), .int .u64 (W (rngP 65 91) 2), .int .u64 (W (rngP 65 91) 3)] 24)) (.cells #[.int .u64 (W (rngP 48 58) 0), .int .u64 (W (rngP 48 58) 1), .int .u64 (W (rngP 48 58) 2), .int .u64 (W (rngP 48 58) 3)] 24); simpa using h)))
  have b1 := ((Below.refl w.heap.size w).alloc (Nat.le_refl _) (.cells #[.int .u64 0, .int .u64 0, .int .u64 0, .int .u64 0] 24)).trans (hb1.mono (by simp))
  have b2 := b1.trans (hb2.mono b1.size)
  have b3 := b2.trans (hb3.mono b2.size)
  have z3 := b3.size
  have b4 := (((b3.alloc z3 (.cells #[.int .u64 (W (rngP 97 123) 0), .int .u64 (W (rngP 97 123) 1), .int .u64 (W (rngP 97 123) 2), .int .u64 (W (rngP 97 123) 3)] 24)).alloc (by simp; omega) (.cells #[.int .u64 (W (rngP 65 91) 0), .int .u64 (W (rngP 65 91) 1), .int .u64 (W (rngP 65 91) 2), .int .u64 (W (rngP 65 91) 3)] 24)).alloc (by simp; omega) (.cells #[.int .u64 (W (rngP 48 58) 0), .int .u64 (W (rngP 48 58) 1), .int .u64 (W (rngP 48 58) 2), .int .u64 (W (rngP 48 58) 3)] 24)).trans (hb4.mono (by simp; omega))
  have z4 := b4.size
  have b5 := b4.alloc z4 (.cells #[.int .u64 (W (uni (rngP 65 91) (rngP 97 123)) 0), .int .u64 (W (uni (rngP 65 91) (rngP 97 123)) 1), .int .u64 (W (uni (rngP 65 91) (rngP 97 123)) 2), .int .u64 (W (uni (rngP 65 91) (rngP 97 123)) 3)] 24)
  have z5 := b5.size
  have hfin := set4 hR5 (.int .u64 (W (ins (rngP 0 32) 127) 0)) (.int .u64 (W (ins (rngP 0 32) 127) 1)) (.int .u64 (W (ins (rngP 0 32) 127) 2)) (.int .u64 (W (ins (rngP 0 32) 127) 3))
  have hfc := block_cell hfin
  clear hfin
  exact bodyPost_ret (v := .tuple #[.agg #[.int .u64 (W (ins (rngP 0 32) 127) 0), .int .u64 (W (ins (rngP 0 32) 127) 1), .int .u64 (W (ins (rngP 0 32) 127) 2), .int .u64 (W (ins (rngP 0 32) 127) 3)], .int .i64 0]) (by simp [results, Try.results21, go_sem, hfc]) rfl ⟨rfl, below_set4 ((b5.trans (hb5.mono z5)).trans (hb6.mono (Nat.le_trans z5 hb5.size))) (Nat.le_refl _) _ _ _ _⟩

set_option maxHeartbeats 4000000 in
set_option maxRecDepth 20000 in
theorem rsmall_100 (w : World) : Calls Try.prog 21 #[.int .i64 100] w fun e w' => e = .returned (.tuple #[.agg #[.int .u64 (W (rngP 48 58) 0), .int .u64 (W (rngP 48 58) 1), .int .u64 (W (rngP 48 58) 2), .int .u64 (W (rngP 48 58) 3)], .int .i64 0]) ∧ Below w.heap.size w w' := by
  go_enter Try.func21, Try.ntmps21
  go_wp2_with (first | (go_at_call 27; with_reducible refine Calls.mono (rsp_97_122 _) ?_; rintro e w1 ⟨rfl, hb1⟩; have hR1 := below_heap hb1 (b := w.heap.size) (by simp) (alloc_new _ _)) | (go_at_call 27; with_reducible refine Calls.mono (rsp_65_90 _) ?_; rintro e w2 ⟨rfl, hb2⟩; have hR2 := below_heap hb2 (b := w.heap.size) (block_lt hR1) hR1) | (go_at_call 27; with_reducible refine Calls.mono (rsp_48_57 _) ?_; rintro e w3 ⟨rfl, hb3⟩; have hR3 := below_heap hb3 (b := w.heap.size) (block_lt hR2) hR2) | (go_at_call 11; with_reducible refine Calls.mono (runion_let _) ?_; rintro e w4 ⟨rfl, hb4⟩; have hR4 := below_heap hb4 (b := w.heap.size) (by have := block_lt hR3; simp; omega) (alloc_old (alloc_old (alloc_old hR3))); have hX0 := below_heap hb4 (b := w3.heap.size) (by simp <;> omega) (alloc_old (alloc_old (alloc_new _ _))); have hX1 := below_heap hb4 (b := w3.heap.size + 1) (by simp <;> omega) (alloc_old (by have h := alloc_new (w3.alloc (.cells #[.int .u64 (W (rngP 97 123) 0), .int .u64 (W (rngP 97 123) 1), .int .u64 (W (rngP 97 123) 2), .int .u64 (W (rngP 97 123) 3)] 24)) (.cells #[.int .u64 (W (rngP 65 91) 0), .int .u64 (W (rngP 65 91) 1), .int .u64 (W (rngP 65 91) 2), .int .u64 (W (rngP 65 91) 3)] 24); simpa using h)); have hX2 := below_heap hb4 (b := w3.heap.size + 1 + 1) (by simp <;> omega) (by have h := alloc_new ((w3.alloc (.cells #[.int .u64 (W (rngP 97 123) 0), .int .u64 (W (rngP 97 123) 1), .int .u64 (W (rngP 97 123) 2), .int .u64 (W (rngP 97 123) 3)] 24)).alloc (.cells #[.int .u64 (W (rngP 65 91) 0), .int .u64 (W (rngP 65 91) 1), .int .u64 (W (rngP 65 91) 2), .int .u64 (W (rngP 65 91) 3)] 24)) (.cells #[.int .u64 (W (rngP 48 58) 0), .int .u64 (W (rngP 48 58) 1), .int .u64 (W (rngP 48 58) 2), .int .u64 (W (rngP 48 58) 3)] 24); simpa using h); have hR5 := alloc_old (y := .cells #[.int .u64 (W (uni (rngP 65 91) (rngP 97 123)) 0), .int .u64 (W (uni (rngP 65 91) (rngP 97 123)) 1), .int .u64 (W (uni (rngP 65 91) (rngP 97 123)) 2), .int .u64 (W (uni (rngP 65 91) (rngP 97 123)) 3)] 24) hR4; have hst := block_free hR5; have hcr := block_cell hR5; have hcx := block_cell (alloc_old (y := .cells #[.int .u64 (W (uni (rngP 65 91) (rngP 97 123)) 0), .int .u64 (W (uni (rngP 65 91) (rngP 97 123)) 1), .int .u64 (W (uni (rngP 65 91) (rngP 97 123)) 2), .int .u64 (W (uni (rngP 65 91) (rngP 97 123)) 3)] 24) hX2)))
  have b1 := ((Below.refl w.heap.size w).alloc (Nat.le_refl _) (.cells #[.int .u64 0, .int .u64 0, .int .u64 0, .int .u64 0] 24)).trans (hb1.mono (by simp))
  have b2 := b1.trans (hb2.mono b1.size)
  have b3 := b2.trans (hb3.mono b2.size)
  have z3 := b3.size
  have b4 := (((b3.alloc z3 (.cells #[.int .u64 (W (rngP 97 123) 0), .int .u64 (W (rngP 97 123) 1), .int .u64 (W (rngP 97 123) 2), .int .u64 (W (rngP 97 123) 3)] 24)).alloc (by simp; omega) (.cells #[.int .u64 (W (rngP 65 91) 0), .int .u64 (W (rngP 65 91) 1), .int .u64 (W (rngP 65 91) 2), .int .u64 (W (rngP 65 91) 3)] 24)).alloc (by simp; omega) (.cells #[.int .u64 (W (rngP 48 58) 0), .int .u64 (W (rngP 48 58) 1), .int .u64 (W (rngP 48 58) 2), .int .u64 (W (rngP 48 58) 3)] 24)).trans (hb4.mono (by simp; omega))
  have z4 := b4.size
  have b5 := b4.alloc z4 (.cells #[.int .u64 (W (uni (rngP 65 91) (rngP 97 123)) 0), .int .u64 (W (uni (rngP 65 91) (rngP 97 123)) 1), .int .u64 (W (uni (rngP 65 91) (rngP 97 123)) 2), .int .u64 (W (uni (rngP 65 91) (rngP 97 123)) 3)] 24)
  have z5 := b5.size
  have hfin := set4 hR5 (.int .u64 (W (rngP 48 58) 0)) (.int .u64 (W (rngP 48 58) 1)) (.int .u64 (W (rngP 48 58) 2)) (.int .u64 (W (rngP 48 58) 3))
  have hfc := block_cell hfin
  clear hfin
  exact bodyPost_ret (v := .tuple #[.agg #[.int .u64 (W (rngP 48 58) 0), .int .u64 (W (rngP 48 58) 1), .int .u64 (W (rngP 48 58) 2), .int .u64 (W (rngP 48 58) 3)], .int .i64 0]) (by simp [results, Try.results21, go_sem, hfc]) rfl ⟨rfl, below_set4 (b5) (Nat.le_refl _) _ _ _ _⟩

set_option maxHeartbeats 4000000 in
set_option maxRecDepth 20000 in
theorem rsmall_103 (w : World) : Calls Try.prog 21 #[.int .i64 103] w fun e w' => e = .returned (.tuple #[.agg #[.int .u64 (W (rngP 33 127) 0), .int .u64 (W (rngP 33 127) 1), .int .u64 (W (rngP 33 127) 2), .int .u64 (W (rngP 33 127) 3)], .int .i64 0]) ∧ Below w.heap.size w w' := by
  go_enter Try.func21, Try.ntmps21
  go_wp2_with (first | (go_at_call 27; with_reducible refine Calls.mono (rsp_33_126 _) ?_; rintro e w5 ⟨rfl, hb5⟩; have hR5 := below_heap hb5 (b := w.heap.size) (by have := block_lt hR4; simp; omega) (alloc_old hR4); have hst := block_free hR5; have hcr := block_cell hR5) | (go_at_call 27; with_reducible refine Calls.mono (rsp_97_122 _) ?_; rintro e w1 ⟨rfl, hb1⟩; have hR1 := below_heap hb1 (b := w.heap.size) (by simp) (alloc_new _ _)) | (go_at_call 27; with_reducible refine Calls.mono (rsp_65_90 _) ?_; rintro e w2 ⟨rfl, hb2⟩; have hR2 := below_heap hb2 (b := w.heap.size) (block_lt hR1) hR1) | (go_at_call 27; with_reducible refine Calls.mono (rsp_48_57 _) ?_; rintro e w3 ⟨rfl, hb3⟩; have hR3 := below_heap hb3 (b := w.heap.size) (block_lt hR2) hR2) | (go_at_call 11; with_reducible refine Calls.mono (runion_let _) ?_; rintro e w4 ⟨rfl, hb4⟩; have hR4 := below_heap hb4 (b := w.heap.size) (by have := block_lt hR3; simp; omega) (alloc_old (alloc_old (alloc_old hR3))); have hX0 := below_heap hb4 (b := w3.heap.size) (by simp <;> omega) (alloc_old (alloc_old (alloc_new _ _))); have hX1 := below_heap hb4 (b := w3.heap.size + 1) (by simp <;> omega) (alloc_old (by have h := alloc_new (w3.alloc (.cells #[.int .u64 (W (rngP 97 123) 0), .int .u64 (W (rngP 97 123) 1), .int .u64 (W (rngP 97 123) 2), .int .u64 (W (rngP 97 123) 3)] 24)) (.cells #[.int .u64 (W (rngP 65 91) 0), .int .u64 (W (rngP 65 91) 1), .int .u64 (W (rngP 65 91) 2), .int .u64 (W (rngP 65 91) 3)] 24); simpa using h)); have hX2 := below_heap hb4 (b := w3.heap.size + 1 + 1) (by simp <;> omega) (by have h := alloc_new ((w3.alloc (.cells #[.int .u64 (W (rngP 97 123) 0), .int .u64 (W (rngP 97 123) 1), .int .u64 (W (rngP 97 123) 2), .int .u64 (W (rngP 97 123) 3)] 24)).alloc (.cells #[.int .u64 (W (rngP 65 91) 0), .int .u64 (W (rngP 65 91) 1), .int .u64 (W (rngP 65 91) 2), .int .u64 (W (rngP 65 91) 3)] 24)) (.cells #[.int .u64 (W (rngP 48 58) 0), .int .u64 (W (rngP 48 58) 1), .int .u64 (W (rngP 48 58) 2), .int .u64 (W (rngP 48 58) 3)] 24); simpa using h)))
  have b1 := ((Below.refl w.heap.size w).alloc (Nat.le_refl _) (.cells #[.int .u64 0, .int .u64 0, .int .u64 0, .int .u64 0] 24)).trans (hb1.mono (by simp))
  have b2 := b1.trans (hb2.mono b1.size)
  have b3 := b2.trans (hb3.mono b2.size)
  have z3 := b3.size
  have b4 := (((b3.alloc z3 (.cells #[.int .u64 (W (rngP 97 123) 0), .int .u64 (W (rngP 97 123) 1), .int .u64 (W (rngP 97 123) 2), .int .u64 (W (rngP 97 123) 3)] 24)).alloc (by simp; omega) (.cells #[.int .u64 (W (rngP 65 91) 0), .int .u64 (W (rngP 65 91) 1), .int .u64 (W (rngP 65 91) 2), .int .u64 (W (rngP 65 91) 3)] 24)).alloc (by simp; omega) (.cells #[.int .u64 (W (rngP 48 58) 0), .int .u64 (W (rngP 48 58) 1), .int .u64 (W (rngP 48 58) 2), .int .u64 (W (rngP 48 58) 3)] 24)).trans (hb4.mono (by simp; omega))
  have z4 := b4.size
  have b5 := b4.alloc z4 (.cells #[.int .u64 (W (uni (rngP 65 91) (rngP 97 123)) 0), .int .u64 (W (uni (rngP 65 91) (rngP 97 123)) 1), .int .u64 (W (uni (rngP 65 91) (rngP 97 123)) 2), .int .u64 (W (uni (rngP 65 91) (rngP 97 123)) 3)] 24)
  have z5 := b5.size
  have hfin := set4 hR5 (.int .u64 (W (rngP 33 127) 0)) (.int .u64 (W (rngP 33 127) 1)) (.int .u64 (W (rngP 33 127) 2)) (.int .u64 (W (rngP 33 127) 3))
  have hfc := block_cell hfin
  clear hfin
  exact bodyPost_ret (v := .tuple #[.agg #[.int .u64 (W (rngP 33 127) 0), .int .u64 (W (rngP 33 127) 1), .int .u64 (W (rngP 33 127) 2), .int .u64 (W (rngP 33 127) 3)], .int .i64 0]) (by simp [results, Try.results21, go_sem, hfc]) rfl ⟨rfl, below_set4 (b5.trans (hb5.mono z5)) (Nat.le_refl _) _ _ _ _⟩

set_option maxHeartbeats 4000000 in
set_option maxRecDepth 20000 in
theorem rsmall_108 (w : World) : Calls Try.prog 21 #[.int .i64 108] w fun e w' => e = .returned (.tuple #[.agg #[.int .u64 (W (rngP 97 123) 0), .int .u64 (W (rngP 97 123) 1), .int .u64 (W (rngP 97 123) 2), .int .u64 (W (rngP 97 123) 3)], .int .i64 0]) ∧ Below w.heap.size w w' := by
  go_enter Try.func21, Try.ntmps21
  go_wp2_with (first | (go_at_call 27; with_reducible refine Calls.mono (rsp_97_122 _) ?_; rintro e w1 ⟨rfl, hb1⟩; have hR1 := below_heap hb1 (b := w.heap.size) (by simp) (alloc_new _ _)) | (go_at_call 27; with_reducible refine Calls.mono (rsp_65_90 _) ?_; rintro e w2 ⟨rfl, hb2⟩; have hR2 := below_heap hb2 (b := w.heap.size) (block_lt hR1) hR1) | (go_at_call 27; with_reducible refine Calls.mono (rsp_48_57 _) ?_; rintro e w3 ⟨rfl, hb3⟩; have hR3 := below_heap hb3 (b := w.heap.size) (block_lt hR2) hR2) | (go_at_call 11; with_reducible refine Calls.mono (runion_let _) ?_; rintro e w4 ⟨rfl, hb4⟩; have hR4 := below_heap hb4 (b := w.heap.size) (by have := block_lt hR3; simp; omega) (alloc_old (alloc_old (alloc_old hR3))); have hX0 := below_heap hb4 (b := w3.heap.size) (by simp <;> omega) (alloc_old (alloc_old (alloc_new _ _))); have hX1 := below_heap hb4 (b := w3.heap.size + 1) (by simp <;> omega) (alloc_old (by have h := alloc_new (w3.alloc (.cells #[.int .u64 (W (rngP 97 123) 0), .int .u64 (W (rngP 97 123) 1), .int .u64 (W (rngP 97 123) 2), .int .u64 (W (rngP 97 123) 3)] 24)) (.cells #[.int .u64 (W (rngP 65 91) 0), .int .u64 (W (rngP 65 91) 1), .int .u64 (W (rngP 65 91) 2), .int .u64 (W (rngP 65 91) 3)] 24); simpa using h)); have hX2 := below_heap hb4 (b := w3.heap.size + 1 + 1) (by simp <;> omega) (by have h := alloc_new ((w3.alloc (.cells #[.int .u64 (W (rngP 97 123) 0), .int .u64 (W (rngP 97 123) 1), .int .u64 (W (rngP 97 123) 2), .int .u64 (W (rngP 97 123) 3)] 24)).alloc (.cells #[.int .u64 (W (rngP 65 91) 0), .int .u64 (W (rngP 65 91) 1), .int .u64 (W (rngP 65 91) 2), .int .u64 (W (rngP 65 91) 3)] 24)) (.cells #[.int .u64 (W (rngP 48 58) 0), .int .u64 (W (rngP 48 58) 1), .int .u64 (W (rngP 48 58) 2), .int .u64 (W (rngP 48 58) 3)] 24); simpa using h); have hR5 := alloc_old (y := .cells #[.int .u64 (W (uni (rngP 65 91) (rngP 97 123)) 0), .int .u64 (W (uni (rngP 65 91) (rngP 97 123)) 1), .int .u64 (W (uni (rngP 65 91) (rngP 97 123)) 2), .int .u64 (W (uni (rngP 65 91) (rngP 97 123)) 3)] 24) hR4; have hst := block_free hR5; have hcr := block_cell hR5; have hcx := block_cell (alloc_old (y := .cells #[.int .u64 (W (uni (rngP 65 91) (rngP 97 123)) 0), .int .u64 (W (uni (rngP 65 91) (rngP 97 123)) 1), .int .u64 (W (uni (rngP 65 91) (rngP 97 123)) 2), .int .u64 (W (uni (rngP 65 91) (rngP 97 123)) 3)] 24) hX0)))
  have b1 := ((Below.refl w.heap.size w).alloc (Nat.le_refl _) (.cells #[.int .u64 0, .int .u64 0, .int .u64 0, .int .u64 0] 24)).trans (hb1.mono (by simp))
  have b2 := b1.trans (hb2.mono b1.size)
  have b3 := b2.trans (hb3.mono b2.size)
  have z3 := b3.size
  have b4 := (((b3.alloc z3 (.cells #[.int .u64 (W (rngP 97 123) 0), .int .u64 (W (rngP 97 123) 1), .int .u64 (W (rngP 97 123) 2), .int .u64 (W (rngP 97 123) 3)] 24)).alloc (by simp; omega) (.cells #[.int .u64 (W (rngP 65 91) 0), .int .u64 (W (rngP 65 91) 1), .int .u64 (W (rngP 65 91) 2), .int .u64 (W (rngP 65 91) 3)] 24)).alloc (by simp; omega) (.cells #[.int .u64 (W (rngP 48 58) 0), .int .u64 (W (rngP 48 58) 1), .int .u64 (W (rngP 48 58) 2), .int .u64 (W (rngP 48 58) 3)] 24)).trans (hb4.mono (by simp; omega))
  have z4 := b4.size
  have b5 := b4.alloc z4 (.cells #[.int .u64 (W (uni (rngP 65 91) (rngP 97 123)) 0), .int .u64 (W (uni (rngP 65 91) (rngP 97 123)) 1), .int .u64 (W (uni (rngP 65 91) (rngP 97 123)) 2), .int .u64 (W (uni (rngP 65 91) (rngP 97 123)) 3)] 24)
  have z5 := b5.size
  have hfin := set4 hR5 (.int .u64 (W (rngP 97 123) 0)) (.int .u64 (W (rngP 97 123) 1)) (.int .u64 (W (rngP 97 123) 2)) (.int .u64 (W (rngP 97 123) 3))
  have hfc := block_cell hfin
  clear hfin
  exact bodyPost_ret (v := .tuple #[.agg #[.int .u64 (W (rngP 97 123) 0), .int .u64 (W (rngP 97 123) 1), .int .u64 (W (rngP 97 123) 2), .int .u64 (W (rngP 97 123) 3)], .int .i64 0]) (by simp [results, Try.results21, go_sem, hfc]) rfl ⟨rfl, below_set4 (b5) (Nat.le_refl _) _ _ _ _⟩

set_option maxHeartbeats 4000000 in
set_option maxRecDepth 20000 in
theorem rsmall_112 (w : World) : Calls Try.prog 21 #[.int .i64 112] w fun e w' => e = .returned (.tuple #[.agg #[.int .u64 (W (les (rngP 33 127) (uni (uni (rngP 65 91) (rngP 97 123)) (rngP 48 58))) 0), .int .u64 (W (les (rngP 33 127) (uni (uni (rngP 65 91) (rngP 97 123)) (rngP 48 58))) 1), .int .u64 (W (les (rngP 33 127) (uni (uni (rngP 65 91) (rngP 97 123)) (rngP 48 58))) 2), .int .u64 (W (les (rngP 33 127) (uni (uni (rngP 65 91) (rngP 97 123)) (rngP 48 58))) 3)], .int .i64 0]) ∧ Below w.heap.size w w' := by
  go_enter Try.func21, Try.ntmps21
  go_wp2_with (first | (go_at_call 27; with_reducible refine Calls.mono (rsp_97_122 _) ?_; rintro e w1 ⟨rfl, hb1⟩; have hR1 := below_heap hb1 (b := w.heap.size) (by simp) (alloc_new _ _)) | (go_at_call 27; with_reducible refine Calls.mono (rsp_65_90 _) ?_; rintro e w2 ⟨rfl, hb2⟩; have hR2 := below_heap hb2 (b := w.heap.size) (block_lt hR1) hR1) | (go_at_call 27; with_reducible refine Calls.mono (rsp_48_57 _) ?_; rintro e w3 ⟨rfl, hb3⟩; have hR3 := below_heap hb3 (b := w.heap.size) (block_lt hR2) hR2) | (go_at_call 11; with_reducible refine Calls.mono (runion_let _) ?_; rintro e w4 ⟨rfl, hb4⟩; have hR4 := below_heap hb4 (b := w.heap.size) (by have := block_lt hR3; simp; omega) (alloc_old (alloc_old (alloc_old hR3))); have hX0 := below_heap hb4 (b := w3.heap.size) (by simp <;> omega) (alloc_old (alloc_old (alloc_new _ _))); have hX1 := below_heap hb4 (b := w3.heap.size + 1) (by simp <;> omega) (alloc_old (by have h := alloc_new (w3.alloc (.cells #[.int .u64 (W (rngP 97 123) 0), .int .u64 (W (rngP 97 123) 1), .int .u64 (W (rngP 97 123) 2), .int .u64 (W (rngP 97 123) 3)] 24)) (.cells #[.int .u64 (W (rngP 65 91) 0), .int .u64 (W (rngP 65 91) 1), .int .u64 (W (rngP 65 91) 2), .int .u64 (W (rngP 65 91) 3)] 24); simpa using h)); have hX2 := below_heap hb4 (b := w3.heap.size + 1 + 1) (by simp <;> omega) (by have h := alloc_new ((w3.alloc (.cells #[.int .u64 (W (rngP 97 123) 0), .int .u64 (W (rngP 97 123) 1), .int .u64 (W (rngP 97 123) 2), .int .u64 (W (rngP 97 123) 3)] 24)).alloc (.cells #[.int .u64 (W (rngP 65 91) 0), .int .u64 (W (rngP 65 91) 1), .int .u64 (W (rngP 65 91) 2), .int .u64 (W (rngP 65 91) 3)] 24)) (.cells #[.int .u64 (W (rngP 48 58) 0), .int .u64 (W (rngP 48 58) 1), .int .u64 (W (rngP 48 58) 2), .int .u64 (W (rngP 48 58) 3)] 24); simpa using h)))
  have b1 := ((Below.refl w.heap.size w).alloc (Nat.le_refl _) (.cells #[.int .u64 0, .int .u64 0, .int .u64 0, .int .u64 0] 24)).trans (hb1.mono (by simp))
  have b2 := b1.trans (hb2.mono b1.size)
  have b3 := b2.trans (hb3.mono b2.size)
  have z3 := b3.size
  have b4 := (((b3.alloc z3 (.cells #[.int .u64 (W (rngP 97 123) 0), .int .u64 (W (rngP 97 123) 1), .int .u64 (W (rngP 97 123) 2), .int .u64 (W (rngP 97 123) 3)] 24)).alloc (by simp; omega) (.cells #[.int .u64 (W (rngP 65 91) 0), .int .u64 (W (rngP 65 91) 1), .int .u64 (W (rngP 65 91) 2), .int .u64 (W (rngP 65 91) 3)] 24)).alloc (by simp; omega) (.cells #[.int .u64 (W (rngP 48 58) 0), .int .u64 (W (rngP 48 58) 1), .int .u64 (W (rngP 48 58) 2), .int .u64 (W (rngP 48 58) 3)] 24)).trans (hb4.mono (by simp; omega))
  have z4 := b4.size
  have b5 := b4.alloc z4 (.cells #[.int .u64 (W (uni (rngP 65 91) (rngP 97 123)) 0), .int .u64 (W (uni (rngP 65 91) (rngP 97 123)) 1), .int .u64 (W (uni (rngP 65 91) (rngP 97 123)) 2), .int .u64 (W (uni (rngP 65 91) (rngP 97 123)) 3)] 24)
  have z5 := b5.size
  have hL5 := alloc_new w4 (.cells #[.int .u64 (W (uni (rngP 65 91) (rngP 97 123)) 0), .int .u64 (W (uni (rngP 65 91) (rngP 97 123)) 1), .int .u64 (W (uni (rngP 65 91) (rngP 97 123)) 2), .int .u64 (W (uni (rngP 65 91) (rngP 97 123)) 3)] 24)
  have hD5 := alloc_old (y := .cells #[.int .u64 (W (uni (rngP 65 91) (rngP 97 123)) 0), .int .u64 (W (uni (rngP 65 91) (rngP 97 123)) 1), .int .u64 (W (uni (rngP 65 91) (rngP 97 123)) 2), .int .u64 (W (uni (rngP 65 91) (rngP 97 123)) 3)] 24) hX2
  have hR5 := alloc_old (y := .cells #[.int .u64 (W (uni (rngP 65 91) (rngP 97 123)) 0), .int .u64 (W (uni (rngP 65 91) (rngP 97 123)) 1), .int .u64 (W (uni (rngP 65 91) (rngP 97 123)) 2), .int .u64 (W (uni (rngP 65 91) (rngP 97 123)) 3)] 24) hR4
  clear hX0 hX1 hX2 hR4 hR3 hR2 hR1 b1 b2 b3 b4 hb1 hb2 hb3 hb4
  generalize w4.alloc (.cells #[.int .u64 (W (uni (rngP 65 91) (rngP 97 123)) 0), .int .u64 (W (uni (rngP 65 91) (rngP 97 123)) 1), .int .u64 (W (uni (rngP 65 91) (rngP 97 123)) 2), .int .u64 (W (uni (rngP 65 91) (rngP 97 123)) 3)] 24) = w5 at *
  have lL := grow_cell hL5 (block_lt hL5)
  have lD := grow_cell hD5 (block_lt hD5)
  refine wp_region_grow_tail w5.heap.size 5 (by kernel_rfl) (by kernel_rfl) ?_
  simp only [List.take_succ_cons, List.take_zero, List.drop_succ_cons, List.drop_zero]
  repeat (go_big_quiet_step (first | (go_at_call 27; with_reducible refine Calls.grow_of (Nat.le_refl _) (rsp_33_126 _); done) | (go_at_call 11; with_reducible refine Calls.grow_of (Nat.le_refl _) (runion_any (uni (rngP 65 91) (rngP 97 123)) (rngP 48 58) _); done) | (go_at_call 15; with_reducible refine Calls.grow_of (Nat.le_refl _) (rless_any _ _ _); done)))
  refine wpQuiet_nil ?_
  rintro _ ⟨g, rfl⟩
  have hR6 := grow_heap hR5 (block_lt hR5) g
  have b6 := b5.trans (g.below.mono z5)
  clear lL lD
  generalize g.val = w6 at *
  have hst := block_free hR6
  have hcr := block_cell hR6
  go_wp2
  have hfin := set4 hR6 (.int .u64 (W (les (rngP 33 127) (uni (uni (rngP 65 91) (rngP 97 123)) (rngP 48 58))) 0)) (.int .u64 (W (les (rngP 33 127) (uni (uni (rngP 65 91) (rngP 97 123)) (rngP 48 58))) 1)) (.int .u64 (W (les (rngP 33 127) (uni (uni (rngP 65 91) (rngP 97 123)) (rngP 48 58))) 2)) (.int .u64 (W (les (rngP 33 127) (uni (uni (rngP 65 91) (rngP 97 123)) (rngP 48 58))) 3))
  have hfc := block_cell hfin
  clear hfin
  exact bodyPost_ret (v := .tuple #[.agg #[.int .u64 (W (les (rngP 33 127) (uni (uni (rngP 65 91) (rngP 97 123)) (rngP 48 58))) 0), .int .u64 (W (les (rngP 33 127) (uni (uni (rngP 65 91) (rngP 97 123)) (rngP 48 58))) 1), .int .u64 (W (les (rngP 33 127) (uni (uni (rngP 65 91) (rngP 97 123)) (rngP 48 58))) 2), .int .u64 (W (les (rngP 33 127) (uni (uni (rngP 65 91) (rngP 97 123)) (rngP 48 58))) 3)], .int .i64 0]) (by simp [results, Try.results21, go_sem, hfc]) rfl ⟨rfl, below_set4 (b6) (Nat.le_refl _) _ _ _ _⟩

set_option maxHeartbeats 4000000 in
set_option maxRecDepth 20000 in
theorem rsmall_115 (w : World) : Calls Try.prog 21 #[.int .i64 115] w fun e w' => e = .returned (.tuple #[.agg #[.int .u64 (W (ins (rngP 9 14) 32) 0), .int .u64 (W (ins (rngP 9 14) 32) 1), .int .u64 (W (ins (rngP 9 14) 32) 2), .int .u64 (W (ins (rngP 9 14) 32) 3)], .int .i64 0]) ∧ Below w.heap.size w w' := by
  go_enter Try.func21, Try.ntmps21
  go_wp2_with (first | (go_at_call 23; with_reducible refine Calls.mono (rwi_32 _) ?_; rintro e w6 ⟨rfl, hb6⟩; have hR5 := below_heap hb6 (block_lt hR5') hR5'; have hst := block_free hR5; have hcr := block_cell hR5) | (go_at_call 27; with_reducible refine Calls.mono (rsp_9_13 _) ?_; rintro e w5 ⟨rfl, hb5⟩; have hR5' := below_heap hb5 (b := w.heap.size) (by have := block_lt hR4; simp; omega) (alloc_old hR4)) | (go_at_call 27; with_reducible refine Calls.mono (rsp_97_122 _) ?_; rintro e w1 ⟨rfl, hb1⟩; have hR1 := below_heap hb1 (b := w.heap.size) (by simp) (alloc_new _ _)) | (go_at_call 27; with_reducible refine Calls.mono (rsp_65_90 _) ?_; rintro e w2 ⟨rfl, hb2⟩; have hR2 := below_heap hb2 (b := w.heap.size) (block_lt hR1) hR1) | (go_at_call 27; with_reducible refine Calls.mono (rsp_48_57 _) ?_; rintro e w3 ⟨rfl, hb3⟩; have hR3 := below_heap hb3 (b := w.heap.size) (block_lt hR2) hR2) | (go_at_call 11; with_reducible refine Calls.mono (runion_let _) ?_; rintro e w4 ⟨rfl, hb4⟩; have hR4 := below_heap hb4 (b := w.heap.size) (by have := block_lt hR3; simp; omega) (alloc_old (alloc_old (alloc_old hR3))); have hX0 := below_heap hb4 (b := w3.heap.size) (by simp <;> omega) (alloc_old (alloc_old (alloc_new _ _))); have hX1 := below_heap hb4 (b := w3.heap.size + 1) (by simp <;> omega) (alloc_old (by have h := alloc_new (w3.alloc (.cells #[.int .u64 (W (rngP 97 123) 0), .int .u64 (W (rngP 97 123) 1), .int .u64 (W (rngP 97 123) 2), .int .u64 (W (rngP 97 123) 3)] 24)) (.cells #[.int .u64 (W (rngP 65 91) 0), .int .u64 (W (rngP 65 91) 1), .int .u64 (W (rngP 65 91) 2), .int .u64 (W (rngP 65 91) 3)] 24); simpa using h)); have hX2 := below_heap hb4 (b := w3.heap.size + 1 + 1) (by simp <;> omega) (by have h := alloc_new ((w3.alloc (.cells #[.int .u64 (W (rngP 97 123) 0), .int .u64 (W (rngP 97 123) 1), .int .u64 (W (rngP 97 123) 2), .int .u64 (W (rngP 97 123) 3)] 24)).alloc (.cells #[.int .u64 (W (rngP 65 91) 0), .int .u64 (W (rngP 65 91) 1), .int .u64 (W (rngP 65 91) 2), .int .u64 (W (rngP 65 91) 3)] 24)) (.cells #[.int .u64 (W (rngP 48 58) 0), .int .u64 (W (rngP 48 58) 1), .int .u64 (W (rngP 48 58) 2), .int .u64 (W (rngP 48 58) 3)] 24); simpa using h)))
  have b1 := ((Below.refl w.heap.size w).alloc (Nat.le_refl _) (.cells #[.int .u64 0, .int .u64 0, .int .u64 0, .int .u64 0] 24)).trans (hb1.mono (by simp))
  have b2 := b1.trans (hb2.mono b1.size)
  have b3 := b2.trans (hb3.mono b2.size)
  have z3 := b3.size
  have b4 := (((b3.alloc z3 (.cells #[.int .u64 (W (rngP 97 123) 0), .int .u64 (W (rngP 97 123) 1), .int .u64 (W (rngP 97 123) 2), .int .u64 (W (rngP 97 123) 3)] 24)).alloc (by simp; omega) (.cells #[.int .u64 (W (rngP 65 91) 0), .int .u64 (W (rngP 65 91) 1), .int .u64 (W (rngP 65 91) 2), .int .u64 (W (rngP 65 91) 3)] 24)).alloc (by simp; omega) (.cells #[.int .u64 (W (rngP 48 58) 0), .int .u64 (W (rngP 48 58) 1), .int .u64 (W (rngP 48 58) 2), .int .u64 (W (rngP 48 58) 3)] 24)).trans (hb4.mono (by simp; omega))
  have z4 := b4.size
  have b5 := b4.alloc z4 (.cells #[.int .u64 (W (uni (rngP 65 91) (rngP 97 123)) 0), .int .u64 (W (uni (rngP 65 91) (rngP 97 123)) 1), .int .u64 (W (uni (rngP 65 91) (rngP 97 123)) 2), .int .u64 (W (uni (rngP 65 91) (rngP 97 123)) 3)] 24)
  have z5 := b5.size
  have hfin := set4 hR5 (.int .u64 (W (ins (rngP 9 14) 32) 0)) (.int .u64 (W (ins (rngP 9 14) 32) 1)) (.int .u64 (W (ins (rngP 9 14) 32) 2)) (.int .u64 (W (ins (rngP 9 14) 32) 3))
  have hfc := block_cell hfin
  clear hfin
  exact bodyPost_ret (v := .tuple #[.agg #[.int .u64 (W (ins (rngP 9 14) 32) 0), .int .u64 (W (ins (rngP 9 14) 32) 1), .int .u64 (W (ins (rngP 9 14) 32) 2), .int .u64 (W (ins (rngP 9 14) 32) 3)], .int .i64 0]) (by simp [results, Try.results21, go_sem, hfc]) rfl ⟨rfl, below_set4 ((b5.trans (hb5.mono z5)).trans (hb6.mono (Nat.le_trans z5 hb5.size))) (Nat.le_refl _) _ _ _ _⟩

set_option maxHeartbeats 4000000 in
set_option maxRecDepth 20000 in
theorem rsmall_117 (w : World) : Calls Try.prog 21 #[.int .i64 117] w fun e w' => e = .returned (.tuple #[.agg #[.int .u64 (W (rngP 65 91) 0), .int .u64 (W (rngP 65 91) 1), .int .u64 (W (rngP 65 91) 2), .int .u64 (W (rngP 65 91) 3)], .int .i64 0]) ∧ Below w.heap.size w w' := by
  go_enter Try.func21, Try.ntmps21
  go_wp2_with (first | (go_at_call 27; with_reducible refine Calls.mono (rsp_97_122 _) ?_; rintro e w1 ⟨rfl, hb1⟩; have hR1 := below_heap hb1 (b := w.heap.size) (by simp) (alloc_new _ _)) | (go_at_call 27; with_reducible refine Calls.mono (rsp_65_90 _) ?_; rintro e w2 ⟨rfl, hb2⟩; have hR2 := below_heap hb2 (b := w.heap.size) (block_lt hR1) hR1) | (go_at_call 27; with_reducible refine Calls.mono (rsp_48_57 _) ?_; rintro e w3 ⟨rfl, hb3⟩; have hR3 := below_heap hb3 (b := w.heap.size) (block_lt hR2) hR2) | (go_at_call 11; with_reducible refine Calls.mono (runion_let _) ?_; rintro e w4 ⟨rfl, hb4⟩; have hR4 := below_heap hb4 (b := w.heap.size) (by have := block_lt hR3; simp; omega) (alloc_old (alloc_old (alloc_old hR3))); have hX0 := below_heap hb4 (b := w3.heap.size) (by simp <;> omega) (alloc_old (alloc_old (alloc_new _ _))); have hX1 := below_heap hb4 (b := w3.heap.size + 1) (by simp <;> omega) (alloc_old (by have h := alloc_new (w3.alloc (.cells #[.int .u64 (W (rngP 97 123) 0), .int .u64 (W (rngP 97 123) 1), .int .u64 (W (rngP 97 123) 2), .int .u64 (W (rngP 97 123) 3)] 24)) (.cells #[.int .u64 (W (rngP 65 91) 0), .int .u64 (W (rngP 65 91) 1), .int .u64 (W (rngP 65 91) 2), .int .u64 (W (rngP 65 91) 3)] 24); simpa using h)); have hX2 := below_heap hb4 (b := w3.heap.size + 1 + 1) (by simp <;> omega) (by have h := alloc_new ((w3.alloc (.cells #[.int .u64 (W (rngP 97 123) 0), .int .u64 (W (rngP 97 123) 1), .int .u64 (W (rngP 97 123) 2), .int .u64 (W (rngP 97 123) 3)] 24)).alloc (.cells #[.int .u64 (W (rngP 65 91) 0), .int .u64 (W (rngP 65 91) 1), .int .u64 (W (rngP 65 91) 2), .int .u64 (W (rngP 65 91) 3)] 24)) (.cells #[.int .u64 (W (rngP 48 58) 0), .int .u64 (W (rngP 48 58) 1), .int .u64 (W (rngP 48 58) 2), .int .u64 (W (rngP 48 58) 3)] 24); simpa using h); have hR5 := alloc_old (y := .cells #[.int .u64 (W (uni (rngP 65 91) (rngP 97 123)) 0), .int .u64 (W (uni (rngP 65 91) (rngP 97 123)) 1), .int .u64 (W (uni (rngP 65 91) (rngP 97 123)) 2), .int .u64 (W (uni (rngP 65 91) (rngP 97 123)) 3)] 24) hR4; have hst := block_free hR5; have hcr := block_cell hR5; have hcx := block_cell (alloc_old (y := .cells #[.int .u64 (W (uni (rngP 65 91) (rngP 97 123)) 0), .int .u64 (W (uni (rngP 65 91) (rngP 97 123)) 1), .int .u64 (W (uni (rngP 65 91) (rngP 97 123)) 2), .int .u64 (W (uni (rngP 65 91) (rngP 97 123)) 3)] 24) hX1)))
  have b1 := ((Below.refl w.heap.size w).alloc (Nat.le_refl _) (.cells #[.int .u64 0, .int .u64 0, .int .u64 0, .int .u64 0] 24)).trans (hb1.mono (by simp))
  have b2 := b1.trans (hb2.mono b1.size)
  have b3 := b2.trans (hb3.mono b2.size)
  have z3 := b3.size
  have b4 := (((b3.alloc z3 (.cells #[.int .u64 (W (rngP 97 123) 0), .int .u64 (W (rngP 97 123) 1), .int .u64 (W (rngP 97 123) 2), .int .u64 (W (rngP 97 123) 3)] 24)).alloc (by simp; omega) (.cells #[.int .u64 (W (rngP 65 91) 0), .int .u64 (W (rngP 65 91) 1), .int .u64 (W (rngP 65 91) 2), .int .u64 (W (rngP 65 91) 3)] 24)).alloc (by simp; omega) (.cells #[.int .u64 (W (rngP 48 58) 0), .int .u64 (W (rngP 48 58) 1), .int .u64 (W (rngP 48 58) 2), .int .u64 (W (rngP 48 58) 3)] 24)).trans (hb4.mono (by simp; omega))
  have z4 := b4.size
  have b5 := b4.alloc z4 (.cells #[.int .u64 (W (uni (rngP 65 91) (rngP 97 123)) 0), .int .u64 (W (uni (rngP 65 91) (rngP 97 123)) 1), .int .u64 (W (uni (rngP 65 91) (rngP 97 123)) 2), .int .u64 (W (uni (rngP 65 91) (rngP 97 123)) 3)] 24)
  have z5 := b5.size
  have hfin := set4 hR5 (.int .u64 (W (rngP 65 91) 0)) (.int .u64 (W (rngP 65 91) 1)) (.int .u64 (W (rngP 65 91) 2)) (.int .u64 (W (rngP 65 91) 3))
  have hfc := block_cell hfin
  clear hfin
  exact bodyPost_ret (v := .tuple #[.agg #[.int .u64 (W (rngP 65 91) 0), .int .u64 (W (rngP 65 91) 1), .int .u64 (W (rngP 65 91) 2), .int .u64 (W (rngP 65 91) 3)], .int .i64 0]) (by simp [results, Try.results21, go_sem, hfc]) rfl ⟨rfl, below_set4 (b5) (Nat.le_refl _) _ _ _ _⟩

set_option maxHeartbeats 4000000 in
set_option maxRecDepth 20000 in
theorem rsmall_119 (w : World) : Calls Try.prog 21 #[.int .i64 119] w fun e w' => e = .returned (.tuple #[.agg #[.int .u64 (W (uni (uni (rngP 65 91) (rngP 97 123)) (rngP 48 58)) 0), .int .u64 (W (uni (uni (rngP 65 91) (rngP 97 123)) (rngP 48 58)) 1), .int .u64 (W (uni (uni (rngP 65 91) (rngP 97 123)) (rngP 48 58)) 2), .int .u64 (W (uni (uni (rngP 65 91) (rngP 97 123)) (rngP 48 58)) 3)], .int .i64 0]) ∧ Below w.heap.size w w' := by
  go_enter Try.func21, Try.ntmps21
  go_wp2_with (first | (go_at_call 11; with_reducible refine Calls.mono (runion_any (uni (rngP 65 91) (rngP 97 123)) (rngP 48 58) _) ?_; rintro e w5 ⟨rfl, hb5⟩; have hR5 := below_heap hb5 (b := w.heap.size) (by have := block_lt hR4; simp; omega) (alloc_old hR4); have hst := block_free hR5; have hcr := block_cell hR5) | (go_at_call 27; with_reducible refine Calls.mono (rsp_97_122 _) ?_; rintro e w1 ⟨rfl, hb1⟩; have hR1 := below_heap hb1 (b := w.heap.size) (by simp) (alloc_new _ _)) | (go_at_call 27; with_reducible refine Calls.mono (rsp_65_90 _) ?_; rintro e w2 ⟨rfl, hb2⟩; have hR2 := below_heap hb2 (b := w.heap.size) (block_lt hR1) hR1) | (go_at_call 27; with_reducible refine Calls.mono (rsp_48_57 _) ?_; rintro e w3 ⟨rfl, hb3⟩; have hR3 := below_heap hb3 (b := w.heap.size) (block_lt hR2) hR2) | (go_at_call 11; with_reducible refine Calls.mono (runion_let _) ?_; rintro e w4 ⟨rfl, hb4⟩; have hR4 := below_heap hb4 (b := w.heap.size) (by have := block_lt hR3; simp; omega) (alloc_old (alloc_old (alloc_old hR3))); have hX0 := below_heap hb4 (b := w3.heap.size) (by simp <;> omega) (alloc_old (alloc_old (alloc_new _ _))); have hX1 := below_heap hb4 (b := w3.heap.size + 1) (by simp <;> omega) (alloc_old (by have h := alloc_new (w3.alloc (.cells #[.int .u64 (W (rngP 97 123) 0), .int .u64 (W (rngP 97 123) 1), .int .u64 (W (rngP 97 123) 2), .int .u64 (W (rngP 97 123) 3)] 24)) (.cells #[.int .u64 (W (rngP 65 91) 0), .int .u64 (W (rngP 65 91) 1), .int .u64 (W (rngP 65 91) 2), .int .u64 (W (rngP 65 91) 3)] 24); simpa using h)); have hX2 := below_heap hb4 (b := w3.heap.size + 1 + 1) (by simp <;> omega) (by have h := alloc_new ((w3.alloc (.cells #[.int .u64 (W (rngP 97 123) 0), .int .u64 (W (rngP 97 123) 1), .int .u64 (W (rngP 97 123) 2), .int .u64 (W (rngP 97 123) 3)] 24)).alloc (.cells #[.int .u64 (W (rngP 65 91) 0), .int .u64 (W (rngP 65 91) 1), .int .u64 (W (rngP 65 91) 2), .int .u64 (W (rngP 65 91) 3)] 24)) (.cells #[.int .u64 (W (rngP 48 58) 0), .int .u64 (W (rngP 48 58) 1), .int .u64 (W (rngP 48 58) 2), .int .u64 (W (rngP 48 58) 3)] 24); simpa using h); have hcx := block_cell (alloc_old (y := .cells #[.int .u64 (W (uni (rngP 65 91) (rngP 97 123)) 0), .int .u64 (W (uni (rngP 65 91) (rngP 97 123)) 1), .int .u64 (W (uni (rngP 65 91) (rngP 97 123)) 2), .int .u64 (W (uni (rngP 65 91) (rngP 97 123)) 3)] 24) hX2)))
  have b1 := ((Below.refl w.heap.size w).alloc (Nat.le_refl _) (.cells #[.int .u64 0, .int .u64 0, .int .u64 0, .int .u64 0] 24)).trans (hb1.mono (by simp))
  have b2 := b1.trans (hb2.mono b1.size)
  have b3 := b2.trans (hb3.mono b2.size)
  have z3 := b3.size
  have b4 := (((b3.alloc z3 (.cells #[.int .u64 (W (rngP 97 123) 0), .int .u64 (W (rngP 97 123) 1), .int .u64 (W (rngP 97 123) 2), .int .u64 (W (rngP 97 123) 3)] 24)).alloc (by simp; omega) (.cells #[.int .u64 (W (rngP 65 91) 0), .int .u64 (W (rngP 65 91) 1), .int .u64 (W (rngP 65 91) 2), .int .u64 (W (rngP 65 91) 3)] 24)).alloc (by simp; omega) (.cells #[.int .u64 (W (rngP 48 58) 0), .int .u64 (W (rngP 48 58) 1), .int .u64 (W (rngP 48 58) 2), .int .u64 (W (rngP 48 58) 3)] 24)).trans (hb4.mono (by simp; omega))
  have z4 := b4.size
  have b5 := b4.alloc z4 (.cells #[.int .u64 (W (uni (rngP 65 91) (rngP 97 123)) 0), .int .u64 (W (uni (rngP 65 91) (rngP 97 123)) 1), .int .u64 (W (uni (rngP 65 91) (rngP 97 123)) 2), .int .u64 (W (uni (rngP 65 91) (rngP 97 123)) 3)] 24)
  have z5 := b5.size
  have hfin := set4 hR5 (.int .u64 (W (uni (uni (rngP 65 91) (rngP 97 123)) (rngP 48 58)) 0)) (.int .u64 (W (uni (uni (rngP 65 91) (rngP 97 123)) (rngP 48 58)) 1)) (.int .u64 (W (uni (uni (rngP 65 91) (rngP 97 123)) (rngP 48 58)) 2)) (.int .u64 (W (uni (uni (rngP 65 91) (rngP 97 123)) (rngP 48 58)) 3))
  have hfc := block_cell hfin
  clear hfin
  exact bodyPost_ret (v := .tuple #[.agg #[.int .u64 (W (uni (uni (rngP 65 91) (rngP 97 123)) (rngP 48 58)) 0), .int .u64 (W (uni (uni (rngP 65 91) (rngP 97 123)) (rngP 48 58)) 1), .int .u64 (W (uni (uni (rngP 65 91) (rngP 97 123)) (rngP 48 58)) 2), .int .u64 (W (uni (uni (rngP 65 91) (rngP 97 123)) (rngP 48 58)) 3)], .int .i64 0]) (by simp [results, Try.results21, go_sem, hfc]) rfl ⟨rfl, below_set4 (b5.trans (hb5.mono z5)) (Nat.le_refl _) _ _ _ _⟩

set_option maxHeartbeats 4000000 in
set_option maxRecDepth 20000 in
theorem rsmall_120 (w : World) : Calls Try.prog 21 #[.int .i64 120] w fun e w' => e = .returned (.tuple #[.agg #[.int .u64 (W (uni (rngP 48 58) (uni (rngP 65 71) (rngP 97 103))) 0), .int .u64 (W (uni (rngP 48 58) (uni (rngP 65 71) (rngP 97 103))) 1), .int .u64 (W (uni (rngP 48 58) (uni (rngP 65 71) (rngP 97 103))) 2), .int .u64 (W (uni (rngP 48 58) (uni (rngP 65 71) (rngP 97 103))) 3)], .int .i64 0]) ∧ Below w.heap.size w w' := by
  go_enter Try.func21, Try.ntmps21
  go_wp2_with (first | (go_at_call 27; with_reducible refine Calls.mono (rsp_97_122 _) ?_; rintro e w1 ⟨rfl, hb1⟩; have hR1 := below_heap hb1 (b := w.heap.size) (by simp) (alloc_new _ _)) | (go_at_call 27; with_reducible refine Calls.mono (rsp_65_90 _) ?_; rintro e w2 ⟨rfl, hb2⟩; have hR2 := below_heap hb2 (b := w.heap.size) (block_lt hR1) hR1) | (go_at_call 27; with_reducible refine Calls.mono (rsp_48_57 _) ?_; rintro e w3 ⟨rfl, hb3⟩; have hR3 := below_heap hb3 (b := w.heap.size) (block_lt hR2) hR2) | (go_at_call 11; with_reducible refine Calls.mono (runion_let _) ?_; rintro e w4 ⟨rfl, hb4⟩; have hR4 := below_heap hb4 (b := w.heap.size) (by have := block_lt hR3; simp; omega) (alloc_old (alloc_old (alloc_old hR3))); have hX0 := below_heap hb4 (b := w3.heap.size) (by simp <;> omega) (alloc_old (alloc_old (alloc_new _ _))); have hX1 := below_heap hb4 (b := w3.heap.size + 1) (by simp <;> omega) (alloc_old (by have h := alloc_new (w3.alloc (.cells #[.int .u64 (W (rngP 97 123) 0), .int .u64 (W (rngP 97 123) 1), .int .u64 (W (rngP 97 123) 2), .int .u64 (W (rngP 97 123) 3)] 24)) (.cells #[.int .u64 (W (rngP 65 91) 0), .int .u64 (W (rngP 65 91) 1), .int .u64 (W (rngP 65 91) 2), .int .u64 (W (rngP 65 91) 3)] 24); simpa using h)); have hX2 := below_heap hb4 (b := w3.heap.size + 1 + 1) (by simp <;> omega) (by have h := alloc_new ((w3.alloc (.cells #[.int .u64 (W (rngP 97 123) 0), .int .u64 (W (rngP 97 123) 1), .int .u64 (W (rngP 97 123) 2), .int .u64 (W (rngP 97 123) 3)] 24)).alloc (.cells #[.int .u64 (W (rngP 65 91) 0), .int .u64 (W (rngP 65 91) 1), .int .u64 (W (rngP 65 91) 2), .int .u64 (W (rngP 65 91) 3)] 24)) (.cells #[.int .u64 (W (rngP 48 58) 0), .int .u64 (W (rngP 48 58) 1), .int .u64 (W (rngP 48 58) 2), .int .u64 (W (rngP 48 58) 3)] 24); simpa using h)))
  have b1 := ((Below.refl w.heap.size w).alloc (Nat.le_refl _) (.cells #[.int .u64 0, .int .u64 0, .int .u64 0, .int .u64 0] 24)).trans (hb1.mono (by simp))
  have b2 := b1.trans (hb2.mono b1.size)
  have b3 := b2.trans (hb3.mono b2.size)
  have z3 := b3.size
  have b4 := (((b3.alloc z3 (.cells #[.int .u64 (W (rngP 97 123) 0), .int .u64 (W (rngP 97 123) 1), .int .u64 (W (rngP 97 123) 2), .int .u64 (W (rngP 97 123) 3)] 24)).alloc (by simp; omega) (.cells #[.int .u64 (W (rngP 65 91) 0), .int .u64 (W (rngP 65 91) 1), .int .u64 (W (rngP 65 91) 2), .int .u64 (W (rngP 65 91) 3)] 24)).alloc (by simp; omega) (.cells #[.int .u64 (W (rngP 48 58) 0), .int .u64 (W (rngP 48 58) 1), .int .u64 (W (rngP 48 58) 2), .int .u64 (W (rngP 48 58) 3)] 24)).trans (hb4.mono (by simp; omega))
  have z4 := b4.size
  have b5 := b4.alloc z4 (.cells #[.int .u64 (W (uni (rngP 65 91) (rngP 97 123)) 0), .int .u64 (W (uni (rngP 65 91) (rngP 97 123)) 1), .int .u64 (W (uni (rngP 65 91) (rngP 97 123)) 2), .int .u64 (W (uni (rngP 65 91) (rngP 97 123)) 3)] 24)
  have z5 := b5.size
  have hL5 := alloc_new w4 (.cells #[.int .u64 (W (uni (rngP 65 91) (rngP 97 123)) 0), .int .u64 (W (uni (rngP 65 91) (rngP 97 123)) 1), .int .u64 (W (uni (rngP 65 91) (rngP 97 123)) 2), .int .u64 (W (uni (rngP 65 91) (rngP 97 123)) 3)] 24)
  have hD5 := alloc_old (y := .cells #[.int .u64 (W (uni (rngP 65 91) (rngP 97 123)) 0), .int .u64 (W (uni (rngP 65 91) (rngP 97 123)) 1), .int .u64 (W (uni (rngP 65 91) (rngP 97 123)) 2), .int .u64 (W (uni (rngP 65 91) (rngP 97 123)) 3)] 24) hX2
  have hR5 := alloc_old (y := .cells #[.int .u64 (W (uni (rngP 65 91) (rngP 97 123)) 0), .int .u64 (W (uni (rngP 65 91) (rngP 97 123)) 1), .int .u64 (W (uni (rngP 65 91) (rngP 97 123)) 2), .int .u64 (W (uni (rngP 65 91) (rngP 97 123)) 3)] 24) hR4
  clear hX0 hX1 hX2 hR4 hR3 hR2 hR1 b1 b2 b3 b4 hb1 hb2 hb3 hb4
  generalize w4.alloc (.cells #[.int .u64 (W (uni (rngP 65 91) (rngP 97 123)) 0), .int .u64 (W (uni (rngP 65 91) (rngP 97 123)) 1), .int .u64 (W (uni (rngP 65 91) (rngP 97 123)) 2), .int .u64 (W (uni (rngP 65 91) (rngP 97 123)) 3)] 24) = w5 at *
  have lL := grow_cell hL5 (block_lt hL5)
  have lD := grow_cell hD5 (block_lt hD5)
  refine wp_region_grow_tail w5.heap.size 5 (by kernel_rfl) (by kernel_rfl) ?_
  simp only [List.take_succ_cons, List.take_zero, List.drop_succ_cons, List.drop_zero]
  repeat (go_big_quiet_step (first | (go_at_call 27; with_reducible refine Calls.grow_of (Nat.le_refl _) (rsp_65_70 _); done) | (go_at_call 27; with_reducible refine Calls.grow_of (Nat.le_refl _) (rsp_97_102 _); done) | (go_at_call 11; with_reducible refine Calls.grow_of (Nat.le_refl _) (runion_any (rngP 65 71) (rngP 97 103) _); done) | (go_at_call 11; with_reducible refine Calls.grow_of (Nat.le_refl _) (runion_any (rngP 48 58) (uni (rngP 65 71) (rngP 97 103)) _); done)))
  refine wpQuiet_nil ?_
  rintro _ ⟨g, rfl⟩
  have hR6 := grow_heap hR5 (block_lt hR5) g
  have b6 := b5.trans (g.below.mono z5)
  clear lL lD
  generalize g.val = w6 at *
  have hst := block_free hR6
  have hcr := block_cell hR6
  go_wp2
  have hfin := set4 hR6 (.int .u64 (W (uni (rngP 48 58) (uni (rngP 65 71) (rngP 97 103))) 0)) (.int .u64 (W (uni (rngP 48 58) (uni (rngP 65 71) (rngP 97 103))) 1)) (.int .u64 (W (uni (rngP 48 58) (uni (rngP 65 71) (rngP 97 103))) 2)) (.int .u64 (W (uni (rngP 48 58) (uni (rngP 65 71) (rngP 97 103))) 3))
  have hfc := block_cell hfin
  clear hfin
  exact bodyPost_ret (v := .tuple #[.agg #[.int .u64 (W (uni (rngP 48 58) (uni (rngP 65 71) (rngP 97 103))) 0), .int .u64 (W (uni (rngP 48 58) (uni (rngP 65 71) (rngP 97 103))) 1), .int .u64 (W (uni (rngP 48 58) (uni (rngP 65 71) (rngP 97 103))) 2), .int .u64 (W (uni (rngP 48 58) (uni (rngP 65 71) (rngP 97 103))) 3)], .int .i64 0]) (by simp [results, Try.results21, go_sem, hfc]) rfl ⟨rfl, below_set4 (b6) (Nat.le_refl _) _ _ _ _⟩

set_option maxHeartbeats 4000000 in
set_option maxRecDepth 20000 in
theorem rsmall_no (c : Nat) (hc : clsB c = false) (hc2 : ¬ (65 ≤ c ∧ c ≤ 90)) (w : World) : Calls Try.prog 21 #[.int .i64 (c : Int)] w fun e w' => e = .returned (.tuple #[.agg #[.int .u64 0, .int .u64 0, .int .u64 0, .int .u64 0], .int .i64 10]) ∧ Below w.heap.size w w' := by
  obtain ⟨n97, n99, n100, n103, n108, n112, n115, n117, n119, n120⟩ := clsB_not hc
  have m97 : ((c : Int) == 97) = false := beq_eq_false_iff_ne.2 (by omega)
  have m99 : ((c : Int) == 99) = false := beq_eq_false_iff_ne.2 (by omega)
  have m100 : ((c : Int) == 100) = false := beq_eq_false_iff_ne.2 (by omega)
  have m103 : ((c : Int) == 103) = false := beq_eq_false_iff_ne.2 (by omega)
  have m108 : ((c : Int) == 108) = false := beq_eq_false_iff_ne.2 (by omega)
  have m112 : ((c : Int) == 112) = false := beq_eq_false_iff_ne.2 (by omega)
  have m115 : ((c : Int) == 115) = false := beq_eq_false_iff_ne.2 (by omega)
  have m117 : ((c : Int) == 117) = false := beq_eq_false_iff_ne.2 (by omega)
  have m119 : ((c : Int) == 119) = false := beq_eq_false_iff_ne.2 (by omega)
  have m120 : ((c : Int) == 120) = false := beq_eq_false_iff_ne.2 (by omega)
  clear hc n97 n99 n100 n103 n108 n112 n115 n117 n119 n120
  by_cases h65 : 65 ≤ c
  · have d0 : decide ((65 : Int) ≤ (c : Int)) = true := decide_eq_true (by omega)
    have d1 : decide ((c : Int) ≤ 90) = false := decide_eq_false (by omega)
    go_enter Try.func21, Try.ntmps21
    go_wp2_with (first | (go_at_call 27; with_reducible refine Calls.mono (rsp_97_122 _) ?_; rintro e w1 ⟨rfl, hb1⟩; have hR1 := below_heap hb1 (b := w.heap.size) (by simp) (alloc_new _ _)) | (go_at_call 27; with_reducible refine Calls.mono (rsp_65_90 _) ?_; rintro e w2 ⟨rfl, hb2⟩; have hR2 := below_heap hb2 (b := w.heap.size) (block_lt hR1) hR1) | (go_at_call 27; with_reducible refine Calls.mono (rsp_48_57 _) ?_; rintro e w3 ⟨rfl, hb3⟩; have hR3 := below_heap hb3 (b := w.heap.size) (block_lt hR2) hR2) | (go_at_call 11; with_reducible refine Calls.mono (runion_let _) ?_; rintro e w4 ⟨rfl, hb4⟩; have hR4 := below_heap hb4 (b := w.heap.size) (by have := block_lt hR3; simp; omega) (alloc_old (alloc_old (alloc_old hR3))); have hX0 := below_heap hb4 (b := w3.heap.size) (by simp <;> omega) (alloc_old (alloc_old (alloc_new _ _))); have hX1 := below_heap hb4 (b := w3.heap.size + 1) (by simp <;> omega) (alloc_old (by have h := alloc_new (w3.alloc (.cells #[.int .u64 (W (rngP 97 123) 0), .int .u64 (W (rngP 97 123) 1), .int .u64 (W (rngP 97 123) 2), .int .u64 (W (rngP 97 123) 3)] 24)) (.cells #[.int .u64 (W (rngP 65 91) 0), .int .u64 (W (rngP 65 91) 1), .int .u64 (W (rngP 65 91) 2), .int .u64 (W (rngP 65 91) 3)] 24); simpa using h)); have hX2 := below_heap hb4 (b := w3.heap.size + 1 + 1) (by simp <;> omega) (by have h := alloc_new ((w3.alloc (.cells #[.int .u64 (W (rngP 97 123) 0), .int .u64 (W (rngP 97 123) 1), .int .u64 (W (rngP 97 123) 2), .int .u64 (W (rngP 97 123) 3)] 24)).alloc (.cells #[.int .u64 (W (rngP 65 91) 0), .int .u64 (W (rngP 65 91) 1), .int .u64 (W (rngP 65 91) 2), .int .u64 (W (rngP 65 91) 3)] 24)) (.cells #[.int .u64 (W (rngP 48 58) 0), .int .u64 (W (rngP 48 58) 1), .int .u64 (W (rngP 48 58) 2), .int .u64 (W (rngP 48 58) 3)] 24); simpa using h); have hR5 := alloc_old (y := .cells #[.int .u64 (W (uni (rngP 65 91) (rngP 97 123)) 0), .int .u64 (W (uni (rngP 65 91) (rngP 97 123)) 1), .int .u64 (W (uni (rngP 65 91) (rngP 97 123)) 2), .int .u64 (W (uni (rngP 65 91) (rngP 97 123)) 3)] 24) hR4; have hst := block_free hR5; have hcr := block_cell hR5))
    have b1 := ((Below.refl w.heap.size w).alloc (Nat.le_refl _) (.cells #[.int .u64 0, .int .u64 0, .int .u64 0, .int .u64 0] 24)).trans (hb1.mono (by simp))
    have b2 := b1.trans (hb2.mono b1.size)
    have b3 := b2.trans (hb3.mono b2.size)
    have z3 := b3.size
    have b4 := (((b3.alloc z3 (.cells #[.int .u64 (W (rngP 97 123) 0), .int .u64 (W (rngP 97 123) 1), .int .u64 (W (rngP 97 123) 2), .int .u64 (W (rngP 97 123) 3)] 24)).alloc (by simp; omega) (.cells #[.int .u64 (W (rngP 65 91) 0), .int .u64 (W (rngP 65 91) 1), .int .u64 (W (rngP 65 91) 2), .int .u64 (W (rngP 65 91) 3)] 24)).alloc (by simp; omega) (.cells #[.int .u64 (W (rngP 48 58) 0), .int .u64 (W (rngP 48 58) 1), .int .u64 (W (rngP 48 58) 2), .int .u64 (W (rngP 48 58) 3)] 24)).trans (hb4.mono (by simp; omega))
    have z4 := b4.size
    have b5 := b4.alloc z4 (.cells #[.int .u64 (W (uni (rngP 65 91) (rngP 97 123)) 0), .int .u64 (W (uni (rngP 65 91) (rngP 97 123)) 1), .int .u64 (W (uni (rngP 65 91) (rngP 97 123)) 2), .int .u64 (W (uni (rngP 65 91) (rngP 97 123)) 3)] 24)
    have z5 := b5.size
    have hfin := set4 hR5 (.int .u64 0) (.int .u64 0) (.int .u64 0) (.int .u64 0)
    have hfc := block_cell hfin
    clear hfin
    exact bodyPost_ret (v := .tuple #[.agg #[.int .u64 0, .int .u64 0, .int .u64 0, .int .u64 0], .int .i64 10]) (by simp [results, Try.results21, go_sem, hfc]) rfl ⟨rfl, below_set4 (b5) (Nat.le_refl _) _ _ _ _⟩
  · have d0 : decide ((65 : Int) ≤ (c : Int)) = false := decide_eq_false (by omega)
    go_enter Try.func21, Try.ntmps21
    go_wp2_with (first | (go_at_call 27; with_reducible refine Calls.mono (rsp_97_122 _) ?_; rintro e w1 ⟨rfl, hb1⟩; have hR1 := below_heap hb1 (b := w.heap.size) (by simp) (alloc_new _ _)) | (go_at_call 27; with_reducible refine Calls.mono (rsp_65_90 _) ?_; rintro e w2 ⟨rfl, hb2⟩; have hR2 := below_heap hb2 (b := w.heap.size) (block_lt hR1) hR1) | (go_at_call 27; with_reducible refine Calls.mono (rsp_48_57 _) ?_; rintro e w3 ⟨rfl, hb3⟩; have hR3 := below_heap hb3 (b := w.heap.size) (block_lt hR2) hR2) | (go_at_call 11; with_reducible refine Calls.mono (runion_let _) ?_; rintro e w4 ⟨rfl, hb4⟩; have hR4 := below_heap hb4 (b := w.heap.size) (by have := block_lt hR3; simp; omega) (alloc_old (alloc_old (alloc_old hR3))); have hX0 := below_heap hb4 (b := w3.heap.size) (by simp <;> omega) (alloc_old (alloc_old (alloc_new _ _))); have hX1 := below_heap hb4 (b := w3.heap.size + 1) (by simp <;> omega) (alloc_old (by have h := alloc_new (w3.alloc (.cells #[.int .u64 (W (rngP 97 123) 0), .int .u64 (W (rngP 97 123) 1), .int .u64 (W (rngP 97 123) 2), .int .u64 (W (rngP 97 123) 3)] 24)) (.cells #[.int .u64 (W (rngP 65 91) 0), .int .u64 (W (rngP 65 91) 1), .int .u64 (W (rngP 65 91) 2), .int .u64 (W (rngP 65 91) 3)] 24); simpa using h)); have hX2 := below_heap hb4 (b := w3.heap.size + 1 + 1) (by simp <;> omega) (by have h := alloc_new ((w3.alloc (.cells #[.int .u64 (W (rngP 97 123) 0), .int .u64 (W (rngP 97 123) 1), .int .u64 (W (rngP 97 123) 2), .int .u64 (W (rngP 97 123) 3)] 24)).alloc (.cells #[.int .u64 (W (rngP 65 91) 0), .int .u64 (W (rngP 65 91) 1), .int .u64 (W (rngP 65 91) 2), .int .u64 (W (rngP 65 91) 3)] 24)) (.cells #[.int .u64 (W (rngP 48 58) 0), .int .u64 (W (rngP 48 58) 1), .int .u64 (W (rngP 48 58) 2), .int .u64 (W (rngP 48 58) 3)] 24); simpa using h); have hR5 := alloc_old (y := .cells #[.int .u64 (W (uni (rngP 65 91) (rngP 97 123)) 0), .int .u64 (W (uni (rngP 65 91) (rngP 97 123)) 1), .int .u64 (W (uni (rngP 65 91) (rngP 97 123)) 2), .int .u64 (W (uni (rngP 65 91) (rngP 97 123)) 3)] 24) hR4; have hst := block_free hR5; have hcr := block_cell hR5))
    have b1 := ((Below.refl w.heap.size w).alloc (Nat.le_refl _) (.cells #[.int .u64 0, .int .u64 0, .int .u64 0, .int .u64 0] 24)).trans (hb1.mono (by simp))
    have b2 := b1.trans (hb2.mono b1.size)
    have b3 := b2.trans (hb3.mono b2.size)
    have z3 := b3.size
    have b4 := (((b3.alloc z3 (.cells #[.int .u64 (W (rngP 97 123) 0), .int .u64 (W (rngP 97 123) 1), .int .u64 (W (rngP 97 123) 2), .int .u64 (W (rngP 97 123) 3)] 24)).alloc (by simp; omega) (.cells #[.int .u64 (W (rngP 65 91) 0), .int .u64 (W (rngP 65 91) 1), .int .u64 (W (rngP 65 91) 2), .int .u64 (W (rngP 65 91) 3)] 24)).alloc (by simp; omega) (.cells #[.int .u64 (W (rngP 48 58) 0), .int .u64 (W (rngP 48 58) 1), .int .u64 (W (rngP 48 58) 2), .int .u64 (W (rngP 48 58) 3)] 24)).trans (hb4.mono (by simp; omega))
    have z4 := b4.size
    have b5 := b4.alloc z4 (.cells #[.int .u64 (W (uni (rngP 65 91) (rngP 97 123)) 0), .int .u64 (W (uni (rngP 65 91) (rngP 97 123)) 1), .int .u64 (W (uni (rngP 65 91) (rngP 97 123)) 2), .int .u64 (W (uni (rngP 65 91) (rngP 97 123)) 3)] 24)
    have z5 := b5.size
    have hfin := set4 hR5 (.int .u64 0) (.int .u64 0) (.int .u64 0) (.int .u64 0)
    have hfc := block_cell hfin
    clear hfin
    exact bodyPost_ret (v := .tuple #[.agg #[.int .u64 0, .int .u64 0, .int .u64 0, .int .u64 0], .int .i64 10]) (by simp [results, Try.results21, go_sem, hfc]) rfl ⟨rfl, below_set4 (b5) (Nat.le_refl _) _ _ _ _⟩

theorem rsmall_yes (c : Nat) (hc : clsB c = true) (w : World) : Calls Try.prog 21 #[.int .i64 (c : Int)] w fun e w' => e = .returned (.tuple #[.agg #[.int .u64 (W (clsP c) 0), .int .u64 (W (clsP c) 1), .int .u64 (W (clsP c) 2), .int .u64 (W (clsP c) 3)], .int .i64 0]) ∧ Below w.heap.size w w' := by
  rcases clsB_cases hc with rfl | rfl | rfl | rfl | rfl | rfl | rfl | rfl | rfl | rfl
  · exact rsmall_97 w
  · exact rsmall_99 w
  · exact rsmall_100 w
  · exact rsmall_103 w
  · exact rsmall_108 w
  · exact rsmall_112 w
  · exact rsmall_115 w
  · exact rsmall_117 w
  · exact rsmall_119 w
  · exact rsmall_120 w

set_option maxHeartbeats 2000000 in
theorem rclass_up (c : Nat) (h0 : 65 ≤ c) (h1 : c ≤ 90) (hc : clsB (c + 32) = true) (w : World) : Calls Try.prog 21 #[.int .i64 (c : Int)] w fun e w' => e = .returned (.tuple #[.agg #[.int .u64 (W (neg (clsP (c + 32))) 0), .int .u64 (W (neg (clsP (c + 32))) 1), .int .u64 (W (neg (clsP (c + 32))) 2), .int .u64 (W (neg (clsP (c + 32))) 3)], .int .i64 0]) ∧ Below w.heap.size w w' := by
  have d0 : decide ((65 : Int) ≤ (c : Int)) = true := decide_eq_true (by omega)
  have d1 : decide ((c : Int) ≤ 90) = true := decide_eq_true (by omega)
  have hk := rsmall_yes (c + 32) hc
  rw [show ((c + 32 : Nat) : Int) = (c : Int) + 32 by omega] at hk
  generalize clsP (c + 32) = P at hk ⊢
  have HK := hid hk
  clear hk hc
  go_enter Try.func21, Try.ntmps21
  go_wp2_with (first
    | (go_at_call 21; with_reducible refine Calls.mono (HK.out _) ?_; rintro e w1 ⟨rfl, hb1⟩; have hR1 := below_heap hb1 (b := w.heap.size) (by simp) (alloc_new _ _))
    | (go_at_call 17; with_reducible refine Calls.mono (rnot_any P _) ?_; rintro e w2 ⟨rfl, hb2⟩; have hR2 := below_heap hb2 (b := w.heap.size) (by have := block_lt hR1; simp; omega) (alloc_old hR1); have hst := block_free hR2; have hcr := block_cell hR2))
  have b1 := ((Below.refl w.heap.size w).alloc (Nat.le_refl _) (.cells #[.int .u64 0, .int .u64 0, .int .u64 0, .int .u64 0] 24)).trans (hb1.mono (by simp))
  have z1 := b1.size
  have b2 := (b1.alloc z1 (.cells #[.int .u64 (W P 0), .int .u64 (W P 1), .int .u64 (W P 2), .int .u64 (W P 3)] 24)).trans (hb2.mono (by simp; omega))
  have hfin := set4 hR2 (.int .u64 (W (neg P) 0)) (.int .u64 (W (neg P) 1)) (.int .u64 (W (neg P) 2)) (.int .u64 (W (neg P) 3))
  have hfc := block_cell hfin
  clear hfin
  exact bodyPost_ret (v := .tuple #[.agg #[.int .u64 (W (neg P) 0), .int .u64 (W (neg P) 1), .int .u64 (W (neg P) 2), .int .u64 (W (neg P) 3)], .int .i64 0]) (by simp [results, Try.results21, go_sem, hfc]) rfl ⟨rfl, below_set4 b2 (Nat.le_refl _) _ _ _ _⟩
set_option maxHeartbeats 2000000 in
theorem rclass_down (c : Nat) (h0 : 65 ≤ c) (h1 : c ≤ 90) (hc : clsB (c + 32) = false) (w : World) : Calls Try.prog 21 #[.int .i64 (c : Int)] w fun e w' => e = .returned (.tuple #[.agg #[.int .u64 0, .int .u64 0, .int .u64 0, .int .u64 0], .int .i64 10]) ∧ Below w.heap.size w w' := by
  have d0 : decide ((65 : Int) ≤ (c : Int)) = true := decide_eq_true (by omega)
  have d1 : decide ((c : Int) ≤ 90) = true := decide_eq_true (by omega)
  have hk := rsmall_no (c + 32) hc (by omega)
  rw [show ((c + 32 : Nat) : Int) = (c : Int) + 32 by omega] at hk
  have HK := hid hk
  clear hk hc
  go_enter Try.func21, Try.ntmps21
  go_wp2_with ((go_at_call 21; with_reducible refine Calls.mono (HK.out _) ?_; rintro e w1 ⟨rfl, hb1⟩; have hR1 := below_heap hb1 (b := w.heap.size) (by simp) (alloc_new _ _); have hR2 := alloc_old (y := .cells #[.int .u64 0, .int .u64 0, .int .u64 0, .int .u64 0] 24) hR1; have hst := block_free hR2; have hcr := block_cell hR2))
  have b1 := ((Below.refl w.heap.size w).alloc (Nat.le_refl _) (.cells #[.int .u64 0, .int .u64 0, .int .u64 0, .int .u64 0] 24)).trans (hb1.mono (by simp))
  have b2 := b1.alloc b1.size (.cells #[.int .u64 0, .int .u64 0, .int .u64 0, .int .u64 0] 24)
  have hfin := set4 hR2 (.int .u64 0) (.int .u64 0) (.int .u64 0) (.int .u64 0)
  have hfc := block_cell hfin
  clear hfin
  exact bodyPost_ret (v := .tuple #[.agg #[.int .u64 0, .int .u64 0, .int .u64 0, .int .u64 0], .int .i64 10]) (by simp [results, Try.results21, go_sem, hfc]) rfl ⟨rfl, below_set4 b2 (Nat.le_refl _) _ _ _ _⟩
theorem rclass_any (c : Nat) (w : World) : Calls Try.prog 21 #[.int .i64 (c : Int)] w fun e w' => e = .returned (.tuple #[.agg #[.int .u64 (W (classP c) 0), .int .u64 (W (classP c) 1), .int .u64 (W (classP c) 2), .int .u64 (W (classP c) 3)], .int .i64 (classE c)]) ∧ Below w.heap.size w w' := by
  cases hc : clsB c
  · by_cases hu : 65 ≤ c ∧ c ≤ 90
    · cases hd : clsB (c + 32)
      · rw [(class_is_down hc hd).1, (class_is_down hc hd).2, W_emp, W_emp, W_emp, W_emp]
        exact rclass_down c hu.1 hu.2 hd w
      · rw [(class_is_up hc hu.1 hu.2 hd).1, (class_is_up hc hu.1 hu.2 hd).2]
        exact rclass_up c hu.1 hu.2 hd w
    · rw [(class_is_no hc hu).1, (class_is_no hc hu).2, W_emp, W_emp, W_emp, W_emp]
      exact rsmall_no c hc hu w
  · rw [(class_is_yes hc).1, (class_is_yes hc).2]
    exact rsmall_yes c hc w

set_option maxHeartbeats 2000000 in
theorem class_yes (c : Nat) (h8 : c < 256) (P : Nat → Bool) (hc : clsB c = true) (hP : clsP c = P) (w : World) : Calls Try.prog 20 #[.int .u8 (c : Int)] w fun e w' => e = .returned (.tuple #[.agg #[.int .u64 (W P 0), .int .u64 (W P 1), .int .u64 (W P 2), .int .u64 (W P 3)], .int .i64 0]) ∧ Below w.heap.size w w' := by
  have HK := hid (small_yes c hc)
  rw [hP] at HK
  clear hP hc
  go_enter Try.func20, Try.ntmps20
  go_wp2_with (first | (go_at_call 28; with_reducible refine Calls.mono (HK.out _) ?_; rintro e w1 ⟨rfl, hb1⟩; have hR1 := below_heap hb1 (b := w.heap.size) (by simp) (alloc_new _ _); have hR1' := alloc_old (y := .cells #[.int .u64 (W P 0), .int .u64 (W P 1), .int .u64 (W P 2), .int .u64 (W P 3)] 24) hR1; have hst := block_free hR1'; have hcr := block_cell hR1'))
  have b1 := ((Below.refl w.heap.size w).alloc (Nat.le_refl _) (.cells #[.int .u64 0, .int .u64 0, .int .u64 0, .int .u64 0] 24)).trans (hb1.mono (by simp))
  have z1 := b1.size
  have b := b1.alloc z1 (.cells #[.int .u64 (W P 0), .int .u64 (W P 1), .int .u64 (W P 2), .int .u64 (W P 3)] 24)
  have hfin := set4 hR1' (.int .u64 (W P 0)) (.int .u64 (W P 1)) (.int .u64 (W P 2)) (.int .u64 (W P 3))
  have hfc := block_cell hfin
  clear hfin
  exact bodyPost_ret (v := .tuple #[.agg #[.int .u64 (W P 0), .int .u64 (W P 1), .int .u64 (W P 2), .int .u64 (W P 3)], .int .i64 0]) (by simp [results, Try.results20, go_sem, hfc]) rfl ⟨rfl, below_set4 b (Nat.le_refl _) _ _ _ _⟩
set_option maxHeartbeats 2000000 in
theorem class_up (c : Nat) (h8 : c < 256) (P : Nat → Bool) (hc : clsB c = false) (h0 : 65 ≤ c) (h1 : c ≤ 90) (hd : clsB (c + 32) = true) (hP : clsP (c + 32) = P) (w : World) : Calls Try.prog 20 #[.int .u8 (c : Int)] w fun e w' => e = .returned (.tuple #[.agg #[.int .u64 (W (neg P) 0), .int .u64 (W (neg P) 1), .int .u64 (W (neg P) 2), .int .u64 (W (neg P) 3)], .int .i64 0]) ∧ Below w.heap.size w w' := by
  have d0 : decide ((65 : Int) ≤ (c : Int)) = true := decide_eq_true (by omega)
  have d1 : decide ((c : Int) ≤ 90) = true := decide_eq_true (by omega)
  have hw : IntKind.u8.wrap ((c : Int) + 32) = (c : Int) + 32 := by rw [IntKind.wrap_u8]; omega
  have HK := hid (small_no c hc)
  have HK2 := hid (small_yes (c + 32) hd)
  rw [hP] at HK2
  rw [show ((c + 32 : Nat) : Int) = (c : Int) + 32 by omega] at HK2
  clear hc hd hP
  go_enter Try.func20, Try.ntmps20
  go_wp2_with (first | (go_at_call 28; with_reducible refine Calls.mono (HK.out _) ?_; rintro e w1 ⟨rfl, hb1⟩; have hR1 := below_heap hb1 (b := w.heap.size) (by simp) (alloc_new _ _); have hR1' := alloc_old (y := .cells #[.int .u64 0, .int .u64 0, .int .u64 0, .int .u64 0] 24) hR1; have hst := block_free hR1'; have hcr := block_cell hR1') | (go_at_call 28; with_reducible refine Calls.mono (HK2.out _) ?_; rintro e w2 ⟨rfl, hb2⟩; have hR2 := below_heap hb2 (b := w.heap.size) (by have := block_lt hR1; simp; omega) hR1'; have hR2' := alloc_old (y := .cells #[.int .u64 (W P 0), .int .u64 (W P 1), .int .u64 (W P 2), .int .u64 (W P 3)] 24) hR2; have hst2 := block_free hR2'; have hcr2 := block_cell hR2') | (go_at_call 16; with_reducible refine Calls.mono (not_any P _) ?_; rintro e w3 ⟨rfl, hb3⟩; have hR3 := below_heap hb3 (b := w.heap.size) (by have := block_lt hR2; simp; omega) hR2'; have hst3 := block_free hR3; have hcr3 := block_cell hR3))
  have b1 := ((Below.refl w.heap.size w).alloc (Nat.le_refl _) (.cells #[.int .u64 0, .int .u64 0, .int .u64 0, .int .u64 0] 24)).trans (hb1.mono (by simp))
  have z1 := b1.size
  have b := b1.alloc z1 (.cells #[.int .u64 0, .int .u64 0, .int .u64 0, .int .u64 0] 24)
  have b2 := b.trans (hb2.mono (by simp; omega))
  have z2 := b2.size
  have b := b2.alloc z2 (.cells #[.int .u64 (W P 0), .int .u64 (W P 1), .int .u64 (W P 2), .int .u64 (W P 3)] 24)
  have b := b.trans (hb3.mono (by simp; omega))
  have hfin := set4 hR3 (.int .u64 (W (neg P) 0)) (.int .u64 (W (neg P) 1)) (.int .u64 (W (neg P) 2)) (.int .u64 (W (neg P) 3))
  have hfc := block_cell hfin
  clear hfin
  exact bodyPost_ret (v := .tuple #[.agg #[.int .u64 (W (neg P) 0), .int .u64 (W (neg P) 1), .int .u64 (W (neg P) 2), .int .u64 (W (neg P) 3)], .int .i64 0]) (by simp [results, Try.results20, go_sem, hfc]) rfl ⟨rfl, below_set4 b (Nat.le_refl _) _ _ _ _⟩
set_option maxHeartbeats 2000000 in
theorem class_down (c : Nat) (h8 : c < 256) (hc : clsB c = false) (h0 : 65 ≤ c) (h1 : c ≤ 90) (hd : clsB (c + 32) = false) (w : World) : Calls Try.prog 20 #[.int .u8 (c : Int)] w fun e w' => e = .returned (.tuple #[.agg #[.int .u64 0, .int .u64 0, .int .u64 0, .int .u64 0], .int .i64 10]) ∧ Below w.heap.size w w' := by
  have d0 : decide ((65 : Int) ≤ (c : Int)) = true := decide_eq_true (by omega)
  have d1 : decide ((c : Int) ≤ 90) = true := decide_eq_true (by omega)
  have hw : IntKind.u8.wrap ((c : Int) + 32) = (c : Int) + 32 := by rw [IntKind.wrap_u8]; omega
  have HK := hid (small_no c hc)
  have HK2 := hid (small_no (c + 32) hd)
  rw [show ((c + 32 : Nat) : Int) = (c : Int) + 32 by omega] at HK2
  clear hc hd
  go_enter Try.func20, Try.ntmps20
  go_wp2_with (first | (go_at_call 28; with_reducible refine Calls.mono (HK.out _) ?_; rintro e w1 ⟨rfl, hb1⟩; have hR1 := below_heap hb1 (b := w.heap.size) (by simp) (alloc_new _ _); have hR1' := alloc_old (y := .cells #[.int .u64 0, .int .u64 0, .int .u64 0, .int .u64 0] 24) hR1; have hst := block_free hR1'; have hcr := block_cell hR1') | (go_at_call 28; with_reducible refine Calls.mono (HK2.out _) ?_; rintro e w2 ⟨rfl, hb2⟩; have hR2 := below_heap hb2 (b := w.heap.size) (by have := block_lt hR1; simp; omega) hR1'; have hR2' := alloc_old (y := .cells #[.int .u64 0, .int .u64 0, .int .u64 0, .int .u64 0] 24) hR2; have hst2 := block_free hR2'; have hcr2 := block_cell hR2'))
  have b1 := ((Below.refl w.heap.size w).alloc (Nat.le_refl _) (.cells #[.int .u64 0, .int .u64 0, .int .u64 0, .int .u64 0] 24)).trans (hb1.mono (by simp))
  have z1 := b1.size
  have b := b1.alloc z1 (.cells #[.int .u64 0, .int .u64 0, .int .u64 0, .int .u64 0] 24)
  have b2 := b.trans (hb2.mono (by simp; omega))
  have z2 := b2.size
  have b := b2.alloc z2 (.cells #[.int .u64 0, .int .u64 0, .int .u64 0, .int .u64 0] 24)
  have hfin := set4 hR2' (.int .u64 0) (.int .u64 0) (.int .u64 0) (.int .u64 0)
  have hfc := block_cell hfin
  clear hfin
  exact bodyPost_ret (v := .tuple #[.agg #[.int .u64 0, .int .u64 0, .int .u64 0, .int .u64 0], .int .i64 10]) (by simp [results, Try.results20, go_sem, hfc]) rfl ⟨rfl, below_set4 b (Nat.le_refl _) _ _ _ _⟩
set_option maxHeartbeats 2000000 in
theorem class_no_lo (c : Nat) (h8 : c < 256) (hc : clsB c = false) (h0 : c < 65) (w : World) : Calls Try.prog 20 #[.int .u8 (c : Int)] w fun e w' => e = .returned (.tuple #[.agg #[.int .u64 0, .int .u64 0, .int .u64 0, .int .u64 0], .int .i64 10]) ∧ Below w.heap.size w w' := by
  have d0 : decide ((65 : Int) ≤ (c : Int)) = false := decide_eq_false (by omega)
  have HK := hid (small_no c hc)
  clear hc
  go_enter Try.func20, Try.ntmps20
  go_wp2_with (first | (go_at_call 28; with_reducible refine Calls.mono (HK.out _) ?_; rintro e w1 ⟨rfl, hb1⟩; have hR1 := below_heap hb1 (b := w.heap.size) (by simp) (alloc_new _ _); have hR1' := alloc_old (y := .cells #[.int .u64 0, .int .u64 0, .int .u64 0, .int .u64 0] 24) hR1; have hst := block_free hR1'; have hcr := block_cell hR1'))
  have b1 := ((Below.refl w.heap.size w).alloc (Nat.le_refl _) (.cells #[.int .u64 0, .int .u64 0, .int .u64 0, .int .u64 0] 24)).trans (hb1.mono (by simp))
  have z1 := b1.size
  have b := b1.alloc z1 (.cells #[.int .u64 0, .int .u64 0, .int .u64 0, .int .u64 0] 24)
  have hfin := set4 hR1' (.int .u64 0) (.int .u64 0) (.int .u64 0) (.int .u64 0)
  have hfc := block_cell hfin
  clear hfin
  exact bodyPost_ret (v := .tuple #[.agg #[.int .u64 0, .int .u64 0, .int .u64 0, .int .u64 0], .int .i64 10]) (by simp [results, Try.results20, go_sem, hfc]) rfl ⟨rfl, below_set4 b (Nat.le_refl _) _ _ _ _⟩
set_option maxHeartbeats 2000000 in
theorem class_no_hi (c : Nat) (h8 : c < 256) (hc : clsB c = false) (h0 : 90 < c) (w : World) : Calls Try.prog 20 #[.int .u8 (c : Int)] w fun e w' => e = .returned (.tuple #[.agg #[.int .u64 0, .int .u64 0, .int .u64 0, .int .u64 0], .int .i64 10]) ∧ Below w.heap.size w w' := by
  have d0 : decide ((65 : Int) ≤ (c : Int)) = true := decide_eq_true (by omega)
  have d1 : decide ((c : Int) ≤ 90) = false := decide_eq_false (by omega)
  have HK := hid (small_no c hc)
  clear hc
  go_enter Try.func20, Try.ntmps20
  go_wp2_with (first | (go_at_call 28; with_reducible refine Calls.mono (HK.out _) ?_; rintro e w1 ⟨rfl, hb1⟩; have hR1 := below_heap hb1 (b := w.heap.size) (by simp) (alloc_new _ _); have hR1' := alloc_old (y := .cells #[.int .u64 0, .int .u64 0, .int .u64 0, .int .u64 0] 24) hR1; have hst := block_free hR1'; have hcr := block_cell hR1'))
  have b1 := ((Below.refl w.heap.size w).alloc (Nat.le_refl _) (.cells #[.int .u64 0, .int .u64 0, .int .u64 0, .int .u64 0] 24)).trans (hb1.mono (by simp))
  have z1 := b1.size
  have b := b1.alloc z1 (.cells #[.int .u64 0, .int .u64 0, .int .u64 0, .int .u64 0] 24)
  have hfin := set4 hR1' (.int .u64 0) (.int .u64 0) (.int .u64 0) (.int .u64 0)
  have hfc := block_cell hfin
  clear hfin
  exact bodyPost_ret (v := .tuple #[.agg #[.int .u64 0, .int .u64 0, .int .u64 0, .int .u64 0], .int .i64 10]) (by simp [results, Try.results20, go_sem, hfc]) rfl ⟨rfl, below_set4 b (Nat.le_refl _) _ _ _ _⟩
theorem class_any (c : Nat) (h8 : c < 256) (w : World) : Calls Try.prog 20 #[.int .u8 (c : Int)] w fun e w' => e = .returned (.tuple #[.agg #[.int .u64 (W (classP c) 0), .int .u64 (W (classP c) 1), .int .u64 (W (classP c) 2), .int .u64 (W (classP c) 3)], .int .i64 (classE c)]) ∧ Below w.heap.size w w' := by
  cases hc : clsB c
  · by_cases hu : 65 ≤ c ∧ c ≤ 90
    · cases hd : clsB (c + 32)
      · rw [(class_is_down hc hd).1, (class_is_down hc hd).2, W_emp, W_emp, W_emp, W_emp]
        exact class_down c h8 hc hu.1 hu.2 hd w
      · rw [(class_is_up hc hu.1 hu.2 hd).1, (class_is_up hc hu.1 hu.2 hd).2]
        exact class_up c h8 _ hc hu.1 hu.2 hd rfl w
    · rw [(class_is_no hc hu).1, (class_is_no hc hu).2, W_emp, W_emp, W_emp, W_emp]
      by_cases h6 : c < 65
      · exact class_no_lo c h8 hc h6 w
      · exact class_no_hi c h8 hc (by omega) w
  · rw [(class_is_yes hc).1, (class_is_yes hc).2]
    exact class_yes c h8 _ hc rfl w

end Go.Proofs.Ytjbdamedofgdgaa
