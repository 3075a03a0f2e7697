/-
  charset.span, Range and the reference's FromTo, IsSpan, Range: what each returns, for every two ends; what lay in memory stays as it was.
-/
import Derived.Test.YtjbdamedofgdgaaDoorBits
namespace Go.Proofs.YtjbdamedofgdgaaDoor
open Go.RowKit
set_option linter.unusedVariables false
set_option linter.unusedSimpArgs false

set_option maxHeartbeats 2000000 in
set_option maxRecDepth 20000 in
theorem span_any (lo hi : Nat) (hlo : lo < 256) (hhi : hi < 256) (w : World) :
    Calls Tryd.prog 43 #[.int .i64 (lo : Int), .int .i64 (hi : Int)] w fun e w' =>
      e = .returned (.agg #[.int .u64 (W (rngP lo (hi + 1)) 0), .int .u64 (W (rngP lo (hi + 1)) 1), .int .u64 (W (rngP lo (hi + 1)) 2), .int .u64 (W (rngP lo (hi + 1)) 3)]) ∧ Below w.heap.size w w' := by
  go_enter Tryd.func43, Tryd.ntmps43
  go_wp2
  go_loopw [6] (fun i wr => ∃ k : Nat, lo ≤ k ∧ (k ≤ hi + 1 ∨ k = lo) ∧ i = .int .i64 k ∧ wr.heap[w.heap.size]? = some (.cells #[.int .u64 0, .int .u64 0, .int .u64 0, .int .u64 0] 24) ∧ wr.heap[w.heap.size + 1]? = some (.cells #[.int .u64 (W (rngP lo k) 0), .int .u64 (W (rngP lo k) 1), .int .u64 (W (rngP lo k) 2), .int .u64 (W (rngP lo k) 3)] 24) ∧ Below w.heap.size w wr) (fun i _ => 256 - (intOf i).toNat)
  case atStart =>
    refine ⟨lo, Nat.le_refl _, .inr rfl, rfl, ?_, ?_, ((Below.refl _ _).alloc (Nat.le_refl _) _).alloc (by simp) _⟩
    · exact alloc_old (alloc_new _ _)
    · rw [rngP_start, W_emp, W_emp, W_emp, W_emp]
      exact (by have h := alloc_new (w.alloc (.cells #[.int .u64 0, .int .u64 0, .int .u64 0, .int .u64 0] 24)) (.cells #[.int .u64 0, .int .u64 0, .int .u64 0, .int .u64 0] 24); simpa using h)
  case round =>
    obtain ⟨k, hk, hk2, rfl, hR, hA, hB⟩ := hrel
    have hsz : w.heap.size + 1 < wr.heap.size := block_lt hA
    have hld := block_cell hA
    by_cases hlt : k ≤ hi
    · have hs := hid (rngP_succ hk)
      go_wp2_with ((go_at_call 33; with_reducible refine Calls.mono (with_any (rngP lo k) k ?_ _) ?_; omega; rintro e w2 ⟨rfl, hb2⟩; have hA2 := below_heap hb2 hsz hA; have hst := block_free hA2; have hcl2 := block_cell hA2))
      go_roundw
      case rel =>
        refine ⟨k + 1, by omega, .inl (by omega), by go_num, ?_, by rw [hs.out]; exact set4 hA2 _ _ _ _, below_set4 (hB.trans (hb2.mono hB.size)) (by omega) _ _ _ _⟩
        rw [heap_setCell_ne _ _ _ (by omega), heap_setCell_ne _ _ _ (by omega), heap_setCell_ne _ _ _ (by omega), heap_setCell_ne _ _ _ (by omega)]
        exact below_heap hb2 (by omega) hR
      case measure => simp [intOf]; omega
    · have hfe : rngP lo (hi + 1) = rngP lo k := by
        rcases hk2 with h | h
        · rw [show k = hi + 1 by omega]
        · subst h; rw [rngP_start, rngP_none (by omega)]
      have HF := hid hfe
      have hst := block_free hR
      have hcr := block_cell hR
      have hfin := set4 hR (.int .u64 (W (rngP lo k) 0)) (.int .u64 (W (rngP lo k) 1)) (.int .u64 (W (rngP lo k) 2)) (.int .u64 (W (rngP lo k) 3))
      have hfb := below_set4 hB (Nat.le_refl _) (.int .u64 (W (rngP lo k) 0)) (.int .u64 (W (rngP lo k) 1)) (.int .u64 (W (rngP lo k) 2)) (.int .u64 (W (rngP lo k) 3))
      have hfc := block_cell hfin
      clear hfin hfe
      go_wp2
      rw [HF.out]
      exact bodyPost_ret (v := .agg #[.int .u64 (W (rngP lo k) 0), .int .u64 (W (rngP lo k) 1), .int .u64 (W (rngP lo k) 2), .int .u64 (W (rngP lo k) 3)]) (by simp [results, Tryd.results43, go_sem, hfc]) rfl ⟨rfl, hfb⟩




set_option maxHeartbeats 2000000 in
theorem range_ok (lo hi : Nat) (h1 : lo ≤ hi) (h2 : hi < 256) (w : World) :
    Calls Tryd.prog 39 #[.int .i64 (lo : Int), .int .i64 (hi : Int)] w fun e w' =>
      e = .returned (.tuple #[.agg #[.int .u64 (W (rngP lo (hi + 1)) 0), .int .u64 (W (rngP lo (hi + 1)) 1), .int .u64 (W (rngP lo (hi + 1)) 2), .int .u64 (W (rngP lo (hi + 1)) 3)], .int .i64 0]) ∧ Below w.heap.size w w' := by
  go_enter Tryd.func39, Tryd.ntmps39
  go_wp2_with ((go_at_call 43; with_reducible refine Calls.mono (span_any lo hi ?_ ?_ _) ?_; omega; omega; rintro e w2 ⟨rfl, hb2⟩; have hR := below_heap hb2 (b := w.heap.size) (by simp) (alloc_new _ _); have hst := block_free hR; have hcr := block_cell hR))
  have hfin := set4 hR (.int .u64 (W (rngP lo (hi + 1)) 0)) (.int .u64 (W (rngP lo (hi + 1)) 1)) (.int .u64 (W (rngP lo (hi + 1)) 2)) (.int .u64 (W (rngP lo (hi + 1)) 3))
  have hfc := block_cell hfin
  clear hfin
  exact bodyPost_ret (v := .tuple #[.agg #[.int .u64 (W (rngP lo (hi + 1)) 0), .int .u64 (W (rngP lo (hi + 1)) 1), .int .u64 (W (rngP lo (hi + 1)) 2), .int .u64 (W (rngP lo (hi + 1)) 3)], .int .i64 0]) (by simp [results, Tryd.results39, go_sem, hfc]) rfl ⟨rfl, below_set4 (((Below.refl _ _).alloc (Nat.le_refl _) _).trans (hb2.mono (by simp))) (by omega) _ _ _ _⟩

theorem range_bad_0 (lo hi : Int) (h : lo < 0) (w : World) :
    Calls Tryd.prog 39 #[.int .i64 lo, .int .i64 hi] w fun e w' => e = .returned (.tuple #[.agg #[.int .u64 0, .int .u64 0, .int .u64 0, .int .u64 0], .int .i64 1]) ∧ Below w.heap.size w w' := by
  have d0 : decide (lo < 0) = true := decide_eq_true h
  go_enter Tryd.func39, Tryd.ntmps39
  go_wp2
  exact bodyPost_ret (v := .tuple #[.agg #[.int .u64 0, .int .u64 0, .int .u64 0, .int .u64 0], .int .i64 1]) (by simp [results, Tryd.results39, go_sem]) rfl ⟨rfl, (Below.refl _ _).alloc (Nat.le_refl _) _⟩
theorem range_bad_1 (lo hi : Int) (h0 : 0 ≤ lo) (h : 255 < lo) (w : World) :
    Calls Tryd.prog 39 #[.int .i64 lo, .int .i64 hi] w fun e w' => e = .returned (.tuple #[.agg #[.int .u64 0, .int .u64 0, .int .u64 0, .int .u64 0], .int .i64 1]) ∧ Below w.heap.size w w' := by
  have d0 : decide (lo < 0) = false := decide_eq_false (by omega)
  have d1 : decide (255 < lo) = true := decide_eq_true h
  go_enter Tryd.func39, Tryd.ntmps39
  go_wp2
  exact bodyPost_ret (v := .tuple #[.agg #[.int .u64 0, .int .u64 0, .int .u64 0, .int .u64 0], .int .i64 1]) (by simp [results, Tryd.results39, go_sem]) rfl ⟨rfl, (Below.refl _ _).alloc (Nat.le_refl _) _⟩
theorem range_bad_2 (lo hi : Int) (h0 : 0 ≤ lo) (h1 : lo ≤ 255) (h : hi < lo) (w : World) :
    Calls Tryd.prog 39 #[.int .i64 lo, .int .i64 hi] w fun e w' => e = .returned (.tuple #[.agg #[.int .u64 0, .int .u64 0, .int .u64 0, .int .u64 0], .int .i64 1]) ∧ Below w.heap.size w w' := by
  have d0 : decide (lo < 0) = false := decide_eq_false (by omega)
  have d1 : decide (255 < lo) = false := decide_eq_false (by omega)
  have d2 : decide (hi < lo) = true := decide_eq_true h
  go_enter Tryd.func39, Tryd.ntmps39
  go_wp2
  exact bodyPost_ret (v := .tuple #[.agg #[.int .u64 0, .int .u64 0, .int .u64 0, .int .u64 0], .int .i64 1]) (by simp [results, Tryd.results39, go_sem]) rfl ⟨rfl, (Below.refl _ _).alloc (Nat.le_refl _) _⟩
theorem range_bad_3 (lo hi : Int) (h0 : 0 ≤ lo) (h1 : lo ≤ 255) (h2 : lo ≤ hi) (h : 255 < hi) (w : World) :
    Calls Tryd.prog 39 #[.int .i64 lo, .int .i64 hi] w fun e w' => e = .returned (.tuple #[.agg #[.int .u64 0, .int .u64 0, .int .u64 0, .int .u64 0], .int .i64 1]) ∧ Below w.heap.size w w' := by
  have d0 : decide (lo < 0) = false := decide_eq_false (by omega)
  have d1 : decide (255 < lo) = false := decide_eq_false (by omega)
  have d2 : decide (hi < lo) = false := decide_eq_false (by omega)
  have d3 : decide (255 < hi) = true := decide_eq_true h
  go_enter Tryd.func39, Tryd.ntmps39
  go_wp2
  exact bodyPost_ret (v := .tuple #[.agg #[.int .u64 0, .int .u64 0, .int .u64 0, .int .u64 0], .int .i64 1]) (by simp [results, Tryd.results39, go_sem]) rfl ⟨rfl, (Below.refl _ _).alloc (Nat.le_refl _) _⟩
theorem range_bad (lo hi : Int) (h : ¬ (0 ≤ lo ∧ lo ≤ hi ∧ hi ≤ 255)) (w : World) :
    Calls Tryd.prog 39 #[.int .i64 lo, .int .i64 hi] w fun e w' => e = .returned (.tuple #[.agg #[.int .u64 0, .int .u64 0, .int .u64 0, .int .u64 0], .int .i64 1]) ∧ Below w.heap.size w w' := by
  by_cases a : lo < 0
  · exact range_bad_0 lo hi a w
  by_cases b : 255 < lo
  · exact range_bad_1 lo hi (by omega) b w
  by_cases c : hi < lo
  · exact range_bad_2 lo hi (by omega) (by omega) c w
  exact range_bad_3 lo hi (by omega) (by omega) (by omega) (by omega) w






end Go.Proofs.YtjbdamedofgdgaaDoor
