/-
  charset.span, Range and the reference's FromTo, IsSpan, Range: what each returns, for every two ends; what lay in memory stays as it was.
-/
import Derived.Test.YtebebognifiinaaBits
namespace Go.Proofs.Ytebebognifiinaa
open Go.RowKit
set_option linter.unusedVariables false
set_option linter.unusedSimpArgs false



set_option maxHeartbeats 2000000 in
set_option maxRecDepth 20000 in
theorem fromto_any (lo hi : Nat) (hlo : lo < 256) (hhi : hi < 256) (w : World) :
    Calls Try.prog 48 #[.int .i64 (lo : Int), .int .i64 (hi : Int)] w fun e w' =>
      e = .returned (.agg #[.int .u64 (W (rngP lo (hi + 1)) 0), .int .u64 (W (rngP lo (hi + 1)) 1), .int .u64 (W (rngP lo (hi + 1)) 2), .int .u64 (W (rngP lo (hi + 1)) 3)]) ∧ Below w.heap.size w w' := by
  go_enter Try.func48, Try.ntmps48
  go_wp2
  go_loopw [6] (fun i wr => ∃ k : Nat, lo ≤ k ∧ (k ≤ hi + 1 ∨ k = lo) ∧ i = .int .i64 k ∧ wr.heap[w.heap.size]? = some (.cells #[.int .u64 0, .int .u64 0, .int .u64 0, .int .u64 0] 94) ∧ wr.heap[w.heap.size + 1]? = some (.cells #[.int .u64 (W (rngP lo k) 0), .int .u64 (W (rngP lo k) 1), .int .u64 (W (rngP lo k) 2), .int .u64 (W (rngP lo k) 3)] 94) ∧ Below w.heap.size w wr) (fun i _ => 256 - (intOf i).toNat)
  case atStart =>
    refine ⟨lo, Nat.le_refl _, .inr rfl, rfl, ?_, ?_, ((Below.refl _ _).alloc (Nat.le_refl _) _).alloc (by simp) _⟩
    · exact alloc_old (alloc_new _ _)
    · rw [rngP_start, W_emp, W_emp, W_emp, W_emp]
      exact (by have h := alloc_new (w.alloc (.cells #[.int .u64 0, .int .u64 0, .int .u64 0, .int .u64 0] 94)) (.cells #[.int .u64 0, .int .u64 0, .int .u64 0, .int .u64 0] 94); simpa using h)
  case round =>
    obtain ⟨k, hk, hk2, rfl, hR, hA, hB⟩ := hrel
    have hsz : w.heap.size + 1 < wr.heap.size := block_lt hA
    have hld := block_cell hA
    by_cases hlt : k ≤ hi
    · have hs := hid (rngP_succ hk)
      go_wp2_with ((go_at_call 54; with_reducible refine Calls.mono (rwith_any (rngP lo k) k ?_ _) ?_; omega; rintro e w2 ⟨rfl, hb2⟩; have hA2 := below_heap hb2 hsz hA; have hst := block_free hA2; have hcl2 := block_cell hA2))
      go_roundw
      case rel =>
        refine ⟨k + 1, by omega, .inl (by omega), by go_num, ?_, by rw [hs.out]; exact set4 hA2 _ _ _ _, below_set4 (hB.trans (hb2.mono hB.size)) (by omega) _ _ _ _⟩
        rw [heap_setCell_ne _ _ _ (by omega), heap_setCell_ne _ _ _ (by omega), heap_setCell_ne _ _ _ (by omega), heap_setCell_ne _ _ _ (by omega)]
        exact below_heap hb2 (by omega) hR
      case measure => simp [intOf]; omega
    · have hfe : rngP lo (hi + 1) = rngP lo k := by
        rcases hk2 with h | h
        · rw [show k = hi + 1 by omega]
        · subst h; rw [rngP_start, rngP_none (by omega)]
      have HF := hid hfe
      have hst := block_free hR
      have hcr := block_cell hR
      have hfin := set4 hR (.int .u64 (W (rngP lo k) 0)) (.int .u64 (W (rngP lo k) 1)) (.int .u64 (W (rngP lo k) 2)) (.int .u64 (W (rngP lo k) 3))
      have hfb := below_set4 hB (Nat.le_refl _) (.int .u64 (W (rngP lo k) 0)) (.int .u64 (W (rngP lo k) 1)) (.int .u64 (W (rngP lo k) 2)) (.int .u64 (W (rngP lo k) 3))
      have hfc := block_cell hfin
      clear hfin hfe
      go_wp2
      rw [HF.out]
      exact bodyPost_ret (v := .agg #[.int .u64 (W (rngP lo k) 0), .int .u64 (W (rngP lo k) 1), .int .u64 (W (rngP lo k) 2), .int .u64 (W (rngP lo k) 3)]) (by simp [results, Try.results48, go_sem, hfc]) rfl ⟨rfl, hfb⟩









end Go.Proofs.Ytebebognifiinaa
