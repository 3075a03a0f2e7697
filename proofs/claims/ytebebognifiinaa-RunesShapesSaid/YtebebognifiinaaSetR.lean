/-
  runes.set: what it returns for every two ends; what lay in memory stays as it was.
-/
import Derived.Test.YtebebognifiinaaSpan
namespace Go.Proofs.Ytebebognifiinaa
open Go.RowKit
set_option linter.unusedVariables false
set_option linter.unusedSimpArgs false

set_option maxHeartbeats 4000000 in
set_option maxRecDepth 20000 in
theorem set_any (lo hi : Nat) (hlo : lo < 256) (hhi : hi < 256) (w : World) :
    Calls Try.prog 47 #[.agg #[.int .i64 (lo : Int), .int .i64 (hi : Int)]] w fun e w' =>
      e = .returned (.agg #[.int .u64 (W (rngP lo (hi + 1)) 0), .int .u64 (W (rngP lo (hi + 1)) 1), .int .u64 (W (rngP lo (hi + 1)) 2), .int .u64 (W (rngP lo (hi + 1)) 3)]) ∧ Below w.heap.size w w' := by
  go_enter Try.func47, Try.ntmps47
  go_wp2
  go_loopw [4] (fun i wr => ∃ k : Nat, lo ≤ k ∧ (k ≤ hi + 1 ∨ k = lo) ∧ i = .int .i64 k ∧ wr.heap[w.heap.size]? = some (.cells #[.int .i64 lo, .int .i64 hi] 63) ∧ wr.heap[w.heap.size + 1]? = some (.cells #[.int .u64 0, .int .u64 0, .int .u64 0, .int .u64 0] 94) ∧ wr.heap[w.heap.size + 2]? = some (.cells #[.int .u64 (W (rngP lo k) 0), .int .u64 (W (rngP lo k) 1), .int .u64 (W (rngP lo k) 2), .int .u64 (W (rngP lo k) 3)] 94) ∧ Below w.heap.size w wr) (fun i _ => 256 - (intOf i).toNat)
  case atStart =>
    refine ⟨lo, Nat.le_refl _, .inr rfl, rfl, ?_, ?_, ?_, (((Below.refl _ _).alloc (Nat.le_refl _) _).alloc (by simp) _).alloc (by simp only [World.alloc, Array.size_push]; omega) _⟩
    · exact alloc_old (alloc_old (alloc_new _ _))
    · exact alloc_old (by have h := alloc_new (w.alloc (.cells #[.int .i64 lo, .int .i64 hi] 63)) (.cells #[.int .u64 0, .int .u64 0, .int .u64 0, .int .u64 0] 94); simpa using h)
    · rw [rngP_start, W_emp, W_emp, W_emp, W_emp]
      exact (by have h := alloc_new ((w.alloc (.cells #[.int .i64 lo, .int .i64 hi] 63)).alloc (.cells #[.int .u64 0, .int .u64 0, .int .u64 0, .int .u64 0] 94)) (.cells #[.int .u64 0, .int .u64 0, .int .u64 0, .int .u64 0] 94); simpa using h)
  case round =>
    obtain ⟨k, hk, hk2, rfl, hX, hR, hA, hB⟩ := hrel
    have hsz : w.heap.size + 2 < wr.heap.size := block_lt hA
    have hld := block_cell hA
    have hlx := block_cell hX
    have hst := block_free hA
    by_cases hlt : k ≤ hi
    · have hs := hid (rngP_succ hk)
      have hk4 : k / 64 = 0 ∨ k / 64 = 1 ∨ k / 64 = 2 ∨ k / 64 = 3 := by omega
      have hb0 : (0 : Int) ≤ (k : Int) := by omega
      have hb1 : (k : Int) < 256 := by omega
      rcases hk4 with hq' | hq' | hq' | hq'
      · have hq : (k : Int) / 64 = 0 := by omega
        have hv : bits .or .u64 (W (rngP lo k) 0) (IntKind.u64.wrap (2 ^ (k % 64))) = W (ins (rngP lo k) k) 0 := by rw [shl_one (Nat.mod_lt _ (by decide)), bits_or_pow hq']
        have HV := hid hv
        clear hv
        go_wp2
        go_region
        go_wp2
        go_roundw
        case rel =>
          refine ⟨k + 1, by omega, .inl (by omega), by go_num, ?_, ?_, ?_, ?_⟩
          · exact (heap_setCell_ne _ _ _ (by omega)).trans hX
          · exact (heap_setCell_ne _ _ _ (by omega)).trans hR
          · rw [hs.out, W_ins_ne (p := rngP lo k) (b := k) (k := 1) (by omega), W_ins_ne (p := rngP lo k) (b := k) (k := 2) (by omega), W_ins_ne (p := rngP lo k) (b := k) (k := 3) (by omega), HV.out]; exact heap_setCell_self hA 0 _
          · exact (hB.setCell (p := ⟨w.heap.size + 2, 0, none⟩) (by show w.heap.size ≤ w.heap.size + 2; omega) _).drew
        case measure => simp [intOf]; omega
      · have hq : (k : Int) / 64 = 1 := by omega
        have hv : bits .or .u64 (W (rngP lo k) 1) (IntKind.u64.wrap (2 ^ (k % 64))) = W (ins (rngP lo k) k) 1 := by rw [shl_one (Nat.mod_lt _ (by decide)), bits_or_pow hq']
        have HV := hid hv
        clear hv
        go_wp2
        go_region
        go_wp2
        go_roundw
        case rel =>
          refine ⟨k + 1, by omega, .inl (by omega), by go_num, ?_, ?_, ?_, ?_⟩
          · exact (heap_setCell_ne _ _ _ (by omega)).trans hX
          · exact (heap_setCell_ne _ _ _ (by omega)).trans hR
          · rw [hs.out, W_ins_ne (p := rngP lo k) (b := k) (k := 0) (by omega), W_ins_ne (p := rngP lo k) (b := k) (k := 2) (by omega), W_ins_ne (p := rngP lo k) (b := k) (k := 3) (by omega), HV.out]; exact heap_setCell_self hA 1 _
          · exact (hB.setCell (p := ⟨w.heap.size + 2, 1, none⟩) (by show w.heap.size ≤ w.heap.size + 2; omega) _).drew
        case measure => simp [intOf]; omega
      · have hq : (k : Int) / 64 = 2 := by omega
        have hv : bits .or .u64 (W (rngP lo k) 2) (IntKind.u64.wrap (2 ^ (k % 64))) = W (ins (rngP lo k) k) 2 := by rw [shl_one (Nat.mod_lt _ (by decide)), bits_or_pow hq']
        have HV := hid hv
        clear hv
        go_wp2
        go_region
        go_wp2
        go_roundw
        case rel =>
          refine ⟨k + 1, by omega, .inl (by omega), by go_num, ?_, ?_, ?_, ?_⟩
          · exact (heap_setCell_ne _ _ _ (by omega)).trans hX
          · exact (heap_setCell_ne _ _ _ (by omega)).trans hR
          · rw [hs.out, W_ins_ne (p := rngP lo k) (b := k) (k := 0) (by omega), W_ins_ne (p := rngP lo k) (b := k) (k := 1) (by omega), W_ins_ne (p := rngP lo k) (b := k) (k := 3) (by omega), HV.out]; exact heap_setCell_self hA 2 _
          · exact (hB.setCell (p := ⟨w.heap.size + 2, 2, none⟩) (by show w.heap.size ≤ w.heap.size + 2; omega) _).drew
        case measure => simp [intOf]; omega
      · have hq : (k : Int) / 64 = 3 := by omega
        have hv : bits .or .u64 (W (rngP lo k) 3) (IntKind.u64.wrap (2 ^ (k % 64))) = W (ins (rngP lo k) k) 3 := by rw [shl_one (Nat.mod_lt _ (by decide)), bits_or_pow hq']
        have HV := hid hv
        clear hv
        go_wp2
        go_region
        go_wp2
        go_roundw
        case rel =>
          refine ⟨k + 1, by omega, .inl (by omega), by go_num, ?_, ?_, ?_, ?_⟩
          · exact (heap_setCell_ne _ _ _ (by omega)).trans hX
          · exact (heap_setCell_ne _ _ _ (by omega)).trans hR
          · rw [hs.out, W_ins_ne (p := rngP lo k) (b := k) (k := 0) (by omega), W_ins_ne (p := rngP lo k) (b := k) (k := 1) (by omega), W_ins_ne (p := rngP lo k) (b := k) (k := 2) (by omega), HV.out]; exact heap_setCell_self hA 3 _
          · exact (hB.setCell (p := ⟨w.heap.size + 2, 3, none⟩) (by show w.heap.size ≤ w.heap.size + 2; omega) _).drew
        case measure => simp [intOf]; omega
    · have hfe : rngP lo (hi + 1) = rngP lo k := by
        rcases hk2 with h | h
        · rw [show k = hi + 1 by omega]
        · subst h; rw [rngP_start, rngP_none (by omega)]
      have HF := hid hfe
      have hstr := block_free hR
      have hcr := block_cell hR
      have hfin := set4 hR (.int .u64 (W (rngP lo k) 0)) (.int .u64 (W (rngP lo k) 1)) (.int .u64 (W (rngP lo k) 2)) (.int .u64 (W (rngP lo k) 3))
      have hfb := below_set4 hB (Nat.le_add_right _ 1) (.int .u64 (W (rngP lo k) 0)) (.int .u64 (W (rngP lo k) 1)) (.int .u64 (W (rngP lo k) 2)) (.int .u64 (W (rngP lo k) 3))
      have hfc := block_cell hfin
      clear hfin hfe
      go_wp2
      rw [HF.out]
      exact bodyPost_ret (v := .agg #[.int .u64 (W (rngP lo k) 0), .int .u64 (W (rngP lo k) 1), .int .u64 (W (rngP lo k) 2), .int .u64 (W (rngP lo k) 3)]) (by simp [results, Try.results47, go_sem, hfc]) rfl ⟨rfl, hfb⟩
