/-
  harrowlaw01.CharsetBits returns true, for every two sets and every text; what lay in memory stays as it was.
-/
import Derived.Test.YtjbdamedofgdgaaOf
import Derived.Test.YtjbdamedofgdgaaMix
namespace Go.Proofs.Ytjbdamedofgdgaa
open Go.RowKit

theorem names_any (w : World) : Calls Try.prog 5 #[] w fun e w' => e = .returned (.bool true) ∧ Below w.heap.size w w' := by
  go_enter Try.func5, Try.ntmps5
  go_wp2
  go_ret
  exact ⟨rfl, Below.refl _ _⟩

set_option maxHeartbeats 8000000 in
set_option maxRecDepth 20000 in
theorem lawBits_any (p q : Nat → Bool) (s : ByteArray) (hs : s.size ≤ 140737488351232) (w : World) :
    Calls Try.prog 3 #[.agg #[.int .u64 (W p 0), .int .u64 (W p 1), .int .u64 (W p 2), .int .u64 (W p 3)], .agg #[.int .u64 (W q 0), .int .u64 (W q 1), .int .u64 (W q 2), .int .u64 (W q 3)], .string s] w fun e w' => e = .returned (.bool true) ∧ Below w.heap.size w w' := by
  have heq := eq_same
  go_enter Try.func3, Try.ntmps3
  go_wp2_with (first
    | (go_at_call 5; with_reducible refine Calls.mono (names_any _) ?_; rintro e w1 ⟨rfl, hb1⟩; have hA1 := below_heap hb1 (b := w.heap.size) (by simp; omega) (alloc_old (alloc_new _ _)); have hq1 := below_heap hb1 (b := w.heap.size + 1) (by simp) (by have h := alloc_new (w.alloc (.cells #[.int .u64 (W p 0), .int .u64 (W p 1), .int .u64 (W p 2), .int .u64 (W p 3)] 24)) (.cells #[.int .u64 (W q 0), .int .u64 (W q 1), .int .u64 (W q 2), .int .u64 (W q 3)] 24); simpa using h))
    | (go_at_call 6; with_reducible refine Calls.mono (of_any s hs _) ?_; rintro e w2 ⟨rfl, hb2⟩)
    | (go_at_call 7; with_reducible refine Calls.mono (rof_any s hs _) ?_; rintro e w3 ⟨rfl, hb3⟩))
  have hB0 := (((Below.refl w.heap.size w).alloc (Nat.le_refl _) (.cells #[.int .u64 (W p 0), .int .u64 (W p 1), .int .u64 (W p 2), .int .u64 (W p 3)] 24)).alloc (by simp) (.cells #[.int .u64 (W q 0), .int .u64 (W q 1), .int .u64 (W q 2), .int .u64 (W q 3)] 24))
  have hB3 := (((hB0.trans (hb1.mono (by simp; omega))).trans (hb2.mono (Nat.le_trans (by simp; omega) hb1.size))).trans (hb3.mono (Nat.le_trans (Nat.le_trans (by simp; omega) hb1.size) hb2.size)))
  have hA3 := below_heap hb3 (block_lt (below_heap hb2 (block_lt hA1) hA1)) (below_heap hb2 (block_lt hA1) hA1)
  have hq3 := below_heap hb3 (block_lt (below_heap hb2 (block_lt hq1) hq1)) (below_heap hb2 (block_lt hq1) hq1)
  clear hb1 hb2 hb3 hA1 hq1 hB0
  go_loopw [7] (fun i wr => ∃ z : Int, -2 ≤ z ∧ z ≤ 260 ∧ i = .int .i64 z ∧ wr.heap[w.heap.size]? = some (.cells #[.int .u64 (W p 0), .int .u64 (W p 1), .int .u64 (W p 2), .int .u64 (W p 3)] 24) ∧ wr.heap[w.heap.size + 1]? = some (.cells #[.int .u64 (W q 0), .int .u64 (W q 1), .int .u64 (W q 2), .int .u64 (W q 3)] 24) ∧ Below w.heap.size w wr) (fun i _ => (260 - intOf i).toNat)
  case atStart => exact ⟨-2, by omega, by omega, rfl, hA3, hq3, hB3⟩
  case round =>
    clear hA3 hq3 hB3
    obtain ⟨z, hz0, hz1, rfl, hA, hQ, hB⟩ := hrel
    have hszA := block_lt hA
    have hszQ := block_lt hQ
    have hlA := grow_cell hA (B := wr.heap.size) hszA
    have hlQ := grow_cell hQ (B := wr.heap.size) hszQ
    by_cases hlt : z < 260
    · go_wp2
      refine wp_region_grow wr.heap.size (by kernel_rfl) (by kernel_rfl) ?_
      repeat (go_big_quiet_step (first | (go_at_call 8; with_reducible refine Calls.grow_of (Nat.le_refl _) (has_any p _ _); done) | (go_at_call 9; with_reducible refine Calls.grow_of (Nat.le_refl _) (rhas_any p _ _); done)))
      refine wpQuiet_nil ?_
      rintro _ ⟨g, rfl⟩
      have hA' := grow_heap hA hszA g
      have hQ' := grow_heap hQ hszQ g
      have hb := hB.trans (g.below.mono hB.size)
      clear hlA hlQ
      generalize g.val = w1 at *
      go_wp2
      go_roundw
      case rel => exact ⟨z + 1, by omega, by omega, rfl, hA', hQ', hb⟩
      case measure => simp [intOf]; omega
    · go_wp2
      refine wp_region_grow wr.heap.size (by kernel_rfl) (by kernel_rfl) ?_
      repeat (go_big_quiet_step (first | (go_at_call 10; with_reducible refine Calls.grow_of (Nat.le_refl _) (union_any p q _); done) | (go_at_call 11; with_reducible refine Calls.grow_of (Nat.le_refl _) (runion_any p q _); done) | (go_at_call 12; with_reducible refine Calls.grow_of (Nat.le_refl _) (meet_any p q _); done) | (go_at_call 13; with_reducible refine Calls.grow_of (Nat.le_refl _) (rmeet_any p q _); done) | (go_at_call 14; with_reducible refine Calls.grow_of (Nat.le_refl _) (less_any p q _); done) | (go_at_call 15; with_reducible refine Calls.grow_of (Nat.le_refl _) (rless_any p q _); done) | (go_at_call 16; with_reducible refine Calls.grow_of (Nat.le_refl _) (not_any p _); done) | (go_at_call 17; with_reducible refine Calls.grow_of (Nat.le_refl _) (rnot_any p _); done)))
      refine wpQuiet_nil ?_
      rintro _ ⟨g, rfl⟩
      have hb := hB.trans (g.below.mono hB.size)
      clear hlA hlQ
      generalize g.val = w1 at *
      go_wp2
      go_ret
      exact ⟨rfl, hb⟩

end Go.Proofs.Ytjbdamedofgdgaa
