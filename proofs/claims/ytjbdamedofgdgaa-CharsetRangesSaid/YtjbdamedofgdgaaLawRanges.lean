/-
  harrowlaw01.CharsetRanges returns true, for every three numbers; what lay in memory stays as it was.
-/
import Derived.Test.YtjbdamedofgdgaaClassR
namespace Go.Proofs.Ytjbdamedofgdgaa
open Go.RowKit
set_option linter.unusedVariables false
set_option linter.unusedSimpArgs false

set_option maxHeartbeats 8000000 in
set_option maxRecDepth 20000 in
theorem lawRanges_core (p : Nat → Bool) (e : Int) (lo hi b : Int) (w : World)
    (hx : ∀ w : World, Calls Try.prog 18 #[.int .i64 lo, .int .i64 hi] w fun e' w' => e' = .returned (.tuple #[.agg #[.int .u64 (W p 0), .int .u64 (W p 1), .int .u64 (W p 2), .int .u64 (W p 3)], .int .i64 e]) ∧ Below w.heap.size w w')
    (hy : ∀ w : World, Calls Try.prog 19 #[.int .i64 lo, .int .i64 hi] w fun e' w' => e' = .returned (.tuple #[.agg #[.int .u64 (W p 0), .int .u64 (W p 1), .int .u64 (W p 2), .int .u64 (W p 3)], .int .i64 e]) ∧ Below w.heap.size w w') :
    Calls Try.prog 4 #[.int .i64 lo, .int .i64 hi, .int .i64 b] w fun e w' => e = .returned (.bool true) ∧ Below w.heap.size w w' := by
  obtain ⟨c, hc, hw⟩ : ∃ c : Nat, c < 256 ∧ IntKind.u8.wrap b = (c : Int) := ⟨(b % 256).toNat, by omega, by rw [IntKind.wrap_u8]; omega⟩
  have hc0 : (0 : Int) ≤ (c : Int) := by omega
  have hc1 : (c : Int) < 256 := by omega
  have heq := eq_same
  have HX := hid hx
  have HY := hid hy
  clear hx hy
  have HC := hid hc
  clear hc
  generalize hq : classP c = q
  generalize hf : classE c = f
  have C1 := hid (class_any c HC.out)
  have C2 := hid (rclass_any c)
  rw [hq, hf] at C1 C2
  clear hq hf
  go_enter Try.func4, Try.ntmps4
  go_wp2_with (first | (go_at_call 18; with_reducible refine Calls.mono (HX.out _) ?_; rintro e w1 ⟨rfl, hb1⟩; have x1 := alloc_new w1 (.cells #[.int .u64 (W p 0), .int .u64 (W p 1), .int .u64 (W p 2), .int .u64 (W p 3)] 24)) | (go_at_call 19; with_reducible refine Calls.mono (HY.out _) ?_; rintro e w2 ⟨rfl, hb2⟩; have x2 := alloc_old (y := .cells #[.int .u64 (W p 0), .int .u64 (W p 1), .int .u64 (W p 2), .int .u64 (W p 3)] 24) (below_heap hb2 (block_lt x1) x1); have y2 := alloc_new w2 (.cells #[.int .u64 (W p 0), .int .u64 (W p 1), .int .u64 (W p 2), .int .u64 (W p 3)] 24)) | (go_at_call 20; with_reducible refine Calls.mono (C1.out _) ?_; rintro e w3 ⟨rfl, hb3⟩; have x3 := alloc_old (y := .cells #[.int .u64 (W q 0), .int .u64 (W q 1), .int .u64 (W q 2), .int .u64 (W q 3)] 24) (below_heap hb3 (block_lt x2) x2); have y3 := alloc_old (y := .cells #[.int .u64 (W q 0), .int .u64 (W q 1), .int .u64 (W q 2), .int .u64 (W q 3)] 24) (below_heap hb3 (block_lt y2) y2); have c3 := alloc_new w3 (.cells #[.int .u64 (W q 0), .int .u64 (W q 1), .int .u64 (W q 2), .int .u64 (W q 3)] 24)) | (go_at_call 21; with_reducible refine Calls.mono (C2.out _) ?_; rintro e w4 ⟨rfl, hb4⟩; have x4 := alloc_old (y := .cells #[.int .u64 (W q 0), .int .u64 (W q 1), .int .u64 (W q 2), .int .u64 (W q 3)] 24) (below_heap hb4 (block_lt x3) x3); have y4 := alloc_old (y := .cells #[.int .u64 (W q 0), .int .u64 (W q 1), .int .u64 (W q 2), .int .u64 (W q 3)] 24) (below_heap hb4 (block_lt y3) y3); have c4 := alloc_old (y := .cells #[.int .u64 (W q 0), .int .u64 (W q 1), .int .u64 (W q 2), .int .u64 (W q 3)] 24) (below_heap hb4 (block_lt c3) c3); have d4 := alloc_new w4 (.cells #[.int .u64 (W q 0), .int .u64 (W q 1), .int .u64 (W q 2), .int .u64 (W q 3)] 24)))
  have b1 := (hb1).alloc hb1.size (.cells #[.int .u64 (W p 0), .int .u64 (W p 1), .int .u64 (W p 2), .int .u64 (W p 3)] 24)
  have b2 := b1.trans (hb2.mono b1.size)
  have b2' := b2.alloc b2.size (.cells #[.int .u64 (W p 0), .int .u64 (W p 1), .int .u64 (W p 2), .int .u64 (W p 3)] 24)
  have b3 := b2'.trans (hb3.mono b2'.size)
  have b3' := b3.alloc b3.size (.cells #[.int .u64 (W q 0), .int .u64 (W q 1), .int .u64 (W q 2), .int .u64 (W q 3)] 24)
  have b4 := b3'.trans (hb4.mono b3'.size)
  have b4' := b4.alloc b4.size (.cells #[.int .u64 (W q 0), .int .u64 (W q 1), .int .u64 (W q 2), .int .u64 (W q 3)] 24)
  clear x1 x2 x3 y2 y3 c3 b1 b2 b2' b3 b3' b4 hb1 hb2 hb3 hb4
  generalize w4.alloc (.cells #[.int .u64 (W q 0), .int .u64 (W q 1), .int .u64 (W q 2), .int .u64 (W q 3)] 24) = w5 at *
  have lx := grow_cell x4 (block_lt x4)
  have ly := grow_cell y4 (block_lt y4)
  have lc := grow_cell c4 (block_lt c4)
  have ld := grow_cell d4 (block_lt d4)
  refine wp_region_grow w5.heap.size (by kernel_rfl) (by kernel_rfl) ?_
  repeat (go_big_quiet_step (first | (go_at_call 8; with_reducible refine Calls.grow_of (Nat.le_refl _) (has_any p _ _); done) | (go_at_call 9; with_reducible refine Calls.grow_of (Nat.le_refl _) (rhas_any p _ _); done)))
  refine wpQuiet_nil ?_
  rintro _ ⟨g, rfl⟩
  have hb := b4'.trans (g.below.mono b4'.size)
  clear lx ly lc ld
  generalize g.val = w6 at *
  go_wp2
  go_ret
  exact ⟨rfl, hb⟩
theorem lawRanges_any (lo hi b : Int) (w : World) :
    Calls Try.prog 4 #[.int .i64 lo, .int .i64 hi, .int .i64 b] w fun e w' => e = .returned (.bool true) ∧ Below w.heap.size w w' := by
  by_cases h : 0 ≤ lo ∧ lo ≤ hi ∧ hi ≤ 255
  · obtain ⟨m, rfl⟩ := Int.eq_ofNat_of_zero_le h.1
    obtain ⟨n, rfl⟩ := Int.eq_ofNat_of_zero_le (Int.le_trans h.1 h.2.1)
    exact lawRanges_core _ _ _ _ b w (range_ok m n (by omega) (by omega)) (rrange_ok m n (by omega) (by omega))
  · refine lawRanges_core emp 1 lo hi b w ?_ ?_
    · rw [W_emp, W_emp, W_emp, W_emp]; exact range_bad lo hi h
    · rw [W_emp, W_emp, W_emp, W_emp]; exact rrange_bad lo hi h

end Go.Proofs.Ytjbdamedofgdgaa
