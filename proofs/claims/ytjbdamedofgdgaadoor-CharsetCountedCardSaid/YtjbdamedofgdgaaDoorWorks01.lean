/-
  harrowlaw01.works returns true; what lay in memory stays as it was.
-/
import Derived.Test.YtjbdamedofgdgaaDoorShow
import Derived.Test.YtjbdamedofgdgaaDoorReader5
import Derived.Test.YtjbdamedofgdgaaDoorSpan
namespace Go.Proofs.YtjbdamedofgdgaaDoor
open Go.RowKit
set_option linter.unusedVariables false
set_option linter.unusedSimpArgs false
/-- The set of the works' text. -/
def wkP : Nat → Bool := neg (uni emp (rngP 97 123))
theorem wk_parse : parseR ⟨#[91, 94, 97, 45, 122, 93]⟩ = .ok wkP := by rfl
theorem wk_cnt : cnt wkP 256 = 230 := by decide +kernel
theorem wk_cnt3 : cnt (rngP 97 100) 256 = 3 := by decide +kernel
theorem wk_show : showS (rngP 97 100) = [91, 97, 45, 99, 93] := by decide +kernel

set_option maxHeartbeats 8000000 in
set_option maxRecDepth 100000 in
theorem works_any (w : World) (hT : TabOk w) :
    Calls Tryd.prog 26 #[] w fun e w' => e = .returned (.bool true) ∧ Below w.heap.size w w' := by
  have hf : ∀ w, (binOp .eql 55 (.agg #[.int .i64 0, .int .i64 0]) (.agg #[.int .i64 0, .int .i64 0])).run Tryd.prog w = .ok (.bool true) w := fun w => by kernel_rfl
  have HP := hid (fun w => parse_any ⟨#[91, 94, 97, 45, 122, 93]⟩ (by decide) w)
  have hw0 := hT.1
  have HT := hid hT
  have HR := hid (fun w => range_ok 97 99 (by decide) (by decide) w)
  simp only [Nat.reduceAdd] at HR
  have HC1 := hid (fun w => count_any (rngP 97 100) w)
  have HC2 := hid (fun w => count_any wkP w)
  rw [wk_cnt3] at HC1
  rw [wk_cnt] at HC2
  have HS := hid (fun w h => show_any (rngP 97 100) w h)
  rw [wk_show] at HS
  clear hT
  go_enter Tryd.func26, Tryd.ntmps26
  go_wp2_with (fail)
  refine (HR.out _).mono ?_
  rintro e w1 ⟨rfl, hb1⟩
  have hs1 := hb1.size
  have x1 := alloc_new w1 (.cells #[.int .u64 (W (rngP 97 100) 0), .int .u64 (W (rngP 97 100) 1), .int .u64 (W (rngP 97 100) 2), .int .u64 (W (rngP 97 100) 3)] 24)
  have hB1 := hb1.alloc hs1 (.cells #[.int .u64 (W (rngP 97 100) 0), .int .u64 (W (rngP 97 100) 1), .int .u64 (W (rngP 97 100) 2), .int .u64 (W (rngP 97 100) 3)] 24)
  go_wp2_with (fail)
  refine (HP.out _).mono ?_
  rintro e w2 ⟨hb2, hpost⟩
  rw [wk_parse] at hpost
  simp only at hpost
  subst hpost
  have x2 := keep hb2 x1
  have hB2 := hB1.trans (hb2.mono hB1.size)
  have hs2 := hB2.size
  have y3 := alloc_old (y := .cells #[.int .i64 0, .int .i64 0] 55) (alloc_new w2 (.cells #[.int .u64 (W wkP 0), .int .u64 (W wkP 1), .int .u64 (W wkP 2), .int .u64 (W wkP 3)] 24))
  have x3 := alloc_old (y := .cells #[.int .i64 0, .int .i64 0] 55) (alloc_old (y := .cells #[.int .u64 (W wkP 0), .int .u64 (W wkP 1), .int .u64 (W wkP 2), .int .u64 (W wkP 3)] 24) x2)
  have z3 : ((w2.alloc (.cells #[.int .u64 (W wkP 0), .int .u64 (W wkP 1), .int .u64 (W wkP 2), .int .u64 (W wkP 3)] 24)).alloc (.cells #[.int .i64 0, .int .i64 0] 55)).heap[w2.heap.size + 1]? = _ := alloc_new_at _ (by simp)
  have hB3 := (hB2.alloc hs2 (.cells #[.int .u64 (W wkP 0), .int .u64 (W wkP 1), .int .u64 (W wkP 2), .int .u64 (W wkP 3)] 24)).alloc (by simp; omega) (.cells #[.int .i64 0, .int .i64 0] 55)
  have hcx2 := block_cell x2
  have hcx3 := block_cell x3
  go_wp2_with (fail)
  refine (HC1.out _).mono ?_
  rintro e w4 ⟨rfl, hb4⟩
  have x4 := keep hb4 x3
  have y4 := keep hb4 y3
  have z4 := keep hb4 z3
  have hB4 := hB3.trans (hb4.mono hB3.size)
  have hcx4 := block_cell x4
  have hcy4 := block_cell y4
  have hcz4 := block_cell z4
  go_wp2_with (fail)
  refine (HC2.out _).mono ?_
  rintro e w5 ⟨rfl, hb5⟩
  have x5 := keep hb5 x4
  have y5 := keep hb5 y4
  have z5 := keep hb5 z4
  have hB5 := hB4.trans (hb5.mono hB4.size)
  have hcx5 := block_cell x5
  have hcy5 := block_cell y5
  have hcz5 := block_cell z5
  go_wp2_with (fail)
  refine (HS.out _ (HT.out.below hB5 hw0)).mono ?_
  rintro e w6 ⟨rfl, hb6⟩
  go_wp2_with (fail)
  go_ret
  exact ⟨rfl, hB5.trans (hb6.mono hB5.size)⟩

end Go.Proofs.YtjbdamedofgdgaaDoor
