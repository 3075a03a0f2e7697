/-
  The machine's table: what it holds.
-/
import Derived.Test.YthjlpcecfkboiabDoorProg
import Derived.Test.YthjlpcecfkboiabDoorGrow
import Derived.Test.YthjlpcecfkboiabDoorRunner2
import Derived.WalkKit
import Derived.BigQuiet
import Derived.BigRegion
import Derived.Deep.RegionHeld3
import Derived.Laws.EntriesVeiled
import Derived.Laws.MakeOwn
namespace Go.Proofs.YthjlpcecfkboiabDoor
open Go.RowKit
set_option linter.unusedVariables false
set_option linter.unusedSimpArgs false
theorem list21 {l : List Value} (h : l.length = 21) : ∃ x0 x1 x2 x3 x4 x5 x6 x7 x8 x9 x10 x11 x12 x13 x14 x15 x16 x17 x18 x19 x20, l = [x0, x1, x2, x3, x4, x5, x6, x7, x8, x9, x10, x11, x12, x13, x14, x15, x16, x17, x18, x19, x20] := by
  match l, h with
  | [x0, x1, x2, x3, x4, x5, x6, x7, x8, x9, x10, x11, x12, x13, x14, x15, x16, x17, x18, x19, x20], _ => exact ⟨_, _, _, _, _, _, _, _, _, _, _, _, _, _, _, _, _, _, _, _, _, rfl⟩
set_option maxHeartbeats 8000000 in
set_option maxRecDepth 20000 in
theorem captures_any (b c : Nat) (x0 x1 x2 x3 x4 x5 x6 x7 x8 x9 x10 x11 x12 x13 x14 x15 x16 x17 x18 x19 x20 : Value) (w : World) (h : w.heap[b]? = some (.cells #[x0, x1, x2, x3, x4, x5, x6, x7, x8, x9, x10, x11, x12, x13, x14, x15, x16, x17, x18, x19, x20] 77)) :
    Calls Tryd.prog 44 #[.slice (some ⟨b, 0, none⟩) 21 c] w fun e w' => e = .returned (.tuple #[]) ∧ (∀ B, B ≤ b → Below B w w') ∧ w'.heap[b]? = some (.cells #[x0, x1, x2, x3, x4, x5, x6, x7, x8, x9, x10, x11, x12, x13, x14, x15, x16, x17, .func (.func 64) #[] #[], .func (.func 66) #[] #[], .func (.func 67) #[] #[]] 77) := by
  have hf := block_free h
  have c18 : (w).cell? ⟨b, 18, none⟩ = some x18 := block_cell h 18
  have f18 : (w).frozen? ⟨b, 18, none⟩ = false := block_free h 18
  have h18 : ((w).setCell ⟨b, 18, none⟩ (.func (.func 64) #[] #[])).heap[b]? = some (.cells #[x0, x1, x2, x3, x4, x5, x6, x7, x8, x9, x10, x11, x12, x13, x14, x15, x16, x17, .func (.func 64) #[] #[], x19, x20] 77) := heap_setCell_self h 18 (.func (.func 64) #[] #[])
  have c19 : ((w).setCell ⟨b, 18, none⟩ (.func (.func 64) #[] #[])).cell? ⟨b, 19, none⟩ = some x19 := block_cell h18 19
  have f19 : ((w).setCell ⟨b, 18, none⟩ (.func (.func 64) #[] #[])).frozen? ⟨b, 19, none⟩ = false := block_free h18 19
  have h19 : (((w).setCell ⟨b, 18, none⟩ (.func (.func 64) #[] #[])).setCell ⟨b, 19, none⟩ (.func (.func 66) #[] #[])).heap[b]? = some (.cells #[x0, x1, x2, x3, x4, x5, x6, x7, x8, x9, x10, x11, x12, x13, x14, x15, x16, x17, .func (.func 64) #[] #[], .func (.func 66) #[] #[], x20] 77) := heap_setCell_self h18 19 (.func (.func 66) #[] #[])
  have c20 : (((w).setCell ⟨b, 18, none⟩ (.func (.func 64) #[] #[])).setCell ⟨b, 19, none⟩ (.func (.func 66) #[] #[])).cell? ⟨b, 20, none⟩ = some x20 := block_cell h19 20
  have f20 : (((w).setCell ⟨b, 18, none⟩ (.func (.func 64) #[] #[])).setCell ⟨b, 19, none⟩ (.func (.func 66) #[] #[])).frozen? ⟨b, 20, none⟩ = false := block_free h19 20
  have h20 : ((((w).setCell ⟨b, 18, none⟩ (.func (.func 64) #[] #[])).setCell ⟨b, 19, none⟩ (.func (.func 66) #[] #[])).setCell ⟨b, 20, none⟩ (.func (.func 67) #[] #[])).heap[b]? = some (.cells #[x0, x1, x2, x3, x4, x5, x6, x7, x8, x9, x10, x11, x12, x13, x14, x15, x16, x17, .func (.func 64) #[] #[], .func (.func 66) #[] #[], .func (.func 67) #[] #[]] 77) := heap_setCell_self h19 20 (.func (.func 67) #[] #[])
  clear hf
  go_enter Tryd.func44, Tryd.ntmps44
  go_wp2_with (fail)
  go_end0
  exact ⟨rfl, fun B hB => ((((Below.refl B w).setCell (p := ⟨b, 18, none⟩) hB (.func (.func 64) #[] #[])).setCell (p := ⟨b, 19, none⟩) hB (.func (.func 66) #[] #[])).setCell (p := ⟨b, 20, none⟩) hB (.func (.func 67) #[] #[])), h20⟩
set_option maxHeartbeats 8000000 in
set_option maxRecDepth 20000 in
theorem choices_any (b c : Nat) (x0 x1 x2 x3 x4 x5 x6 x7 x8 x9 x10 x11 x12 x13 x14 x15 x16 x17 x18 x19 x20 : Value) (w : World) (h : w.heap[b]? = some (.cells #[x0, x1, x2, x3, x4, x5, x6, x7, x8, x9, x10, x11, x12, x13, x14, x15, x16, x17, x18, x19, x20] 77)) :
    Calls Tryd.prog 43 #[.slice (some ⟨b, 0, none⟩) 21 c] w fun e w' => e = .returned (.tuple #[]) ∧ (∀ B, B ≤ b → Below B w w') ∧ w'.heap[b]? = some (.cells #[x0, x1, x2, x3, x4, x5, x6, x7, .func (.func 52) #[] #[], .func (.func 54) #[] #[], .func (.func 56) #[] #[], .func (.func 57) #[] #[], .func (.func 58) #[] #[], .func (.func 59) #[] #[], .func (.func 60) #[] #[], .func (.func 61) #[] #[], .func (.func 62) #[] #[], .func (.func 63) #[] #[], x18, x19, x20] 77) := by
  have hf := block_free h
  have c8 : (w).cell? ⟨b, 8, none⟩ = some x8 := block_cell h 8
  have f8 : (w).frozen? ⟨b, 8, none⟩ = false := block_free h 8
  have h8 : ((w).setCell ⟨b, 8, none⟩ (.func (.func 52) #[] #[])).heap[b]? = some (.cells #[x0, x1, x2, x3, x4, x5, x6, x7, .func (.func 52) #[] #[], x9, x10, x11, x12, x13, x14, x15, x16, x17, x18, x19, x20] 77) := heap_setCell_self h 8 (.func (.func 52) #[] #[])
  have c9 : ((w).setCell ⟨b, 8, none⟩ (.func (.func 52) #[] #[])).cell? ⟨b, 9, none⟩ = some x9 := block_cell h8 9
  have f9 : ((w).setCell ⟨b, 8, none⟩ (.func (.func 52) #[] #[])).frozen? ⟨b, 9, none⟩ = false := block_free h8 9
  have h9 : (((w).setCell ⟨b, 8, none⟩ (.func (.func 52) #[] #[])).setCell ⟨b, 9, none⟩ (.func (.func 54) #[] #[])).heap[b]? = some (.cells #[x0, x1, x2, x3, x4, x5, x6, x7, .func (.func 52) #[] #[], .func (.func 54) #[] #[], x10, x11, x12, x13, x14, x15, x16, x17, x18, x19, x20] 77) := heap_setCell_self h8 9 (.func (.func 54) #[] #[])
  have c10 : (((w).setCell ⟨b, 8, none⟩ (.func (.func 52) #[] #[])).setCell ⟨b, 9, none⟩ (.func (.func 54) #[] #[])).cell? ⟨b, 10, none⟩ = some x10 := block_cell h9 10
  have f10 : (((w).setCell ⟨b, 8, none⟩ (.func (.func 52) #[] #[])).setCell ⟨b, 9, none⟩ (.func (.func 54) #[] #[])).frozen? ⟨b, 10, none⟩ = false := block_free h9 10
  have h10 : ((((w).setCell ⟨b, 8, none⟩ (.func (.func 52) #[] #[])).setCell ⟨b, 9, none⟩ (.func (.func 54) #[] #[])).setCell ⟨b, 10, none⟩ (.func (.func 56) #[] #[])).heap[b]? = some (.cells #[x0, x1, x2, x3, x4, x5, x6, x7, .func (.func 52) #[] #[], .func (.func 54) #[] #[], .func (.func 56) #[] #[], x11, x12, x13, x14, x15, x16, x17, x18, x19, x20] 77) := heap_setCell_self h9 10 (.func (.func 56) #[] #[])
  have c11 : ((((w).setCell ⟨b, 8, none⟩ (.func (.func 52) #[] #[])).setCell ⟨b, 9, none⟩ (.func (.func 54) #[] #[])).setCell ⟨b, 10, none⟩ (.func (.func 56) #[] #[])).cell? ⟨b, 11, none⟩ = some x11 := block_cell h10 11
  have f11 : ((((w).setCell ⟨b, 8, none⟩ (.func (.func 52) #[] #[])).setCell ⟨b, 9, none⟩ (.func (.func 54) #[] #[])).setCell ⟨b, 10, none⟩ (.func (.func 56) #[] #[])).frozen? ⟨b, 11, none⟩ = false := block_free h10 11
  have h11 : (((((w).setCell ⟨b, 8, none⟩ (.func (.func 52) #[] #[])).setCell ⟨b, 9, none⟩ (.func (.func 54) #[] #[])).setCell ⟨b, 10, none⟩ (.func (.func 56) #[] #[])).setCell ⟨b, 11, none⟩ (.func (.func 57) #[] #[])).heap[b]? = some (.cells #[x0, x1, x2, x3, x4, x5, x6, x7, .func (.func 52) #[] #[], .func (.func 54) #[] #[], .func (.func 56) #[] #[], .func (.func 57) #[] #[], x12, x13, x14, x15, x16, x17, x18, x19, x20] 77) := heap_setCell_self h10 11 (.func (.func 57) #[] #[])
  have c12 : (((((w).setCell ⟨b, 8, none⟩ (.func (.func 52) #[] #[])).setCell ⟨b, 9, none⟩ (.func (.func 54) #[] #[])).setCell ⟨b, 10, none⟩ (.func (.func 56) #[] #[])).setCell ⟨b, 11, none⟩ (.func (.func 57) #[] #[])).cell? ⟨b, 12, none⟩ = some x12 := block_cell h11 12
  have f12 : (((((w).setCell ⟨b, 8, none⟩ (.func (.func 52) #[] #[])).setCell ⟨b, 9, none⟩ (.func (.func 54) #[] #[])).setCell ⟨b, 10, none⟩ (.func (.func 56) #[] #[])).setCell ⟨b, 11, none⟩ (.func (.func 57) #[] #[])).frozen? ⟨b, 12, none⟩ = false := block_free h11 12
  have h12 : ((((((w).setCell ⟨b, 8, none⟩ (.func (.func 52) #[] #[])).setCell ⟨b, 9, none⟩ (.func (.func 54) #[] #[])).setCell ⟨b, 10, none⟩ (.func (.func 56) #[] #[])).setCell ⟨b, 11, none⟩ (.func (.func 57) #[] #[])).setCell ⟨b, 12, none⟩ (.func (.func 58) #[] #[])).heap[b]? = some (.cells #[x0, x1, x2, x3, x4, x5, x6, x7, .func (.func 52) #[] #[], .func (.func 54) #[] #[], .func (.func 56) #[] #[], .func (.func 57) #[] #[], .func (.func 58) #[] #[], x13, x14, x15, x16, x17, x18, x19, x20] 77) := heap_setCell_self h11 12 (.func (.func 58) #[] #[])
  have c13 : ((((((w).setCell ⟨b, 8, none⟩ (.func (.func 52) #[] #[])).setCell ⟨b, 9, none⟩ (.func (.func 54) #[] #[])).setCell ⟨b, 10, none⟩ (.func (.func 56) #[] #[])).setCell ⟨b, 11, none⟩ (.func (.func 57) #[] #[])).setCell ⟨b, 12, none⟩ (.func (.func 58) #[] #[])).cell? ⟨b, 13, none⟩ = some x13 := block_cell h12 13
  have f13 : ((((((w).setCell ⟨b, 8, none⟩ (.func (.func 52) #[] #[])).setCell ⟨b, 9, none⟩ (.func (.func 54) #[] #[])).setCell ⟨b, 10, none⟩ (.func (.func 56) #[] #[])).setCell ⟨b, 11, none⟩ (.func (.func 57) #[] #[])).setCell ⟨b, 12, none⟩ (.func (.func 58) #[] #[])).frozen? ⟨b, 13, none⟩ = false := block_free h12 13
  have h13 : (((((((w).setCell ⟨b, 8, none⟩ (.func (.func 52) #[] #[])).setCell ⟨b, 9, none⟩ (.func (.func 54) #[] #[])).setCell ⟨b, 10, none⟩ (.func (.func 56) #[] #[])).setCell ⟨b, 11, none⟩ (.func (.func 57) #[] #[])).setCell ⟨b, 12, none⟩ (.func (.func 58) #[] #[])).setCell ⟨b, 13, none⟩ (.func (.func 59) #[] #[])).heap[b]? = some (.cells #[x0, x1, x2, x3, x4, x5, x6, x7, .func (.func 52) #[] #[], .func (.func 54) #[] #[], .func (.func 56) #[] #[], .func (.func 57) #[] #[], .func (.func 58) #[] #[], .func (.func 59) #[] #[], x14, x15, x16, x17, x18, x19, x20] 77) := heap_setCell_self h12 13 (.func (.func 59) #[] #[])
  have c14 : (((((((w).setCell ⟨b, 8, none⟩ (.func (.func 52) #[] #[])).setCell ⟨b, 9, none⟩ (.func (.func 54) #[] #[])).setCell ⟨b, 10, none⟩ (.func (.func 56) #[] #[])).setCell ⟨b, 11, none⟩ (.func (.func 57) #[] #[])).setCell ⟨b, 12, none⟩ (.func (.func 58) #[] #[])).setCell ⟨b, 13, none⟩ (.func (.func 59) #[] #[])).cell? ⟨b, 14, none⟩ = some x14 := block_cell h13 14
  have f14 : (((((((w).setCell ⟨b, 8, none⟩ (.func (.func 52) #[] #[])).setCell ⟨b, 9, none⟩ (.func (.func 54) #[] #[])).setCell ⟨b, 10, none⟩ (.func (.func 56) #[] #[])).setCell ⟨b, 11, none⟩ (.func (.func 57) #[] #[])).setCell ⟨b, 12, none⟩ (.func (.func 58) #[] #[])).setCell ⟨b, 13, none⟩ (.func (.func 59) #[] #[])).frozen? ⟨b, 14, none⟩ = false := block_free h13 14
  have h14 : ((((((((w).setCell ⟨b, 8, none⟩ (.func (.func 52) #[] #[])).setCell ⟨b, 9, none⟩ (.func (.func 54) #[] #[])).setCell ⟨b, 10, none⟩ (.func (.func 56) #[] #[])).setCell ⟨b, 11, none⟩ (.func (.func 57) #[] #[])).setCell ⟨b, 12, none⟩ (.func (.func 58) #[] #[])).setCell ⟨b, 13, none⟩ (.func (.func 59) #[] #[])).setCell ⟨b, 14, none⟩ (.func (.func 60) #[] #[])).heap[b]? = some (.cells #[x0, x1, x2, x3, x4, x5, x6, x7, .func (.func 52) #[] #[], .func (.func 54) #[] #[], .func (.func 56) #[] #[], .func (.func 57) #[] #[], .func (.func 58) #[] #[], .func (.func 59) #[] #[], .func (.func 60) #[] #[], x15, x16, x17, x18, x19, x20] 77) := heap_setCell_self h13 14 (.func (.func 60) #[] #[])
  have c15 : ((((((((w).setCell ⟨b, 8, none⟩ (.func (.func 52) #[] #[])).setCell ⟨b, 9, none⟩ (.func (.func 54) #[] #[])).setCell ⟨b, 10, none⟩ (.func (.func 56) #[] #[])).setCell ⟨b, 11, none⟩ (.func (.func 57) #[] #[])).setCell ⟨b, 12, none⟩ (.func (.func 58) #[] #[])).setCell ⟨b, 13, none⟩ (.func (.func 59) #[] #[])).setCell ⟨b, 14, none⟩ (.func (.func 60) #[] #[])).cell? ⟨b, 15, none⟩ = some x15 := block_cell h14 15
  have f15 : ((((((((w).setCell ⟨b, 8, none⟩ (.func (.func 52) #[] #[])).setCell ⟨b, 9, none⟩ (.func (.func 54) #[] #[])).setCell ⟨b, 10, none⟩ (.func (.func 56) #[] #[])).setCell ⟨b, 11, none⟩ (.func (.func 57) #[] #[])).setCell ⟨b, 12, none⟩ (.func (.func 58) #[] #[])).setCell ⟨b, 13, none⟩ (.func (.func 59) #[] #[])).setCell ⟨b, 14, none⟩ (.func (.func 60) #[] #[])).frozen? ⟨b, 15, none⟩ = false := block_free h14 15
  have h15 : (((((((((w).setCell ⟨b, 8, none⟩ (.func (.func 52) #[] #[])).setCell ⟨b, 9, none⟩ (.func (.func 54) #[] #[])).setCell ⟨b, 10, none⟩ (.func (.func 56) #[] #[])).setCell ⟨b, 11, none⟩ (.func (.func 57) #[] #[])).setCell ⟨b, 12, none⟩ (.func (.func 58) #[] #[])).setCell ⟨b, 13, none⟩ (.func (.func 59) #[] #[])).setCell ⟨b, 14, none⟩ (.func (.func 60) #[] #[])).setCell ⟨b, 15, none⟩ (.func (.func 61) #[] #[])).heap[b]? = some (.cells #[x0, x1, x2, x3, x4, x5, x6, x7, .func (.func 52) #[] #[], .func (.func 54) #[] #[], .func (.func 56) #[] #[], .func (.func 57) #[] #[], .func (.func 58) #[] #[], .func (.func 59) #[] #[], .func (.func 60) #[] #[], .func (.func 61) #[] #[], x16, x17, x18, x19, x20] 77) := heap_setCell_self h14 15 (.func (.func 61) #[] #[])
  have c16 : (((((((((w).setCell ⟨b, 8, none⟩ (.func (.func 52) #[] #[])).setCell ⟨b, 9, none⟩ (.func (.func 54) #[] #[])).setCell ⟨b, 10, none⟩ (.func (.func 56) #[] #[])).setCell ⟨b, 11, none⟩ (.func (.func 57) #[] #[])).setCell ⟨b, 12, none⟩ (.func (.func 58) #[] #[])).setCell ⟨b, 13, none⟩ (.func (.func 59) #[] #[])).setCell ⟨b, 14, none⟩ (.func (.func 60) #[] #[])).setCell ⟨b, 15, none⟩ (.func (.func 61) #[] #[])).cell? ⟨b, 16, none⟩ = some x16 := block_cell h15 16
  have f16 : (((((((((w).setCell ⟨b, 8, none⟩ (.func (.func 52) #[] #[])).setCell ⟨b, 9, none⟩ (.func (.func 54) #[] #[])).setCell ⟨b, 10, none⟩ (.func (.func 56) #[] #[])).setCell ⟨b, 11, none⟩ (.func (.func 57) #[] #[])).setCell ⟨b, 12, none⟩ (.func (.func 58) #[] #[])).setCell ⟨b, 13, none⟩ (.func (.func 59) #[] #[])).setCell ⟨b, 14, none⟩ (.func (.func 60) #[] #[])).setCell ⟨b, 15, none⟩ (.func (.func 61) #[] #[])).frozen? ⟨b, 16, none⟩ = false := block_free h15 16
  have h16 : ((((((((((w).setCell ⟨b, 8, none⟩ (.func (.func 52) #[] #[])).setCell ⟨b, 9, none⟩ (.func (.func 54) #[] #[])).setCell ⟨b, 10, none⟩ (.func (.func 56) #[] #[])).setCell ⟨b, 11, none⟩ (.func (.func 57) #[] #[])).setCell ⟨b, 12, none⟩ (.func (.func 58) #[] #[])).setCell ⟨b, 13, none⟩ (.func (.func 59) #[] #[])).setCell ⟨b, 14, none⟩ (.func (.func 60) #[] #[])).setCell ⟨b, 15, none⟩ (.func (.func 61) #[] #[])).setCell ⟨b, 16, none⟩ (.func (.func 62) #[] #[])).heap[b]? = some (.cells #[x0, x1, x2, x3, x4, x5, x6, x7, .func (.func 52) #[] #[], .func (.func 54) #[] #[], .func (.func 56) #[] #[], .func (.func 57) #[] #[], .func (.func 58) #[] #[], .func (.func 59) #[] #[], .func (.func 60) #[] #[], .func (.func 61) #[] #[], .func (.func 62) #[] #[], x17, x18, x19, x20] 77) := heap_setCell_self h15 16 (.func (.func 62) #[] #[])
  have c17 : ((((((((((w).setCell ⟨b, 8, none⟩ (.func (.func 52) #[] #[])).setCell ⟨b, 9, none⟩ (.func (.func 54) #[] #[])).setCell ⟨b, 10, none⟩ (.func (.func 56) #[] #[])).setCell ⟨b, 11, none⟩ (.func (.func 57) #[] #[])).setCell ⟨b, 12, none⟩ (.func (.func 58) #[] #[])).setCell ⟨b, 13, none⟩ (.func (.func 59) #[] #[])).setCell ⟨b, 14, none⟩ (.func (.func 60) #[] #[])).setCell ⟨b, 15, none⟩ (.func (.func 61) #[] #[])).setCell ⟨b, 16, none⟩ (.func (.func 62) #[] #[])).cell? ⟨b, 17, none⟩ = some x17 := block_cell h16 17
  have f17 : ((((((((((w).setCell ⟨b, 8, none⟩ (.func (.func 52) #[] #[])).setCell ⟨b, 9, none⟩ (.func (.func 54) #[] #[])).setCell ⟨b, 10, none⟩ (.func (.func 56) #[] #[])).setCell ⟨b, 11, none⟩ (.func (.func 57) #[] #[])).setCell ⟨b, 12, none⟩ (.func (.func 58) #[] #[])).setCell ⟨b, 13, none⟩ (.func (.func 59) #[] #[])).setCell ⟨b, 14, none⟩ (.func (.func 60) #[] #[])).setCell ⟨b, 15, none⟩ (.func (.func 61) #[] #[])).setCell ⟨b, 16, none⟩ (.func (.func 62) #[] #[])).frozen? ⟨b, 17, none⟩ = false := block_free h16 17
  have h17 : (((((((((((w).setCell ⟨b, 8, none⟩ (.func (.func 52) #[] #[])).setCell ⟨b, 9, none⟩ (.func (.func 54) #[] #[])).setCell ⟨b, 10, none⟩ (.func (.func 56) #[] #[])).setCell ⟨b, 11, none⟩ (.func (.func 57) #[] #[])).setCell ⟨b, 12, none⟩ (.func (.func 58) #[] #[])).setCell ⟨b, 13, none⟩ (.func (.func 59) #[] #[])).setCell ⟨b, 14, none⟩ (.func (.func 60) #[] #[])).setCell ⟨b, 15, none⟩ (.func (.func 61) #[] #[])).setCell ⟨b, 16, none⟩ (.func (.func 62) #[] #[])).setCell ⟨b, 17, none⟩ (.func (.func 63) #[] #[])).heap[b]? = some (.cells #[x0, x1, x2, x3, x4, x5, x6, x7, .func (.func 52) #[] #[], .func (.func 54) #[] #[], .func (.func 56) #[] #[], .func (.func 57) #[] #[], .func (.func 58) #[] #[], .func (.func 59) #[] #[], .func (.func 60) #[] #[], .func (.func 61) #[] #[], .func (.func 62) #[] #[], .func (.func 63) #[] #[], x18, x19, x20] 77) := heap_setCell_self h16 17 (.func (.func 63) #[] #[])
  clear hf
  go_enter Tryd.func43, Tryd.ntmps43
  go_wp2_with (fail)
  go_end0
  exact ⟨rfl, fun B hB => (((((((((((Below.refl B w).setCell (p := ⟨b, 8, none⟩) hB (.func (.func 52) #[] #[])).setCell (p := ⟨b, 9, none⟩) hB (.func (.func 54) #[] #[])).setCell (p := ⟨b, 10, none⟩) hB (.func (.func 56) #[] #[])).setCell (p := ⟨b, 11, none⟩) hB (.func (.func 57) #[] #[])).setCell (p := ⟨b, 12, none⟩) hB (.func (.func 58) #[] #[])).setCell (p := ⟨b, 13, none⟩) hB (.func (.func 59) #[] #[])).setCell (p := ⟨b, 14, none⟩) hB (.func (.func 60) #[] #[])).setCell (p := ⟨b, 15, none⟩) hB (.func (.func 61) #[] #[])).setCell (p := ⟨b, 16, none⟩) hB (.func (.func 62) #[] #[])).setCell (p := ⟨b, 17, none⟩) hB (.func (.func 63) #[] #[])), h17⟩
theorem captures_arr (b c : Nat) (w : World) (h : ∃ cs : Array Value, cs.size = 21 ∧ w.heap[b]? = some (.cells cs 77)) :
    Calls Tryd.prog 44 #[.slice (some ⟨b, 0, none⟩) 21 c] w fun e w' => e = .returned (.tuple #[]) ∧ (∀ B, B ≤ b → Below B w w') ∧ ∃ cs : Array Value, cs.size = 21 ∧ w'.heap[b]? = some (.cells cs 77) := by
  obtain ⟨⟨l⟩, hs, h⟩ := h
  obtain ⟨x0, x1, x2, x3, x4, x5, x6, x7, x8, x9, x10, x11, x12, x13, x14, x15, x16, x17, x18, x19, x20, rfl⟩ := list21 (show l.length = 21 from hs)
  refine Calls.mono (captures_any b c x0 x1 x2 x3 x4 x5 x6 x7 x8 x9 x10 x11 x12 x13 x14 x15 x16 x17 x18 x19 x20 w h) ?_
  rintro e w' ⟨h1, h2, h3⟩
  exact ⟨h1, h2, _, rfl, h3⟩
theorem choices_arr (b c : Nat) (w : World) (h : ∃ cs : Array Value, cs.size = 21 ∧ w.heap[b]? = some (.cells cs 77)) :
    Calls Tryd.prog 43 #[.slice (some ⟨b, 0, none⟩) 21 c] w fun e w' => e = .returned (.tuple #[]) ∧ (∀ B, B ≤ b → Below B w w') ∧ ∃ cs : Array Value, cs.size = 21 ∧ w'.heap[b]? = some (.cells cs 77) := by
  obtain ⟨⟨l⟩, hs, h⟩ := h
  obtain ⟨x0, x1, x2, x3, x4, x5, x6, x7, x8, x9, x10, x11, x12, x13, x14, x15, x16, x17, x18, x19, x20, rfl⟩ := list21 (show l.length = 21 from hs)
  refine Calls.mono (choices_any b c x0 x1 x2 x3 x4 x5 x6 x7 x8 x9 x10 x11 x12 x13 x14 x15 x16 x17 x18 x19 x20 w h) ?_
  rintro e w' ⟨h1, h2, h3⟩
  exact ⟨h1, h2, _, rfl, h3⟩
set_option maxHeartbeats 8000000 in
set_option maxRecDepth 20000 in
theorem take_any (f : Fn) (w : World) : Calls Tryd.prog 36 #[.func f #[] #[]] w fun e w' => e = .returned (.func (.func 37) #[] #[.pointer (some ⟨w.heap.size, 0, none⟩)]) ∧ w' = w.alloc (.cells #[.func f #[] #[]] 90) := by
  have hmf : ∀ (fn : Fn) (first cap : Array Value) (w : World), (Instr.makeFunc fn first cap).run Tryd.prog w = .ok (.func fn first cap) w := fun _ _ _ _ => rfl
  go_enter Tryd.func36, Tryd.ntmps36
  go_wp2_with (fail)
  go_ret
  exact ⟨rfl, rfl⟩
set_option maxHeartbeats 8000000 in
set_option maxRecDepth 20000 in
theorem test_any (f : Fn) (w : World) : Calls Tryd.prog 40 #[.func f #[] #[]] w fun e w' => e = .returned (.func (.func 41) #[] #[.pointer (some ⟨w.heap.size, 0, none⟩)]) ∧ w' = w.alloc (.cells #[.func f #[] #[]] 90) := by
  have hmf : ∀ (fn : Fn) (first cap : Array Value) (w : World), (Instr.makeFunc fn first cap).run Tryd.prog w = .ok (.func fn first cap) w := fun _ _ _ _ => rfl
  go_enter Tryd.func40, Tryd.ntmps40
  go_wp2_with (fail)
  go_ret
  exact ⟨rfl, rfl⟩
end Go.Proofs.YthjlpcecfkboiabDoor
