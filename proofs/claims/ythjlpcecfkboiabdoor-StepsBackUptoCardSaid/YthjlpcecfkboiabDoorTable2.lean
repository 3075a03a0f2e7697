/-
  The machine's table: made, whatever it holds.
-/
import Derived.Test.YthjlpcecfkboiabDoorTable
import Derived.Test.YthjlpcecfkboiabDoorInstr
import Derived.WalkKit
import Derived.BigQuiet
import Derived.BigRegion
import Derived.Deep.RegionHeld3
import Derived.Laws.EntriesVeiled
import Derived.Laws.MakeOwn
namespace Go.Proofs.YthjlpcecfkboiabDoor
open Go.RowKit
set_option linter.unusedVariables false
set_option linter.unusedSimpArgs false
theorem made21 : madeCells (Value.nilFunc).cells (Int.toNat 21 * 1) = #[.nilFunc, .nilFunc, .nilFunc, .nilFunc, .nilFunc, .nilFunc, .nilFunc, .nilFunc, .nilFunc, .nilFunc, .nilFunc, .nilFunc, .nilFunc, .nilFunc, .nilFunc, .nilFunc, .nilFunc, .nilFunc, .nilFunc, .nilFunc, .nilFunc] := by kernel_rfl
theorem info_fun : (Tryd.prog.info? 77).map (fun i => (i.zero, i.size, i.bytes)) = some (some .nilFunc, 1, 8) := by kernel_rfl
theorem cell_keep {W : World} {x : Obj} {b o : Nat} {v : Value} (h : W.cell? ⟨b, o, none⟩ = some v) : (W.alloc x).cell? ⟨b, o, none⟩ = some v :=
  (cell_alloc (Nat.lt_of_not_le fun hn => by simp [World.cell?, Array.getElem?_eq_none hn] at h) o).trans h
theorem cell_keep2 {W : World} {b o b2 o2 : Nat} {v x : Value} (hne : b ≠ b2) (h : W.cell? ⟨b, o, none⟩ = some v) : (W.setCell ⟨b2, o2, none⟩ x).cell? ⟨b, o, none⟩ = some v := by
  rw [← h]; simp only [World.cell?, heap_setCell_ne o2 b x hne]
theorem gen_world {P : World → Prop} {Q : World → Prop} {W0 : World} (h : P W0) (k : ∀ W, P W → Q W) : Q W0 := k _ h
theorem tab_drew {W : World} {b : Nat} {o : Option Obj} (h : W.heap[b]? = o) : W.drew.heap[b]? = o := h
theorem tab_ex {W : World} {b T : Nat} {cs : Array Value} (h : W.heap[b]? = some (.cells cs T)) (hs : cs.size = 21) : ∃ cs : Array Value, cs.size = 21 ∧ W.heap[b]? = some (.cells cs T) := ⟨cs, hs, h⟩
theorem cell_drew {W : World} {p : Addr} {o : Option Value} (h : W.cell? p = o) : W.drew.cell? p = o := h
theorem below_drew {B : Nat} {a w : World} (h : Below B a w) : Below B a w.drew := ⟨h.os, h.tape, h.output, h.size, h.block⟩
set_option maxHeartbeats 16000000 in
set_option maxRecDepth 20000 in
theorem table_any (w : World) : Calls Tryd.prog 22 #[] w fun e w' => (∃ v, e = .returned v) ∧ Below w.heap.size w w' := by
  have hmf : ∀ (fn : Fn) (first cap : Array Value) (w : World), (Instr.makeFunc fn first cap).run Tryd.prog w = .ok (.func fn first cap) w := fun _ _ _ _ => rfl
  obtain ⟨i0, hi, hz0, hz1, hz2⟩ := info_parts info_fun
  have hmk : ∀ w : World, (Instr.makeSlice 75 (.int .i64 21) (.int .i64 21)).run Tryd.prog w = .ok (.slice (some ⟨w.heap.size, 0, none⟩) 21 21) (w.alloc (.cells #[.nilFunc, .nilFunc, .nilFunc, .nilFunc, .nilFunc, .nilFunc, .nilFunc, .nilFunc, .nilFunc, .nilFunc, .nilFunc, .nilFunc, .nilFunc, .nilFunc, .nilFunc, .nilFunc, .nilFunc, .nilFunc, .nilFunc, .nilFunc, .nilFunc] 77)) := fun w => (run_make w _ 77 i0 .nilFunc Tryd.underlying75 hi hz0 .i64 .i64 21 21 (by decide) (by decide) (by rw [hz2]; decide) (by decide)).trans (by rw [hz1, made21]; rfl)
  go_enter Tryd.func22, Tryd.ntmps22
  go_wp2_with (fail)
  have hF : ((w.alloc (.cells #[.nilFunc, .nilFunc, .nilFunc, .nilFunc, .nilFunc, .nilFunc, .nilFunc, .nilFunc, .nilFunc, .nilFunc, .nilFunc, .nilFunc, .nilFunc, .nilFunc, .nilFunc, .nilFunc, .nilFunc, .nilFunc, .nilFunc, .nilFunc, .nilFunc] 77)).alloc (.cells #[.func (.func 34) #[] #[]] 90)).heap[w.heap.size + 1]? = some (.cells #[.func (.func 34) #[] #[]] 90) := alloc_new_at _ (show w.heap.size + 1 = (w.heap.push _).size by simp)
  have hT0 := alloc_old (y := .cells #[.func (.func 34) #[] #[]] 90) (alloc_new w (.cells #[.nilFunc, .nilFunc, .nilFunc, .nilFunc, .nilFunc, .nilFunc, .nilFunc, .nilFunc, .nilFunc, .nilFunc, .nilFunc, .nilFunc, .nilFunc, .nilFunc, .nilFunc, .nilFunc, .nilFunc, .nilFunc, .nilFunc, .nilFunc, .nilFunc] 77))
  have hB0 := ((Below.refl w.heap.size w).alloc (Nat.le_refl _) (.cells #[.nilFunc, .nilFunc, .nilFunc, .nilFunc, .nilFunc, .nilFunc, .nilFunc, .nilFunc, .nilFunc, .nilFunc, .nilFunc, .nilFunc, .nilFunc, .nilFunc, .nilFunc, .nilFunc, .nilFunc, .nilFunc, .nilFunc, .nilFunc, .nilFunc] 77)).alloc (by simp) (.cells #[.func (.func 34) #[] #[]] 90)
  have hsz : ((w.alloc (.cells #[.nilFunc, .nilFunc, .nilFunc, .nilFunc, .nilFunc, .nilFunc, .nilFunc, .nilFunc, .nilFunc, .nilFunc, .nilFunc, .nilFunc, .nilFunc, .nilFunc, .nilFunc, .nilFunc, .nilFunc, .nilFunc, .nilFunc, .nilFunc, .nilFunc] 77)).alloc (.cells #[.func (.func 34) #[] #[]] 90)).heap.size = w.heap.size + 2 := by simp
  generalize (w.alloc (.cells #[.nilFunc, .nilFunc, .nilFunc, .nilFunc, .nilFunc, .nilFunc, .nilFunc, .nilFunc, .nilFunc, .nilFunc, .nilFunc, .nilFunc, .nilFunc, .nilFunc, .nilFunc, .nilFunc, .nilFunc, .nilFunc, .nilFunc, .nilFunc, .nilFunc] 77)).alloc (.cells #[.func (.func 34) #[] #[]] 90) = W at *
  have hcF : W.cell? ⟨w.heap.size + 1, 0, none⟩ = some (.func (.func 34) #[] #[]) := block_cell hF 0
  have hcT := block_cell hT0
  have hfT := block_free hT0
  go_region_held3 (fun w' => w'.cell? ⟨w.heap.size + 1, 0, none⟩ = some (.func (.func 34) #[] #[])) (first | (with_reducible exact hcF) | (with_reducible exact cell_drew hcF) | ((repeat (first | (with_reducible assumption) | apply cell_keep | (refine cell_keep2 (by omega) ?_))); done)) (first | (go_at_call 36; with_reducible refine Calls.mono (take_any _ _) ?_; rintro e w' ⟨rfl, rfl⟩))
  go_wp2_with (fail)
  refine gen_world (P := fun W' => (∃ v1 v2 v3 : Value, W'.heap[w.heap.size]? = some (.cells #[.nilFunc, v1, v2, v3, .nilFunc, .nilFunc, .nilFunc, .nilFunc, .nilFunc, .nilFunc, .nilFunc, .nilFunc, .nilFunc, .nilFunc, .nilFunc, .nilFunc, .nilFunc, .nilFunc, .nilFunc, .nilFunc, .nilFunc] 77)) ∧ W'.cell? ⟨w.heap.size + 1, 0, none⟩ = some (.func (.func 34) #[] #[]) ∧ Below w.heap.size w W' ∧ W'.heap.size = w.heap.size + 5) (Q := fun W' => Code.wp Tryd.prog _ _ _ W') ?_ ?_
  · refine ⟨?_, ?_, ?_, ?_⟩
    · exact ⟨_, _, _, tab_drew (alloc_old (alloc_old (alloc_old (heap_setCell_self (heap_setCell_self (heap_setCell_self hT0 _ _) _ _) _ _))))⟩
    · refine cell_drew ?_
      repeat (first | (with_reducible exact hcF) | (with_reducible assumption) | apply cell_keep | (refine cell_keep2 (by omega) ?_))
    · refine below_drew ?_
      repeat (first | (with_reducible exact hB0) | refine below_al ?_ _ | refine below_st ?_ (by omega) _ _)
    · simp [World.drew, hsz]
  clear hcT hfT hT0 hcF hB0 hsz hF
  rintro W ⟨⟨v1, v2, v3, hT0⟩, hcF, hB0, hsz⟩
  have hcT := block_cell hT0
  have hfT := block_free hT0
  go_region_held3 (fun w' => w'.cell? ⟨w.heap.size + 1, 0, none⟩ = some (.func (.func 34) #[] #[])) (first | (with_reducible exact hcF) | (with_reducible exact cell_drew hcF) | ((repeat (first | (with_reducible assumption) | apply cell_keep | (refine cell_keep2 (by omega) ?_))); done)) (first | (go_at_call 40; with_reducible refine Calls.mono (test_any _ _) ?_; rintro e w' ⟨rfl, rfl⟩))
  go_wp2_with (fail)
  with_reducible refine (choices_arr _ _ _ ?hh).mono ?kk
  case hh => exact tab_ex (tab_drew (alloc_old (alloc_old (alloc_old (heap_setCell_self (heap_setCell_self (heap_setCell_self (heap_setCell_self hT0 _ _) _ _) _ _) _ _))))) (by simp only [Array.size_setIfInBounds]; rfl)
  rintro e w3 ⟨rfl, hb3, hT3⟩
  have hB3 := Below.trans (below_drew (below_al (below_al (below_al (below_st (below_st (below_st (below_st hB0 (Nat.le_refl _) _ _) (Nat.le_refl _) _ _) (Nat.le_refl _) _ _) (Nat.le_refl _) _ _) _) _) _)) (hb3 _ (Nat.le_refl _))
  go_wp2_with (fail)
  with_reducible refine (captures_arr _ _ _ hT3).mono ?_
  rintro e w4 ⟨rfl, hb4, hT4⟩
  have hB4 := Below.trans hB3 (hb4 _ (Nat.le_refl _))
  go_wp2_with (fail)
  go_ret
  exact ⟨⟨_, rfl⟩, hB4⟩
end Go.Proofs.YthjlpcecfkboiabDoor
