/-
  harrowlaw01.CharsetAlgebra returns true, for every three sets; what lay in memory stays as it was.
-/
import Derived.Test.YtjbdamedofgdgaaDoorWorks01
namespace Go.Proofs.YtjbdamedofgdgaaDoor
open Go.RowKit
set_option linter.unusedVariables false
set_option linter.unusedSimpArgs false
theorem uni_assoc (p q r : Nat → Bool) : uni (uni p q) r = uni p (uni q r) := funext fun i => by simp [uni, Bool.or_assoc]
theorem uni_self (p : Nat → Bool) : uni p p = p := funext fun i => by simp [uni]
theorem mee_assoc (p q r : Nat → Bool) : mee (mee p q) r = mee p (mee q r) := funext fun i => by simp [mee, Bool.and_assoc]
theorem mee_comm (p q : Nat → Bool) : mee q p = mee p q := funext fun i => by simp [mee, Bool.and_comm]
theorem mee_uni (p q : Nat → Bool) : mee p (uni p q) = p := funext fun i => by simp only [mee, uni]; cases p i <;> rfl
theorem uni_mees (p q r : Nat → Bool) : uni (mee p q) (mee p r) = mee p (uni q r) := funext fun i => by simp only [mee, uni]; cases p i <;> cases q i <;> rfl
theorem mee_unis (p q r : Nat → Bool) : mee (uni p q) (uni p r) = uni p (mee q r) := funext fun i => by simp only [mee, uni]; cases p i <;> cases q i <;> rfl
theorem neg_neg (p : Nat → Bool) : neg (neg p) = p := funext fun i => by simp [neg]
theorem mee_negs (p q : Nat → Bool) : mee (neg p) (neg q) = neg (uni p q) := funext fun i => by simp [mee, neg, uni]
theorem mee_neg (p q : Nat → Bool) : mee p (neg q) = les p q := funext fun i => by simp [mee, neg, les]
theorem les_self (p : Nat → Bool) : les p p = emp := funext fun i => by simp [les, emp]
def allP : Nat → Bool := fun _ => true
theorem uni_neg (p : Nat → Bool) : uni p (neg p) = allP := funext fun i => by simp [uni, neg, allP]
theorem cnt_emp : cnt emp 256 = 0 := cnt_none fun i _ => rfl
theorem cnt_allP : cnt allP 256 = 256 := cnt_all fun i _ => rfl

set_option maxHeartbeats 16000000 in
set_option maxRecDepth 100000 in
theorem lawAlgebra_any (p q r : Nat → Bool) (w : World) (hT : TabOk w) :
    Calls Tryd.prog 5 #[.agg #[.int .u64 (W p 0), .int .u64 (W p 1), .int .u64 (W p 2), .int .u64 (W p 3)], .agg #[.int .u64 (W q 0), .int .u64 (W q 1), .int .u64 (W q 2), .int .u64 (W q 3)], .agg #[.int .u64 (W r 0), .int .u64 (W r 1), .int .u64 (W r 2), .int .u64 (W r 3)]] w fun e w' => e = .returned (.bool true) ∧ Below w.heap.size w w' := by
  have x0_0 : (((w.alloc (.cells #[.int .u64 (W p 0), .int .u64 (W p 1), .int .u64 (W p 2), .int .u64 (W p 3)] 24)).alloc (.cells #[.int .u64 (W q 0), .int .u64 (W q 1), .int .u64 (W q 2), .int .u64 (W q 3)] 24)).alloc (.cells #[.int .u64 (W r 0), .int .u64 (W r 1), .int .u64 (W r 2), .int .u64 (W r 3)] 24)).heap[w.heap.size]? = some (.cells #[.int .u64 (W p 0), .int .u64 (W p 1), .int .u64 (W p 2), .int .u64 (W p 3)] 24) := alloc_old (alloc_old (alloc_new_at _ rfl))
  have x0_1 : (((w.alloc (.cells #[.int .u64 (W p 0), .int .u64 (W p 1), .int .u64 (W p 2), .int .u64 (W p 3)] 24)).alloc (.cells #[.int .u64 (W q 0), .int .u64 (W q 1), .int .u64 (W q 2), .int .u64 (W q 3)] 24)).alloc (.cells #[.int .u64 (W r 0), .int .u64 (W r 1), .int .u64 (W r 2), .int .u64 (W r 3)] 24)).heap[w.heap.size + 1]? = some (.cells #[.int .u64 (W q 0), .int .u64 (W q 1), .int .u64 (W q 2), .int .u64 (W q 3)] 24) := alloc_old (alloc_new_at _ (by simp))
  have x0_2 : (((w.alloc (.cells #[.int .u64 (W p 0), .int .u64 (W p 1), .int .u64 (W p 2), .int .u64 (W p 3)] 24)).alloc (.cells #[.int .u64 (W q 0), .int .u64 (W q 1), .int .u64 (W q 2), .int .u64 (W q 3)] 24)).alloc (.cells #[.int .u64 (W r 0), .int .u64 (W r 1), .int .u64 (W r 2), .int .u64 (W r 3)] 24)).heap[w.heap.size + 1 + 1]? = some (.cells #[.int .u64 (W r 0), .int .u64 (W r 1), .int .u64 (W r 2), .int .u64 (W r 3)] 24) := alloc_new_at _ (by simp)
  have B0 : Below w.heap.size w (((w.alloc (.cells #[.int .u64 (W p 0), .int .u64 (W p 1), .int .u64 (W p 2), .int .u64 (W p 3)] 24)).alloc (.cells #[.int .u64 (W q 0), .int .u64 (W q 1), .int .u64 (W q 2), .int .u64 (W q 3)] 24)).alloc (.cells #[.int .u64 (W r 0), .int .u64 (W r 1), .int .u64 (W r 2), .int .u64 (W r 3)] 24)) := (((Below.refl w.heap.size w).alloc (by simp) _).alloc (by simp <;> omega) _).alloc (by simp <;> omega) _
  have hT0 := hid (hT.below B0 hT.1)
  clear hT
  have he := fun (P : Nat → Bool) w => eq_same (W P 0) (W P 1) (W P 2) (W P 3) w
  have c0 := hid (fun w => union_any q r w)
  have c1 := hid (fun w => union_any p (uni q r) w)
  have c2 := hid (fun w => union_any p q w)
  have c3 := hid (fun w => union_any (uni p q) r w)
  rw [uni_assoc p q r] at c3
  have c4 := hid (fun w => union_any q p w)
  rw [uni_comm q p] at c4
  have c5 := hid (fun w => union_any p p w)
  rw [uni_self p] at c5
  have c6 := hid (fun w => meet_any q r w)
  have c7 := hid (fun w => meet_any p (mee q r) w)
  have c8 := hid (fun w => meet_any p q w)
  have c9 := hid (fun w => meet_any (mee p q) r w)
  rw [mee_assoc p q r] at c9
  have c10 := hid (fun w => meet_any q p w)
  rw [mee_comm p q] at c10
  have c11 := hid (fun w => meet_any p (uni p q) w)
  rw [mee_uni p q] at c11
  have c12 := hid (fun w => meet_any p (uni q r) w)
  have c13 := hid (fun w => meet_any p r w)
  have c14 := hid (fun w => union_any (mee p q) (mee p r) w)
  rw [uni_mees p q r] at c14
  have c15 := hid (fun w => union_any p (mee q r) w)
  have c16 := hid (fun w => union_any p r w)
  have c17 := hid (fun w => meet_any (uni p q) (uni p r) w)
  rw [mee_unis p q r] at c17
  have c18 := hid (fun w => not_any p w)
  have c19 := hid (fun w => not_any (neg p) w)
  rw [neg_neg p] at c19
  have c20 := hid (fun w => not_any (uni p q) w)
  have c21 := hid (fun w => not_any q w)
  have c22 := hid (fun w => meet_any (neg p) (neg q) w)
  rw [mee_negs p q] at c22
  have c23 := hid (fun w => less_any p q w)
  have c24 := hid (fun w => meet_any p (neg q) w)
  rw [mee_neg p q] at c24
  have c25 := hid (fun w => meet_any p (neg p) w)
  rw [mee_neg p p] at c25
  rw [les_self] at c25
  have c26 := hid (fun w => union_any p (neg p) w)
  rw [uni_neg p] at c26
  have cE := hid (fun w => empty_any emp w)
  rw [cnt_emp] at cE
  have cF := hid (fun w => full_any allP w)
  rw [cnt_allP] at cF
  simp only [decide_true] at cE cF
  go_enter Tryd.func5, Tryd.ntmps5
  go_wp2_with (fail)
  refine (works_any _ hT0.out).mono ?_
  rintro e w1 ⟨rfl, hb1⟩
  have x1_0 := keep hb1 x0_0
  have x1_1 := keep hb1 x0_1
  have x1_2 := keep hb1 x0_2
  have B1 := B0.trans (hb1.mono B0.size)
  clear hb1 hT0 x0_0 x0_1 x0_2 B0
  go_wp2_with (fail)
  have gx0 := grow_cell x1_0 (block_lt x1_0)
  have gx1 := grow_cell x1_1 (block_lt x1_1)
  have gx2 := grow_cell x1_2 (block_lt x1_2)
  refine wp_region_grow w1.heap.size (by kernel_rfl) (by kernel_rfl) ?_
  repeat (go_big_quiet_step (first | (go_at_call 27; ((with_reducible refine Calls.grow_of (Nat.le_refl _) (c0.out _)); done)) | (go_at_call 27; ((with_reducible refine Calls.grow_of (Nat.le_refl _) (c1.out _)); done)) | (go_at_call 27; ((with_reducible refine Calls.grow_of (Nat.le_refl _) (c2.out _)); done)) | (go_at_call 27; ((with_reducible refine Calls.grow_of (Nat.le_refl _) (c3.out _)); done)) | (go_at_call 27; ((with_reducible refine Calls.grow_of (Nat.le_refl _) (c4.out _)); done)) | (go_at_call 27; ((with_reducible refine Calls.grow_of (Nat.le_refl _) (c5.out _)); done))))
  refine wpQuiet_nil ?_
  rintro _ ⟨g, rfl⟩
  have x2_0 := grow_heap x1_0 (block_lt x1_0) g
  have x2_1 := grow_heap x1_1 (block_lt x1_1) g
  have x2_2 := grow_heap x1_2 (block_lt x1_2) g
  have B2 := B1.trans (g.below.mono B1.size)
  clear gx0 gx1 gx2
  clear x1_0 x1_1 x1_2 B1
  generalize g.val = w2 at *
  clear g
  go_wp2_with (fail)
  have gx0 := grow_cell x2_0 (block_lt x2_0)
  have gx1 := grow_cell x2_1 (block_lt x2_1)
  have gx2 := grow_cell x2_2 (block_lt x2_2)
  refine wp_region_grow w2.heap.size (by kernel_rfl) (by kernel_rfl) ?_
  repeat (go_big_quiet_step (first | (go_at_call 28; ((with_reducible refine Calls.grow_of (Nat.le_refl _) (c6.out _)); done)) | (go_at_call 28; ((with_reducible refine Calls.grow_of (Nat.le_refl _) (c7.out _)); done)) | (go_at_call 28; ((with_reducible refine Calls.grow_of (Nat.le_refl _) (c8.out _)); done)) | (go_at_call 28; ((with_reducible refine Calls.grow_of (Nat.le_refl _) (c9.out _)); done)) | (go_at_call 28; ((with_reducible refine Calls.grow_of (Nat.le_refl _) (c10.out _)); done)) | (go_at_call 27; ((with_reducible refine Calls.grow_of (Nat.le_refl _) (c2.out _)); done)) | (go_at_call 28; ((with_reducible refine Calls.grow_of (Nat.le_refl _) (c11.out _)); done))))
  refine wpQuiet_nil ?_
  rintro _ ⟨g, rfl⟩
  have x3_0 := grow_heap x2_0 (block_lt x2_0) g
  have x3_1 := grow_heap x2_1 (block_lt x2_1) g
  have x3_2 := grow_heap x2_2 (block_lt x2_2) g
  have B3 := B2.trans (g.below.mono B2.size)
  clear gx0 gx1 gx2
  clear x2_0 x2_1 x2_2 B2
  generalize g.val = w3 at *
  clear g
  go_wp2_with (fail)
  have gx0 := grow_cell x3_0 (block_lt x3_0)
  have gx1 := grow_cell x3_1 (block_lt x3_1)
  have gx2 := grow_cell x3_2 (block_lt x3_2)
  refine wp_region_grow w3.heap.size (by kernel_rfl) (by kernel_rfl) ?_
  repeat (go_big_quiet_step (first | (go_at_call 27; ((with_reducible refine Calls.grow_of (Nat.le_refl _) (c0.out _)); done)) | (go_at_call 28; ((with_reducible refine Calls.grow_of (Nat.le_refl _) (c12.out _)); done)) | (go_at_call 28; ((with_reducible refine Calls.grow_of (Nat.le_refl _) (c8.out _)); done)) | (go_at_call 28; ((with_reducible refine Calls.grow_of (Nat.le_refl _) (c13.out _)); done)) | (go_at_call 27; ((with_reducible refine Calls.grow_of (Nat.le_refl _) (c14.out _)); done)) | (go_at_call 28; ((with_reducible refine Calls.grow_of (Nat.le_refl _) (c6.out _)); done)) | (go_at_call 27; ((with_reducible refine Calls.grow_of (Nat.le_refl _) (c15.out _)); done)) | (go_at_call 27; ((with_reducible refine Calls.grow_of (Nat.le_refl _) (c2.out _)); done)) | (go_at_call 27; ((with_reducible refine Calls.grow_of (Nat.le_refl _) (c16.out _)); done)) | (go_at_call 28; ((with_reducible refine Calls.grow_of (Nat.le_refl _) (c17.out _)); done))))
  refine wpQuiet_nil ?_
  rintro _ ⟨g, rfl⟩
  have x4_0 := grow_heap x3_0 (block_lt x3_0) g
  have x4_1 := grow_heap x3_1 (block_lt x3_1) g
  have x4_2 := grow_heap x3_2 (block_lt x3_2) g
  have B4 := B3.trans (g.below.mono B3.size)
  clear gx0 gx1 gx2
  clear x3_0 x3_1 x3_2 B3
  generalize g.val = w4 at *
  clear g
  go_wp2_with (fail)
  have gx0 := grow_cell x4_0 (block_lt x4_0)
  have gx1 := grow_cell x4_1 (block_lt x4_1)
  have gx2 := grow_cell x4_2 (block_lt x4_2)
  refine wp_region_grow w4.heap.size (by kernel_rfl) (by kernel_rfl) ?_
  repeat (go_big_quiet_step (first | (go_at_call 29; ((with_reducible refine Calls.grow_of (Nat.le_refl _) (c18.out _)); done)) | (go_at_call 29; ((with_reducible refine Calls.grow_of (Nat.le_refl _) (c19.out _)); done)) | (go_at_call 27; ((with_reducible refine Calls.grow_of (Nat.le_refl _) (c2.out _)); done)) | (go_at_call 29; ((with_reducible refine Calls.grow_of (Nat.le_refl _) (c20.out _)); done)) | (go_at_call 29; ((with_reducible refine Calls.grow_of (Nat.le_refl _) (c21.out _)); done)) | (go_at_call 28; ((with_reducible refine Calls.grow_of (Nat.le_refl _) (c22.out _)); done)) | (go_at_call 30; ((with_reducible refine Calls.grow_of (Nat.le_refl _) (c23.out _)); done)) | (go_at_call 28; ((with_reducible refine Calls.grow_of (Nat.le_refl _) (c24.out _)); done))))
  refine wpQuiet_nil ?_
  rintro _ ⟨g, rfl⟩
  have x5_0 := grow_heap x4_0 (block_lt x4_0) g
  have x5_1 := grow_heap x4_1 (block_lt x4_1) g
  have x5_2 := grow_heap x4_2 (block_lt x4_2) g
  have B5 := B4.trans (g.below.mono B4.size)
  clear gx0 gx1 gx2
  clear x4_0 x4_1 x4_2 B4
  generalize g.val = w5 at *
  clear g
  go_wp2_with (fail)
  have gx0 := grow_cell x5_0 (block_lt x5_0)
  have gx1 := grow_cell x5_1 (block_lt x5_1)
  have gx2 := grow_cell x5_2 (block_lt x5_2)
  refine wp_region_grow w5.heap.size (by kernel_rfl) (by kernel_rfl) ?_
  repeat (go_big_quiet_step (first | (go_at_call 29; ((with_reducible refine Calls.grow_of (Nat.le_refl _) (c18.out _)); done)) | (go_at_call 28; ((with_reducible refine Calls.grow_of (Nat.le_refl _) (c25.out _)); done)) | (go_at_call 22; ((with_reducible refine Calls.grow_of (Nat.le_refl _) (cE.out _)); done)) | (go_at_call 27; ((with_reducible refine Calls.grow_of (Nat.le_refl _) (c26.out _)); done)) | (go_at_call 23; ((with_reducible refine Calls.grow_of (Nat.le_refl _) (cF.out _)); done))))
  refine wpQuiet_nil ?_
  rintro _ ⟨g, rfl⟩
  have x6_0 := grow_heap x5_0 (block_lt x5_0) g
  have x6_1 := grow_heap x5_1 (block_lt x5_1) g
  have x6_2 := grow_heap x5_2 (block_lt x5_2) g
  have B6 := B5.trans (g.below.mono B5.size)
  clear gx0 gx1 gx2
  clear x5_0 x5_1 x5_2 B5
  generalize g.val = w6 at *
  clear g
  go_wp2_with (fail)
  go_ret
  exact ⟨rfl, B6⟩

end Go.Proofs.YtjbdamedofgdgaaDoor
