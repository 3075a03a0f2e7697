/-
  charset.Count, Least, Greatest, Single, Empty, Full, Apart, Within: what each returns, for every set; what lay in memory stays as it was.
-/
import Derived.Test.YtjbdamedofgdgabDoorBytes
import Derived.Test.YtjbdamedofgdgabDoorMBits
import Derived.Test.YtjbdamedofgdgabDoorMLen
namespace Go.Proofs.YtjbdamedofgdgabDoor
open Go.RowKit
set_option linter.unusedVariables false
set_option linter.unusedSimpArgs false

/-- Are two sets the same, word by word? -/
def eqs (p q : Nat → Bool) : Bool := W p 0 == W q 0 && (W p 1 == W q 1 && (W p 2 == W q 2 && W p 3 == W q 3))
theorem eqs_yes {p q : Nat → Bool} (h : ∀ i, i < 256 → p i = q i) : eqs p q = true := by
  have e : ∀ k, k < 4 → W p k = W q k := fun k hk => W_congr fun i h0 h1 => h i (by omega)
  simp [eqs, e 0 (by omega), e 1 (by omega), e 2 (by omega), e 3 (by omega)]
theorem eqs_same {p q : Nat → Bool} (h : eqs p q = true) : ∀ i, i < 256 → p i = q i := by
  simp only [eqs, Bool.and_eq_true, beq_iff_eq] at h
  intro i hi
  have hk : i / 64 = 0 ∨ i / 64 = 1 ∨ i / 64 = 2 ∨ i / 64 = 3 := by omega
  rcases hk with hk | hk | hk | hk
  · exact W_inj h.1 i (by omega) (by omega)
  · exact W_inj h.2.1 i (by omega) (by omega)
  · exact W_inj h.2.2.1 i (by omega) (by omega)
  · exact W_inj h.2.2.2 i (by omega) (by omega)
theorem eqs_iff {p q : Nat → Bool} : eqs p q = true ↔ ∀ i, i < 256 → p i = q i := ⟨eqs_same, eqs_yes⟩
theorem eqs_emp (p : Nat → Bool) : eqs p emp = decide (cnt p 256 = 0) := by
  rw [Bool.eq_iff_iff, eqs_iff, decide_eq_true_iff]
  exact ⟨fun h => cnt_none h, fun h i hi => cnt_zero h i hi⟩
theorem eqs_neg (p : Nat → Bool) : eqs (neg p) emp = decide (cnt p 256 = 256) := by
  rw [Bool.eq_iff_iff, eqs_iff, decide_eq_true_iff]
  constructor
  · intro h
    exact cnt_all fun i hi => by have := h i hi; simpa [neg, emp] using this
  · intro h i hi
    have := cnt_full h i hi
    simp [neg, emp, this]
theorem eqs_uni (p q : Nat → Bool) : eqs (uni p q) q = decide (cnt (les p q) 256 = 0) := by
  rw [Bool.eq_iff_iff, eqs_iff, decide_eq_true_iff]
  constructor
  · intro h
    exact cnt_none fun i hi => by
      have := h i hi
      simp only [uni, les] at this ⊢
      revert this
      cases p i <;> cases q i <;> simp
  · intro h i hi
    have := cnt_zero h i hi
    simp only [uni, les] at this ⊢
    revert this
    cases p i <;> cases q i <;> simp
theorem eq_sets (p q : Nat → Bool) (w : World) :
    Sem.run Tryd.prog (Op.equalIn 10000 27 (.agg #[.int .u64 (W p 0), .int .u64 (W p 1), .int .u64 (W p 2), .int .u64 (W p 3)]) (.agg #[.int .u64 (W q 0), .int .u64 (W q 1), .int .u64 (W q 2), .int .u64 (W q 3)])) w = .ok (eqs p q) w := eq_set _ _ _ _ _ _ _ _ w
theorem eq_zero (p : Nat → Bool) (w : World) :
    Sem.run Tryd.prog (Op.equalIn 10000 27 (.agg #[.int .u64 (W p 0), .int .u64 (W p 1), .int .u64 (W p 2), .int .u64 (W p 3)]) (.agg #[.int .u64 0, .int .u64 0, .int .u64 0, .int .u64 0])) w = .ok (eqs p emp) w := by
  have h := eq_sets p emp w
  rw [W_emp, W_emp, W_emp, W_emp] at h
  exact h
theorem ones_W (p : Nat → Bool) (k n : Nat) (h : cnt (fun i => p (64 * k + i)) 64 = n) (w : World) :
    Calls Tryd.prog 30 #[.int .u64 (W p k)] w fun e w' => e = .returned (.int .i64 (n : Int)) ∧ w' = w := by
  rw [← h]; exact ones_any _ w

theorem idx4_0 (x0 x1 x2 x3 : Value) (w : World) : (Instr.index 27 (.agg #[x0, x1, x2, x3]) (.int .i64 0)).run Tryd.prog w = .ok x0 w := by kernel_rfl
theorem idx4_1 (x0 x1 x2 x3 : Value) (w : World) : (Instr.index 27 (.agg #[x0, x1, x2, x3]) (.int .i64 1)).run Tryd.prog w = .ok x1 w := by kernel_rfl
theorem idx4_2 (x0 x1 x2 x3 : Value) (w : World) : (Instr.index 27 (.agg #[x0, x1, x2, x3]) (.int .i64 2)).run Tryd.prog w = .ok x2 w := by kernel_rfl
theorem idx4_3 (x0 x1 x2 x3 : Value) (w : World) : (Instr.index 27 (.agg #[x0, x1, x2, x3]) (.int .i64 3)).run Tryd.prog w = .ok x3 w := by kernel_rfl
set_option maxHeartbeats 4000000 in
theorem count_any (p : Nat → Bool) (w : World) :
    Calls Tryd.prog 19 #[.agg #[.int .u64 (W p 0), .int .u64 (W p 1), .int .u64 (W p 2), .int .u64 (W p 3)]] w fun e w' => e = .returned (.int .i64 (cnt p 256 : Nat)) ∧ Below w.heap.size w w' := by
  rw [cnt_words p]
  have l0 := cnt_le (fun i => p (64 * 0 + i)) 64
  have c0 := hid (ones_W p 0 _ rfl)
  generalize cnt (fun i => p (64 * 0 + i)) 64 = n0 at *
  have i0 := fun (x0 x1 x2 x3 : Value) => idx4_0 x0 x1 x2 x3
  have l1 := cnt_le (fun i => p (64 * 1 + i)) 64
  have c1 := hid (ones_W p 1 _ rfl)
  generalize cnt (fun i => p (64 * 1 + i)) 64 = n1 at *
  have i1 := fun (x0 x1 x2 x3 : Value) => idx4_1 x0 x1 x2 x3
  have l2 := cnt_le (fun i => p (64 * 2 + i)) 64
  have c2 := hid (ones_W p 2 _ rfl)
  generalize cnt (fun i => p (64 * 2 + i)) 64 = n2 at *
  have i2 := fun (x0 x1 x2 x3 : Value) => idx4_2 x0 x1 x2 x3
  have l3 := cnt_le (fun i => p (64 * 3 + i)) 64
  have c3 := hid (ones_W p 3 _ rfl)
  generalize cnt (fun i => p (64 * 3 + i)) 64 = n3 at *
  have i3 := fun (x0 x1 x2 x3 : Value) => idx4_3 x0 x1 x2 x3
  go_enter Tryd.func19, Tryd.ntmps19
  go_wp2
  refine wp_loop_rounds 5 ?_
  iterate 5
    rw [rounds_succ]
    go_wp2_with (first | (go_at_call 30; with_reducible refine Calls.mono (c0.out _) ?_; rintro e w' ⟨rfl, rfl⟩) | (go_at_call 30; with_reducible refine Calls.mono (c1.out _) ?_; rintro e w' ⟨rfl, rfl⟩) | (go_at_call 30; with_reducible refine Calls.mono (c2.out _) ?_; rintro e w' ⟨rfl, rfl⟩) | (go_at_call 30; with_reducible refine Calls.mono (c3.out _) ?_; rintro e w' ⟨rfl, rfl⟩))
  go_ret
  exact ⟨congrArg (fun z => Ending.returned (.int .i64 z)) (by omega), (Below.refl _ _).alloc (Nat.le_refl _) _⟩


theorem W_zero {p : Nat → Bool} {k : Nat} (h : ∀ i, i < 64 → p (64 * k + i) = false) : (W p k != 0) = false := by
  have := (Wn_zero_iff p k).2 h
  simp [W, this]
theorem W_some {p : Nat → Bool} {k i : Nat} (hi : i < 64) (h : p (64 * k + i) = true) : (W p k != 0) = true := by
  have : Wn p k ≠ 0 := fun e => by
    have := (Wn_zero_iff p k).1 e i hi
    rw [h] at this
    cases this
  simp only [W, bne_iff_ne, ne_eq]
  omega

theorem tz_W (p : Nat → Bool) (k i : Nat) (hi : i < 64) (hp : p (64 * k + i) = true) (hl : ∀ j, j < i → p (64 * k + j) = false) (w : World) (hT : TabOk w) :
    Calls Tryd.prog 36 #[.int .u64 (W p k)] w fun e w' => e = .returned (.int .i64 (i : Int)) ∧ w' = w :=
  tz_any (Wn p k) i (by rw [Wn_testBit]; simp [hi, hp]) (fun j hj => by rw [Wn_testBit]; simp [hl j hj]) (Wn_lt p k) w hT
theorem high_W {p : Nat → Bool} {k i : Nat} (hi : i < 64) (hp : p (64 * k + i) = true) (hl : ∀ j, i < j → j < 64 → p (64 * k + j) = false) : 2 ^ i ≤ Wn p k ∧ Wn p k < 2 ^ (i + 1) := by
  have hb : (Wn p k).testBit i = true := by rw [Wn_testBit]; simp [hi, hp]
  refine ⟨Nat.ge_two_pow_of_testBit hb, Nat.lt_pow_two_of_testBit _ fun j hj => ?_⟩
  rw [Wn_testBit]
  by_cases h : j < 64
  · simp [hl j (by omega) h]
  · simp [h]




set_option maxHeartbeats 2000000 in
theorem full_any (p : Nat → Bool) (w : World) :
    Calls Tryd.prog 21 #[.agg #[.int .u64 (W p 0), .int .u64 (W p 1), .int .u64 (W p 2), .int .u64 (W p 3)]] w fun e w' => e = .returned (.bool (decide (cnt p 256 = 256))) ∧ Below w.heap.size w w' := by
  rw [← eqs_neg]
  have hz := fun w => eq_zero (neg p) w
  go_enter Tryd.func21, Tryd.ntmps21
  go_wp2_with ((go_at_call 33; with_reducible refine Calls.mono (not_any p _) ?_; rintro e w1 ⟨rfl, hb1⟩))
  go_ret
  exact ⟨rfl, ((Below.refl _ _).alloc (Nat.le_refl _) _).trans (hb1.mono (by simp))⟩




end Go.Proofs.YtjbdamedofgdgabDoor
