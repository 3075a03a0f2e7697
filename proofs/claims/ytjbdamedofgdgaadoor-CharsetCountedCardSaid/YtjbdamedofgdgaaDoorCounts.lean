/-
  charset.Count, Least, Greatest, Single, Empty, Full, Apart, Within: what each returns, for every set; what lay in memory stays as it was.
-/
import Derived.Test.YtjbdamedofgdgaaDoorBytes
import Derived.Test.YtjbdamedofgdgaaDoorMBits
import Derived.Test.YtjbdamedofgdgaaDoorMLen
namespace Go.Proofs.YtjbdamedofgdgaaDoor
open Go.RowKit
set_option linter.unusedVariables false
set_option linter.unusedSimpArgs false

/-- Are two sets the same, word by word? -/
def eqs (p q : Nat → Bool) : Bool := W p 0 == W q 0 && (W p 1 == W q 1 && (W p 2 == W q 2 && W p 3 == W q 3))
theorem eqs_yes {p q : Nat → Bool} (h : ∀ i, i < 256 → p i = q i) : eqs p q = true := by
  have e : ∀ k, k < 4 → W p k = W q k := fun k hk => W_congr fun i h0 h1 => h i (by omega)
  simp [eqs, e 0 (by omega), e 1 (by omega), e 2 (by omega), e 3 (by omega)]
theorem eqs_same {p q : Nat → Bool} (h : eqs p q = true) : ∀ i, i < 256 → p i = q i := by
  simp only [eqs, Bool.and_eq_true, beq_iff_eq] at h
  intro i hi
  have hk : i / 64 = 0 ∨ i / 64 = 1 ∨ i / 64 = 2 ∨ i / 64 = 3 := by omega
  rcases hk with hk | hk | hk | hk
  · exact W_inj h.1 i (by omega) (by omega)
  · exact W_inj h.2.1 i (by omega) (by omega)
  · exact W_inj h.2.2.1 i (by omega) (by omega)
  · exact W_inj h.2.2.2 i (by omega) (by omega)
theorem eqs_iff {p q : Nat → Bool} : eqs p q = true ↔ ∀ i, i < 256 → p i = q i := ⟨eqs_same, eqs_yes⟩
theorem eqs_emp (p : Nat → Bool) : eqs p emp = decide (cnt p 256 = 0) := by
  rw [Bool.eq_iff_iff, eqs_iff, decide_eq_true_iff]
  exact ⟨fun h => cnt_none h, fun h i hi => cnt_zero h i hi⟩
theorem eqs_neg (p : Nat → Bool) : eqs (neg p) emp = decide (cnt p 256 = 256) := by
  rw [Bool.eq_iff_iff, eqs_iff, decide_eq_true_iff]
  constructor
  · intro h
    exact cnt_all fun i hi => by have := h i hi; simpa [neg, emp] using this
  · intro h i hi
    have := cnt_full h i hi
    simp [neg, emp, this]
theorem eqs_uni (p q : Nat → Bool) : eqs (uni p q) q = decide (cnt (les p q) 256 = 0) := by
  rw [Bool.eq_iff_iff, eqs_iff, decide_eq_true_iff]
  constructor
  · intro h
    exact cnt_none fun i hi => by
      have := h i hi
      simp only [uni, les] at this ⊢
      revert this
      cases p i <;> cases q i <;> simp
  · intro h i hi
    have := cnt_zero h i hi
    simp only [uni, les] at this ⊢
    revert this
    cases p i <;> cases q i <;> simp
theorem eq_sets (p q : Nat → Bool) (w : World) :
    Sem.run Tryd.prog (Op.equalIn 10000 24 (.agg #[.int .u64 (W p 0), .int .u64 (W p 1), .int .u64 (W p 2), .int .u64 (W p 3)]) (.agg #[.int .u64 (W q 0), .int .u64 (W q 1), .int .u64 (W q 2), .int .u64 (W q 3)])) w = .ok (eqs p q) w := eq_set _ _ _ _ _ _ _ _ w
theorem eq_zero (p : Nat → Bool) (w : World) :
    Sem.run Tryd.prog (Op.equalIn 10000 24 (.agg #[.int .u64 (W p 0), .int .u64 (W p 1), .int .u64 (W p 2), .int .u64 (W p 3)]) (.agg #[.int .u64 0, .int .u64 0, .int .u64 0, .int .u64 0])) w = .ok (eqs p emp) w := by
  have h := eq_sets p emp w
  rw [W_emp, W_emp, W_emp, W_emp] at h
  exact h
theorem ones_W (p : Nat → Bool) (k n : Nat) (h : cnt (fun i => p (64 * k + i)) 64 = n) (w : World) :
    Calls Tryd.prog 37 #[.int .u64 (W p k)] w fun e w' => e = .returned (.int .i64 (n : Int)) ∧ w' = w := by
  rw [← h]; exact ones_any _ w

theorem idx4_0 (x0 x1 x2 x3 : Value) (w : World) : (Instr.index 24 (.agg #[x0, x1, x2, x3]) (.int .i64 0)).run Tryd.prog w = .ok x0 w := by kernel_rfl
theorem idx4_1 (x0 x1 x2 x3 : Value) (w : World) : (Instr.index 24 (.agg #[x0, x1, x2, x3]) (.int .i64 1)).run Tryd.prog w = .ok x1 w := by kernel_rfl
theorem idx4_2 (x0 x1 x2 x3 : Value) (w : World) : (Instr.index 24 (.agg #[x0, x1, x2, x3]) (.int .i64 2)).run Tryd.prog w = .ok x2 w := by kernel_rfl
theorem idx4_3 (x0 x1 x2 x3 : Value) (w : World) : (Instr.index 24 (.agg #[x0, x1, x2, x3]) (.int .i64 3)).run Tryd.prog w = .ok x3 w := by kernel_rfl
set_option maxHeartbeats 4000000 in
theorem count_any (p : Nat → Bool) (w : World) :
    Calls Tryd.prog 18 #[.agg #[.int .u64 (W p 0), .int .u64 (W p 1), .int .u64 (W p 2), .int .u64 (W p 3)]] w fun e w' => e = .returned (.int .i64 (cnt p 256 : Nat)) ∧ Below w.heap.size w w' := by
  rw [cnt_words p]
  have l0 := cnt_le (fun i => p (64 * 0 + i)) 64
  have c0 := hid (ones_W p 0 _ rfl)
  generalize cnt (fun i => p (64 * 0 + i)) 64 = n0 at *
  have i0 := fun (x0 x1 x2 x3 : Value) => idx4_0 x0 x1 x2 x3
  have l1 := cnt_le (fun i => p (64 * 1 + i)) 64
  have c1 := hid (ones_W p 1 _ rfl)
  generalize cnt (fun i => p (64 * 1 + i)) 64 = n1 at *
  have i1 := fun (x0 x1 x2 x3 : Value) => idx4_1 x0 x1 x2 x3
  have l2 := cnt_le (fun i => p (64 * 2 + i)) 64
  have c2 := hid (ones_W p 2 _ rfl)
  generalize cnt (fun i => p (64 * 2 + i)) 64 = n2 at *
  have i2 := fun (x0 x1 x2 x3 : Value) => idx4_2 x0 x1 x2 x3
  have l3 := cnt_le (fun i => p (64 * 3 + i)) 64
  have c3 := hid (ones_W p 3 _ rfl)
  generalize cnt (fun i => p (64 * 3 + i)) 64 = n3 at *
  have i3 := fun (x0 x1 x2 x3 : Value) => idx4_3 x0 x1 x2 x3
  go_enter Tryd.func18, Tryd.ntmps18
  go_wp2
  refine wp_loop_rounds 5 ?_
  iterate 5
    rw [rounds_succ]
    go_wp2_with (first | (go_at_call 37; with_reducible refine Calls.mono (c0.out _) ?_; rintro e w' ⟨rfl, rfl⟩) | (go_at_call 37; with_reducible refine Calls.mono (c1.out _) ?_; rintro e w' ⟨rfl, rfl⟩) | (go_at_call 37; with_reducible refine Calls.mono (c2.out _) ?_; rintro e w' ⟨rfl, rfl⟩) | (go_at_call 37; with_reducible refine Calls.mono (c3.out _) ?_; rintro e w' ⟨rfl, rfl⟩))
  go_ret
  exact ⟨congrArg (fun z => Ending.returned (.int .i64 z)) (by omega), (Below.refl _ _).alloc (Nat.le_refl _) _⟩


theorem W_zero {p : Nat → Bool} {k : Nat} (h : ∀ i, i < 64 → p (64 * k + i) = false) : (W p k != 0) = false := by
  have := (Wn_zero_iff p k).2 h
  simp [W, this]
theorem W_some {p : Nat → Bool} {k i : Nat} (hi : i < 64) (h : p (64 * k + i) = true) : (W p k != 0) = true := by
  have : Wn p k ≠ 0 := fun e => by
    have := (Wn_zero_iff p k).1 e i hi
    rw [h] at this
    cases this
  simp only [W, bne_iff_ne, ne_eq]
  omega

theorem tz_W (p : Nat → Bool) (k i : Nat) (hi : i < 64) (hp : p (64 * k + i) = true) (hl : ∀ j, j < i → p (64 * k + j) = false) (w : World) (hT : TabOk w) :
    Calls Tryd.prog 35 #[.int .u64 (W p k)] w fun e w' => e = .returned (.int .i64 (i : Int)) ∧ w' = w :=
  tz_any (Wn p k) i (by rw [Wn_testBit]; simp [hi, hp]) (fun j hj => by rw [Wn_testBit]; simp [hl j hj]) (Wn_lt p k) w hT
theorem high_W {p : Nat → Bool} {k i : Nat} (hi : i < 64) (hp : p (64 * k + i) = true) (hl : ∀ j, i < j → j < 64 → p (64 * k + j) = false) : 2 ^ i ≤ Wn p k ∧ Wn p k < 2 ^ (i + 1) := by
  have hb : (Wn p k).testBit i = true := by rw [Wn_testBit]; simp [hi, hp]
  refine ⟨Nat.ge_two_pow_of_testBit hb, Nat.lt_pow_two_of_testBit _ fun j hj => ?_⟩
  rw [Wn_testBit]
  by_cases h : j < 64
  · simp [hl j (by omega) h]
  · simp [h]
theorem len_W (p : Nat → Bool) (k i : Nat) (hi : i < 64) (hp : p (64 * k + i) = true) (hl : ∀ j, i < j → j < 64 → p (64 * k + j) = false) (w : World) :
    Calls Tryd.prog 36 #[.int .u64 (W p k)] w fun e w' => e = .returned (.int .i64 ((i + 1 : Nat) : Int)) ∧ w' = w :=
  len_any (Wn p k) i hi (high_W hi hp hl).1 (high_W hi hp hl).2 w

set_option maxHeartbeats 4000000 in
theorem least_0 (p : Nat → Bool) (m : Nat) (hk : m / 64 = 0) (hp : p m = true) (hz : ∀ i, i < m → p i = false) (w : World) (hT : TabOk w) :
    Calls Tryd.prog 15 #[.agg #[.int .u64 (W p 0), .int .u64 (W p 1), .int .u64 (W p 2), .int .u64 (W p 3)]] w fun e w' => e = .returned (.tuple #[.int .i64 (m : Int), .bool true]) ∧ Below w.heap.size w w' := by
  obtain ⟨i, rfl⟩ : ∃ i, m = 64 * 0 + i := ⟨m - 64 * 0, by omega⟩
  have hi : i < 64 := by omega
  have z0 : (W p 0 != 0) = true := W_some hi hp
  have hc := hid (fun w hT => tz_W p 0 i hi hp (fun j hj => hz _ (by omega)) w hT)
  have hT1 := hid (hT.below ((Below.refl w.heap.size w).alloc (Nat.le_refl _) (.cells #[.int .u64 (W p 0), .int .u64 (W p 1), .int .u64 (W p 2), .int .u64 (W p 3)] 24)) hT.1)
  have hi2 : (i : Int) < 64 := by omega
  clear hk hp
  clear hz
  have i0 := fun (x0 x1 x2 x3 : Value) => idx4_0 x0 x1 x2 x3
  have i1 := fun (x0 x1 x2 x3 : Value) => idx4_1 x0 x1 x2 x3
  have i2 := fun (x0 x1 x2 x3 : Value) => idx4_2 x0 x1 x2 x3
  have i3 := fun (x0 x1 x2 x3 : Value) => idx4_3 x0 x1 x2 x3
  go_enter Tryd.func15, Tryd.ntmps15
  go_wp2
  refine wp_loop_rounds 5 ?_
  rw [rounds_succ]
  go_wp2_with ((go_at_call 35; with_reducible refine Calls.mono (hc.out _ hT1.out) ?_; rintro e w' ⟨rfl, rfl⟩))
  go_ret2
  exact ⟨congrArg (fun z => Ending.returned (.tuple #[.int .i64 z, .bool true])) (by omega), (Below.refl _ _).alloc (Nat.le_refl _) _⟩
set_option maxHeartbeats 4000000 in
theorem least_1 (p : Nat → Bool) (m : Nat) (hk : m / 64 = 1) (hp : p m = true) (hz : ∀ i, i < m → p i = false) (w : World) (hT : TabOk w) :
    Calls Tryd.prog 15 #[.agg #[.int .u64 (W p 0), .int .u64 (W p 1), .int .u64 (W p 2), .int .u64 (W p 3)]] w fun e w' => e = .returned (.tuple #[.int .i64 (m : Int), .bool true]) ∧ Below w.heap.size w w' := by
  have z0 : (W p 0 != 0) = false := W_zero fun i hi => hz _ (by omega)
  obtain ⟨i, rfl⟩ : ∃ i, m = 64 * 1 + i := ⟨m - 64 * 1, by omega⟩
  have hi : i < 64 := by omega
  have z1 : (W p 1 != 0) = true := W_some hi hp
  have hc := hid (fun w hT => tz_W p 1 i hi hp (fun j hj => hz _ (by omega)) w hT)
  have hT1 := hid (hT.below ((Below.refl w.heap.size w).alloc (Nat.le_refl _) (.cells #[.int .u64 (W p 0), .int .u64 (W p 1), .int .u64 (W p 2), .int .u64 (W p 3)] 24)) hT.1)
  have hi2 : (i : Int) < 64 := by omega
  clear hk hp
  clear hz
  have i0 := fun (x0 x1 x2 x3 : Value) => idx4_0 x0 x1 x2 x3
  have i1 := fun (x0 x1 x2 x3 : Value) => idx4_1 x0 x1 x2 x3
  have i2 := fun (x0 x1 x2 x3 : Value) => idx4_2 x0 x1 x2 x3
  have i3 := fun (x0 x1 x2 x3 : Value) => idx4_3 x0 x1 x2 x3
  go_enter Tryd.func15, Tryd.ntmps15
  go_wp2
  refine wp_loop_rounds 5 ?_
  rw [rounds_succ]
  go_wp2_with ((go_at_call 35; with_reducible refine Calls.mono (hc.out _ hT1.out) ?_; rintro e w' ⟨rfl, rfl⟩))
  rw [rounds_succ]
  go_wp2_with ((go_at_call 35; with_reducible refine Calls.mono (hc.out _ hT1.out) ?_; rintro e w' ⟨rfl, rfl⟩))
  go_ret2
  exact ⟨congrArg (fun z => Ending.returned (.tuple #[.int .i64 z, .bool true])) (by omega), (Below.refl _ _).alloc (Nat.le_refl _) _⟩
set_option maxHeartbeats 4000000 in
theorem least_2 (p : Nat → Bool) (m : Nat) (hk : m / 64 = 2) (hp : p m = true) (hz : ∀ i, i < m → p i = false) (w : World) (hT : TabOk w) :
    Calls Tryd.prog 15 #[.agg #[.int .u64 (W p 0), .int .u64 (W p 1), .int .u64 (W p 2), .int .u64 (W p 3)]] w fun e w' => e = .returned (.tuple #[.int .i64 (m : Int), .bool true]) ∧ Below w.heap.size w w' := by
  have z0 : (W p 0 != 0) = false := W_zero fun i hi => hz _ (by omega)
  have z1 : (W p 1 != 0) = false := W_zero fun i hi => hz _ (by omega)
  obtain ⟨i, rfl⟩ : ∃ i, m = 64 * 2 + i := ⟨m - 64 * 2, by omega⟩
  have hi : i < 64 := by omega
  have z2 : (W p 2 != 0) = true := W_some hi hp
  have hc := hid (fun w hT => tz_W p 2 i hi hp (fun j hj => hz _ (by omega)) w hT)
  have hT1 := hid (hT.below ((Below.refl w.heap.size w).alloc (Nat.le_refl _) (.cells #[.int .u64 (W p 0), .int .u64 (W p 1), .int .u64 (W p 2), .int .u64 (W p 3)] 24)) hT.1)
  have hi2 : (i : Int) < 64 := by omega
  clear hk hp
  clear hz
  have i0 := fun (x0 x1 x2 x3 : Value) => idx4_0 x0 x1 x2 x3
  have i1 := fun (x0 x1 x2 x3 : Value) => idx4_1 x0 x1 x2 x3
  have i2 := fun (x0 x1 x2 x3 : Value) => idx4_2 x0 x1 x2 x3
  have i3 := fun (x0 x1 x2 x3 : Value) => idx4_3 x0 x1 x2 x3
  go_enter Tryd.func15, Tryd.ntmps15
  go_wp2
  refine wp_loop_rounds 5 ?_
  rw [rounds_succ]
  go_wp2_with ((go_at_call 35; with_reducible refine Calls.mono (hc.out _ hT1.out) ?_; rintro e w' ⟨rfl, rfl⟩))
  rw [rounds_succ]
  go_wp2_with ((go_at_call 35; with_reducible refine Calls.mono (hc.out _ hT1.out) ?_; rintro e w' ⟨rfl, rfl⟩))
  rw [rounds_succ]
  go_wp2_with ((go_at_call 35; with_reducible refine Calls.mono (hc.out _ hT1.out) ?_; rintro e w' ⟨rfl, rfl⟩))
  go_ret2
  exact ⟨congrArg (fun z => Ending.returned (.tuple #[.int .i64 z, .bool true])) (by omega), (Below.refl _ _).alloc (Nat.le_refl _) _⟩
set_option maxHeartbeats 4000000 in
theorem least_3 (p : Nat → Bool) (m : Nat) (hk : m / 64 = 3) (hp : p m = true) (hz : ∀ i, i < m → p i = false) (w : World) (hT : TabOk w) :
    Calls Tryd.prog 15 #[.agg #[.int .u64 (W p 0), .int .u64 (W p 1), .int .u64 (W p 2), .int .u64 (W p 3)]] w fun e w' => e = .returned (.tuple #[.int .i64 (m : Int), .bool true]) ∧ Below w.heap.size w w' := by
  have z0 : (W p 0 != 0) = false := W_zero fun i hi => hz _ (by omega)
  have z1 : (W p 1 != 0) = false := W_zero fun i hi => hz _ (by omega)
  have z2 : (W p 2 != 0) = false := W_zero fun i hi => hz _ (by omega)
  obtain ⟨i, rfl⟩ : ∃ i, m = 64 * 3 + i := ⟨m - 64 * 3, by omega⟩
  have hi : i < 64 := by omega
  have z3 : (W p 3 != 0) = true := W_some hi hp
  have hc := hid (fun w hT => tz_W p 3 i hi hp (fun j hj => hz _ (by omega)) w hT)
  have hT1 := hid (hT.below ((Below.refl w.heap.size w).alloc (Nat.le_refl _) (.cells #[.int .u64 (W p 0), .int .u64 (W p 1), .int .u64 (W p 2), .int .u64 (W p 3)] 24)) hT.1)
  have hi2 : (i : Int) < 64 := by omega
  clear hk hp
  clear hz
  have i0 := fun (x0 x1 x2 x3 : Value) => idx4_0 x0 x1 x2 x3
  have i1 := fun (x0 x1 x2 x3 : Value) => idx4_1 x0 x1 x2 x3
  have i2 := fun (x0 x1 x2 x3 : Value) => idx4_2 x0 x1 x2 x3
  have i3 := fun (x0 x1 x2 x3 : Value) => idx4_3 x0 x1 x2 x3
  go_enter Tryd.func15, Tryd.ntmps15
  go_wp2
  refine wp_loop_rounds 5 ?_
  rw [rounds_succ]
  go_wp2_with ((go_at_call 35; with_reducible refine Calls.mono (hc.out _ hT1.out) ?_; rintro e w' ⟨rfl, rfl⟩))
  rw [rounds_succ]
  go_wp2_with ((go_at_call 35; with_reducible refine Calls.mono (hc.out _ hT1.out) ?_; rintro e w' ⟨rfl, rfl⟩))
  rw [rounds_succ]
  go_wp2_with ((go_at_call 35; with_reducible refine Calls.mono (hc.out _ hT1.out) ?_; rintro e w' ⟨rfl, rfl⟩))
  rw [rounds_succ]
  go_wp2_with ((go_at_call 35; with_reducible refine Calls.mono (hc.out _ hT1.out) ?_; rintro e w' ⟨rfl, rfl⟩))
  go_ret2
  exact ⟨congrArg (fun z => Ending.returned (.tuple #[.int .i64 z, .bool true])) (by omega), (Below.refl _ _).alloc (Nat.le_refl _) _⟩
set_option maxHeartbeats 4000000 in
theorem least_none (p : Nat → Bool) (hz : ∀ i, i < 256 → p i = false) (w : World) :
    Calls Tryd.prog 15 #[.agg #[.int .u64 (W p 0), .int .u64 (W p 1), .int .u64 (W p 2), .int .u64 (W p 3)]] w fun e w' => e = .returned (.tuple #[.int .i64 0, .bool false]) ∧ Below w.heap.size w w' := by
  have z0 : (W p 0 != 0) = false := W_zero fun i hi => hz _ (by omega)
  have z1 : (W p 1 != 0) = false := W_zero fun i hi => hz _ (by omega)
  have z2 : (W p 2 != 0) = false := W_zero fun i hi => hz _ (by omega)
  have z3 : (W p 3 != 0) = false := W_zero fun i hi => hz _ (by omega)
  clear hz
  have i0 := fun (x0 x1 x2 x3 : Value) => idx4_0 x0 x1 x2 x3
  have i1 := fun (x0 x1 x2 x3 : Value) => idx4_1 x0 x1 x2 x3
  have i2 := fun (x0 x1 x2 x3 : Value) => idx4_2 x0 x1 x2 x3
  have i3 := fun (x0 x1 x2 x3 : Value) => idx4_3 x0 x1 x2 x3
  go_enter Tryd.func15, Tryd.ntmps15
  go_wp2
  refine wp_loop_rounds 5 ?_
  rw [rounds_succ]
  go_wp2
  rw [rounds_succ]
  go_wp2
  rw [rounds_succ]
  go_wp2
  rw [rounds_succ]
  go_wp2
  rw [rounds_succ]
  go_wp2
  go_ret2
  exact ⟨rfl, (Below.refl _ _).alloc (Nat.le_refl _) _⟩
theorem least_some (p : Nat → Bool) (m : Nat) (hm : m < 256) (hp : p m = true) (hz : ∀ i, i < m → p i = false) (w : World) (hT : TabOk w) :
    Calls Tryd.prog 15 #[.agg #[.int .u64 (W p 0), .int .u64 (W p 1), .int .u64 (W p 2), .int .u64 (W p 3)]] w fun e w' => e = .returned (.tuple #[.int .i64 (m : Int), .bool true]) ∧ Below w.heap.size w w' := by
  have hk : m / 64 = 0 ∨ m / 64 = 1 ∨ m / 64 = 2 ∨ m / 64 = 3 := by omega
  rcases hk with hk | hk | hk | hk
  · exact least_0 p m hk hp hz w hT
  · exact least_1 p m hk hp hz w hT
  · exact least_2 p m hk hp hz w hT
  · exact least_3 p m hk hp hz w hT

set_option maxHeartbeats 4000000 in
theorem most_none (p : Nat → Bool) (hz : ∀ i, i < 256 → p i = false) (w : World) :
    Calls Tryd.prog 16 #[.agg #[.int .u64 (W p 0), .int .u64 (W p 1), .int .u64 (W p 2), .int .u64 (W p 3)]] w fun e w' => e = .returned (.tuple #[.int .i64 0, .bool false]) ∧ Below w.heap.size w w' := by
  have z3 : (W p 3 != 0) = false := W_zero fun i hi => hz _ (by omega)
  have z2 : (W p 2 != 0) = false := W_zero fun i hi => hz _ (by omega)
  have z1 : (W p 1 != 0) = false := W_zero fun i hi => hz _ (by omega)
  have z0 : (W p 0 != 0) = false := W_zero fun i hi => hz _ (by omega)
  clear hz
  go_enter Tryd.func16, Tryd.ntmps16
  go_wp2
  refine wp_loop_rounds 5 ?_
  rw [rounds_succ]
  go_wp2
  rw [rounds_succ]
  go_wp2
  rw [rounds_succ]
  go_wp2
  rw [rounds_succ]
  go_wp2
  rw [rounds_succ]
  go_wp2
  go_ret2
  exact ⟨rfl, (Below.refl _ _).alloc (Nat.le_refl _) _⟩
set_option maxHeartbeats 4000000 in
theorem most_0 (p : Nat → Bool) (m : Nat) (hk : m / 64 = 0) (hp : p m = true) (hz : ∀ i, m < i → i < 256 → p i = false) (w : World) :
    Calls Tryd.prog 16 #[.agg #[.int .u64 (W p 0), .int .u64 (W p 1), .int .u64 (W p 2), .int .u64 (W p 3)]] w fun e w' => e = .returned (.tuple #[.int .i64 (m : Int), .bool true]) ∧ Below w.heap.size w w' := by
  have z3 : (W p 3 != 0) = false := W_zero fun i hi => hz _ (by omega) (by omega)
  have z2 : (W p 2 != 0) = false := W_zero fun i hi => hz _ (by omega) (by omega)
  have z1 : (W p 1 != 0) = false := W_zero fun i hi => hz _ (by omega) (by omega)
  obtain ⟨i, rfl⟩ : ∃ i, m = 64 * 0 + i := ⟨m - 64 * 0, by omega⟩
  have hi : i < 64 := by omega
  have z0 : (W p 0 != 0) = true := W_some hi hp
  have hc := hid (fun w => len_W p 0 i hi hp (fun j hj hj2 => hz _ (by omega) (by omega)) w)
  have hi2 : (i : Int) < 64 := by omega
  clear hk hp
  clear hz
  go_enter Tryd.func16, Tryd.ntmps16
  go_wp2
  refine wp_loop_rounds 5 ?_
  rw [rounds_succ]
  go_wp2_with ((go_at_call 36; with_reducible refine Calls.mono (hc.out _) ?_; rintro e w' ⟨rfl, rfl⟩))
  rw [rounds_succ]
  go_wp2_with ((go_at_call 36; with_reducible refine Calls.mono (hc.out _) ?_; rintro e w' ⟨rfl, rfl⟩))
  rw [rounds_succ]
  go_wp2_with ((go_at_call 36; with_reducible refine Calls.mono (hc.out _) ?_; rintro e w' ⟨rfl, rfl⟩))
  rw [rounds_succ]
  go_wp2_with ((go_at_call 36; with_reducible refine Calls.mono (hc.out _) ?_; rintro e w' ⟨rfl, rfl⟩))
  go_ret2
  exact ⟨congrArg (fun z => Ending.returned (.tuple #[.int .i64 z, .bool true])) (by omega), (Below.refl _ _).alloc (Nat.le_refl _) _⟩
set_option maxHeartbeats 4000000 in
theorem most_1 (p : Nat → Bool) (m : Nat) (hk : m / 64 = 1) (hp : p m = true) (hz : ∀ i, m < i → i < 256 → p i = false) (w : World) :
    Calls Tryd.prog 16 #[.agg #[.int .u64 (W p 0), .int .u64 (W p 1), .int .u64 (W p 2), .int .u64 (W p 3)]] w fun e w' => e = .returned (.tuple #[.int .i64 (m : Int), .bool true]) ∧ Below w.heap.size w w' := by
  have z3 : (W p 3 != 0) = false := W_zero fun i hi => hz _ (by omega) (by omega)
  have z2 : (W p 2 != 0) = false := W_zero fun i hi => hz _ (by omega) (by omega)
  obtain ⟨i, rfl⟩ : ∃ i, m = 64 * 1 + i := ⟨m - 64 * 1, by omega⟩
  have hi : i < 64 := by omega
  have z1 : (W p 1 != 0) = true := W_some hi hp
  have hc := hid (fun w => len_W p 1 i hi hp (fun j hj hj2 => hz _ (by omega) (by omega)) w)
  have hi2 : (i : Int) < 64 := by omega
  clear hk hp
  clear hz
  go_enter Tryd.func16, Tryd.ntmps16
  go_wp2
  refine wp_loop_rounds 5 ?_
  rw [rounds_succ]
  go_wp2_with ((go_at_call 36; with_reducible refine Calls.mono (hc.out _) ?_; rintro e w' ⟨rfl, rfl⟩))
  rw [rounds_succ]
  go_wp2_with ((go_at_call 36; with_reducible refine Calls.mono (hc.out _) ?_; rintro e w' ⟨rfl, rfl⟩))
  rw [rounds_succ]
  go_wp2_with ((go_at_call 36; with_reducible refine Calls.mono (hc.out _) ?_; rintro e w' ⟨rfl, rfl⟩))
  go_ret2
  exact ⟨congrArg (fun z => Ending.returned (.tuple #[.int .i64 z, .bool true])) (by omega), (Below.refl _ _).alloc (Nat.le_refl _) _⟩
set_option maxHeartbeats 4000000 in
theorem most_2 (p : Nat → Bool) (m : Nat) (hk : m / 64 = 2) (hp : p m = true) (hz : ∀ i, m < i → i < 256 → p i = false) (w : World) :
    Calls Tryd.prog 16 #[.agg #[.int .u64 (W p 0), .int .u64 (W p 1), .int .u64 (W p 2), .int .u64 (W p 3)]] w fun e w' => e = .returned (.tuple #[.int .i64 (m : Int), .bool true]) ∧ Below w.heap.size w w' := by
  have z3 : (W p 3 != 0) = false := W_zero fun i hi => hz _ (by omega) (by omega)
  obtain ⟨i, rfl⟩ : ∃ i, m = 64 * 2 + i := ⟨m - 64 * 2, by omega⟩
  have hi : i < 64 := by omega
  have z2 : (W p 2 != 0) = true := W_some hi hp
  have hc := hid (fun w => len_W p 2 i hi hp (fun j hj hj2 => hz _ (by omega) (by omega)) w)
  have hi2 : (i : Int) < 64 := by omega
  clear hk hp
  clear hz
  go_enter Tryd.func16, Tryd.ntmps16
  go_wp2
  refine wp_loop_rounds 5 ?_
  rw [rounds_succ]
  go_wp2_with ((go_at_call 36; with_reducible refine Calls.mono (hc.out _) ?_; rintro e w' ⟨rfl, rfl⟩))
  rw [rounds_succ]
  go_wp2_with ((go_at_call 36; with_reducible refine Calls.mono (hc.out _) ?_; rintro e w' ⟨rfl, rfl⟩))
  go_ret2
  exact ⟨congrArg (fun z => Ending.returned (.tuple #[.int .i64 z, .bool true])) (by omega), (Below.refl _ _).alloc (Nat.le_refl _) _⟩
set_option maxHeartbeats 4000000 in
theorem most_3 (p : Nat → Bool) (m : Nat) (hk : m / 64 = 3) (hp : p m = true) (hz : ∀ i, m < i → i < 256 → p i = false) (w : World) :
    Calls Tryd.prog 16 #[.agg #[.int .u64 (W p 0), .int .u64 (W p 1), .int .u64 (W p 2), .int .u64 (W p 3)]] w fun e w' => e = .returned (.tuple #[.int .i64 (m : Int), .bool true]) ∧ Below w.heap.size w w' := by
  obtain ⟨i, rfl⟩ : ∃ i, m = 64 * 3 + i := ⟨m - 64 * 3, by omega⟩
  have hi : i < 64 := by omega
  have z3 : (W p 3 != 0) = true := W_some hi hp
  have hc := hid (fun w => len_W p 3 i hi hp (fun j hj hj2 => hz _ (by omega) (by omega)) w)
  have hi2 : (i : Int) < 64 := by omega
  clear hk hp
  clear hz
  go_enter Tryd.func16, Tryd.ntmps16
  go_wp2
  refine wp_loop_rounds 5 ?_
  rw [rounds_succ]
  go_wp2_with ((go_at_call 36; with_reducible refine Calls.mono (hc.out _) ?_; rintro e w' ⟨rfl, rfl⟩))
  go_ret2
  exact ⟨congrArg (fun z => Ending.returned (.tuple #[.int .i64 z, .bool true])) (by omega), (Below.refl _ _).alloc (Nat.le_refl _) _⟩
theorem most_some (p : Nat → Bool) (m : Nat) (hm : m < 256) (hp : p m = true) (hz : ∀ i, m < i → i < 256 → p i = false) (w : World) :
    Calls Tryd.prog 16 #[.agg #[.int .u64 (W p 0), .int .u64 (W p 1), .int .u64 (W p 2), .int .u64 (W p 3)]] w fun e w' => e = .returned (.tuple #[.int .i64 (m : Int), .bool true]) ∧ Below w.heap.size w w' := by
  have hk : m / 64 = 0 ∨ m / 64 = 1 ∨ m / 64 = 2 ∨ m / 64 = 3 := by omega
  rcases hk with hk | hk | hk | hk
  · exact most_0 p m hk hp hz w
  · exact most_1 p m hk hp hz w
  · exact most_2 p m hk hp hz w
  · exact most_3 p m hk hp hz w

set_option maxHeartbeats 2000000 in
theorem empty_any (p : Nat → Bool) (w : World) :
    Calls Tryd.prog 22 #[.agg #[.int .u64 (W p 0), .int .u64 (W p 1), .int .u64 (W p 2), .int .u64 (W p 3)]] w fun e w' => e = .returned (.bool (decide (cnt p 256 = 0))) ∧ Below w.heap.size w w' := by
  rw [← eqs_emp]
  have hz := fun w => eq_zero p w
  go_enter Tryd.func22, Tryd.ntmps22
  go_wp2
  go_ret
  exact ⟨rfl, (Below.refl _ _).alloc (Nat.le_refl _) _⟩

set_option maxHeartbeats 2000000 in
theorem full_any (p : Nat → Bool) (w : World) :
    Calls Tryd.prog 23 #[.agg #[.int .u64 (W p 0), .int .u64 (W p 1), .int .u64 (W p 2), .int .u64 (W p 3)]] w fun e w' => e = .returned (.bool (decide (cnt p 256 = 256))) ∧ Below w.heap.size w w' := by
  rw [← eqs_neg]
  have hz := fun w => eq_zero (neg p) w
  go_enter Tryd.func23, Tryd.ntmps23
  go_wp2_with ((go_at_call 29; with_reducible refine Calls.mono (not_any p _) ?_; rintro e w1 ⟨rfl, hb1⟩))
  go_ret
  exact ⟨rfl, ((Below.refl _ _).alloc (Nat.le_refl _) _).trans (hb1.mono (by simp))⟩

set_option maxHeartbeats 2000000 in
theorem apart_any (p q : Nat → Bool) (w : World) :
    Calls Tryd.prog 24 #[.agg #[.int .u64 (W p 0), .int .u64 (W p 1), .int .u64 (W p 2), .int .u64 (W p 3)], .agg #[.int .u64 (W q 0), .int .u64 (W q 1), .int .u64 (W q 2), .int .u64 (W q 3)]] w fun e w' => e = .returned (.bool (decide (cnt (mee p q) 256 = 0))) ∧ Below w.heap.size w w' := by
  rw [← eqs_emp]
  have hz := fun w => eq_zero (mee p q) w
  go_enter Tryd.func24, Tryd.ntmps24
  go_wp2_with ((go_at_call 28; with_reducible refine Calls.mono (meet_any p q _) ?_; rintro e w1 ⟨rfl, hb1⟩))
  go_ret
  exact ⟨rfl, (((Below.refl _ _).alloc (Nat.le_refl _) _).alloc (by simp) _).trans (hb1.mono (by simp; omega))⟩

set_option maxHeartbeats 2000000 in
theorem within_any (p q : Nat → Bool) (w : World) :
    Calls Tryd.prog 25 #[.agg #[.int .u64 (W p 0), .int .u64 (W p 1), .int .u64 (W p 2), .int .u64 (W p 3)], .agg #[.int .u64 (W q 0), .int .u64 (W q 1), .int .u64 (W q 2), .int .u64 (W q 3)]] w fun e w' => e = .returned (.bool (decide (cnt (les p q) 256 = 0))) ∧ Below w.heap.size w w' := by
  rw [← eqs_uni]
  have hz := fun w => eq_sets (uni p q) q w
  have hB := ((Below.refl w.heap.size w).alloc (Nat.le_refl _) (.cells #[.int .u64 (W p 0), .int .u64 (W p 1), .int .u64 (W p 2), .int .u64 (W p 3)] 24)).alloc (by simp) (.cells #[.int .u64 (W q 0), .int .u64 (W q 1), .int .u64 (W q 2), .int .u64 (W q 3)] 24)
  have h0 := alloc_old (y := .cells #[.int .u64 (W q 0), .int .u64 (W q 1), .int .u64 (W q 2), .int .u64 (W q 3)] 24) (alloc_new w (.cells #[.int .u64 (W p 0), .int .u64 (W p 1), .int .u64 (W p 2), .int .u64 (W p 3)] 24))
  have h1 := (by have h := alloc_new (w.alloc (.cells #[.int .u64 (W p 0), .int .u64 (W p 1), .int .u64 (W p 2), .int .u64 (W p 3)] 24)) (.cells #[.int .u64 (W q 0), .int .u64 (W q 1), .int .u64 (W q 2), .int .u64 (W q 3)] 24); simpa using h : ((w.alloc (.cells #[.int .u64 (W p 0), .int .u64 (W p 1), .int .u64 (W p 2), .int .u64 (W p 3)] 24)).alloc (.cells #[.int .u64 (W q 0), .int .u64 (W q 1), .int .u64 (W q 2), .int .u64 (W q 3)] 24)).heap[w.heap.size + 1]? = some (.cells #[.int .u64 (W q 0), .int .u64 (W q 1), .int .u64 (W q 2), .int .u64 (W q 3)] 24))
  go_enter Tryd.func25, Tryd.ntmps25
  go_wp2
  generalize (w.alloc (.cells #[.int .u64 (W p 0), .int .u64 (W p 1), .int .u64 (W p 2), .int .u64 (W p 3)] 24)).alloc (.cells #[.int .u64 (W q 0), .int .u64 (W q 1), .int .u64 (W q 2), .int .u64 (W q 3)] 24) = w0 at *
  have l0 := grow_cell h0 (block_lt h0)
  have l1 := grow_cell h1 (block_lt h1)
  refine wp_region_grow w0.heap.size (by kernel_rfl) (by kernel_rfl) ?_
  repeat (go_big_quiet_step ((go_at_call 27; with_reducible refine Calls.grow_of (Nat.le_refl _) (union_any p q _); done)))
  refine wpQuiet_nil ?_
  rintro _ ⟨g, rfl⟩
  have hb := hB.trans (g.below.mono hB.size)
  clear l0 l1
  generalize g.val = w1 at *
  go_wp2
  go_ret
  exact ⟨rfl, hb⟩

set_option maxHeartbeats 2000000 in
theorem single_no (p : Nat → Bool) (hn : cnt p 256 ≠ 1) (w : World) :
    Calls Tryd.prog 17 #[.agg #[.int .u64 (W p 0), .int .u64 (W p 1), .int .u64 (W p 2), .int .u64 (W p 3)]] w fun e w' => e = .returned (.tuple #[.int .i64 0, .bool false]) ∧ Below w.heap.size w w' := by
  have hc := hid (count_any p)
  generalize cnt p 256 = n at *
  have hb : (((n : Int)) != 1) = true := by rw [bne_iff_ne]; omega
  clear hn
  go_enter Tryd.func17, Tryd.ntmps17
  go_wp2_with ((go_at_call 18; with_reducible refine Calls.mono (hc.out _) ?_; rintro e w1 ⟨rfl, hb1⟩))
  go_ret2
  exact ⟨rfl, ((Below.refl _ _).alloc (Nat.le_refl _) _).trans (hb1.mono (by simp))⟩
set_option maxHeartbeats 2000000 in
theorem single_yes (p : Nat → Bool) (m : Nat) (hm : m < 256) (hp : p m = true) (hz : ∀ i, i < m → p i = false) (hn : cnt p 256 = 1) (w : World) (hT : TabOk w) :
    Calls Tryd.prog 17 #[.agg #[.int .u64 (W p 0), .int .u64 (W p 1), .int .u64 (W p 2), .int .u64 (W p 3)]] w fun e w' => e = .returned (.tuple #[.int .i64 (m : Int), .bool true]) ∧ Below w.heap.size w w' := by
  have hc := hid (count_any p)
  rw [hn] at hc
  have hl := hid (fun w hT => least_some p m hm hp hz w hT)
  have HT := hid hT
  have hT0 := hid (hT.below ((Below.refl w.heap.size w).alloc (Nat.le_refl _) (.cells #[.int .u64 (W p 0), .int .u64 (W p 1), .int .u64 (W p 2), .int .u64 (W p 3)] 24)) hT.1)
  clear hn hm hp hz hT
  go_enter Tryd.func17, Tryd.ntmps17
  go_wp2_with (first
    | (go_at_call 18; with_reducible refine Calls.mono (hc.out _) ?_; rintro e w1 ⟨rfl, hb1⟩; have hT1 := hid (hT0.out.below hb1 (by simp)); have h1 := below_heap hb1 (b := w.heap.size) (by simp) (alloc_new _ _); have hld := block_cell h1)
    | (go_at_call 15; with_reducible refine Calls.mono (hl.out _ hT1.out) ?_; rintro e w2 ⟨rfl, hb2⟩))
  go_ret2
  exact ⟨rfl, (((Below.refl _ _).alloc (Nat.le_refl _) _).trans (hb1.mono (by simp))).trans (hb2.mono (Nat.le_of_lt (block_lt h1)))⟩

end Go.Proofs.YtjbdamedofgdgaaDoor
