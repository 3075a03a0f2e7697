/-
  How many bits of a word are set, the lowest and the highest of them: plain facts on numbers, for math/bits. No program here.
-/
import Derived.Test.YtjbdamedofgdgaaDoorSets
namespace Go.Proofs.YtjbdamedofgdgaaDoor
open Go.RowKit
set_option linter.unusedVariables false
set_option linter.unusedSimpArgs false

/-! ### Numbers by their digits -/
def val (B : Nat) : Nat → (Nat → Nat) → Nat
  | 0, _ => 0
  | n + 1, f => f 0 + B * val B n (fun i => f (i + 1))

theorem val_congr (B : Nat) : ∀ (n : Nat) {f g : Nat → Nat}, (∀ i, i < n → f i = g i) → val B n f = val B n g
  | 0, _, _, _ => rfl
  | n + 1, f, g, h => by
    simp only [val]
    rw [h 0 (by omega), val_congr B n (fun i hi => h (i + 1) (by omega))]
theorem val_lt (B : Nat) : ∀ (n : Nat) (f : Nat → Nat), (∀ i, i < n → f i < B) → val B n f < B ^ n
  | 0, _, _ => by simp [val]
  | n + 1, f, h => by
    have h0 := h 0 (by omega)
    have ih := val_lt B n (fun i => f (i + 1)) (fun i hi => h (i + 1) (by omega))
    simp only [val]
    have : B * val B n (fun i => f (i + 1)) + B ≤ B * B ^ n := by rw [← Nat.mul_succ]; exact Nat.mul_le_mul_left _ ih
    rw [Nat.pow_succ, Nat.mul_comm (B ^ n)]
    omega
theorem val_add (B : Nat) : ∀ (n : Nat) (f g : Nat → Nat), val B n f + val B n g = val B n (fun i => f i + g i)
  | 0, _, _ => rfl
  | n + 1, f, g => by
    simp only [val]
    rw [← val_add B n, Nat.mul_add]
    omega
theorem val_snoc (B : Nat) : ∀ (n : Nat) (f : Nat → Nat), val B (n + 1) f = val B n f + B ^ n * f n
  | 0, f => by simp [val]
  | n + 1, f => by
    rw [val, val_snoc B n (fun i => f (i + 1)), val, Nat.mul_add, ← Nat.mul_assoc, Nat.pow_succ, Nat.mul_comm B (B ^ n)]
    omega
theorem val_pair (B : Nat) : ∀ (n : Nat) (f : Nat → Nat), val B (2 * n) f = val (B * B) n (fun i => f (2 * i) + B * f (2 * i + 1))
  | 0, _ => rfl
  | n + 1, f => by
    have h : val B (2 * (n + 1)) f = f 0 + B * (f 1 + B * val B (2 * n) (fun i => f (i + 1 + 1))) := rfl
    rw [h, val_pair B n (fun i => f (i + 1 + 1)), val, Nat.mul_add, ← Nat.mul_assoc]
    have e : val (B * B) n (fun i => f (2 * i + 1 + 1) + B * f (2 * i + 1 + 1 + 1)) = val (B * B) n (fun i => f (2 * (i + 1)) + B * f (2 * (i + 1) + 1)) :=
      val_congr _ _ fun i _ => by rw [show 2 * (i + 1) = 2 * i + 1 + 1 by omega]
    rw [e]
    show f 0 + (B * f 1 + _) = f 0 + B * f 1 + _
    omega
/-- Shifted by one digit. -/
theorem val_shift {B n : Nat} {f : Nat → Nat} (hB : 0 < B) (h0 : f 0 < B) (hn : f n = 0) : val B n f / B = val B n (fun i => f (i + 1)) := by
  cases n with
  | zero => simp [val]
  | succ n =>
    rw [val_snoc B n (fun i => f (i + 1)), hn, Nat.mul_zero, Nat.add_zero, val, Nat.add_mul_div_left _ _ hB, Nat.div_eq_of_lt h0, Nat.zero_add]
    simp
theorem and_split {k a b x y : Nat} (ha : a < 2 ^ k) (hb : b < 2 ^ k) : (a + 2 ^ k * x) &&& (b + 2 ^ k * y) = (a &&& b) + 2 ^ k * (x &&& y) := by
  apply Nat.eq_of_testBit_eq
  intro j
  have hc : (a &&& b) < 2 ^ k := Nat.lt_of_le_of_lt Nat.and_le_left ha
  rw [Nat.testBit_and, Nat.add_comm a, Nat.add_comm b, Nat.add_comm (a &&& b), Nat.testBit_two_pow_mul_add _ ha, Nat.testBit_two_pow_mul_add _ hb, Nat.testBit_two_pow_mul_add _ hc]
  split <;> rw [Nat.testBit_and]
theorem val_and (k : Nat) : ∀ (n : Nat) (f g : Nat → Nat), (∀ i, i < n → f i < 2 ^ k) → (∀ i, i < n → g i < 2 ^ k) → val (2 ^ k) n f &&& val (2 ^ k) n g = val (2 ^ k) n (fun i => f i &&& g i)
  | 0, _, _, _, _ => by simp [val]
  | n + 1, f, g, hf, hg => by
    simp only [val]
    rw [and_split (hf 0 (by omega)) (hg 0 (by omega)), val_and k n _ _ (fun i hi => hf (i + 1) (by omega)) (fun i hi => hg (i + 1) (by omega))]
/-- The even digits alone: a mask of the lower halves. -/
theorem val_even {k n : Nat} {c : Nat → Nat} (hc : ∀ i, c i < 2 ^ k) : val (2 ^ k) (2 * n) c &&& val (2 ^ (k + k)) n (fun _ => 2 ^ k - 1) = val (2 ^ (k + k)) n (fun i => c (2 * i)) := by
  have hp := Nat.two_pow_pos k
  have hq : 2 ^ (k + k) = 2 ^ k * 2 ^ k := Nat.pow_add 2 k k
  have hle : 2 ^ k ≤ 2 ^ k * 2 ^ k := Nat.le_mul_of_pos_right _ hp
  rw [val_pair, ← hq, val_and (k + k)]
  · apply val_congr
    intro i _
    rw [Nat.and_two_pow_sub_one_eq_mod, Nat.add_mul_mod_self_left, Nat.mod_eq_of_lt (hc _)]
  · intro i _
    have h1 := hc (2 * i)
    have h2 : 2 ^ k * c (2 * i + 1) + 2 ^ k ≤ 2 ^ k * 2 ^ k := by rw [← Nat.mul_succ]; exact Nat.mul_le_mul_left _ (hc _)
    omega
  · intro i _
    omega
/-- One step of the count: neighbours are added. -/
theorem val_step {k n : Nat} {c : Nat → Nat} (hc : ∀ i, c i < 2 ^ k) (hz : c (2 * n) = 0) :
    (val (2 ^ k) (2 * n) c / 2 ^ k &&& val (2 ^ (k + k)) n (fun _ => 2 ^ k - 1)) + (val (2 ^ k) (2 * n) c &&& val (2 ^ (k + k)) n (fun _ => 2 ^ k - 1)) =
      val (2 ^ (k + k)) n (fun i => c (2 * i + 1) + c (2 * i)) := by
  rw [val_shift (Nat.two_pow_pos k) (hc 0) hz, val_even (fun i => hc (i + 1)), val_even hc, val_add]

/-! ### The count, as math/bits has it, over natural numbers -/
def onesN (x : Nat) : Nat :=
  let a := (x / 2 &&& 6148914691236517205) + (x &&& 6148914691236517205)
  let b := (a / 4 &&& 3689348814741910323) + (a &&& 3689348814741910323)
  let c := (b / 16 + b) &&& 1085102592571150095
  let d := c + c / 256
  let e := d + d / 65536
  let g := e + e / 4294967296
  g % 128
def cnt (f : Nat → Bool) : Nat → Nat
  | 0 => 0
  | n + 1 => cnt f n + (f n).toNat
theorem wd_val (f : Nat → Bool) : ∀ n, wd f n = val 2 n (fun i => (f i).toNat)
  | 0 => rfl
  | n + 1 => by
    rw [val_snoc, ← wd_val f n, wd]
    cases f n <;> simp
theorem cnt_le (f : Nat → Bool) : ∀ n, cnt f n ≤ n
  | 0 => Nat.le_refl _
  | n + 1 => by
    have := cnt_le f n
    have := (f n).toNat_le
    simp only [cnt]; omega

/-- The stages: what each holds, digit by digit. -/
theorem ones_stages (f : Nat → Bool) (hf : ∀ i, 64 ≤ i → f i = false) :
    ∃ c1 c2 c3 : Nat → Nat,
      (wd f 64 / 2 &&& 6148914691236517205) + (wd f 64 &&& 6148914691236517205) = val 4 32 c1 ∧ (∀ i, c1 i = (f (2 * i + 1)).toNat + (f (2 * i)).toNat) ∧
      (val 4 32 c1 / 4 &&& 3689348814741910323) + (val 4 32 c1 &&& 3689348814741910323) = val 16 16 c2 ∧ (∀ i, c2 i = c1 (2 * i + 1) + c1 (2 * i)) ∧
      ((val 16 16 c2 / 16 + val 16 16 c2) &&& 1085102592571150095) = val 256 8 c3 ∧ (∀ i, c3 i = c2 (2 * i + 1) + c2 (2 * i)) := by
  have hb : ∀ i, (f i).toNat ≤ 1 := fun i => (f i).toNat_le
  refine ⟨fun i => (f (2 * i + 1)).toNat + (f (2 * i)).toNat, fun i => ((f (2 * (2 * i + 1) + 1)).toNat + (f (2 * (2 * i + 1))).toNat) + ((f (2 * (2 * i) + 1)).toNat + (f (2 * (2 * i))).toNat),
    fun i => (((f (2 * (2 * (2 * i + 1) + 1) + 1)).toNat + (f (2 * (2 * (2 * i + 1) + 1))).toNat) + ((f (2 * (2 * (2 * i + 1)) + 1)).toNat + (f (2 * (2 * (2 * i + 1)))).toNat)) +
      (((f (2 * (2 * (2 * i) + 1) + 1)).toNat + (f (2 * (2 * (2 * i) + 1))).toNat) + ((f (2 * (2 * (2 * i)) + 1)).toNat + (f (2 * (2 * (2 * i)))).toNat)), ?_, fun _ => rfl, ?_, fun _ => rfl, ?_, fun _ => rfl⟩
  · rw [wd_val, show (6148914691236517205 : Nat) = val (2 ^ (1 + 1)) 32 (fun _ => 2 ^ 1 - 1) by decide]
    exact val_step (k := 1) (n := 32) (c := fun i => (f i).toNat) (fun i => by have := hb i; omega) (by rw [hf 64 (by omega)]; rfl)
  · rw [show (3689348814741910323 : Nat) = val (2 ^ (2 + 2)) 16 (fun _ => 2 ^ 2 - 1) by decide]
    exact val_step (k := 2) (n := 16) (c := fun i => (f (2 * i + 1)).toNat + (f (2 * i)).toNat) (fun i => by have := hb (2 * i + 1); have := hb (2 * i); omega) (by rw [hf (2 * (2 * 16) + 1) (by omega), hf (2 * (2 * 16)) (by omega)]; rfl)
  · rw [show (1085102592571150095 : Nat) = val (2 ^ (4 + 4)) 8 (fun _ => 2 ^ 4 - 1) by decide]
    have hc : ∀ i, ((f (2 * (2 * i + 1) + 1)).toNat + (f (2 * (2 * i + 1))).toNat) + ((f (2 * (2 * i) + 1)).toNat + (f (2 * (2 * i))).toNat) ≤ 4 := fun i => by
      have := hb (2 * (2 * i + 1) + 1); have := hb (2 * (2 * i + 1)); have := hb (2 * (2 * i) + 1); have := hb (2 * (2 * i)); omega
    have hs := val_shift (B := 16) (n := 16) (f := fun i => ((f (2 * (2 * i + 1) + 1)).toNat + (f (2 * (2 * i + 1))).toNat) + ((f (2 * (2 * i) + 1)).toNat + (f (2 * (2 * i))).toNat)) (by decide) (by have := hc 0; omega)
      (by rw [hf (2 * (2 * 16 + 1) + 1) (by omega), hf (2 * (2 * 16 + 1)) (by omega), hf (2 * (2 * 16) + 1) (by omega), hf (2 * (2 * 16)) (by omega)]; rfl)
    rw [hs, val_add]
    exact val_even (k := 4) (n := 8) (c := fun i => (((f (2 * (2 * (i + 1) + 1) + 1)).toNat + (f (2 * (2 * (i + 1) + 1))).toNat) + ((f (2 * (2 * (i + 1)) + 1)).toNat + (f (2 * (2 * (i + 1)))).toNat)) +
      (((f (2 * (2 * i + 1) + 1)).toNat + (f (2 * (2 * i + 1))).toNat) + ((f (2 * (2 * i) + 1)).toNat + (f (2 * (2 * i))).toNat))) (fun i => by have := hc (i + 1); have := hc i; omega)

theorem val8 (B : Nat) (c : Nat → Nat) : val B 8 c = c 0 + B * (c 1 + B * (c 2 + B * (c 3 + B * (c 4 + B * (c 5 + B * (c 6 + B * c 7)))))) := by
  simp [val]
theorem div_low {a b B : Nat} (hB : 0 < B) (h : a < B) : (a + B * b) / B = b := by
  rw [Nat.add_mul_div_left _ _ hB, Nat.div_eq_of_lt h, Nat.zero_add]
theorem div_low_eq {y a b B : Nat} (e : y = a + B * b) (hB : 0 < B) (h : a < B) : y / B = b := by
  rw [e]; exact div_low hB h
theorem ones_e2 (x0 x1 x2 x3 x4 x5 x6 x7 : Nat) : (x0 + 256 * (x1 + 256 * (x2 + 256 * (x3 + 256 * (x4 + 256 * (x5 + 256 * (x6 + 256 * x7))))))) + (x1 + 256 * (x2 + 256 * (x3 + 256 * (x4 + 256 * (x5 + 256 * (x6 + 256 * x7)))))) = (x0 + x1 + 256 * (x1 + x2)) + 65536 * ((x2 + x3) + 256 * ((x3 + x4) + 256 * ((x4 + x5) + 256 * ((x5 + x6) + 256 * ((x6 + x7) + 256 * x7))))) := by omega
theorem ones_e3 (x0 x1 x2 x3 x4 x5 x6 x7 : Nat) : (x0 + 256 * (x1 + 256 * (x2 + 256 * (x3 + 256 * (x4 + 256 * (x5 + 256 * (x6 + 256 * x7))))))) + (x1 + 256 * (x2 + 256 * (x3 + 256 * (x4 + 256 * (x5 + 256 * (x6 + 256 * x7)))))) + ((x2 + x3) + 256 * ((x3 + x4) + 256 * ((x4 + x5) + 256 * ((x5 + x6) + 256 * ((x6 + x7) + 256 * x7))))) = ((x0 + x1 + x2 + x3) + 256 * (x1 + x2 + x3 + x4) + 65536 * (x2 + x3 + x4 + x5) + 16777216 * (x3 + x4 + x5 + x6)) + 4294967296 * ((x4 + x5 + x6 + x7) + 256 * ((x5 + x6 + x7) + 256 * ((x6 + x7) + 256 * x7))) := by omega
theorem ones_e4 (x0 x1 x2 x3 x4 x5 x6 x7 : Nat) : (x0 + 256 * (x1 + 256 * (x2 + 256 * (x3 + 256 * (x4 + 256 * (x5 + 256 * (x6 + 256 * x7))))))) + (x1 + 256 * (x2 + 256 * (x3 + 256 * (x4 + 256 * (x5 + 256 * (x6 + 256 * x7)))))) + ((x2 + x3) + 256 * ((x3 + x4) + 256 * ((x4 + x5) + 256 * ((x5 + x6) + 256 * ((x6 + x7) + 256 * x7))))) + ((x4 + x5 + x6 + x7) + 256 * ((x5 + x6 + x7) + 256 * ((x6 + x7) + 256 * x7))) = (x0 + x1 + x2 + x3 + x4 + x5 + x6 + x7) + 128 * (2 * ((x1 + x2 + x3 + x4 + x5 + x6 + x7) + 256 * ((x2 + x3 + x4 + x5 + x6 + x7) + 256 * ((x3 + x4 + x5 + x6 + x7) + 256 * ((x4 + x5 + x6 + x7) + 256 * ((x5 + x6 + x7) + 256 * ((x6 + x7) + 256 * x7))))))) := by omega
theorem ones_sum_at {X X1 X2 X3 s R : Nat} (q1 : X / 256 = X1) (q2 : (X + X1) / 65536 = X2) (q3 : (X + X1 + X2) / 4294967296 = X3) (e4 : X + X1 + X2 + X3 = s + 128 * R) (hs : s < 128) :
    (X + X / 256 + (X + X / 256) / 65536 + (X + X / 256 + (X + X / 256) / 65536) / 4294967296) % 128 = s := by
  rw [q1, q2, q3, e4, Nat.add_mul_mod_self_left, Nat.mod_eq_of_lt hs]
theorem ones_sum (x0 x1 x2 x3 x4 x5 x6 x7 : Nat) (h0 : x0 ≤ 8) (h1 : x1 ≤ 8) (h2 : x2 ≤ 8) (h3 : x3 ≤ 8) (h4 : x4 ≤ 8) (h5 : x5 ≤ 8) (h6 : x6 ≤ 8) (h7 : x7 ≤ 8) :
    ((x0 + 256 * (x1 + 256 * (x2 + 256 * (x3 + 256 * (x4 + 256 * (x5 + 256 * (x6 + 256 * x7))))))) + (x0 + 256 * (x1 + 256 * (x2 + 256 * (x3 + 256 * (x4 + 256 * (x5 + 256 * (x6 + 256 * x7))))))) / 256 + ((x0 + 256 * (x1 + 256 * (x2 + 256 * (x3 + 256 * (x4 + 256 * (x5 + 256 * (x6 + 256 * x7))))))) + (x0 + 256 * (x1 + 256 * (x2 + 256 * (x3 + 256 * (x4 + 256 * (x5 + 256 * (x6 + 256 * x7))))))) / 256) / 65536 + ((x0 + 256 * (x1 + 256 * (x2 + 256 * (x3 + 256 * (x4 + 256 * (x5 + 256 * (x6 + 256 * x7))))))) + (x0 + 256 * (x1 + 256 * (x2 + 256 * (x3 + 256 * (x4 + 256 * (x5 + 256 * (x6 + 256 * x7))))))) / 256 + ((x0 + 256 * (x1 + 256 * (x2 + 256 * (x3 + 256 * (x4 + 256 * (x5 + 256 * (x6 + 256 * x7))))))) + (x0 + 256 * (x1 + 256 * (x2 + 256 * (x3 + 256 * (x4 + 256 * (x5 + 256 * (x6 + 256 * x7))))))) / 256) / 65536) / 4294967296) % 128 = x0 + x1 + x2 + x3 + x4 + x5 + x6 + x7 :=
  ones_sum_at (div_low (by decide) (by omega)) (div_low_eq (ones_e2 x0 x1 x2 x3 x4 x5 x6 x7) (by decide) (by omega)) (div_low_eq (ones_e3 x0 x1 x2 x3 x4 x5 x6 x7) (by decide) (by omega)) (ones_e4 x0 x1 x2 x3 x4 x5 x6 x7) (by omega)
theorem onesN_wd (f : Nat → Bool) : onesN (wd f 64) = cnt f 64 := by
  have hwd : wd f 64 = wd (fun i => decide (i < 64) && f i) 64 := wd_congr fun i hi => by simp [hi]
  have hcn : cnt f 64 = cnt (fun i => decide (i < 64) && f i) 64 := by simp [cnt]
  rw [hwd, hcn]
  generalize hg : (fun i => decide (i < 64) && f i) = g
  have hz : ∀ i, 64 ≤ i → g i = false := fun i hi => by rw [← hg]; simp [show ¬ i < 64 by omega]
  clear hg hwd hcn
  obtain ⟨c1, c2, c3, e1, d1, e2, d2, e3, d3⟩ := ones_stages g hz
  have hb : ∀ i, (g i).toNat ≤ 1 := fun i => (g i).toNat_le
  have hc3 : ∀ i, c3 i ≤ 8 := fun i => by
    rw [d3, d2, d2, d1, d1, d1, d1]
    have := hb (2 * (2 * (2 * i + 1) + 1) + 1); have := hb (2 * (2 * (2 * i + 1) + 1)); have := hb (2 * (2 * (2 * i + 1)) + 1); have := hb (2 * (2 * (2 * i + 1)))
    have := hb (2 * (2 * (2 * i) + 1) + 1); have := hb (2 * (2 * (2 * i) + 1)); have := hb (2 * (2 * (2 * i)) + 1); have := hb (2 * (2 * (2 * i)))
    omega
  have hsum : cnt g 64 = c3 0 + c3 1 + c3 2 + c3 3 + c3 4 + c3 5 + c3 6 + c3 7 := by
    simp only [d3, d2, d1, cnt, Nat.reduceMul, Nat.reduceAdd]
    omega
  rw [hsum]
  unfold onesN
  dsimp only
  rw [e1, e2, e3, val8]
  have h0 := hc3 0; have h1 := hc3 1; have h2 := hc3 2; have h3 := hc3 3; have h4 := hc3 4; have h5 := hc3 5; have h6 := hc3 6; have h7 := hc3 7
  exact ones_sum _ _ _ _ _ _ _ _ h0 h1 h2 h3 h4 h5 h6 h7
end Go.Proofs.YtjbdamedofgdgaaDoor
