/-
  Plain facts on sets of bytes kept as four words of 64 bits: W p k is the k-th word of the set of the numbers at which p is true. No program here.
-/
import Derived.WalkKit
import Derived.Laws.Bits64
import Derived.Laws.BitsLemmas
namespace Go.Proofs.Ytebebognifiinaa
open Go.RowKit

/-- The number whose bits 0 .. n-1 are f's. -/
def wd (f : Nat → Bool) : Nat → Nat
  | 0 => 0
  | n + 1 => wd f n + if f n then 2 ^ n else 0

theorem wd_lt (f : Nat → Bool) : ∀ n, wd f n < 2 ^ n
  | 0 => by simp [wd]
  | n + 1 => by
    have h := wd_lt f n
    have e : 2 ^ (n + 1) = 2 ^ n + 2 ^ n := by omega
    simp only [wd]
    split <;> omega

theorem wd_testBit (f : Nat → Bool) : ∀ n i, (wd f n).testBit i = (decide (i < n) && f i)
  | 0, i => by simp [wd]
  | n + 1, i => by
    have ih := wd_testBit f n i
    have hlt := wd_lt f n
    simp only [wd]
    by_cases hf : f n = true
    · rw [if_pos hf, Nat.add_comm]
      by_cases hi : i = n
      · subst hi
        rw [Nat.testBit_two_pow_add_eq, Nat.testBit_lt_two_pow hlt]
        simp [hf]
      · by_cases hin : i < n
        · rw [Nat.testBit_two_pow_add_gt hin, ih]
          simp [hin, Nat.lt_succ_of_lt hin]
        · have : 2 ^ n + wd f n < 2 ^ i := by
            have h1 : 2 ^ (n + 1) ≤ 2 ^ i := Nat.pow_le_pow_right (by decide) (by omega)
            have e : 2 ^ (n + 1) = 2 ^ n + 2 ^ n := by omega
            omega
          rw [Nat.testBit_lt_two_pow this]
          simp [show ¬ i < n + 1 by omega]
    · rw [if_neg hf, Nat.add_zero, ih]
      by_cases hi : i = n
      · subst hi; simp [hf]
      · by_cases hin : i < n
        · simp [hin, Nat.lt_succ_of_lt hin]
        · simp [hin, show ¬ i < n + 1 by omega]

theorem wd_congr {f g : Nat → Bool} {n : Nat} (h : ∀ i, i < n → f i = g i) : wd f n = wd g n := by
  apply Nat.eq_of_testBit_eq
  intro i
  rw [wd_testBit, wd_testBit]
  by_cases hi : i < n
  · simp [hi, h i hi]
  · simp [hi]

/-- Every number below 2^n is told by its bits. -/
theorem wd_of_testBit {m n : Nat} (h : m < 2 ^ n) : wd m.testBit n = m := by
  apply Nat.eq_of_testBit_eq
  intro i
  rw [wd_testBit]
  by_cases hi : i < n
  · simp [hi]
  · rw [Nat.testBit_lt_two_pow (Nat.lt_of_lt_of_le h (Nat.pow_le_pow_right (by decide) (by omega)))]
    simp [hi]

/-- The k-th word of a set. -/
def Wn (p : Nat → Bool) (k : Nat) : Nat := wd (fun i => p (64 * k + i)) 64
def W (p : Nat → Bool) (k : Nat) : Int := (Wn p k : Int)

theorem Wn_lt (p : Nat → Bool) (k : Nat) : Wn p k < 18446744073709551616 := wd_lt _ 64
theorem W_nonneg (p : Nat → Bool) (k : Nat) : 0 ≤ W p k := Int.natCast_nonneg _
theorem W_lt (p : Nat → Bool) (k : Nat) : W p k < 18446744073709551616 := by
  have := Wn_lt p k
  unfold W
  omega
theorem Wn_testBit (p : Nat → Bool) (k i : Nat) : (Wn p k).testBit i = (decide (i < 64) && p (64 * k + i)) := wd_testBit _ _ _
theorem Wn_congr {p q : Nat → Bool} {k : Nat} (h : ∀ i, 64 * k ≤ i → i < 64 * k + 64 → p i = q i) : Wn p k = Wn q k :=
  wd_congr fun i hi => h _ (by omega) (by omega)
theorem W_congr {p q : Nat → Bool} {k : Nat} (h : ∀ i, 64 * k ≤ i → i < 64 * k + 64 → p i = q i) : W p k = W q k := by
  unfold W; rw [Wn_congr h]
theorem Wn_inj {p q : Nat → Bool} {k : Nat} (h : Wn p k = Wn q k) (i : Nat) (h0 : 64 * k ≤ i) (h1 : i < 64 * k + 64) : p i = q i := by
  have h2 := Wn_testBit p k (i - 64 * k)
  have h3 := Wn_testBit q k (i - 64 * k)
  rw [h, h3] at h2
  have e : 64 * k + (i - 64 * k) = i := by omega
  rw [e] at h2
  simpa [show i - 64 * k < 64 by omega] using h2.symm
theorem W_inj {p q : Nat → Bool} {k : Nat} (h : W p k = W q k) (i : Nat) (h0 : 64 * k ≤ i) (h1 : i < 64 * k + 64) : p i = q i :=
  Wn_inj (by unfold W at h; omega) i h0 h1

/-- The set of four words. -/
def setOfWords (a0 a1 a2 a3 : Int) : Nat → Bool := fun i =>
  if i < 64 then a0.toNat.testBit i else if i < 128 then a1.toNat.testBit (i - 64) else if i < 192 then a2.toNat.testBit (i - 128) else a3.toNat.testBit (i - 192)
theorem setOfWords_words {a0 a1 a2 a3 : Int} (h0 : 0 ≤ a0) (h0' : a0 < 18446744073709551616) (h1 : 0 ≤ a1) (h1' : a1 < 18446744073709551616)
    (h2 : 0 ≤ a2) (h2' : a2 < 18446744073709551616) (h3 : 0 ≤ a3) (h3' : a3 < 18446744073709551616) :
    W (setOfWords a0 a1 a2 a3) 0 = a0 ∧ W (setOfWords a0 a1 a2 a3) 1 = a1 ∧ W (setOfWords a0 a1 a2 a3) 2 = a2 ∧ W (setOfWords a0 a1 a2 a3) 3 = a3 := by
  have key : ∀ (x : Int) (f : Nat → Bool), 0 ≤ x → x < 18446744073709551616 → (∀ i, i < 64 → f i = x.toNat.testBit i) → ((wd f 64 : Nat) : Int) = x := by
    intro x f hx hx' hf
    rw [wd_congr hf, wd_of_testBit (by omega)]
    omega
  refine ⟨key _ _ h0 h0' ?_, key _ _ h1 h1' ?_, key _ _ h2 h2' ?_, key _ _ h3 h3' ?_⟩ <;> intro i hi <;> unfold setOfWords
  · rw [if_pos (by omega)]; simp
  · rw [if_neg (by omega), if_pos (by omega), show 64 * 1 + i - 64 = i by omega]
  · rw [if_neg (by omega), if_neg (by omega), if_pos (by omega), show 64 * 2 + i - 128 = i by omega]
  · rw [if_neg (by omega), if_neg (by omega), if_neg (by omega), show 64 * 3 + i - 192 = i by omega]

/-! ### Bit operations on words -/
theorem wrap_u64_nat {a : Nat} (h : a < 18446744073709551616) : IntKind.u64.wrap (a : Int) = (a : Int) := by
  rw [IntKind.wrap_u64]; omega
theorem bits_u64 (a b : Nat) (ha : a < 18446744073709551616) (hb : b < 18446744073709551616) :
    bits .and .u64 (a : Int) (b : Int) = ((a &&& b : Nat) : Int) ∧ bits .or .u64 (a : Int) (b : Int) = ((a ||| b : Nat) : Int) :=
  bits_nat .u64 64 (by decide) (fun n h0 h1 => by rw [IntKind.wrap_u64]; omega) a b ha hb

/-- A set with a number more. -/
def ins (p : Nat → Bool) (b : Nat) : Nat → Bool := fun i => p i || decide (i = b)

theorem W_ins_ne {p : Nat → Bool} {b k : Nat} (h : b / 64 ≠ k) : W (ins p b) k = W p k := by
  apply W_congr
  intro i h0 h1
  have : i ≠ b := by omega
  simp [ins, this]
theorem Wn_ins {p : Nat → Bool} {b k : Nat} (h : b / 64 = k) : Wn p k ||| 2 ^ (b % 64) = Wn (ins p b) k := by
  apply Nat.eq_of_testBit_eq
  intro i
  rw [Nat.testBit_or, Wn_testBit, Wn_testBit, Nat.testBit_two_pow]
  by_cases hi : i < 64
  · have e : (b % 64 = i) ↔ (64 * k + i = b) := by omega
    simp [hi, ins, e]
  · have e : ¬ b % 64 = i := by omega
    simp [hi, e]
theorem pow64_lt {i : Nat} (h : i < 64) : 2 ^ i < 18446744073709551616 := Nat.pow_lt_pow_right (a := 2) (m := i) (n := 64) (by decide) h
theorem bits_or_pow {p : Nat → Bool} {b : Nat} {k : Nat} (h : b / 64 = k) :
    bits .or .u64 (W p k) (2 ^ (b % 64) : Nat) = W (ins p b) k := by
  unfold W
  rw [(bits_u64 _ _ (Wn_lt p k) ?_).2, Wn_ins h]
  exact pow64_lt (Nat.mod_lt _ (by decide))
theorem shl_one {b : Nat} (h : b < 64) : IntKind.u64.wrap (2 ^ b) = ((2 ^ b : Nat) : Int) := by
  have := wrap_u64_nat (a := 2 ^ b) (pow64_lt h)
  rw [← this]; simp

/-! ### The four operations, and one bit -/
def uni (p q : Nat → Bool) : Nat → Bool := fun i => p i || q i
def mee (p q : Nat → Bool) : Nat → Bool := fun i => p i && q i
def les (p q : Nat → Bool) : Nat → Bool := fun i => p i && !q i
def neg (p : Nat → Bool) : Nat → Bool := fun i => !p i

theorem wrap_toNat (v : BitVec 64) : IntKind.u64.wrap (v.toNat : Int) = (v.toNat : Int) := wrap_u64_nat v.isLt
theorem bits_or_W (p q : Nat → Bool) (k : Nat) : bits .or .u64 (W p k) (W q k) = W (uni p q) k := by
  unfold W
  rw [(bits_u64 _ _ (Wn_lt p k) (Wn_lt q k)).2]
  congr 1
  apply Nat.eq_of_testBit_eq
  intro i
  rw [Nat.testBit_or, Wn_testBit, Wn_testBit, Wn_testBit]
  unfold uni
  cases decide (i < 64) <;> simp
theorem bits_and_W (p q : Nat → Bool) (k : Nat) : bits .and .u64 (W p k) (W q k) = W (mee p q) k := by
  unfold W
  rw [(bits_u64 _ _ (Wn_lt p k) (Wn_lt q k)).1]
  congr 1
  apply Nat.eq_of_testBit_eq
  intro i
  rw [Nat.testBit_and, Wn_testBit, Wn_testBit, Wn_testBit]
  unfold mee
  cases decide (i < 64) <;> simp
theorem bits_andNot_W (p q : Nat → Bool) (k : Nat) : bits .andNot .u64 (W p k) (W q k) = W (les p q) k := by
  unfold W
  show IntKind.u64.wrap ((BitVec.ofInt 64 (Wn p k : Int) &&& ~~~ BitVec.ofInt 64 (Wn q k : Int)).toNat : Int) = _
  rw [wrap_toNat]
  congr 1
  apply Nat.eq_of_testBit_eq
  intro i
  rw [BitVec.testBit_toNat, BitVec.getLsbD_and, BitVec.getLsbD_not, BitVec.ofInt_natCast, BitVec.ofInt_natCast, BitVec.getLsbD_ofNat, BitVec.getLsbD_ofNat, Wn_testBit, Wn_testBit, Wn_testBit]
  unfold les
  cases decide (i < 64) <;> simp
theorem bits_not_W (p : Nat → Bool) (k : Nat) : bits .xor .u64 IntKind.u64.max (W p k) = W (neg p) k := by
  unfold W
  show IntKind.u64.wrap ((BitVec.ofInt 64 18446744073709551615 ^^^ BitVec.ofInt 64 (Wn p k : Int)).toNat : Int) = _
  rw [wrap_toNat, show BitVec.ofInt 64 18446744073709551615 = BitVec.allOnes 64 by decide]
  congr 1
  apply Nat.eq_of_testBit_eq
  intro i
  rw [BitVec.testBit_toNat, BitVec.getLsbD_xor, BitVec.getLsbD_allOnes, BitVec.ofInt_natCast, BitVec.getLsbD_ofNat, Wn_testBit, Wn_testBit]
  unfold neg
  cases decide (i < 64) <;> simp

theorem and_two_pow (n i : Nat) : n &&& 2 ^ i = if n.testBit i then 2 ^ i else 0 := by
  apply Nat.eq_of_testBit_eq
  intro j
  rw [Nat.testBit_and, Nat.testBit_two_pow]
  by_cases h : i = j
  · subst h
    cases hb : n.testBit i <;> simp
  · cases hb : n.testBit i <;> simp [h]
/-- One bit, as the code asks for it. -/
theorem has_bit {p : Nat → Bool} {b k : Nat} (h : b / 64 = k) : (bits .and .u64 (W p k) (IntKind.u64.wrap (2 ^ (b % 64))) != 0) = p b := by
  have hm : b % 64 < 64 := Nat.mod_lt _ (by decide)
  rw [shl_one hm]
  unfold W
  rw [(bits_u64 _ _ (Wn_lt p k) (pow64_lt hm)).1, and_two_pow, Wn_testBit]
  rw [show 64 * k + b % 64 = b by omega]
  have := Nat.two_pow_pos (b % 64)
  have hz : ((2 ^ (b % 64) : Nat) : Int) ≠ 0 := by omega
  cases p b
  · simp
  · simp only [hm, decide_true, Bool.true_and, if_true, bne_iff_ne, ne_eq]
    exact hz
/-- One bit, as the reference asks for it. -/
theorem rhas_bit {p : Nat → Bool} {b k : Nat} (h : b / 64 = k) : (bits .and .u64 (W p k / 2 ^ (b % 64)) 1 == 1) = p b := by
  have hm : b % 64 < 64 := Nat.mod_lt _ (by decide)
  unfold W
  rw [show ((Wn p k : Int) / 2 ^ (b % 64)) = ((Wn p k / 2 ^ (b % 64) : Nat) : Int) by simp]
  have h1 := (bits_u64 (Wn p k / 2 ^ (b % 64)) 1 (Nat.lt_of_le_of_lt (Nat.div_le_self _ _) (Wn_lt p k)) (by decide)).1
  rw [show ((1 : Nat) : Int) = 1 from rfl] at h1
  rw [h1, Nat.and_one_is_mod]
  have h2 := Wn_testBit p k (b % 64)
  rw [Nat.testBit_eq_decide_div_mod_eq, show 64 * k + b % 64 = b by omega] at h2
  simp only [hm, decide_true, Bool.true_and] at h2
  rw [← h2]
  by_cases h3 : Wn p k / 2 ^ (b % 64) % 2 = 1
  · simp [h3]
  · have : Wn p k / 2 ^ (b % 64) % 2 = 0 := by omega
    simp [this]

/-- No byte. -/
def emp : Nat → Bool := fun _ => false
theorem W_emp (k : Nat) : W emp k = 0 := by
  have h : ∀ n, wd (fun i => emp (64 * k + i)) n = 0 := by
    intro n
    induction n with
    | zero => rfl
    | succ n ih =>
      show wd _ n + (if emp (64 * k + n) = true then 2 ^ n else 0) = 0
      rw [ih]; rfl
  unfold W Wn
  rw [h]; rfl
/-- The bytes of a text's first k places. -/
def ofB (s : ByteArray) : Nat → Nat → Bool
  | 0 => emp
  | k + 1 => ins (ofB s k) (s.data.getD k 0).toNat
theorem ofB_zero (s : ByteArray) : ofB s 0 = emp := rfl
theorem ofB_succ {s : ByteArray} {k : Nat} (h : k < s.size) : ofB s (k + 1) = ins (ofB s k) s[k].toNat := by
  show ins (ofB s k) (s.data.getD k 0).toNat = _
  congr 2
  have h' : k < s.data.size := h
  rw [Array.getD, dif_pos h']
  rfl

/-- What the reference's Mix asks of a number: 0 or, 1 and, 2 but not, 3 not. -/
def mixb (m : Nat) (x y : Bool) : Bool := if m = 0 then x || y else if m = 1 then x && y else if m = 2 then x && !y else !x
/-- Mix when k rounds are over. -/
def mixP (m : Nat) (p q : Nat → Bool) (k : Nat) : Nat → Bool := fun i => decide (i < k) && mixb m (p i) (q i)
theorem mixP_zero (m : Nat) (p q : Nat → Bool) : mixP m p q 0 = emp := by
  funext i; simp [mixP, emp]
theorem mixP_yes {m : Nat} {p q : Nat → Bool} {k : Nat} (h : mixb m (p k) (q k) = true) : mixP m p q (k + 1) = ins (mixP m p q k) k := by
  funext i
  unfold mixP ins
  by_cases hi : i = k
  · subst hi; simp [h]
  · have e : (i < k + 1) ↔ (i < k) := by omega
    simp [hi, e]
theorem mixP_no {m : Nat} {p q : Nat → Bool} {k : Nat} (h : mixb m (p k) (q k) = false) : mixP m p q (k + 1) = mixP m p q k := by
  funext i
  unfold mixP
  by_cases hi : i = k
  · subst hi; simp [h]
  · have e : (i < k + 1) ↔ (i < k) := by omega
    simp [e]
theorem mixP_all {m : Nat} {p q r : Nat → Bool} (h : ∀ i, mixb m (p i) (q i) = r i) (j : Nat) (hj : j < 4) : W (mixP m p q 256) j = W r j :=
  W_congr fun i _ h1 => by simp [mixP, h, show i < 256 by omega]

/-- The numbers from lo on, below k. -/
def rngP (lo k : Nat) : Nat → Bool := fun i => decide (lo ≤ i) && decide (i < k)
theorem rngP_start (lo : Nat) : rngP lo lo = emp := by
  funext i
  simp only [rngP, emp]
  by_cases h : lo ≤ i
  · simp [show ¬ i < lo by omega]
  · simp [h]
theorem rngP_none {lo k : Nat} (h : k ≤ lo) : rngP lo k = emp := by
  funext i
  simp only [rngP, emp]
  by_cases h' : lo ≤ i
  · simp [show ¬ i < k by omega]
  · simp [h']
theorem rngP_succ {lo k : Nat} (h : lo ≤ k) : rngP lo (k + 1) = ins (rngP lo k) k := by
  funext i
  unfold rngP ins
  by_cases hi : i = k
  · subst hi; simp [h]
  · have e : (i < k + 1) ↔ (i < k) := by omega
    simp [hi, e]

/-- What Has says. -/
def hasB (p : Nat → Bool) (b : Int) : Bool := decide (0 ≤ b) && decide (b ≤ 255) && p b.toNat
theorem hasB_lo {p : Nat → Bool} {b : Int} (h : b < 0) : hasB p b = false := by simp [hasB, show ¬ 0 ≤ b by omega]
theorem hasB_hi {p : Nat → Bool} {b : Int} (h : 255 < b) : hasB p b = false := by simp [hasB, show ¬ b ≤ 255 by omega]
theorem hasB_in {p : Nat → Bool} {n : Nat} (h : n < 256) : hasB p (n : Int) = p n := by simp [hasB, show (n : Int) ≤ 255 by omega]
end Go.Proofs.Ytebebognifiinaa
