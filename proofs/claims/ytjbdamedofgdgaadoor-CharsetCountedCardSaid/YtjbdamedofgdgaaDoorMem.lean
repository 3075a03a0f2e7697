/-
  The members of a set of bytes, rising, as a list; how many, the first, the last. No program here.
-/
import Derived.Test.YtjbdamedofgdgaaDoorSets
import Derived.Test.YtjbdamedofgdgaaDoorOnes
namespace Go.Proofs.YtjbdamedofgdgaaDoor
open Go.RowKit
set_option linter.unusedVariables false
set_option linter.unusedSimpArgs false

/-- The members below k, rising. -/
def mem (p : Nat → Bool) (k : Nat) : List Nat := (List.range k).filter p
theorem mem_zero (p : Nat → Bool) : mem p 0 = [] := rfl
theorem mem_yes {p : Nat → Bool} {k : Nat} (h : p k = true) : mem p (k + 1) = mem p k ++ [k] := by
  simp [mem, List.range_succ, h]
theorem mem_no {p : Nat → Bool} {k : Nat} (h : p k = false) : mem p (k + 1) = mem p k := by
  simp [mem, List.range_succ, h]
theorem mem_len_le (p : Nat → Bool) (k : Nat) : (mem p k).length ≤ k := by
  have := List.length_filter_le p (List.range k)
  simpa [mem] using this
theorem mem_mem {p : Nat → Bool} {k i : Nat} : i ∈ mem p k ↔ i < k ∧ p i = true := by
  simp [mem]
theorem mem_cnt (p : Nat → Bool) : ∀ k, (mem p k).length = cnt p k
  | 0 => rfl
  | k + 1 => by
    cases h : p k
    · rw [mem_no h, mem_cnt p k, cnt, h]; rfl
    · rw [mem_yes h, List.length_append, mem_cnt p k, cnt, h]; rfl
theorem cnt_zero {p : Nat → Bool} : ∀ {k : Nat}, cnt p k = 0 → ∀ i, i < k → p i = false
  | 0, _, i, hi => by omega
  | k + 1, h, i, hi => by
    simp only [cnt] at h
    by_cases e : i = k
    · subst e
      cases hp : p i
      · rfl
      · rw [hp] at h; simp at h
    · exact cnt_zero (k := k) (by omega) i (by omega)
theorem cnt_none {p : Nat → Bool} : ∀ {k : Nat}, (∀ i, i < k → p i = false) → cnt p k = 0
  | 0, _ => rfl
  | k + 1, h => by
    simp only [cnt]
    rw [cnt_none (fun i hi => h i (by omega)), h k (by omega)]
    rfl
theorem cnt_all {p : Nat → Bool} : ∀ {k : Nat}, (∀ i, i < k → p i = true) → cnt p k = k
  | 0, _ => rfl
  | k + 1, h => by
    simp only [cnt]
    rw [cnt_all (fun i hi => h i (by omega)), h k (by omega)]
    rfl
theorem cnt_full {p : Nat → Bool} : ∀ {k : Nat}, cnt p k = k → ∀ i, i < k → p i = true
  | 0, _, i, hi => by omega
  | k + 1, h, i, hi => by
    simp only [cnt] at h
    have h1 := cnt_le p k
    have h2 := (p k).toNat_le
    by_cases e : i = k
    · subst e
      cases hp : p i
      · rw [hp] at h; simp at h; omega
      · rfl
    · exact cnt_full (k := k) (by omega) i (by omega)
theorem cnt_add (p : Nat → Bool) (m : Nat) : ∀ n, cnt p (m + n) = cnt p m + cnt (fun i => p (m + i)) n
  | 0 => rfl
  | n + 1 => by
    show cnt p (m + n) + (p (m + n)).toNat = _
    rw [cnt_add p m n, cnt]; omega
theorem cnt_words (p : Nat → Bool) : cnt p 256 = cnt (fun i => p (64 * 0 + i)) 64 + cnt (fun i => p (64 * 1 + i)) 64 + cnt (fun i => p (64 * 2 + i)) 64 + cnt (fun i => p (64 * 3 + i)) 64 := by
  have h0 : cnt (fun i => p (64 * 0 + i)) 64 = cnt p 64 := by congr 1; funext i; congr 1; omega
  rw [h0, show (256 : Nat) = 192 + 64 from rfl, cnt_add, show (192 : Nat) = 128 + 64 from rfl, cnt_add, show (128 : Nat) = 64 + 64 from rfl, cnt_add]
/-- A word is nought just if it has no member. -/
theorem Wn_zero_iff (p : Nat → Bool) (k : Nat) : Wn p k = 0 ↔ ∀ i, i < 64 → p (64 * k + i) = false := by
  constructor
  · intro h i hi
    have := Wn_testBit p k i
    rw [h] at this
    simpa [hi] using this.symm
  · intro h
    apply Nat.eq_of_testBit_eq
    intro i
    rw [Wn_testBit]
    by_cases hi : i < 64
    · simp [h i hi]
    · simp [hi]
/-- The least number at which q holds, below n. -/
theorem least_ex {q : Nat → Bool} : ∀ {n : Nat}, (¬ ∀ i, i < n → q i = false) → ∃ i, i < n ∧ q i = true ∧ ∀ j, j < i → q j = false
  | 0, h => absurd (fun i hi => by omega) h
  | n + 1, h => by
    by_cases h' : ∀ i, i < n → q i = false
    · refine ⟨n, by omega, ?_, h'⟩
      cases hq : q n
      · exact absurd (fun i hi => if e : i = n then (by rw [e, hq]) else h' i (by omega)) h
      · rfl
    · obtain ⟨i, h1, h2, h3⟩ := least_ex h'
      exact ⟨i, by omega, h2, h3⟩
theorem most_ex {q : Nat → Bool} : ∀ {n : Nat}, (¬ ∀ i, i < n → q i = false) → ∃ i, i < n ∧ q i = true ∧ ∀ j, i < j → j < n → q j = false
  | 0, h => absurd (fun i hi => by omega) h
  | n + 1, h => by
    cases hq : q n
    · have h' : ¬ ∀ i, i < n → q i = false := fun h' => h fun i hi => if e : i = n then (by rw [e, hq]) else h' i (by omega)
      obtain ⟨i, h1, h2, h3⟩ := most_ex h'
      exact ⟨i, by omega, h2, fun j hj hj2 => if e : j = n then (by rw [e, hq]) else h3 j hj (by omega)⟩
    · exact ⟨n, by omega, hq, fun j hj hj2 => by omega⟩
/-- The first and the last of the members. -/
theorem mem_first {p : Nat → Bool} {k m : Nat} (hm : m < k) (hp : p m = true) (hl : ∀ j, j < m → p j = false) : (mem p k).getD 0 0 = m ∧ mem p k ≠ [] := by
  have hs : mem p k = m :: (List.range' (m + 1) (k - (m + 1))).filter p := by
    have e : List.range k = List.range m ++ (m :: List.range' (m + 1) (k - (m + 1))) := by
      rw [List.range_eq_range', List.range_eq_range', show m :: List.range' (m + 1) (k - (m + 1)) = List.range' m (k - m) by
        rw [show k - m = (k - (m + 1)) + 1 by omega, List.range'_succ]]
      have := List.range'_append (s := 0) (m := m) (n := k - m) (step := 1)
      simp only [Nat.zero_add, Nat.one_mul] at this
      rw [this, show m + (k - m) = k by omega]
    unfold mem
    rw [e, List.filter_append, List.filter_eq_nil_iff.2 (fun i hi => by rw [hl i (by simpa using hi)]; simp), List.nil_append, List.filter_cons, if_pos hp]
  rw [hs]
  exact ⟨rfl, by simp⟩
theorem mem_last {p : Nat → Bool} : ∀ {k m : Nat}, m < k → p m = true → (∀ j, m < j → j < k → p j = false) → (mem p k).getD ((mem p k).length - 1) 0 = m
  | 0, m, hm, _, _ => by omega
  | k + 1, m, hm, hp, hl => by
    by_cases e : m = k
    · subst e
      rw [mem_yes hp]
      simp [List.getD_eq_getElem?_getD]
    · rw [mem_no (hl k (by omega) (by omega))]
      exact mem_last (k := k) (by omega) hp (fun j h1 h2 => hl j h1 (by omega))
/-- As whole numbers. -/
def memI (p : Nat → Bool) (k : Nat) : List Int := (mem p k).map Int.ofNat
theorem memI_len (p : Nat → Bool) (k : Nat) : (memI p k).length = (mem p k).length := by simp [memI]
theorem memI_yes {p : Nat → Bool} {k : Nat} (h : p k = true) : memI p (k + 1) = memI p k ++ [(k : Int)] := by simp [memI, mem_yes h]
theorem memI_no {p : Nat → Bool} {k : Nat} (h : p k = false) : memI p (k + 1) = memI p k := by simp [memI, mem_no h]
end Go.Proofs.YtjbdamedofgdgaaDoor
