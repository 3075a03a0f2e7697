/-
  An argument that is a slice of records of m cells, opened: the slice reads as a list of records. No program here.
-/
import Derived.Test.YtebebognifiinaaReads
import Derived.Deep.Slices
import Derived.Deep.Fields
import Derived.ChangeSame
import Derived.WideShapes
import Derived.SizedLaws
namespace Go.Proofs.Ytebebognifiinaa
open Go.RowKit Go.ChangeShapes Go.WideShapes Go.Deep
set_option linter.unusedVariables false
theorem list_of {R : Type} : ∀ {n : Nat} {Q : Nat → R → Prop}, (∀ i, i < n → ∃ x, Q i x) → ∃ l : List R, l.length = n ∧ ∀ i (hi : i < l.length), Q i l[i] := by
  intro n
  induction n with
  | zero => intro Q _; exact ⟨[], rfl, fun i hi => by cases hi⟩
  | succ n ih =>
    intro Q h
    obtain ⟨l, h1, h2⟩ := ih fun i hi => h i (by omega)
    obtain ⟨x, hx⟩ := h n (by omega)
    refine ⟨l ++ [x], by simp [h1], fun i hi => ?_⟩
    by_cases e : i < l.length
    · rw [List.getElem_append_left e]; exact h2 i e
    · have : i = n := by simp at hi; omega
      subst this
      rw [List.getElem_append_right (by omega)]
      simpa [h1] using hx
theorem plain_of_cell {w : World} {a : Addr} {v : Value} (h : w.cell? a = some v) : a.spot = none := by
  rw [World.cell?] at h
  split at h
  · cases hs : a.spot with
    | none => rfl
    | some s => rw [hs] at h; simp at h
  · cases h
section
variable {H : Type} {enc : TypeId × Value → H} {P : Program} {w : World} {base : Nat} {spare : Nat → Bool} {held : Bool}
theorem open_rowsC {R : Type} (f : R → List Value) (m : Nat) (hm : 0 < m) (hf : ∀ x, (f x).length = m) {t e : TypeId} {fuel : Nat} {ao : Option Addr} {n c : Nat} {x : DataW H × List MemPlace} (ht : P.underlying t = some (.slice e)) (hC : P.cellsOf e = m)
    (h : DataW.trod enc P w base spare held fuel t [.slice ao n c] = some x)
    (hel : ∀ k cs' y, cs'.length = m → DataW.trod enc P w base spare held k e cs' = some y → ∃ r : R, cs' = f r) :
    ∃ l : List R, l.length = n ∧ RowIs w (.slice ao n c) m l.length (l.flatMap f) ∧ ((x.1 = .nil ∧ n = 0) ∨ ∃ elems sp, x.1 = .slice elems sp ∧ elems.length = n) ∧ n ≤ c := by
  rcases open_slice ht h with ⟨h0, h1⟩ | ⟨a, len, cap, mm, k, D, Pl, hcs, hb, hl, hmx, hmm, hx, hi⟩
  · simp only [List.cons.injEq, Value.slice.injEq, and_true] at h0
    obtain ⟨rfl, rfl, rfl⟩ := h0
    exact ⟨[], rfl, ⟨by simp, none, 0, rfl, fun h => by simp at h⟩, .inl ⟨by rw [h1], rfl⟩, Nat.le_refl _⟩
  · simp only [List.cons.injEq, Value.slice.injEq, and_true] at hcs
    obtain ⟨rfl, rfl, rfl⟩ := hcs
    have hmn : n ≤ mm := by rw [hmm]; split <;> omega
    have each : ∀ i, i < n → ∃ r : R, ∀ j, j < m → w.cell? ((a.add (i * m)).add j) = (f r)[j]? := by
      intro i hin
      obtain ⟨cs', hc, ht'⟩ := hi i (by omega)
      rw [hC] at hc
      obtain ⟨_, hcl, hat⟩ := World.cells?_some hc
      obtain ⟨r, rfl⟩ := hel _ _ _ hcl ht'
      exact ⟨r, fun j hj => hat j hj⟩
    obtain ⟨l, hln, hl2⟩ := list_of each
    refine ⟨l, hln, ⟨flat_len hf l, some a, c, by rw [hln], fun h0 => ?_⟩, .inr ⟨_, _, by rw [hx], by simp⟩, hl⟩
    have hp : a.spot = none := by
      have h1 := hl2 0 (by omega) 0 hm
      have h2 : ((f l[0])[0]?) = some ((f l[0])[0]'(by rw [hf]; omega)) := List.getElem?_eq_getElem (by rw [hf]; omega)
      rw [h2] at h1
      have h3 := plain_of_cell h1
      simpa [Addr.add] using h3
    obtain ⟨g, o, s⟩ := a
    simp only at hp
    subst hp
    refine ⟨g, o, rfl, fun j hj => ?_⟩
    have hd : j / m < l.length := (Nat.div_lt_iff_lt_mul hm).2 hj
    have h1 := hl2 (j / m) hd (j % m) (Nat.mod_lt _ hm)
    rw [add_plain, add_plain, Nat.add_assoc] at h1
    have e1 : j / m * m + j % m = j := by rw [Nat.mul_comm]; exact Nat.div_add_mod j m
    rw [e1] at h1
    rw [h1, ← flat_at hf hd (Nat.mod_lt _ hm), e1]
theorem open_rows {R : Type} (f : R → List Value) (m : Nat) (hm : 0 < m) (hf : ∀ x, (f x).length = m) {t e : TypeId} {fuel : Nat} {ao : Option Addr} {n c : Nat} {x : DataW H × List MemPlace} (ht : P.underlying t = some (.slice e)) (hC : P.cellsOf e = m)
    (h : DataW.trod enc P w base spare held fuel t [.slice ao n c] = some x)
    (hel : ∀ k cs' y, cs'.length = m → DataW.trod enc P w base spare held k e cs' = some y → ∃ r : R, cs' = f r) :
    ∃ l : List R, l.length = n ∧ RowIs w (.slice ao n c) m l.length (l.flatMap f) ∧ ((x.1 = .nil ∧ n = 0) ∨ ∃ elems sp, x.1 = .slice elems sp ∧ elems.length = n) := by
  obtain ⟨l, h1, h2, h3, _⟩ := open_rowsC f m hm hf ht hC h hel
  exact ⟨l, h1, h2, h3⟩
theorem one_of {cs : List Value} (h : cs.length = 1) : ∃ v, cs = [v] := by
  match cs, h with
  | [v], _ => exact ⟨v, rfl⟩
end
end Go.Proofs.Ytebebognifiinaa
