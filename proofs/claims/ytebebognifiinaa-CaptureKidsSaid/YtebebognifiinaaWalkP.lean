/-
  The walk over captures, in plain Lean: the stack of frames, what each capture stands in, the first that is wrong. No program here.
-/
import Derived.Test.YtebebognifiinaaBookCaps
namespace Go.Proofs.Ytebebognifiinaa
open Go.RowKit
set_option linter.unusedVariables false
set_option linter.unusedSimpArgs false
structure Fr where
  at_ : Int
  left : Int
  frm : Int
  to : Int
def frC (f : Fr) : List Value := [.int .i64 f.at_, .int .i64 f.left, .int .i64 f.frm, .int .i64 f.to]
theorem frC_len (f : Fr) : (frC f).length = 4 := rfl
/-- The stack as it lies in memory: the top last. -/
def frsC (s : List Fr) : List Value := s.reverse.flatMap frC
theorem frsC_cons (f : Fr) (s : List Fr) : frsC (f :: s) = frsC s ++ frC f := by simp [frsC]
theorem frsC_len (s : List Fr) : (frsC s).length = s.length * 4 := by rw [frsC, flat_len frC_len, List.length_reverse]
theorem frsC_top (f : Fr) (s : List Fr) (j : Nat) (hj : j < 4) : (frsC (f :: s))[s.length * 4 + j]? = (frC f)[j]? := by
  rw [frsC_cons, List.getElem?_append_right (by rw [frsC_len]; omega), frsC_len]; congr 1; omega
theorem frsC_take (f : Fr) (s : List Fr) : (frsC (f :: s)).take (s.length * 4) = frsC s := by
  rw [frsC_cons, ← frsC_len s, List.take_left]
def popz : List Fr → List Fr
  | [] => []
  | f :: r => if f.left = 0 then popz r else f :: r
def badC (c : Cap) (t : Fr) : Bool :=
  decide (c.kind < 1) || decide (c.kind > 7) || decide (c.kids < 0) || decide (c.frm < t.frm) || decide (c.to < c.frm) || decide (c.to > t.to) || (decide (c.kind = 1) && (decide (c.frm ≠ c.to) || decide (c.kids ≠ 0)))
structure WSt where
  stk : List Fr
  par : List Int
def stepW (st : WSt) (i : Nat) (c : Cap) : Option WSt :=
  match popz st.stk with
  | [] => none
  | t :: r => if badC c t then none else some ⟨⟨i, c.kids, c.frm, c.to⟩ :: ⟨t.at_, t.left - 1, c.to, t.to⟩ :: r, st.par ++ [t.at_]⟩
def ws0 : WSt := ⟨[⟨-1, -1, 0, 65536⟩], []⟩
def foldW (l : List Cap) : Nat → Option WSt
  | 0 => some ws0
  | k + 1 => (foldW l k).bind fun st => match l[k]? with
    | none => some st
    | some c => stepW st k c
theorem foldW_succ {l : List Cap} {k : Nat} {st : WSt} {c : Cap} (h : foldW l k = some st) (hc : l[k]? = some c) : foldW l (k + 1) = stepW st k c := by
  simp only [foldW, h, Option.bind_some, hc]
theorem foldW_none {l : List Cap} {k : Nat} (h : foldW l k = none) : ∀ {m : Nat}, k ≤ m → foldW l m = none := by
  intro m hm
  induction m with
  | zero => have : k = 0 := by omega
            subst this; exact h
  | succ m ih =>
    by_cases e : k = m + 1
    · subst e; exact h
    · simp only [foldW, ih (by omega), Option.bind_none]
/-- Are some that are open still short of a capture within? The bottom of the stack does not count. -/
def shortW (s : List Fr) : Bool := s.dropLast.any fun f => decide (f.left > 0)
/-- How many captures are gone over ahead of the first that is wrong. -/
def seenW (l : List Cap) : Nat → Nat
  | 0 => 0
  | k + 1 => if (foldW l (k + 1)).isSome then k + 1 else seenW l k
def walkRes (l : List Cap) : Int × Bool :=
  match foldW l l.length with
  | none => ((seenW l l.length : Int), false)
  | some st => if shortW st.stk then ((l.length : Int), false) else (0, true)
theorem seenW_of {l : List Cap} {k : Nat} (h : (foldW l k).isSome) (hn : foldW l (k + 1) = none) : ∀ {m : Nat}, k ≤ m → seenW l m = k := by
  intro m
  induction m with
  | zero => intro hm; have : k = 0 := by omega
            subst this; rfl
  | succ m ih =>
    intro hm
    by_cases e : k = m + 1
    · subst e; simp only [seenW]; rw [if_pos h]
    · simp only [seenW]
      rw [foldW_none hn (by omega)]
      simp only [Option.isSome_none, Bool.false_eq_true, if_false]
      exact ih (by omega)
theorem seenW_all {l : List Cap} {k : Nat} (h : (foldW l k).isSome) : seenW l k = k := by
  cases k with
  | zero => rfl
  | succ k => simp only [seenW]; rw [if_pos h]
/-- What holds of the state behind k captures. -/
structure WOk (l : List Cap) (k : Nat) (s : WSt) : Prop where
  len : s.stk.length ≤ k + 1
  par : s.par.length = k
  last : ∃ u b, s.stk = u ++ [b] ∧ b.at_ = -1 ∧ b.left < 0 ∧ -(k : Int) - 1 ≤ b.left ∧ b.to = 65536
  high : ∀ f ∈ s.stk, f.left ≤ 9223372036854775807
  low : ∀ f ∈ s.stk.dropLast, 0 ≤ f.left
theorem WOk.start (l : List Cap) : WOk l 0 ws0 := ⟨by simp [ws0], rfl, ⟨[], _, rfl, rfl, by decide, by decide, rfl⟩, by intro f hf; simp [ws0] at hf; subst hf; decide, by intro f hf; simp [ws0] at hf⟩
theorem popz_suffix : ∀ (s : List Fr), ∃ u, s = u ++ popz s ∧ ∀ f ∈ u, f.left = 0
  | [] => ⟨[], rfl, by simp⟩
  | f :: r => by
    unfold popz
    by_cases h : f.left = 0
    · rw [if_pos h]
      obtain ⟨u, h1, h2⟩ := popz_suffix r
      exact ⟨f :: u, by rw [List.cons_append, ← h1], by intro g hg; rcases List.mem_cons.1 hg with rfl | hg; exact h; exact h2 g hg⟩
    · rw [if_neg h]; exact ⟨[], rfl, by simp⟩
theorem popz_last {s u : List Fr} {b : Fr} (h : s = u ++ [b]) (hb : b.left < 0) : ∃ u', popz s = u' ++ [b] ∧ u'.length ≤ u.length ∧ ∀ f ∈ u', f ∈ u := by
  subst h
  induction u with
  | nil => exact ⟨[], by simp only [List.nil_append, popz]; rw [if_neg (by omega)], Nat.le_refl _, by simp⟩
  | cons f u ih =>
    simp only [List.cons_append, popz]
    by_cases hf : f.left = 0
    · rw [if_pos hf]
      obtain ⟨u', h1, h2, h3⟩ := ih
      exact ⟨u', h1, by simp; omega, fun g hg => List.mem_cons_of_mem _ (h3 g hg)⟩
    · rw [if_neg hf]; exact ⟨f :: u, rfl, Nat.le_refl _, fun g hg => hg⟩
theorem popz_top {s : List Fr} {t : Fr} {r : List Fr} (h : popz s = t :: r) : t.left ≠ 0 := by
  induction s with
  | nil => cases h
  | cons f s ih =>
    unfold popz at h
    by_cases hf : f.left = 0
    · rw [if_pos hf] at h; exact ih h
    · rw [if_neg hf] at h; cases h; exact hf
theorem WOk.pop {l : List Cap} {k : Nat} {s : WSt} (h : WOk l k s) : ∃ t r, popz s.stk = t :: r ∧ t.left ≠ 0 ∧ (r.length + 1 ≤ k + 1) ∧ t.left ≤ 9223372036854775807 ∧ -(k : Int) - 1 ≤ t.left := by
  obtain ⟨u, b, h1, h2, h3, h4, h5⟩ := h.last
  obtain ⟨u', e1, e2, e3⟩ := popz_last h1 h3
  have hl := h.len
  rw [h1] at hl
  simp only [List.length_append, List.length_singleton] at hl
  cases u' with
  | nil =>
    simp only [List.nil_append] at e1
    exact ⟨b, [], e1, by omega, by simp, h.high b (by rw [h1]; simp), h4⟩
  | cons t u' =>
    have hm : t ∈ u := e3 t (by simp)
    have hlow := h.low t (by rw [h1, List.dropLast_concat]; exact hm)
    refine ⟨t, u' ++ [b], e1, popz_top e1, ?_, h.high t (by rw [h1]; simp [hm]), by omega⟩
    simp only [List.length_append, List.length_singleton]
    simp only [List.length_cons] at e2
    omega
theorem WOk.step {l : List Cap} {k : Nat} {s s' : WSt} {c : Cap} (h : WOk l k s) (hk : c.kids ≤ 9223372036854775807) (hs : stepW s k c = some s') : WOk l (k + 1) s' := by
  obtain ⟨u, b, h1, h2, h3, h4, h5⟩ := h.last
  obtain ⟨u', e1, e2, e3⟩ := popz_last h1 h3
  have hl := h.len
  rw [h1] at hl
  simp only [List.length_append, List.length_singleton] at hl
  unfold stepW at hs
  rw [e1] at hs
  have hkid : badC c ⟨0, 0, 0, 0⟩ = badC c ⟨0, 0, 0, 0⟩ := rfl
  cases u' with
  | nil =>
    simp only [List.nil_append] at hs
    by_cases hb : badC c b = true
    · rw [if_pos hb] at hs; cases hs
    · rw [if_neg hb] at hs
      cases hs
      have hc : 0 ≤ c.kids := by simp [badC] at hb; omega
      refine ⟨by simp, by simp [h.par], ⟨[_], _, rfl, h2, by simp only; omega, by simp only; omega, h5⟩, ?_, ?_⟩
      · intro f hf
        simp only [List.mem_cons, List.not_mem_nil, or_false] at hf
        rcases hf with rfl | rfl
        · exact hk
        · simp only; omega
      · intro f hf
        simp only [List.dropLast, List.mem_singleton] at hf
        subst hf; exact hc
  | cons t u' =>
    simp only [List.cons_append] at hs
    by_cases hb : badC c t = true
    · rw [if_pos hb] at hs; cases hs
    · rw [if_neg hb] at hs
      cases hs
      have hc : 0 ≤ c.kids := by simp [badC] at hb; omega
      have hm : t ∈ u := e3 t (by simp)
      have hlow := h.low t (by rw [h1, List.dropLast_concat]; exact hm)
      have hne := popz_top (show popz s.stk = t :: (u' ++ [b]) from e1)
      have hhi := h.high t (by rw [h1]; simp [hm])
      refine ⟨?_, by simp [h.par], ⟨_ :: _ :: u', b, rfl, h2, h3, by omega, h5⟩, ?_, ?_⟩
      · simp only [List.length_cons, List.length_append, List.length_singleton, List.length_nil] at e2 ⊢; omega
      · intro f hf
        simp only [List.mem_cons, List.mem_append, List.not_mem_nil, or_false] at hf
        rcases hf with rfl | rfl | hf | rfl
        · exact hk
        · simp only; omega
        · exact h.high f (by rw [h1]; simp [e3 f (by simp [hf])])
        · exact h.high _ (by rw [h1]; simp)
      · intro f hf
        rw [← List.cons_append, ← List.cons_append, List.dropLast_concat] at hf
        simp only [List.mem_cons] at hf
        rcases hf with rfl | rfl | hf
        · exact hc
        · simp only; omega
        · exact h.low f (by rw [h1, List.dropLast_concat]; exact e3 f (by simp [hf]))
theorem WOk.fold {l : List Cap} (hl : ∀ c ∈ l, c.kids ≤ 9223372036854775807) : ∀ {k : Nat} {s : WSt}, k ≤ l.length → foldW l k = some s → WOk l k s
  | 0, s, _, h => by cases h; exact WOk.start l
  | k + 1, s, hk, h => by
    simp only [foldW] at h
    cases hf : foldW l k with
    | none => rw [hf] at h; cases h
    | some t =>
      rw [hf] at h
      simp only [Option.bind_some] at h
      rw [List.getElem?_eq_getElem (by omega)] at h
      exact (WOk.fold hl (by omega) hf).step (hl _ (List.getElem_mem _)) h
end Go.Proofs.Ytebebognifiinaa
