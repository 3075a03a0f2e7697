/-
  The forest of a log, in plain Lean: state and step; as the program lays it (To of an open capture is 0), as the document lays it (To is At): the same forest. No program here.
-/
import Derived.Test.YtebebognifiinaaWithin
namespace Go.Proofs.Ytebebognifiinaa
open Go.RowKit
set_option linter.unusedVariables false
set_option linter.unusedSimpArgs false
structure FSt where
  out : List Cap
  opn : List Nat
  place : Int
def kidUp (c : Cap) : Cap := { c with kids := c.kids + 1 }
def toAt (a : Int) (c : Cap) : Cap := { c with to := a }
def bump (out : List Cap) : List Nat → List Cap
  | [] => out
  | k :: _ => out.modify k kidUp
def stepF (b : Bool) (st : FSt) (x : Note) : Option FSt :=
  if noteOk x st.place then
    if x.op = 19 then
      match st.opn with
      | [] => none
      | k :: r => some ⟨st.out.modify k (toAt x.at_), r, x.at_ + x.len⟩
    else if x.op = 18 then some ⟨bump st.out st.opn ++ [⟨x.kind, x.at_, if b then x.at_ + x.len else 0, 0, x.n, x.text⟩], st.out.length :: st.opn, x.at_ + x.len⟩
    else some ⟨bump st.out st.opn ++ [⟨x.kind, x.at_, x.at_ + x.len, 0, x.n, x.text⟩], st.opn, x.at_ + x.len⟩
  else none
def foldF (b : Bool) : FSt → List Note → Option FSt
  | st, [] => some st
  | st, x :: l => match stepF b st x with
    | none => none
    | some st' => foldF b st' l
def endF (b : Bool) (l : List Note) : Option (List Cap) :=
  match foldF b ⟨[], [], 0⟩ l with
  | some ⟨out, [], _⟩ => some out
  | _ => none
/-- Equal but for To of those that are open. -/
structure FRel (s t : FSt) : Prop where
  opn : s.opn = t.opn
  place : s.place = t.place
  len : s.out.length = t.out.length
  nodup : s.opn.Nodup
  lt : ∀ i ∈ s.opn, i < s.out.length
  zero : ∀ i : Nat, (s.out[i]?).map (toAt 0) = (t.out[i]?).map (toAt 0)
  same : ∀ i : Nat, i ∉ s.opn → s.out[i]? = t.out[i]?
theorem bump_len (l : List Cap) (o : List Nat) : (bump l o).length = l.length := by cases o <;> simp [bump]
theorem toAt_toAt (a b : Int) (c : Cap) : toAt a (toAt b c) = toAt a c := rfl
theorem bump_zero {l m : List Cap} (o : List Nat) (h : ∀ i : Nat, (l[i]?).map (toAt 0) = (m[i]?).map (toAt 0)) (i : Nat) : ((bump l o)[i]?).map (toAt 0) = ((bump m o)[i]?).map (toAt 0) := by
  cases o with
  | nil => exact h i
  | cons k r =>
    simp only [bump, List.getElem?_modify]
    by_cases hk : k = i
    · have hz := congrArg (Option.map kidUp) (h i)
      simp only [hk, if_true, Option.map_map] at hz ⊢
      simpa [Functor.map, Function.comp_def, kidUp, toAt] using hz
    · simpa [hk, Functor.map] using h i
theorem bump_same {l m : List Cap} (o : List Nat) {i : Nat} (h : l[i]? = m[i]?) : (bump l o)[i]? = (bump m o)[i]? := by
  cases o with
  | nil => exact h
  | cons k r => simp only [bump, List.getElem?_modify, h]
theorem push_at {α : Type} {l m : List α} (hl : l.length = m.length) {c d : α} {i : Nat} (f : α → α) (h : (l[i]?).map f = (m[i]?).map f) (hc : f c = f d) : ((l ++ [c])[i]?).map f = ((m ++ [d])[i]?).map f := by
  by_cases h1 : i < l.length
  · rw [List.getElem?_append_left h1, List.getElem?_append_left (by omega)]; exact h
  · rw [List.getElem?_append_right (by omega), List.getElem?_append_right (by omega), hl]
    cases i - m.length with
    | zero => simp [hc]
    | succ n => simp
theorem FRel.step {s t : FSt} (h : FRel s t) (x : Note) : (stepF false s x = none ∧ stepF true t x = none) ∨ ∃ s' t', stepF false s x = some s' ∧ stepF true t x = some t' ∧ FRel s' t' := by
  obtain ⟨so, sp, spl⟩ := s
  obtain ⟨to, tp, tpl⟩ := t
  obtain ⟨h1, h2, h3, h4, h5, h6, h7⟩ := h
  simp only at h1 h2 h3 h4 h5 h6 h7
  subst h1 h2
  unfold stepF
  simp only
  by_cases hok : noteOk x spl = true
  rotate_left 1
  · exact .inl ⟨by simp [hok], by simp [hok]⟩
  simp only [hok, if_true]
  by_cases h19 : x.op = 19
  · simp only [h19, if_true]
    cases sp with
    | nil => exact .inl ⟨rfl, rfl⟩
    | cons k r =>
      refine .inr ⟨_, _, rfl, rfl, rfl, rfl, by simp [h3], (List.nodup_cons.1 h4).2, fun i hi => by simpa using h5 i (List.mem_cons_of_mem _ hi), fun i => ?_, fun i hi => ?_⟩
      · simp only [List.getElem?_modify]
        by_cases hk : k = i
        · simp only [hk, if_true, Functor.map, Option.map_map]
          exact h6 i
        · simpa [hk, Functor.map] using h6 i
      · simp only [List.getElem?_modify]
        by_cases hk : k = i
        · have hz := congrArg (Option.map (toAt x.at_)) (h6 i)
          simpa [hk, Functor.map, Function.comp_def, toAt] using hz
        · have := h7 i (by simp only [List.mem_cons, not_or]; exact ⟨fun e => hk e.symm, hi⟩)
          simp [hk, Functor.map, this]
  by_cases h18 : x.op = 18
  · refine .inr ⟨_, _, by rw [if_neg (by omega), if_pos h18], by rw [if_neg (by omega), if_pos h18], ?_⟩
    refine ⟨by simp [h3], rfl, by simp [bump_len, h3], ?_, ?_, ?_, ?_⟩
    · exact List.nodup_cons.2 ⟨fun hm => Nat.lt_irrefl _ (h5 _ hm), h4⟩
    · intro i hi
      simp only [List.length_append, bump_len, List.length_singleton]
      rcases List.mem_cons.1 hi with rfl | hi
      · omega
      · have := h5 i hi; omega
    · exact fun i => push_at (by simp [bump_len, h3]) _ (bump_zero sp h6 i) rfl
    · intro i hi
      simp only [List.mem_cons, not_or] at hi
      have hb := bump_same sp (h7 i hi.2)
      by_cases h1 : i < so.length
      · rw [List.getElem?_append_left (by rw [bump_len]; omega), List.getElem?_append_left (by rw [bump_len]; omega)]; exact hb
      · rw [List.getElem?_eq_none (by simp [bump_len]; omega), List.getElem?_eq_none (by simp [bump_len]; omega)]
  · refine .inr ⟨_, _, by rw [if_neg h19, if_neg h18], by rw [if_neg h19, if_neg h18], ?_⟩
    refine ⟨rfl, rfl, by simp [bump_len, h3], h4, ?_, ?_, ?_⟩
    · intro i hi
      simp only [List.length_append, bump_len, List.length_singleton]
      have := h5 i hi; omega
    · exact fun i => push_at (by simp [bump_len, h3]) _ (bump_zero sp h6 i) rfl
    · intro i hi
      have := push_at (l := bump so sp) (m := bump to sp) (c := (⟨x.kind, x.at_, x.at_ + x.len, 0, x.n, x.text⟩ : Cap)) (by simp [bump_len, h3]) id (by simpa using bump_same sp (h7 i hi)) rfl
      simpa using this
theorem FRel.fold {s t : FSt} (h : FRel s t) (l : List Note) : (foldF false s l = none ∧ foldF true t l = none) ∨ ∃ s' t', foldF false s l = some s' ∧ foldF true t l = some t' ∧ FRel s' t' := by
  induction l generalizing s t with
  | nil => exact .inr ⟨s, t, rfl, rfl, h⟩
  | cons x l ih =>
    simp only [foldF]
    rcases h.step x with ⟨h1, h2⟩ | ⟨s', t', h1, h2, h'⟩
    · rw [h1, h2]; exact .inl ⟨rfl, rfl⟩
    · rw [h1, h2]; exact ih h'
theorem endF_same (l : List Note) : endF false l = endF true l := by
  have h0 : FRel ⟨[], [], 0⟩ ⟨[], [], 0⟩ := ⟨rfl, rfl, rfl, List.nodup_nil, fun i hi => (by cases hi), fun i => rfl, fun i _ => rfl⟩
  unfold endF
  rcases h0.fold l with ⟨h1, h2⟩ | ⟨⟨so, sp, spl⟩, ⟨to, tp, tpl⟩, h1, h2, h⟩
  · rw [h1, h2]
  · rw [h1, h2]
    have ho := h.opn
    simp only at ho
    subst ho
    cases sp with
    | nil => exact congrArg some (List.ext_getElem? fun i => h.same i (by simp))
    | cons k r => rfl
theorem owns_shorter {w : World} {base : Nat} {e : TypeId} {size g n cap : Nat} {xs : List Value} (h : w.ownsRow base e size (.slice (some ⟨g, 0, none⟩) n cap) n xs) {m : Nat} (hm : m ≤ n) :
    w.ownsRow base e size (.slice (some ⟨g, 0, none⟩) m cap) m (xs.take (m * size)) := by
  obtain ⟨hl, h⟩ := h
  have hms : m * size ≤ n * size := Nat.mul_le_mul_right _ hm
  refine ⟨by rw [List.length_take]; omega, ?_⟩
  rcases h with ⟨he, -⟩ | ⟨g', cap', cur, he, h1, h2, h3, h4, h5, h6⟩
  · cases he
  · cases he
    refine .inr ⟨g, cap, cur, rfl, h1, h2, Nat.le_trans hm h3, h4, h5, ?_⟩
    rw [← h6, List.take_take, Nat.min_eq_left hms]
/-- What holds of the state behind n notes. -/
structure FOk (n : Nat) (s : FSt) : Prop where
  len : s.out.length ≤ n
  olen : s.opn.length ≤ n
  lt : ∀ i ∈ s.opn, i < s.out.length
  low : 0 ≤ s.place
  high : s.place ≤ 65536
  kids : ∀ c ∈ s.out, 0 ≤ c.kids ∧ c.kids ≤ n
theorem noteOk_next {x : Note} {p : Int} (h : noteOk x p = true) (h0 : 0 ≤ p) : 0 ≤ x.at_ + x.len ∧ x.at_ + x.len ≤ 65536 := by
  simp only [noteOk, Bool.and_eq_true, Bool.or_eq_true, decide_eq_true_eq] at h
  omega
theorem mem_modify {α : Type} {l : List α} {k : Nat} {f : α → α} {c : α} (h : c ∈ l.modify k f) : c ∈ l ∨ ∃ d ∈ l, c = f d := by
  obtain ⟨i, hi⟩ := List.mem_iff_getElem?.1 h
  rw [List.getElem?_modify] at hi
  by_cases hk : k = i
  · simp only [hk, if_true] at hi
    cases hd : l[i]? with
    | none => rw [hd] at hi; cases hi
    | some d => rw [hd] at hi; exact .inr ⟨d, List.mem_of_getElem? hd, by cases hi; rfl⟩
  · simp only [hk, if_false] at hi
    cases hd : l[i]? with
    | none => rw [hd] at hi; cases hi
    | some d => rw [hd] at hi; refine .inl ?_; cases hi; exact List.mem_of_getElem? hd
theorem FOk.bumped {n : Nat} {out : List Cap} {o : List Nat} (h : ∀ c ∈ out, 0 ≤ c.kids ∧ c.kids ≤ n) : ∀ c ∈ bump out o, 0 ≤ c.kids ∧ c.kids ≤ n + 1 := by
  intro c hc
  cases o with
  | nil => have := h c hc; omega
  | cons k r =>
    rcases mem_modify hc with hc | ⟨d, hd, rfl⟩
    · have := h c hc; omega
    · have := h d hd; simp only [kidUp]; omega
theorem FOk.step {n : Nat} {b : Bool} {s t : FSt} (h : FOk n s) {x : Note} (hs : stepF b s x = some t) : FOk (n + 1) t := by
  obtain ⟨so, sp, spl⟩ := s
  obtain ⟨h1, h2, h3, h4, h5, h6⟩ := h
  simp only at h1 h2 h3 h4 h5 h6
  unfold stepF at hs
  simp only at hs
  by_cases hok : noteOk x spl = true
  rotate_left 1
  · rw [if_neg hok] at hs; cases hs
  rw [if_pos hok] at hs
  have hn := noteOk_next hok h4
  by_cases h19 : x.op = 19
  · rw [if_pos h19] at hs
    cases sp with
    | nil => cases hs
    | cons k r =>
      cases hs
      refine ⟨by simp; omega, by simp at h2 ⊢; omega, fun i hi => by simpa using h3 i (List.mem_cons_of_mem _ hi), hn.1, hn.2, fun c hc => ?_⟩
      rcases mem_modify hc with hc | ⟨d, hd, rfl⟩
      · have := h6 c hc; omega
      · have := h6 d hd; simp only [toAt]; omega
  rw [if_neg h19] at hs
  have hk : ∀ (y : Cap), y.kids = 0 → ∀ c ∈ bump so sp ++ [y], 0 ≤ c.kids ∧ c.kids ≤ ((n + 1 : Nat) : Int) := by
    intro y hy c hc
    rcases List.mem_append.1 hc with hc | hc
    · have := FOk.bumped h6 c hc; omega
    · rw [List.mem_singleton.1 hc, hy]; omega
  by_cases h18 : x.op = 18
  · rw [if_pos h18] at hs
    cases hs
    refine ⟨by simp [bump_len]; omega, by simp; omega, fun i hi => ?_, hn.1, hn.2, hk _ rfl⟩
    simp only [List.length_append, bump_len, List.length_singleton]
    rcases List.mem_cons.1 hi with rfl | hi
    · omega
    · have := h3 i hi; omega
  · rw [if_neg h18] at hs
    cases hs
    refine ⟨by simp [bump_len]; omega, by simp; omega, fun i hi => ?_, hn.1, hn.2, hk _ rfl⟩
    have := h3 i hi
    simp only [List.length_append, bump_len, List.length_singleton]; omega
theorem foldF_snoc (b : Bool) (l : List Note) (x : Note) (s : FSt) : foldF b s (l ++ [x]) = (foldF b s l).bind fun t => stepF b t x := by
  induction l generalizing s with
  | nil => simp only [List.nil_append, foldF, Option.bind_some]; cases stepF b s x <;> rfl
  | cons y l ih =>
    simp only [List.cons_append, foldF]
    cases stepF b s y with
    | none => rfl
    | some t => exact ih t
theorem FOk.fold {b : Bool} {t : FSt} : ∀ (l : List Note) (s : FSt) (n : Nat), FOk n s → foldF b s l = some t → FOk (n + l.length) t
  | [], s, n, h, hf => by cases hf; simpa using h
  | x :: l, s, n, h, hf => by
    simp only [foldF] at hf
    cases hs : stepF b s x with
    | none => rw [hs] at hf; cases hf
    | some s' =>
      rw [hs] at hf
      have := FOk.fold l s' (n + 1) (h.step hs) hf
      rw [List.length_cons, show n + (l.length + 1) = n + 1 + l.length from by omega]; exact this
def fs0 : FSt := ⟨[], [], 0⟩
theorem FOk.start : FOk 0 fs0 := ⟨Nat.le_refl _, Nat.le_refl _, fun i hi => (by cases hi), Int.le_refl _, by decide, fun c hc => (by cases hc)⟩
theorem FOk.take {b : Bool} {t : FSt} {l : List Note} {k : Nat} (hk : k ≤ l.length) (h : foldF b fs0 (l.take k) = some t) : FOk k t := by
  have := FOk.fold _ _ 0 FOk.start h
  rwa [Nat.zero_add, List.length_take, Nat.min_eq_left hk] at this
theorem foldF_take {b : Bool} {t : FSt} {l : List Note} {k : Nat} {x : Note} (hx : l[k]? = some x) (h : foldF b fs0 (l.take k) = some t) : foldF b fs0 (l.take (k + 1)) = stepF b t x := by
  have hk : k < l.length := (List.getElem?_eq_some_iff.1 hx).1
  rw [← List.take_append_getElem hk, foldF_snoc, h, Option.bind_some, (List.getElem?_eq_some_iff.1 hx).2]
/-- A state from which there is no step: nor is there one with more notes. -/
theorem foldF_none {b : Bool} {l : List Note} {k : Nat} (h : foldF b fs0 (l.take k) = none) : endF b l = none := by
  have hg : ∀ (m : List Note) (s : FSt) (r : List Note), foldF b s m = none → foldF b s (m ++ r) = none := by
    intro m
    induction m with
    | nil => intro s r h; cases h
    | cons x m ih =>
      intro s r h
      simp only [List.cons_append, foldF] at h ⊢
      cases hs : stepF b s x with
      | none => rfl
      | some s' => rw [hs] at h; exact ih s' r h
  have := hg _ _ (l.drop k) h
  rw [List.take_append_drop] at this
  unfold endF
  rw [show (⟨[], [], 0⟩ : FSt) = fs0 from rfl, this]
end Go.Proofs.Ytebebognifiinaa
