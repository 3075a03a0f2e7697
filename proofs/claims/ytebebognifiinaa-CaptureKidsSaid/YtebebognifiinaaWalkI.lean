/-
  What the walk over captures keeps: how many stand within each, where they lie. No program here.
-/
import Derived.Test.YtebebognifiinaaDepth
namespace Go.Proofs.Ytebebognifiinaa
set_option linter.unusedVariables false
set_option linter.unusedSimpArgs false
structure WInv (l : List Cap) (k : Nat) (st : WSt) : Prop where
  plen : st.par.length = k
  plt : ∀ x ∈ st.par, x < k
  dec : st.stk.Pairwise fun f g => g.at_ < f.at_
  lt : ∀ f ∈ st.stk, f.at_ < k
  fr : ∀ f ∈ st.stk, ∀ (j : Nat) (c : Cap), st.par[j]? = some f.at_ → l[j]? = some c → c.to ≤ f.frm
  own : ∀ f ∈ st.stk, ∀ (a : Nat) (c : Cap), f.at_ = a → l[a]? = some c → c.frm ≤ f.frm ∧ f.to = c.to ∧ f.left + (st.par.count (a : Int) : Int) = c.kids
  done : ∀ (a : Nat), a < k → (∀ f ∈ st.stk, f.at_ ≠ a) → ∀ c, l[a]? = some c → ((st.par.count (a : Int) : Nat) : Int) = c.kids
  inside : ∀ (i a : Nat) (c d : Cap), st.par[i]? = some (a : Int) → l[i]? = some c → l[a]? = some d → d.frm ≤ c.frm ∧ c.to ≤ d.to
  rise : ∀ (j i : Nat) (x : Int) (c d : Cap), j < i → st.par[j]? = some x → st.par[i]? = some x → l[j]? = some c → l[i]? = some d → c.to ≤ d.frm
theorem WInv.start (l : List Cap) : WInv l 0 ws0 := by
  refine ⟨rfl, by simp [ws0], by simp [ws0], ?_, ?_, ?_, ?_, ?_, ?_⟩
  · intro f hf; simp [ws0] at hf; subst hf; decide
  · intro f hf j c h; simp [ws0] at h
  · intro f hf a c h; simp [ws0] at hf; subst hf; simp only at h; omega
  · intro a h; omega
  · intro i a c d h; simp [ws0] at h
  · intro j i x c d hji h; simp [ws0] at h
theorem par_snoc {P : List Int} {k j : Nat} {x y : Int} (hP : P.length = k) (h : (P ++ [x])[j]? = some y) : (j < k ∧ P[j]? = some y) ∨ (j = k ∧ y = x) := by
  rcases Nat.lt_or_ge j k with hj | hj
  · rw [List.getElem?_append_left (by omega)] at h; exact .inl ⟨hj, h⟩
  · rw [List.getElem?_append_right (by omega), hP] at h
    have : j - k = 0 := by
      rcases Nat.eq_zero_or_pos (j - k) with e | e
      · exact e
      · rw [List.getElem?_eq_none (by simp; omega)] at h; cases h
    rw [this] at h
    simp at h
    exact .inr ⟨by omega, h.symm⟩
theorem WInv.step {l : List Cap} {k : Nat} {s s' : WSt} {c : Cap} (h : WInv l k s) (hc : l[k]? = some c) (hs : stepW s k c = some s') : WInv l (k + 1) s' := by
  obtain ⟨u, hu, hu0⟩ := popz_suffix s.stk
  unfold stepW at hs
  cases hp : popz s.stk with
  | nil => rw [hp] at hs; cases hs
  | cons t r =>
    rw [hp] at hs hu
    simp only at hs
    by_cases hb : badC c t = true
    · rw [if_pos hb] at hs; cases hs
    rw [if_neg hb] at hs
    cases hs
    have hfrm : t.frm ≤ c.frm ∧ c.frm ≤ c.to ∧ c.to ≤ t.to := by simp [badC] at hb; omega
    have hdec := h.dec
    rw [hu] at hdec
    obtain ⟨hdu, hdr, hcross⟩ := List.pairwise_append.1 hdec
    obtain ⟨htr, hrr⟩ := List.pairwise_cons.1 hdr
    have htm : t ∈ s.stk := by rw [hu]; simp
    have hrm : ∀ g ∈ r, g ∈ s.stk := fun g hg => by rw [hu]; simp [hg]
    have htl := h.lt t htm
    have hcnt : ∀ x : Int, (s.par ++ [t.at_]).count x = s.par.count x + if t.at_ = x then 1 else 0 := by
      intro x; rw [List.count_append, List.count_singleton]; by_cases e : t.at_ = x <;> simp [e]
    have hck : s.par.count (k : Int) = 0 := by
      rw [List.count_eq_zero]
      intro hm
      have := h.plt _ hm
      omega
    refine ⟨by simp [h.plen], ?_, ?_, ?_, ?_, ?_, ?_, ?_, ?_⟩
    · intro x hx
      rcases List.mem_append.1 hx with hx | hx
      · have := h.plt x hx; omega
      · rw [List.mem_singleton.1 hx]; omega
    · -- dec
      refine List.pairwise_cons.2 ⟨fun g hg => ?_, List.pairwise_cons.2 ⟨fun g hg => htr g hg, hrr⟩⟩
      rcases List.mem_cons.1 hg with rfl | hg
      · exact htl
      · exact h.lt g (hrm g hg)
    · intro f hf
      simp only [List.mem_cons] at hf
      rcases hf with rfl | rfl | hf
      · show (k : Int) < ((k + 1 : Nat) : Int); omega
      · show t.at_ < ((k + 1 : Nat) : Int); omega
      · have := h.lt f (hrm f hf); omega
    · intro f hf j d hj hd
      simp only [List.mem_cons] at hf
      rcases par_snoc h.plen hj with ⟨hjk, hj⟩ | ⟨rfl, e⟩
      · rcases hf with rfl | rfl | hf
        · exfalso
          have := List.count_pos_iff.2 (List.mem_of_getElem? hj)
          simp only at this
          omega
        · have := h.fr t htm j d hj hd; show d.to ≤ c.to; omega
        · exact h.fr f (hrm f hf) j d hj hd
      · rw [hc] at hd
        cases hd
        rcases hf with rfl | rfl | hf
        · simp only at e; omega
        · exact Int.le_refl _
        · have := htr f hf; omega
    · intro f hf a d ha hd
      simp only [List.mem_cons] at hf
      rcases hf with rfl | rfl | hf
      · simp only at ha
        have : a = k := by omega
        subst this
        rw [hc] at hd; cases hd
        refine ⟨Int.le_refl _, rfl, ?_⟩
        rw [hcnt, hck, if_neg (by omega)]; simp
      · obtain ⟨h1, h2, h3⟩ := h.own t htm a d ha hd
        refine ⟨by show d.frm ≤ c.to; omega, h2, ?_⟩
        rw [hcnt, if_pos ha]; simp only; omega
      · obtain ⟨h1, h2, h3⟩ := h.own f (hrm f hf) a d ha hd
        refine ⟨h1, h2, ?_⟩
        rw [hcnt, if_neg (by have := htr f hf; omega)]; omega
    · intro a ha hno d hd
      have hak : a ≠ k := fun e => hno _ List.mem_cons_self (by simp [e])
      have hat : t.at_ ≠ a := fun e => hno _ (List.mem_cons_of_mem _ List.mem_cons_self) (by simpa using e)
      rw [hcnt, if_neg hat, Nat.add_zero]
      by_cases hin : ∃ f ∈ u, f.at_ = a
      · obtain ⟨f, hf, hfa⟩ := hin
        obtain ⟨-, -, h3⟩ := h.own f (by rw [hu]; simp [hf]) a d hfa hd
        rw [hu0 f hf] at h3
        omega
      · refine h.done a (by omega) (fun f hf hfa => ?_) d hd
        rw [hu] at hf
        rcases List.mem_append.1 hf with hf | hf
        · exact hin ⟨f, hf, hfa⟩
        · rcases List.mem_cons.1 hf with rfl | hf
          · exact hat hfa
          · exact hno f (List.mem_cons_of_mem _ (List.mem_cons_of_mem _ hf)) hfa
    · intro i a d d2 hi hd hd2
      rcases par_snoc h.plen hi with ⟨hik, hi⟩ | ⟨rfl, e⟩
      · exact h.inside i a d d2 hi hd hd2
      · rw [hc] at hd; cases hd
        obtain ⟨h1, h2, -⟩ := h.own t htm a d2 e.symm hd2
        omega
    · intro j i x d d2 hji hj hi hd hd2
      rcases par_snoc h.plen hi with ⟨hik, hi⟩ | ⟨rfl, e⟩
      · rcases par_snoc h.plen hj with ⟨hjk, hj⟩ | ⟨rfl, e2⟩
        · exact h.rise j i x d d2 hji hj hi hd hd2
        · omega
      · rcases par_snoc h.plen hj with ⟨hjk, hj⟩ | ⟨rfl, e2⟩
        · rw [hc] at hd2; cases hd2
          subst e
          have := h.fr t htm j d hj hd
          omega
        · omega
theorem WInv.fold {l : List Cap} : ∀ {k : Nat} {s : WSt}, k ≤ l.length → foldW l k = some s → WInv l k s
  | 0, s, _, h => by cases h; exact WInv.start l
  | k + 1, s, hk, h => by
    simp only [foldW] at h
    cases hf : foldW l k with
    | none => rw [hf] at h; cases h
    | some t =>
      rw [hf] at h
      simp only [Option.bind_some] at h
      rw [List.getElem?_eq_getElem (by omega)] at h
      exact (WInv.fold (by omega) hf).step (List.getElem?_eq_getElem (by omega)) h
/-- What stands right within a, rising. -/
theorem kidsTo_par {l : List Cap} {a : Int} : ∀ {k : Nat} {st : WSt}, foldW l k = some st → k ≤ l.length → kidsTo l a k = ((List.range k).filter fun i => decide (st.par[i]? = some a)).map fun (i : Nat) => (i : Int)
  | 0, st, h, _ => rfl
  | k + 1, st, h, hk => by
    have hf := h
    simp only [foldW] at hf
    cases hg : foldW l k with
    | none => rw [hg] at hf; cases hf
    | some t =>
      rw [hg] at hf
      simp only [Option.bind_some] at hf
      rw [List.getElem?_eq_getElem (by omega)] at hf
      obtain ⟨-, hl1, -⟩ := at_lt hg (by omega)
      have hpre : ∃ x, st.par = t.par ++ [x] := by
        simp only [stepW] at hf
        cases hp : popz t.stk with
        | nil => rw [hp] at hf; cases hf
        | cons f r =>
          rw [hp] at hf
          simp only at hf
          split at hf
          · cases hf
          · cases hf; exact ⟨_, rfl⟩
      obtain ⟨x, hx⟩ := hpre
      simp only [kidsTo, h]
      rw [kidsTo_par hg (by omega), List.range_succ, List.filter_append, List.map_append, hx]
      have h1 : (List.range k).filter (fun i => decide (t.par[i]? = some a)) = (List.range k).filter (fun i => decide ((t.par ++ [x])[i]? = some a)) := by
        refine List.filter_congr fun i hi => ?_
        rw [List.getElem?_append_left (by rw [hl1]; exact List.mem_range.1 hi)]
      rw [h1]
      congr 1
      have h2 : (t.par ++ [x])[k]? = some x := by rw [List.getElem?_append_right (by omega), hl1, Nat.sub_self]; rfl
      by_cases e : x = a
      · have hL : (if (t.par ++ [x])[k]? = some a then [(k : Int)] else []) = [(k : Int)] := if_pos (by rw [h2, e])
        have hR : List.filter (fun i => decide ((t.par ++ [x])[i]? = some a)) [k] = [k] := by rw [List.filter_cons, if_pos (by rw [h2, e]; simp)]; rfl
        rw [hL, hR]; rfl
      · have hL : (if (t.par ++ [x])[k]? = some a then [(k : Int)] else []) = [] := if_neg (by rw [h2]; simp [e])
        have hR : List.filter (fun i => decide ((t.par ++ [x])[i]? = some a)) [k] = [] := by rw [List.filter_cons, if_neg (by rw [h2]; simp [e])]; rfl
        rw [hL, hR]; rfl
theorem count_filter (P : List Int) (a : Int) : ∀ k, k ≤ P.length → ((List.range k).filter fun i => decide (P[i]? = some a)).length = (P.take k).count a
  | 0, _ => rfl
  | k + 1, hk => by
    rw [List.range_succ, List.filter_append, List.length_append, count_filter P a k (by omega), ← List.take_append_getElem (by omega : k < P.length), List.count_append, List.count_singleton]
    congr 1
    rw [List.filter_cons, List.filter_nil, List.getElem?_eq_getElem (by omega)]
    by_cases e : P[k] = a <;> simp [e]
/-- A list that is a forest: what stands in what. -/
structure IsForest (l : List Cap) (P : List Int) : Prop where
  len : P.length = l.length
  lt : ∀ (j : Nat) (i : Int), P[j]? = some i → -1 ≤ i ∧ i < j
  kids : ∀ (a : Nat) (c : Cap), l[a]? = some c → ((P.count (a : Int) : Nat) : Int) = c.kids
  inside : ∀ (i a : Nat) (c d : Cap), P[i]? = some (a : Int) → l[i]? = some c → l[a]? = some d → d.frm ≤ c.frm ∧ c.to ≤ d.to
  rise : ∀ (j i : Nat) (x : Int) (c d : Cap), j < i → P[j]? = some x → P[i]? = some x → l[j]? = some c → l[i]? = some d → c.to ≤ d.frm
  kidsTo : ∀ a, kidsTo l a l.length = ((List.range l.length).filter fun i => decide (P[i]? = some a)).map fun (i : Nat) => (i : Int)
theorem forest_of {l : List Cap} (hk : ∀ c ∈ l, c.kids ≤ 9223372036854775807) (h : (checkL l).2 = 0) : ∃ P, IsForest l P := by
  obtain ⟨hl, hsome, -⟩ := checkL_ok h
  cases hf : foldW l l.length with
  | none => rw [hf] at hsome; cases hsome
  | some st =>
    have hi := WInv.fold (Nat.le_refl _) hf
    have ho := WOk.fold hk (Nat.le_refl _) hf
    obtain ⟨-, hpl, hplt⟩ := at_lt hf (Nat.le_refl _)
    have hsh : shortW st.stk = false := by
      unfold checkL at h
      rw [if_pos hl] at h
      unfold walkRes at h
      rw [hf] at h
      simp only at h
      cases hs : shortW st.stk with
      | false => rfl
      | true => rw [hs] at h; simp at h
    refine ⟨st.par, hpl, hplt, ?_, hi.inside, hi.rise, fun a => kidsTo_par hf (Nat.le_refl _)⟩
    intro a c hc
    have hal : a < l.length := (List.getElem?_eq_some_iff.1 hc).1
    by_cases hex : ∃ f ∈ st.stk, f.at_ = a
    · obtain ⟨f, hfm, hfa⟩ := hex
      obtain ⟨-, -, h3⟩ := hi.own f hfm a c hfa hc
      obtain ⟨u, b, h1, h2, -⟩ := ho.last
      have hfu : f ∈ st.stk.dropLast := by
        rw [h1, List.dropLast_concat]
        rw [h1] at hfm
        rcases List.mem_append.1 hfm with h | h
        · exact h
        · rw [List.mem_singleton.1 h] at hfa; omega
      have hlow := ho.low f hfu
      unfold shortW at hsh
      rw [List.any_eq_false] at hsh
      have := hsh f hfu
      simp at this
      omega
    · exact hi.done a hal (fun f hfm hfa => hex ⟨f, hfm, hfa⟩) c hc
end Go.Proofs.Ytebebognifiinaa
