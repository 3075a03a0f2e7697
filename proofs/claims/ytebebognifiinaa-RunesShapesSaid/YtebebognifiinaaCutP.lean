/-
  How a range of code points is cut: as it is printed. No memory here.
-/
import Derived.Test.YtebebognifiinaaUtfP
namespace Go.Proofs.Ytebebognifiinaa.U
open Go.RowKit Go.Proofs.YtebebognifiinaaW.PrintWords Go.Proofs.YtebebognifiinaaW.PrintLast Go.Proofs.YtebebognifiinaaW.PrintMore
set_option linter.unusedVariables false
set_option linter.unusedSimpArgs false
abbrev SP := S63
def sizeN (r : Int) : Nat := if r ≤ 127 then 1 else if r ≤ 2047 then 2 else if r ≤ 65535 then 3 else 4
/-- Where a range is cut at a power of 64; none: it need not be cut there. -/
def cutAt (lo hi m : Int) : Option Int := if lo / m = hi / m then none else if lo % m ≠ 0 then some ((lo / m + 1) * m) else if (hi + 1) % m ≠ 0 then some (hi / m * m) else none
def firstCut (lo hi : Int) : List Int → Option Int
  | [] => none
  | m :: l => match cutAt lo hi m with | some c => some c | none => firstCut lo hi l
def powers (n : Nat) : List Int := ([64, 4096, 262144] : List Int).take (n - 1)
def nextCut (lo hi : Int) : Option Int := firstCut lo hi (powers (sizeN lo))
def cutF : Nat → Int → Int → List SP
  | 0, lo, hi => [⟨lo, hi⟩]
  | f + 1, lo, hi => match nextCut lo hi with | none => [⟨lo, hi⟩] | some c => cutF f lo (c - 1) ++ cutF f c hi
/-- A range of numbers whose encodings are as long: none of the surrogates. -/
def Class (lo hi : Int) : Prop := 0 ≤ lo ∧ lo ≤ hi ∧ hi ≤ 1114111 ∧ sizeN lo = sizeN hi ∧ ¬ (55296 ≤ lo ∧ lo ≤ 57343) ∧ ¬ (55296 ≤ hi ∧ hi ≤ 57343) ∧ ¬ (lo < 55296 ∧ 57343 < hi)
theorem cutAt_in {lo hi m c : Int} (hm : m = 64 ∨ m = 4096 ∨ m = 262144) (h : cutAt lo hi m = some c) (hle : lo ≤ hi) : lo < c ∧ c ≤ hi := by
  unfold cutAt at h
  by_cases h1 : lo / m = hi / m
  · rw [if_pos h1] at h; cases h
  rw [if_neg h1] at h
  by_cases h2 : lo % m ≠ 0
  · rw [if_pos h2] at h
    have := Option.some.inj h
    rcases hm with rfl | rfl | rfl <;> omega
  rw [if_neg h2] at h
  by_cases h3 : (hi + 1) % m ≠ 0
  · rw [if_pos h3] at h
    have := Option.some.inj h
    rcases hm with rfl | rfl | rfl <;> omega
  · rw [if_neg h3] at h; cases h
theorem firstCut_in {lo hi c : Int} (hle : lo ≤ hi) : ∀ (l : List Int), (∀ m ∈ l, m = 64 ∨ m = 4096 ∨ m = 262144) → firstCut lo hi l = some c → lo < c ∧ c ≤ hi
  | [], _, h => by cases h
  | m :: l, hm, h => by
    simp only [firstCut] at h
    split at h
    · rename_i d hd
      cases h
      exact cutAt_in (hm m List.mem_cons_self) hd hle
    · exact firstCut_in hle l (fun x hx => hm x (List.mem_cons_of_mem _ hx)) h
theorem powers_are (n : Nat) : ∀ m ∈ powers n, m = 64 ∨ m = 4096 ∨ m = 262144 := by
  intro m hm
  have := List.mem_of_mem_take hm
  simp only [List.mem_cons, List.not_mem_nil, or_false] at this
  exact this
theorem nextCut_in {lo hi c : Int} (hle : lo ≤ hi) (h : nextCut lo hi = some c) : lo < c ∧ c ≤ hi := firstCut_in hle _ (powers_are _) h
theorem sizeN_mono {a b : Int} (h : a ≤ b) : sizeN a ≤ sizeN b := by
  unfold sizeN; repeat' split
  all_goals omega
theorem Class.left {lo hi c : Int} (h : Class lo hi) (h1 : lo < c) (h2 : c ≤ hi) : Class lo (c - 1) := by
  obtain ⟨a1, a2, a3, a4, a5, a6, a7⟩ := h
  have b1 := sizeN_mono (show lo ≤ c - 1 by omega)
  have b2 := sizeN_mono (show c - 1 ≤ hi by omega)
  exact ⟨a1, by omega, by omega, by omega, a5, by omega, by omega⟩
theorem Class.right {lo hi c : Int} (h : Class lo hi) (h1 : lo < c) (h2 : c ≤ hi) : Class c hi := by
  obtain ⟨a1, a2, a3, a4, a5, a6, a7⟩ := h
  have b1 := sizeN_mono (show lo ≤ c by omega)
  have b2 := sizeN_mono (show c ≤ hi by omega)
  exact ⟨by omega, h2, a3, by omega, by omega, a6, by omega⟩
theorem cutF_len (f : Nat) : ∀ (lo hi : Int), lo ≤ hi → ((cutF f lo hi).length : Int) ≤ hi - lo + 1 := by
  induction f with
  | zero => intro lo hi h; simp only [cutF, List.length_singleton]; omega
  | succ f ih =>
    intro lo hi h
    simp only [cutF]
    split
    · simp only [List.length_singleton]; omega
    · rename_i c hc
      obtain ⟨h1, h2⟩ := nextCut_in h hc
      have e1 := ih lo (c - 1) (by omega)
      have e2 := ih c hi h2
      rw [List.length_append]
      omega
theorem size_f (k : Nat) {lo : Int} (h0 : 0 ≤ lo) (h1 : lo ≤ 1114111) (h2 : ¬ (55296 ≤ lo ∧ lo ≤ 57343)) : runes_size.f (k + 1) lo = some (sizeN lo : Int) := by
  have hw : wrap32 lo = lo := by unfold wrap32; omega
  unfold runes_size.f utf8_RuneLen.f
  rw [hw, if_neg (by omega)]
  unfold sizeN
  by_cases c1 : lo ≤ 127
  · rw [if_pos c1, if_pos c1]; rfl
  rw [if_neg c1, if_neg c1]
  by_cases c2 : lo ≤ 2047
  · rw [if_pos c2, if_pos c2]; rfl
  rw [if_neg c2, if_neg c2]
  by_cases c3 : lo ≤ 65535
  · rw [if_pos c3]
    by_cases c4 : 55296 ≤ lo
    · rw [if_pos c4, decide_eq_false (by omega)]
      simp only [utf8_RuneLen.j0]
      rw [if_neg (by decide), if_pos c3]; rfl
    · rw [if_neg c4]
      simp only [utf8_RuneLen.j0]
      rw [if_neg (by decide), if_pos c3]; rfl
  · rw [if_neg c3, if_pos (by omega), decide_eq_false (by omega)]
    simp only [utf8_RuneLen.j0]
    rw [if_neg (by decide), if_neg c3, if_pos h1]; rfl
/-- One turn of the loop that looks for a cut. -/
theorem cut_turn (k : Nat) {lo hi m cnt i : Int} (h0 : 0 ≤ lo) (h1 : lo ≤ hi) (h2 : hi ≤ 1114111) (hm : m = 1 ∨ m = 64 ∨ m = 4096) (hi0 : 0 ≤ i) (hi1 : i < cnt) (hc : cnt ≤ 3) :
    runes_cut.l0 (k + 1) lo hi m cnt i = match cutAt lo hi (m * 64) with
      | none => runes_cut.l0 k lo hi (m * 64) cnt (i + 1)
      | some c => (runes_cut.f k lo (c - 1)).bind fun a => (runes_cut.f k c hi).bind fun b => if a.length + b.length < 8796093022208 then some (a ++ b) else none := by
  have hwm : wrap64 (m * 64) = m * 64 := by unfold wrap64; omega
  have hwi : wrap64 (i + 1) = i + 1 := by unfold wrap64; omega
  have t1 : Int.tdiv lo (m * 64) = lo / (m * 64) := Int.tdiv_eq_ediv_of_nonneg h0
  have t2 : Int.tdiv hi (m * 64) = hi / (m * 64) := Int.tdiv_eq_ediv_of_nonneg (by omega)
  have t3 : Int.tmod lo (m * 64) = lo % (m * 64) := Int.tmod_eq_emod_of_nonneg h0
  have t4 : Int.tmod (hi + 1) (m * 64) = (hi + 1) % (m * 64) := Int.tmod_eq_emod_of_nonneg (by omega)
  have w1 : wrap64 (lo / (m * 64)) = lo / (m * 64) := by unfold wrap64; rcases hm with rfl | rfl | rfl <;> omega
  have w2 : wrap64 (hi / (m * 64)) = hi / (m * 64) := by unfold wrap64; rcases hm with rfl | rfl | rfl <;> omega
  have w3 : wrap64 (hi + 1) = hi + 1 := by unfold wrap64; omega
  have w4 : wrap64 (lo / (m * 64) + 1) = lo / (m * 64) + 1 := by unfold wrap64; rcases hm with rfl | rfl | rfl <;> omega
  have w5 : wrap64 ((lo / (m * 64) + 1) * (m * 64)) = (lo / (m * 64) + 1) * (m * 64) := by unfold wrap64; rcases hm with rfl | rfl | rfl <;> omega
  have w6 : wrap64 ((lo / (m * 64) + 1) * (m * 64) - 1) = (lo / (m * 64) + 1) * (m * 64) - 1 := by unfold wrap64; rcases hm with rfl | rfl | rfl <;> omega
  have w7 : wrap64 ((lo / (m * 64) + 1) * (m * 64) - 1 + 1) = (lo / (m * 64) + 1) * (m * 64) := by unfold wrap64; rcases hm with rfl | rfl | rfl <;> omega
  have w8 : wrap64 (hi / (m * 64) * (m * 64)) = hi / (m * 64) * (m * 64) := by unfold wrap64; rcases hm with rfl | rfl | rfl <;> omega
  have w9 : wrap64 (hi / (m * 64) * (m * 64) - 1) = hi / (m * 64) * (m * 64) - 1 := by unfold wrap64; rcases hm with rfl | rfl | rfl <;> omega
  simp only [runes_cut.l0]
  rw [if_pos hi1, hwm, if_neg (by omega), t1, t2, t3, w3, t4, w1, w2, hwi, w4, w5, w6, w7, w8, w9]
  unfold cutAt
  by_cases c1 : lo / (m * 64) = hi / (m * 64)
  · rw [if_pos c1, if_pos c1]
  rw [if_neg c1, if_neg c1]
  by_cases c2 : lo % (m * 64) = 0
  · rw [if_pos c2, if_neg (show ¬ (lo % (m * 64) ≠ 0) from fun h => h c2)]
    by_cases c3 : (hi + 1) % (m * 64) = 0
    · rw [if_pos c3, if_neg (show ¬ ((hi + 1) % (m * 64) ≠ 0) from fun h => h c3)]
    · rw [if_neg c3, if_pos (show (hi + 1) % (m * 64) ≠ 0 from c3)]
  · rw [if_neg c2, if_pos (show lo % (m * 64) ≠ 0 from c2)]
theorem cut_end (k : Nat) {lo hi m cnt i : Int} (h : ¬ i < cnt) : runes_cut.l0 (k + 1) lo hi m cnt i = some [⟨lo, hi⟩] := by
  simp only [runes_cut.l0]
  rw [if_neg h]
theorem sizeN_4 (lo : Int) : sizeN lo = 1 ∨ sizeN lo = 2 ∨ sizeN lo = 3 ∨ sizeN lo = 4 := by
  unfold sizeN; repeat' split
  all_goals omega
theorem sizeN_wrap {lo : Int} : wrap64 ((sizeN lo : Int) - 1) = (sizeN lo : Int) - 1 := by
  have := sizeN_4 lo
  unfold wrap64; omega
/-- The whole loop: to the first cut. -/
theorem cut_loop (k : Nat) {lo hi : Int} (h0 : 0 ≤ lo) (h1 : lo ≤ hi) (h2 : hi ≤ 1114111) (A B : List SP) (hl : A.length + B.length < 8796093022208)
    (hA : ∀ c k', nextCut lo hi = some c → k ≤ k' → runes_cut.f k' lo (c - 1) = some A) (hB : ∀ c k', nextCut lo hi = some c → k ≤ k' → runes_cut.f k' c hi = some B) :
    runes_cut.l0 (k + 4) lo hi 1 ((sizeN lo : Nat) - 1 : Int) 0 = some (match nextCut lo hi with | none => [⟨lo, hi⟩] | some c => A ++ B) := by
  have hn : sizeN lo = 1 ∨ sizeN lo = 2 ∨ sizeN lo = 3 ∨ sizeN lo = 4 := sizeN_4 lo
  have fin : ∀ c k', k ≤ k' → nextCut lo hi = some c → ((runes_cut.f k' lo (c - 1)).bind fun a => (runes_cut.f k' c hi).bind fun b => if a.length + b.length < 8796093022208 then some (a ++ b) else none) = some (A ++ B) := by
    intro c k' hk hc
    rw [hA c k' hc hk, Option.bind_some, hB c k' hc hk, Option.bind_some, if_pos hl]
  have hnc : nextCut lo hi = firstCut lo hi (powers (sizeN lo)) := rfl
  generalize nextCut lo hi = X at *
  rcases hn with e | e | e | e
  · rw [e] at hnc ⊢
    have : X = none := hnc
    subst this
    exact cut_end _ (by decide)
  · rw [e] at hnc ⊢
    replace hnc : X = firstCut lo hi [64] := hnc
    rw [show k + 4 = (k + 3) + 1 from rfl, cut_turn (k + 3) h0 h1 h2 (.inl rfl) (by decide) (by decide) (by decide)]
    simp only [firstCut, Int.one_mul] at hnc ⊢
    cases hc : cutAt lo hi 64 with
    | some c => rw [hc] at hnc; subst hnc; exact fin c _ (by omega) rfl
    | none => rw [hc] at hnc; subst hnc; exact cut_end _ (by decide)
  · rw [e] at hnc ⊢
    replace hnc : X = firstCut lo hi [64, 4096] := hnc
    rw [show k + 4 = (k + 3) + 1 from rfl, cut_turn (k + 3) h0 h1 h2 (.inl rfl) (by decide) (by decide) (by decide)]
    simp only [firstCut, Int.one_mul] at hnc ⊢
    cases hc : cutAt lo hi 64 with
    | some c => rw [hc] at hnc; subst hnc; exact fin c _ (by omega) rfl
    | none =>
      rw [hc] at hnc
      simp only at hnc ⊢
      rw [show k + 3 = (k + 2) + 1 from rfl, cut_turn (k + 2) h0 h1 h2 (.inr (.inl rfl)) (by decide) (by decide) (by decide)]
      simp only [show (64 : Int) * 64 = 4096 from rfl]
      cases hd : cutAt lo hi 4096 with
      | some c => rw [hd] at hnc; subst hnc; exact fin c _ (by omega) rfl
      | none => rw [hd] at hnc; subst hnc; exact cut_end _ (by decide)
  · rw [e] at hnc ⊢
    replace hnc : X = firstCut lo hi [64, 4096, 262144] := hnc
    rw [show k + 4 = (k + 3) + 1 from rfl, cut_turn (k + 3) h0 h1 h2 (.inl rfl) (by decide) (by decide) (by decide)]
    simp only [firstCut, Int.one_mul] at hnc ⊢
    cases hc : cutAt lo hi 64 with
    | some c => rw [hc] at hnc; subst hnc; exact fin c _ (by omega) rfl
    | none =>
      rw [hc] at hnc
      simp only at hnc ⊢
      rw [show k + 3 = (k + 2) + 1 from rfl, cut_turn (k + 2) h0 h1 h2 (.inr (.inl rfl)) (by decide) (by decide) (by decide)]
      simp only [show (64 : Int) * 64 = 4096 from rfl]
      cases hd : cutAt lo hi 4096 with
      | some c => rw [hd] at hnc; subst hnc; exact fin c _ (by omega) rfl
      | none =>
        rw [hd] at hnc
        simp only at hnc ⊢
        rw [show k + 2 = (k + 1) + 1 from rfl, cut_turn (k + 1) h0 h1 h2 (.inr (.inr rfl)) (by decide) (by decide) (by decide)]
        simp only [show (4096 : Int) * 64 = 262144 from rfl]
        cases hx : cutAt lo hi 262144 with
        | some c => rw [hx] at hnc; subst hnc; exact fin c _ (by omega) rfl
        | none => rw [hx] at hnc; subst hnc; exact cut_end _ (by decide)
theorem cut_pure : ∀ (f : Nat) (lo hi : Int) (k : Nat), Class lo hi → hi - lo ≤ f → 5 * (f + 1) ≤ k → runes_cut.f k lo hi = some (cutF f lo hi) := by
  intro f
  induction f with
  | zero =>
    intro lo hi k hC hd hk
    obtain ⟨a1, a2, a3, a4, a5, a6, a7⟩ := hC
    obtain rfl : lo = hi := by omega
    obtain ⟨k, rfl⟩ : ∃ m, k = m + 4 + 1 := ⟨k - 5, by omega⟩
    have hnone : nextCut lo lo = none := by
      cases h : nextCut lo lo with
      | none => rfl
      | some c => have := nextCut_in a2 h; omega
    simp only [runes_cut.f]
    rw [size_f (k + 3) a1 (by omega) a5, Option.bind_some, sizeN_wrap]
    rw [cut_loop k a1 a2 a3 [] [] (by decide) (fun c k' h => by rw [hnone] at h; cases h) (fun c k' h => by rw [hnone] at h; cases h), hnone]
    rfl
  | succ f ih =>
    intro lo hi k hC hd hk
    have hC2 := hC
    obtain ⟨a1, a2, a3, a4, a5, a6, a7⟩ := hC2
    obtain ⟨k, rfl⟩ : ∃ m, k = m + 4 + 1 := ⟨k - 5, by omega⟩
    simp only [runes_cut.f]
    rw [size_f (k + 3) a1 (by omega) a5, Option.bind_some, sizeN_wrap]
    cases hn : nextCut lo hi with
    | none =>
      rw [cut_loop k a1 a2 a3 [] [] (by decide) (fun c k' h => by rw [hn] at h; cases h) (fun c k' h => by rw [hn] at h; cases h), hn]
      simp only [cutF, hn]
    | some c =>
      obtain ⟨h1, h2⟩ := nextCut_in a2 hn
      have l1 := cutF_len f lo (c - 1) (by omega)
      have l2 := cutF_len f c hi h2
      rw [cut_loop k a1 a2 a3 (cutF f lo (c - 1)) (cutF f c hi) (by omega)
        (fun c' k' h hk' => by rw [hn] at h; cases h; exact ih lo (c - 1) k' (hC.left h1 h2) (by omega) (by omega))
        (fun c' k' h hk' => by rw [hn] at h; cases h; exact ih c hi k' (hC.right h1 h2) (by omega) (by omega)), hn]
      simp only [cutF, hn]
end Go.Proofs.Ytebebognifiinaa.U
