/-
  The document's pieces of a range, as they are printed: the shapes of the same pieces. No memory here.
-/
import Derived.Test.YtebebognifiinaaShapesP
namespace Go.Proofs.Ytebebognifiinaa.U
open Go.RowKit Go.Proofs.YtebebognifiinaaW.PrintWords Go.Proofs.YtebebognifiinaaW.PrintLast Go.Proofs.YtebebognifiinaaW.PrintMore
set_option linter.unusedVariables false
set_option linter.unusedSimpArgs false
theorem refSize_f (r : Int) : harrowref03_Size.f r = some (sizeN r : Int) := by
  unfold harrowref03_Size.f sizeN
  split; rfl
  split; rfl
  split; rfl
  rfl
theorem rp_turn (k : Nat) {lo hi m i : Int} (h0 : 0 ≤ lo) (h1 : lo ≤ hi) (h2 : hi ≤ 1114111) (hm : m = 1 ∨ m = 64 ∨ m = 4096) (hi0 : 0 ≤ i) (hi1 : i < (sizeN lo : Int)) :
    harrowref03_pieces.l0 (k + 1) lo hi m i = match cutAt lo hi (m * 64) with
      | none => harrowref03_pieces.l0 k lo hi (m * 64) (i + 1)
      | some c => (harrowref03_pieces.f k lo (c - 1)).bind fun a => (harrowref03_pieces.f k c hi).bind fun b => if a.length + b.length < 5864062014805 then some (a ++ b) else none := by
  have hs4 := sizeN_4 lo
  have hwm : wrap64 (m * 64) = m * 64 := by unfold wrap64; omega
  have hwi : wrap64 (i + 1) = i + 1 := by unfold wrap64; omega
  have t1 : Int.tdiv lo (m * 64) = lo / (m * 64) := Int.tdiv_eq_ediv_of_nonneg h0
  have t2 : Int.tdiv hi (m * 64) = hi / (m * 64) := Int.tdiv_eq_ediv_of_nonneg (by omega)
  have t3 : Int.tmod lo (m * 64) = lo % (m * 64) := Int.tmod_eq_emod_of_nonneg h0
  have t4 : Int.tmod (hi + 1) (m * 64) = (hi + 1) % (m * 64) := Int.tmod_eq_emod_of_nonneg (by omega)
  have w1 : wrap64 (lo / (m * 64)) = lo / (m * 64) := by unfold wrap64; rcases hm with rfl | rfl | rfl <;> omega
  have w2 : wrap64 (hi / (m * 64)) = hi / (m * 64) := by unfold wrap64; rcases hm with rfl | rfl | rfl <;> omega
  have w3 : wrap64 (hi + 1) = hi + 1 := by unfold wrap64; omega
  have w4 : wrap64 (lo / (m * 64) + 1) = lo / (m * 64) + 1 := by unfold wrap64; rcases hm with rfl | rfl | rfl <;> omega
  have w5 : wrap64 ((lo / (m * 64) + 1) * (m * 64)) = (lo / (m * 64) + 1) * (m * 64) := by unfold wrap64; rcases hm with rfl | rfl | rfl <;> omega
  have w6 : wrap64 ((lo / (m * 64) + 1) * (m * 64) - 1) = (lo / (m * 64) + 1) * (m * 64) - 1 := by unfold wrap64; rcases hm with rfl | rfl | rfl <;> omega
  have w8 : wrap64 (hi / (m * 64) * (m * 64)) = hi / (m * 64) * (m * 64) := by unfold wrap64; rcases hm with rfl | rfl | rfl <;> omega
  have w9 : wrap64 (hi / (m * 64) * (m * 64) - 1) = hi / (m * 64) * (m * 64) - 1 := by unfold wrap64; rcases hm with rfl | rfl | rfl <;> omega
  simp only [harrowref03_pieces.l0]
  rw [refSize_f, Option.bind_some, if_pos hi1, hwm, if_neg (by omega), t1, t2, t3, w3, t4, w1, w2, hwi, w4, w5, w6, w8, w9]
  unfold cutAt
  by_cases c1 : lo / (m * 64) = hi / (m * 64)
  · rw [if_pos c1, if_pos c1]
  rw [if_neg c1, if_neg c1]
  by_cases c2 : lo % (m * 64) = 0
  · rw [if_pos c2, if_neg (show ¬ (lo % (m * 64) ≠ 0) from fun h => h c2)]
    by_cases c3 : (hi + 1) % (m * 64) = 0
    · rw [if_pos c3, if_neg (show ¬ ((hi + 1) % (m * 64) ≠ 0) from fun h => h c3)]
    · rw [if_neg c3, if_pos (show (hi + 1) % (m * 64) ≠ 0 from c3)]
  · rw [if_neg c2, if_pos (show lo % (m * 64) ≠ 0 from c2)]
theorem bt_strOf {l : List Int} {j : Nat} (hj : j < l.length) (h : 0 ≤ l[j] ∧ l[j] < 256) : bt (strOfNums l) (j : Int) = l[j] := by
  have hs : j < (strOfNums l).size := by rw [strOfNums_size]; exact hj
  unfold bt
  rw [dif_pos (by rw [Int.toNat_natCast]; exact hs)]
  simp only [Int.toNat_natCast]
  have e : (strOfNums l).data[j]? = some (UInt8.ofNat (l[j]).toNat) := by
    rw [← Array.getElem?_toList, strOfNums_data, List.getElem?_map, List.getElem?_eq_getElem hj]; rfl
  have e2 : (strOfNums l).data[j]? = some ((strOfNums l)[j]'hs) := Array.getElem?_eq_getElem hs
  rw [e] at e2
  have e3 := Option.some.inj e2
  rw [← e3, UInt8.toNat_ofNat']
  omega
theorem rpl_turn (k : Nat) (A B : List Int) (acc : List SP) (j : Nat) (hj : j < A.length) (hj2 : j < B.length) (hA : 0 ≤ A[j] ∧ A[j] < 256) (hB : 0 ≤ B[j] ∧ B[j] < 256) (ha : acc.length ≤ j) (hl : A.length ≤ 4) :
    harrowref03_pieces.l1 (k + 1) (strOfNums A) (strOfNums B) acc (j : Int) = harrowref03_pieces.l1 k (strOfNums A) (strOfNums B) (acc ++ [⟨A[j], B[j]⟩]) ((j + 1 : Nat) : Int) := by
  simp only [harrowref03_pieces.l1]
  rw [if_pos (by rw [strOfNums_size]; omega), if_pos (by omega), if_pos (by rw [strOfNums_size]; omega), if_pos (by omega), bt_strOf hj hA, bt_strOf hj2 hB, show wrap64 A[j] = A[j] from by unfold wrap64; omega, show wrap64 B[j] = B[j] from by unfold wrap64; omega, show wrap64 ((j : Int) + 1) = ((j + 1 : Nat) : Int) from by unfold wrap64; omega]
theorem rpl_loop (A B : List Int) (hl : A.length ≤ 4) (hAB : A.length = B.length) (hA : ∀ i (h : i < A.length), 0 ≤ A[i] ∧ A[i] < 256) (hB : ∀ i (h : i < B.length), 0 ≤ B[i] ∧ B[i] < 256) :
    ∀ (d j k : Nat) (acc : List SP), A.length = j + d → acc.length ≤ j → d + 1 ≤ k → harrowref03_pieces.l1 k (strOfNums A) (strOfNums B) acc (j : Int) = some [acc ++ shapeGo (A.drop j) (B.drop j)] := by
  intro d
  induction d with
  | zero =>
    intro j k acc hd ha hk
    obtain ⟨k, rfl⟩ : ∃ m, k = m + 1 := ⟨k - 1, by omega⟩
    simp only [harrowref03_pieces.l1]
    rw [if_neg (by rw [strOfNums_size]; omega), List.drop_eq_nil_of_le (by omega : A.length ≤ j)]
    simp [shapeGo]
  | succ d ih =>
    intro j k acc hd ha hk
    obtain ⟨k, rfl⟩ : ∃ m, k = m + 1 := ⟨k - 1, by omega⟩
    rw [rpl_turn _ _ _ _ j (by omega) (by omega) (hA j _) (hB j _) ha hl, ih (j + 1) k _ (by omega) (by rw [List.length_append, List.length_singleton]; omega) (by omega)]
    rw [List.drop_eq_getElem_cons (show j < A.length by omega), List.drop_eq_getElem_cons (show j < B.length by omega)]
    simp only [shapeGo, List.append_assoc, List.cons_append, List.nil_append]
theorem rp_end (k : Nat) {lo hi m i : Int} (hc : Class lo hi) (hk : 6 ≤ k) (h : ¬ i < (sizeN lo : Int)) : harrowref03_pieces.l0 (k + 1) lo hi m i = some [shapeOf ⟨lo, hi⟩] := by
  obtain ⟨r1, r2⟩ := hc.runes
  have l1 := codeL_lenN lo
  have l2 := codeL_lenN hi
  have s4 := sizeN_4 lo
  have hs := hc.2.2.2.1
  simp only [harrowref03_pieces.l0]
  rw [refSize_f, Option.bind_some, if_neg h]
  unfold harrowref03_Code.f
  rw [if_pos ⟨r1.1, r1.2.1⟩, if_pos ⟨r2.1, r2.2.1⟩, Option.bind_some, Option.bind_some]
  have := rpl_loop (codeL lo) (codeL hi) (by omega) (by omega) (fun i h => codeL_byte r1 h) (fun i h => codeL_byte r2 h) (codeL lo).length 0 k [] (by omega) (by simp) (by omega)
  refine this.trans ?_
  rfl
theorem rp_loop (k : Nat) {lo hi : Int} (hc : Class lo hi) (hk : 6 ≤ k) (A B : List (List SP)) (hl : A.length + B.length < 5864062014805)
    (hA : ∀ c k', nextCut lo hi = some c → k ≤ k' → harrowref03_pieces.f k' lo (c - 1) = some A) (hB : ∀ c k', nextCut lo hi = some c → k ≤ k' → harrowref03_pieces.f k' c hi = some B) :
    harrowref03_pieces.l0 (k + 4) lo hi 1 1 = some (match nextCut lo hi with | none => [shapeOf ⟨lo, hi⟩] | some c => A ++ B) := by
  have hc2 := hc
  obtain ⟨h0, h1, h2, -⟩ := hc2
  have hn := sizeN_4 lo
  have fin : ∀ c k', k ≤ k' → nextCut lo hi = some c → ((harrowref03_pieces.f k' lo (c - 1)).bind fun a => (harrowref03_pieces.f k' c hi).bind fun b => if a.length + b.length < 5864062014805 then some (a ++ b) else none) = some (A ++ B) := by
    intro c k' hk hc
    rw [hA c k' hc hk, Option.bind_some, hB c k' hc hk, Option.bind_some, if_pos hl]
  have hnc : nextCut lo hi = firstCut lo hi (powers (sizeN lo)) := rfl
  generalize nextCut lo hi = X at *
  rcases hn with e | e | e | e
  · rw [e] at hnc
    have : X = none := hnc
    subst this
    exact rp_end _ hc (by omega) (by rw [e]; decide)
  · rw [e] at hnc
    replace hnc : X = firstCut lo hi [64] := hnc
    rw [show k + 4 = (k + 3) + 1 from rfl, rp_turn (k + 3) h0 h1 h2 (.inl rfl) (by decide) (by rw [e]; decide)]
    simp only [firstCut, Int.one_mul] at hnc ⊢
    cases hx : cutAt lo hi 64 with
    | some c => rw [hx] at hnc; subst hnc; exact fin c _ (by omega) rfl
    | none => rw [hx] at hnc; subst hnc; exact rp_end _ hc (by omega) (by rw [e]; decide)
  · rw [e] at hnc
    replace hnc : X = firstCut lo hi [64, 4096] := hnc
    rw [show k + 4 = (k + 3) + 1 from rfl, rp_turn (k + 3) h0 h1 h2 (.inl rfl) (by decide) (by rw [e]; decide)]
    simp only [firstCut, Int.one_mul] at hnc ⊢
    cases hx : cutAt lo hi 64 with
    | some c => rw [hx] at hnc; subst hnc; exact fin c _ (by omega) rfl
    | none =>
      rw [hx] at hnc
      simp only at hnc ⊢
      rw [show k + 3 = (k + 2) + 1 from rfl, rp_turn (k + 2) h0 h1 h2 (.inr (.inl rfl)) (by decide) (by rw [e]; decide)]
      simp only [show (64 : Int) * 64 = 4096 from rfl]
      cases hd : cutAt lo hi 4096 with
      | some c => rw [hd] at hnc; subst hnc; exact fin c _ (by omega) rfl
      | none => rw [hd] at hnc; subst hnc; exact rp_end _ hc (by omega) (by rw [e]; decide)
  · rw [e] at hnc
    replace hnc : X = firstCut lo hi [64, 4096, 262144] := hnc
    rw [show k + 4 = (k + 3) + 1 from rfl, rp_turn (k + 3) h0 h1 h2 (.inl rfl) (by decide) (by rw [e]; decide)]
    simp only [firstCut, Int.one_mul] at hnc ⊢
    cases hx : cutAt lo hi 64 with
    | some c => rw [hx] at hnc; subst hnc; exact fin c _ (by omega) rfl
    | none =>
      rw [hx] at hnc
      simp only at hnc ⊢
      rw [show k + 3 = (k + 2) + 1 from rfl, rp_turn (k + 2) h0 h1 h2 (.inr (.inl rfl)) (by decide) (by rw [e]; decide)]
      simp only [show (64 : Int) * 64 = 4096 from rfl]
      cases hd : cutAt lo hi 4096 with
      | some c => rw [hd] at hnc; subst hnc; exact fin c _ (by omega) rfl
      | none =>
        rw [hd] at hnc
        simp only at hnc ⊢
        rw [show k + 2 = (k + 1) + 1 from rfl, rp_turn (k + 1) h0 h1 h2 (.inr (.inr rfl)) (by decide) (by rw [e]; decide)]
        simp only [show (4096 : Int) * 64 = 262144 from rfl]
        cases hy : cutAt lo hi 262144 with
        | some c => rw [hy] at hnc; subst hnc; exact fin c _ (by omega) rfl
        | none => rw [hy] at hnc; subst hnc; exact rp_end _ hc hk (by rw [e]; decide)
theorem rp_pure : ∀ (f : Nat) (lo hi : Int) (k : Nat), Class lo hi → hi - lo ≤ f → 5 * (f + 1) + 6 ≤ k → harrowref03_pieces.f k lo hi = some ((cutF f lo hi).map shapeOf) := by
  intro f
  induction f with
  | zero =>
    intro lo hi k hC hd hk
    have hC2 := hC
    obtain ⟨a1, a2, a3, a4, a5, a6, a7⟩ := hC2
    obtain rfl : lo = hi := by omega
    obtain ⟨k, rfl⟩ : ∃ m, k = m + 4 + 1 := ⟨k - 5, by omega⟩
    have hnone : nextCut lo lo = none := by
      cases h : nextCut lo lo with
      | none => rfl
      | some c => have := nextCut_in a2 h; omega
    simp only [harrowref03_pieces.f]
    rw [if_neg (by omega), rp_loop k hC (by omega) [] [] (by decide) (fun c k' h => by rw [hnone] at h; cases h) (fun c k' h => by rw [hnone] at h; cases h), hnone]
    rfl
  | succ f ih =>
    intro lo hi k hC hd hk
    have hC2 := hC
    obtain ⟨a1, a2, a3, a4, a5, a6, a7⟩ := hC2
    obtain ⟨k, rfl⟩ : ∃ m, k = m + 4 + 1 := ⟨k - 5, by omega⟩
    simp only [harrowref03_pieces.f]
    rw [if_neg (by omega)]
    cases hn : nextCut lo hi with
    | none =>
      rw [rp_loop k hC (by omega) [] [] (by decide) (fun c k' h => by rw [hn] at h; cases h) (fun c k' h => by rw [hn] at h; cases h), hn]
      simp only [cutF, hn, List.map_cons, List.map_nil]
    | some c =>
      obtain ⟨h1, h2⟩ := nextCut_in a2 hn
      have l1 := cutF_len f lo (c - 1) (by omega)
      have l2 := cutF_len f c hi h2
      rw [rp_loop k hC (by omega) ((cutF f lo (c - 1)).map shapeOf) ((cutF f c hi).map shapeOf) (by rw [List.length_map, List.length_map]; omega)
        (fun c' k' h hk' => by rw [hn] at h; cases h; exact ih lo (c - 1) k' (hC.left h1 h2) (by omega) (by omega))
        (fun c' k' h hk' => by rw [hn] at h; cases h; exact ih c hi k' (hC.right h1 h2) (by omega) (by omega)), hn]
      simp only [cutF, hn, List.map_append]
theorem rp_none (k : Nat) {lo hi : Int} (h : lo > hi) : harrowref03_pieces.f (k + 1) lo hi = some [] := by
  simp only [harrowref03_pieces.f]
  rw [if_pos h]
end Go.Proofs.Ytebebognifiinaa.U
