/-
  FromPoints, the program's and the document's, as they are printed: the same text. No memory here.
-/
import Derived.Test.YtebebognifiinabDoorUtfP
namespace Go.Proofs.YtebebognifiinabDoor.T
open Go.RowKit Go.Proofs.YtebebognifiinabDoorW.PrintWords Go.Proofs.YtebebognifiinabDoorW.PrintLast Go.Proofs.YtebebognifiinabDoorW.PrintMore
set_option linter.unusedVariables false
set_option linter.unusedSimpArgs false
theorem is_pure (r : Int) : runes_is.f r = some (decide (isRune r)) := by
  have key : ∀ b : Bool, (b = true ↔ isRune r) → (some b : Option Bool) = some (decide (isRune r)) := fun b h => by rw [Bool.eq_iff_iff.2 (h.trans decide_eq_true_iff.symm)]
  unfold runes_is.f
  repeat' split
  all_goals
    refine key _ ?_
    simp only [isRune, decide_eq_true_eq, true_iff, false_iff, Bool.false_eq_true]
    omega
/-- The text of code points, from what was laid on. -/
def fpGo : List Int → List Int → ByteArray × Int
  | [], out => (strOfNums out, 0)
  | r :: l, out => if isRune r then fpGo l (out ++ codeL r) else (⟨#[]⟩, 30)
def fpL (l : List Int) : ByteArray × Int := if l.length ≤ 4096 then fpGo l [] else (⟨#[]⟩, 2)
theorem wrap64_small {i : Int} (h0 : 0 ≤ i) (h1 : i < 9223372036854775807) : wrap64 (i + 1) = i + 1 := by unfold wrap64; omega
theorem rd_cons {l : List Int} {i : Nat} {r : Int} {t : List Int} (h : l.drop i = r :: t) : rd l i = r ∧ i < l.length ∧ l.drop (i + 1) = t := by
  have hlt : i < l.length := by
    rcases Nat.lt_or_ge i l.length with h1 | h1
    · exact h1
    · rw [List.drop_eq_nil_of_le h1] at h; cases h
  have h2 := List.drop_eq_getElem_cons hlt
  rw [h2] at h
  injection h with h3 h4
  refine ⟨?_, hlt, h4⟩
  unfold rd
  rw [Int.toNat_natCast, List.getD_eq_getElem?_getD, List.getElem?_eq_getElem hlt]
  exact h3
theorem fp_step (k : Nat) (l out : List Int) (i : Nat) (r : Int) (hl : l.length ≤ 4096) (hr : rd l i = r) (hi : i < l.length) (ho : out.length ≤ 4 * i) :
    runes_FromPoints.l0 (k + 1 + 1) out l (l.length : Int) (i : Int) = if isRune r then runes_FromPoints.l0 (k + 1) (out ++ codeL r) l (l.length : Int) ((i + 1 : Nat) : Int) else some ((⟨#[]⟩ : ByteArray), 30) := by
  generalize hk : k + 1 = m
  simp only [runes_FromPoints.l0]
  subst hk
  rw [if_pos (by omega), if_pos (by omega), if_pos (by omega), hr, is_pure]
  simp only [Option.bind_some]
  by_cases hc : isRune r
  · have hw : wrap32 r = r := by obtain ⟨h0, h1, h2⟩ := hc; unfold wrap32; omega
    rw [decide_eq_true hc, if_pos rfl, if_pos hc, hw, append_rune k out r hc (by omega)]
    rw [Option.bind_some, wrap64_small (by omega) (by omega)]
    rfl
  · rw [decide_eq_false hc, if_neg (by decide), if_neg hc]
theorem fpLoop (l : List Int) (hl : l.length ≤ 4096) : ∀ (t : List Int) (i : Nat) (out : List Int) (k : Nat), l.drop i = t → out.length ≤ 4 * i → t.length + 1 < k → runes_FromPoints.l0 k out l (l.length : Int) (i : Int) = some (fpGo t out) := by
  intro t
  induction t with
  | nil =>
    intro i out k ht ho hk
    have hi : l.length ≤ i := by have := congrArg List.length ht; rw [List.length_drop] at this; simp only [List.length_nil] at this; omega
    obtain ⟨k, rfl⟩ : ∃ m, k = m + 1 := ⟨k - 1, by omega⟩
    simp only [runes_FromPoints.l0]
    rw [if_neg (by omega)]
    rfl
  | cons r t ih =>
    intro i out k ht ho hk
    obtain ⟨hr, hi, hd⟩ := rd_cons ht
    obtain ⟨k, rfl⟩ : ∃ m, k = m + 1 + 1 := ⟨k - 2, by simp only [List.length_cons] at hk; omega⟩
    rw [fp_step k l out i r hl hr hi ho, fpGo]
    by_cases hc : isRune r
    · rw [if_pos hc, if_pos hc]
      exact ih (i + 1) (out ++ codeL r) (k + 1) hd (by have := codeL_len r; rw [List.length_append]; omega) (by simp only [List.length_cons] at hk; omega)
    · rw [if_neg hc, if_neg hc]
theorem codeL_bytes (r : Int) (h : isRune r) : ∀ x ∈ codeL r, 0 ≤ x ∧ x < 256 := by
  obtain ⟨h0, h1, h2⟩ := h
  intro x hx
  unfold codeL at hx
  split at hx
  · simp only [List.mem_cons, List.not_mem_nil, or_false] at hx; omega
  split at hx
  · simp only [List.mem_cons, List.not_mem_nil, or_false] at hx; omega
  split at hx
  · simp only [List.mem_cons, List.not_mem_nil, or_false] at hx; omega
  · simp only [List.mem_cons, List.not_mem_nil, or_false] at hx; omega
theorem bytesOf_strOf (l : List Int) (h : ∀ x ∈ l, 0 ≤ x ∧ x < 256) : bytesOf (strOfNums l) = l := by
  unfold bytesOf
  rw [strOfNums_data, List.map_map]
  refine (List.map_congr_left fun x hx => ?_).trans (List.map_id _)
  obtain ⟨h0, h1⟩ := h x hx
  show ((UInt8.ofNat x.toNat).toNat : Int) = x
  rw [UInt8.toNat_ofNat']
  omega
theorem fromPoints_pure (l : List Int) : ∃ k, runes_FromPoints.f k l = some (fpL l) := by
  unfold fpL
  by_cases hl : l.length ≤ 4096
  · refine ⟨l.length + 2, ?_⟩
    unfold runes_FromPoints.f
    rw [if_neg (by omega), if_pos hl]
    exact fpLoop l hl l 0 [] _ rfl (by simp) (by omega)
  · refine ⟨0, ?_⟩
    unfold runes_FromPoints.f
    rw [if_pos (by omega), if_neg hl]
theorem works_pure : harrowlaw03_works.f 40 = some true := by decide +kernel
end Go.Proofs.YtebebognifiinabDoor.T
