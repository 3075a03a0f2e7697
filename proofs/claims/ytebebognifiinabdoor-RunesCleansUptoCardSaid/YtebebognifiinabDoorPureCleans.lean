/-
  Cleaning, validity and code points, by the model's own decoding: what is cleaned is valid and stays; what is read of points leads back. No memory here.
-/
import Derived.Test.YtebebognifiinabDoorDecP
import Derived.Test.YtebebognifiinabDoorPureLists
namespace Go.Proofs.YtebebognifiinabDoor.T
open Go.RowKit Go.Proofs.YtebebognifiinabDoorW.PrintWords Go.Proofs.YtebebognifiinabDoorW.PrintLast Go.Proofs.YtebebognifiinabDoorW.PrintMore
set_option linter.unusedVariables false
set_option linter.unusedSimpArgs false
theorem fitsR_le {s : ByteArray} {a n : Nat} {r : Int} (h : fitsR s a n r) (hn : a + n ≤ s.size ∨ True) : n = sizeL r := h.2.1.symm
/-- Where a code point's bytes stand, it is decoded. -/
theorem decode_fits (s : ByteArray) (a n : Nat) (r : Int) (hn : a + n ≤ s.size) (h : fitsR s a n r) : Utf8.decode s a = (r.toNat, n) := by
  rw [decN]
  have e0 : byteAt s a = ((s.get! a).toNat : Int) := rfl
  have e1 : byteAt s (a + 1) = ((s.get! (a + 1)).toNat : Int) := rfl
  have e2 : byteAt s (a + 2) = ((s.get! (a + 2)).toNat : Int) := rfl
  have e3 : byteAt s (a + 3) = ((s.get! (a + 3)).toNat : Int) := rfl
  have hs := h.2.1
  have hi := h.1
  have hc : n = 1 ∨ n = 2 ∨ n = 3 ∨ n = 4 := by
    rw [← hs]; unfold sizeL
    split; omega
    split; omega
    split; omega
    omega
  rcases hc with rfl | rfl | rfl | rfl
  · have hr : r ≤ 127 := by
      unfold sizeL at hs
      split at hs
      · omega
      · split at hs
        · omega
        · split at hs <;> omega
    have hb := ((fitsR_iff s a 1 r hn).1 h).2.2 0 (by rw [codeL_size, hs]; decide)
    have hcl : codeL r = [r] := by unfold codeL; rw [if_pos hr]
    simp only [hcl, List.getElem_cons_zero, Nat.add_zero] at hb
    have h0 := hi.1
    rw [dn1 _ _ _ _ _ (by omega)]
    refine Prod.ext ?_ rfl
    simp only
    omega
  · obtain ⟨h1, h2, h3, h4⟩ := (fitB2 s a hn r).1 h
    rw [dn2 _ _ _ _ _ (by unfold V2; omega) (by omega)]
    refine Prod.ext ?_ rfl
    simp only
    omega
  · obtain ⟨h1, h2, h5, h3, h4, h6⟩ := (fitB3 s a hn r).1 h
    rw [dn3 _ _ _ _ _ (by unfold V3; omega) (by omega)]
    refine Prod.ext ?_ rfl
    simp only
    omega
  · obtain ⟨h1, h2, h3, h4, h6, h7⟩ := (fitB4 s a hn r).1 h
    rw [dn4 _ _ _ _ _ (by unfold V4; omega) (by omega)]
    refine Prod.ext ?_ rfl
    simp only
    omega
theorem fits_good {r : Int} {n : Nat} (h0 : 0 ≤ r) (h : sizeL r = n) : ¬ badD (r.toNat, n) := by
  rintro ⟨h1, h2⟩
  simp only at h1 h2
  have : r = 65533 := by omega
  subst this
  have : sizeL 65533 = 3 := by decide
  omega
/-- The runes of a text. -/
def runesFrom (s : ByteArray) : Nat → Nat → List Int
  | 0, _ => []
  | f + 1, pos => if pos < s.size then ((Utf8.decode s pos).1 : Int) :: runesFrom s f (pos + (Utf8.decode s pos).2) else []
theorem runes_are (s : ByteArray) : ∀ (f pos : Nat), ∀ r ∈ runesFrom s f pos, isRune r
  | 0, pos, r, h => by cases h
  | f + 1, pos, r, h => by
    simp only [runesFrom] at h
    split at h
    · rename_i hp
      rcases List.mem_cons.1 h with rfl | h2
      · by_cases hb : badD (Utf8.decode s pos)
        · rw [hb.1]; unfold isRune; omega
        · exact (good_fits s pos hp hb).2.1
      · exact runes_are s f _ r h2
    · cases h
theorem cleanZ_runes (s : ByteArray) : ∀ (f pos : Nat), cleanZ s f pos = (runesFrom s f pos).flatMap codeL
  | 0, _ => rfl
  | f + 1, pos => by
    simp only [cleanZ, runesFrom]
    split
    · rename_i hp
      rw [List.flatMap_cons, cleanZ_runes s f, encode_code (runes_are s (f + 1) pos _ (by simp only [runesFrom]; rw [if_pos hp]; exact List.mem_cons_self))]
    · rfl
/-- A text that stands behind another within one. -/
theorem strOf_at (l m : List Int) (r : List Int) : (strOfNums (l ++ (m ++ r))).extract l.length (l.length + m.length) = strOfNums m := by
  apply ByteArray.ext
  apply Array.ext'
  rw [ByteArray.data_extract, Array.toList_extract, strOfNums_data, strOfNums_data, List.extract_eq_take_drop]
  simp
theorem flat_bytes (L : List Int) (h : ∀ r ∈ L, isRune r) : True := trivial
/-- Of runes, told as a text behind others: they are decoded again. -/
theorem decode_flat (pre L : List Int) (r : Int) (hr : isRune r) : Utf8.decode (strOfNums (pre ++ (codeL r ++ L))) pre.length = (r.toNat, sizeL r) := by
  refine decode_fits _ _ _ r (by rw [strOfNums_size, List.length_append, List.length_append, codeL_size]; omega) ⟨hr, rfl, ?_⟩
  rw [← codeL_size]
  exact (strOf_at pre (codeL r) L).symm
theorem size_pos (r : Int) : 1 ≤ sizeL r := by
  unfold sizeL
  split; omega
  split; omega
  split; omega
  omega
theorem valid_flat : ∀ (L pre : List Int) (f : Nat), (∀ r ∈ L, isRune r) → validFrom (strOfNums (pre ++ L.flatMap codeL)) f pre.length = true := by
  intro L
  induction L with
  | nil =>
    intro pre f h
    cases f with
    | zero => rfl
    | succ f =>
      simp only [validFrom]
      rw [if_neg (by rw [strOfNums_size]; simp)]
  | cons r L ih =>
    intro pre f h
    cases f with
    | zero => rfl
    | succ f =>
      have hr := h r List.mem_cons_self
      simp only [validFrom, List.flatMap_cons]
      rw [if_pos (by have := size_pos r; rw [strOfNums_size, List.length_append, List.length_append, codeL_size]; omega), decode_flat pre _ r hr, if_neg (fits_good hr.1 rfl)]
      have := ih (pre ++ codeL r) f (fun x hx => h x (List.mem_cons_of_mem _ hx))
      rw [List.append_assoc, List.length_append, codeL_size] at this
      exact this
theorem runes_flat : ∀ (L pre : List Int) (f : Nat), (∀ r ∈ L, isRune r) → (L.flatMap codeL).length ≤ f → runesFrom (strOfNums (pre ++ L.flatMap codeL)) f pre.length = L := by
  intro L
  induction L with
  | nil =>
    intro pre f h hf
    cases f with
    | zero => rfl
    | succ f =>
      simp only [runesFrom]
      rw [if_neg (by rw [strOfNums_size]; simp)]
  | cons r L ih =>
    intro pre f h hf
    have hr := h r List.mem_cons_self
    have hp := size_pos r
    rw [List.flatMap_cons, List.length_append, codeL_size] at hf
    cases f with
    | zero => omega
    | succ f =>
      simp only [runesFrom, List.flatMap_cons]
      rw [if_pos (by rw [strOfNums_size, List.length_append, List.length_append, codeL_size]; omega), decode_flat pre _ r hr]
      have := ih (pre ++ codeL r) f (fun x hx => h x (List.mem_cons_of_mem _ hx)) (by omega)
      rw [List.append_assoc, List.length_append, codeL_size] at this
      simp only
      rw [this, Int.toNat_of_nonneg hr.1]
theorem cleanB_flat (s : ByteArray) : cleanB s = strOfNums ((runesFrom s s.size 0).flatMap codeL) := by rw [cleanB_Z, cleanZ_runes]
theorem valid_clean (s : ByteArray) : validB (cleanB s) = true := by
  rw [cleanB_flat]
  exact valid_flat (runesFrom s s.size 0) [] _ (runes_are s _ _)
theorem clean_clean (s : ByteArray) : cleanB (cleanB s) = cleanB s := by
  rw [cleanB_flat (cleanB s)]
  have h : runesFrom (cleanB s) (cleanB s).size 0 = runesFrom s s.size 0 := by
    rw [cleanB_flat]
    exact runes_flat (runesFrom s s.size 0) [] _ (runes_are s _ _) (by rw [strOfNums_size]; exact Nat.le_refl _)
  rw [h, ← cleanB_flat]
theorem clean_size (s : ByteArray) : ∀ (f pos : Nat), (cleanZ s f pos).length ≤ 4 * f
  | 0, _ => Nat.le_refl _
  | f + 1, pos => by
    simp only [cleanZ]
    split
    · have := clean_size s f (pos + (Utf8.decode s pos).2)
      have h4 := (Lib.encodeRuneZ_length ((Utf8.decode s pos).1 : Int)).2
      rw [List.length_append]; omega
    · simp
theorem cleanB_size (s : ByteArray) : (cleanB s).size ≤ 4 * s.size := by rw [cleanB_Z, strOfNums_size]; exact clean_size s _ _
/-- A valid text's pieces are its encodings. -/
theorem valid_same (s : ByteArray) : ∀ (f pos : Nat), s.size ≤ pos + f → pos ≤ s.size → validFrom s f pos = true → strOfNums (cleanZ s f pos) = s.extract pos s.size := by
  intro f
  induction f with
  | zero =>
    intro pos h h2 _
    obtain rfl : pos = s.size := by omega
    apply ByteArray.ext
    rw [ByteArray.data_extract]
    apply Array.ext'
    rw [Array.toList_extract, List.extract_eq_take_drop]
    simp [cleanZ, strOfNums_data]
  | succ f ih =>
    intro pos h h2 hv
    simp only [validFrom] at hv
    simp only [cleanZ]
    by_cases hp : pos < s.size
    · rw [if_pos hp] at hv ⊢
      by_cases hb : badD (Utf8.decode s pos)
      · rw [if_pos hb] at hv; cases hv
      rw [if_neg hb] at hv
      obtain ⟨g1, g2, g3, g4⟩ := good_fits s pos hp hb
      have hw := width_pos s pos hp
      have e := ih _ (by omega) g1 hv
      rw [encode_code g2]
      have e2 : ∀ x y : List Int, strOfNums (x ++ y) = strOfNums x ++ strOfNums y := by
        intro x y
        apply ByteArray.ext
        rw [ByteArray.data_append]
        apply Array.ext'
        rw [Array.toList_append, strOfNums_data, strOfNums_data, strOfNums_data, List.map_append]
      rw [e2, e, g4]
      apply ByteArray.ext
      rw [ByteArray.data_append, ByteArray.data_extract, ByteArray.data_extract, ByteArray.data_extract, Array.extract_append_extract]
      congr 1
      · omega
      · have : s.size = s.data.size := rfl
        omega
    · rw [if_neg hp]
      obtain rfl : pos = s.size := by omega
      apply ByteArray.ext
      rw [ByteArray.data_extract]
      apply Array.ext'
      rw [Array.toList_extract, List.extract_eq_take_drop]
      simp [strOfNums_data]
theorem extract_all (s : ByteArray) : s.extract 0 s.size = s := by
  apply ByteArray.ext
  rw [ByteArray.data_extract]
  have : s.size = s.data.size := rfl
  rw [this, Array.extract_size]
theorem valid_iff (s : ByteArray) : validB s = true ↔ cleanB s = s := by
  constructor
  · intro h
    rw [cleanB_Z, valid_same s s.size 0 (by omega) (by omega) h, extract_all]
  · intro h
    rw [← h]
    exact valid_clean s
theorem pts_valid (s : ByteArray) : ∀ (f pos : Nat) (acc : List Int), validFrom s f pos = true → ptsFrom s f pos acc = (acc ++ runesFrom s f pos, 0, 0)
  | 0, pos, acc, _ => by simp [ptsFrom, runesFrom]
  | f + 1, pos, acc, h => by
    simp only [validFrom] at h
    simp only [ptsFrom, runesFrom]
    by_cases hp : pos < s.size
    · rw [if_pos hp] at h ⊢
      by_cases hb : badD (Utf8.decode s pos)
      · rw [if_pos hb] at h; cases h
      · rw [if_neg hb] at h ⊢
        rw [pts_valid s f _ _ h, List.append_assoc, if_pos hp]
        rfl
    · rw [if_neg hp, if_neg hp, List.append_nil]
theorem pts_wrong (s : ByteArray) : ∀ (f pos : Nat) (acc : List Int), validFrom s f pos = false → ∃ p : Int, ptsFrom s f pos acc = ([], p, 6)
  | 0, pos, acc, h => by cases h
  | f + 1, pos, acc, h => by
    simp only [validFrom] at h
    simp only [ptsFrom]
    by_cases hp : pos < s.size
    · rw [if_pos hp] at h ⊢
      by_cases hb : badD (Utf8.decode s pos)
      · rw [if_pos hb]; exact ⟨_, rfl⟩
      · rw [if_neg hb] at h ⊢
        exact pts_wrong s f _ _ h
    · rw [if_neg hp] at h; cases h
theorem fpGo_runes : ∀ (L out : List Int), (∀ r ∈ L, isRune r) → fpGo L out = (strOfNums (out ++ L.flatMap codeL), 0)
  | [], out, _ => by simp [fpGo]
  | r :: L, out, h => by
    rw [fpGo, if_pos (h r List.mem_cons_self), fpGo_runes L _ (fun x hx => h x (List.mem_cons_of_mem _ hx)), List.flatMap_cons, List.append_assoc]
/-- What Points tells, in three ways. -/
theorem points_ways (s : ByteArray) : (s.size > 65536 ∧ ptsB s = ([], 0, 2)) ∨ (s.size ≤ 65536 ∧ validB s = false ∧ ∃ p, ptsB s = ([], p, 6)) ∨ (s.size ≤ 65536 ∧ validB s = true ∧ ∃ l, ptsB s = (l, 0, 0) ∧ (l.length ≤ 4096 → fpL l = (s, 0))) := by
  unfold ptsB
  by_cases h : s.size ≤ 65536
  · rw [if_pos h]
    cases hv : validB s with
    | false => exact .inr (.inl ⟨h, rfl, pts_wrong s _ _ _ hv⟩)
    | true =>
      refine .inr (.inr ⟨h, rfl, _, pts_valid s _ _ [] hv, fun hl => ?_⟩)
      unfold fpL
      rw [if_pos hl, List.nil_append, fpGo_runes _ _ (runes_are s _ _), List.nil_append, ← cleanB_flat, (valid_iff s).1 hv]
  · rw [if_neg h]
    exact .inl ⟨by omega, rfl⟩
end Go.Proofs.YtebebognifiinabDoor.T
