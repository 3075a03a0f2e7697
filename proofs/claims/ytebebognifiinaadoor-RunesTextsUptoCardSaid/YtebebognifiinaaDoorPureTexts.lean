/-
  The document's Points, Valid and Clean, as they are printed: those by the model's own decoding. No memory here.
-/
import Derived.Test.YtebebognifiinaaDoorTx
import Derived.Test.YtebebognifiinaaDoorDecP
namespace Go.Proofs.YtebebognifiinaaDoor.T
open Go.RowKit Go.Proofs.YtebebognifiinaaDoorW.PrintWords Go.Proofs.YtebebognifiinaaDoorW.PrintLast Go.Proofs.YtebebognifiinaaDoorW.PrintMore
set_option linter.unusedVariables false
set_option linter.unusedSimpArgs false
theorem encode_code {r : Int} (h : isRune r) : Lib.encodeRuneZ r = codeL r := by
  obtain ⟨h0, h1, h2⟩ := h
  unfold codeL
  by_cases c1 : r ≤ 127
  · rw [if_pos c1, Lib.encodeRuneZ_one h0 c1]
  rw [if_neg c1]
  by_cases c2 : r ≤ 2047
  · rw [if_pos c2, Lib.encodeRuneZ_two (by omega) c2]
  rw [if_neg c2]
  by_cases c3 : r ≤ 65535
  · rw [if_pos c3, Lib.encodeRuneZ_three (by omega), show r / 4096 = r / 64 / 64 from by omega]
  · rw [if_neg c3, Lib.encodeRuneZ_four (by omega) h1, show r / 262144 = r / 64 / 64 / 64 from by omega, show r / 4096 = r / 64 / 64 from by omega]
theorem decFin_fits (s : ByteArray) (a : Nat) : ∀ (f n : Nat) (r m : Int), decFin s a f n = (r, m, true) → ∃ k : Nat, m = k ∧ a + k ≤ s.size ∧ fitsR s a k r
  | 0, n, r, m, h => by simp [decFin] at h
  | f + 1, n, r, m, h => by
    have h2 : (if n ≤ 4 ∧ a + n ≤ s.size then (if fitsR s a n (inFin s a n 4 1 (byteAt s a - headOf n)) then (inFin s a n 4 1 (byteAt s a - headOf n), (n : Int), true) else decFin s a f (n + 1)) else (0, 0, false)) = (r, m, true) := h
    by_cases c : n ≤ 4 ∧ a + n ≤ s.size
    · rw [if_pos c] at h2
      by_cases d : fitsR s a n (inFin s a n 4 1 (byteAt s a - headOf n))
      · rw [if_pos d] at h2
        injection h2 with e1 e2
        injection e2 with e3 e4
        subst e1
        exact ⟨n, e3.symm, c.2, d⟩
      · rw [if_neg d] at h2
        exact decFin_fits s a f (n + 1) r m h2
    · rw [if_neg c] at h2; cases h2
/-- What is decoded well is a code point, and its bytes stand there. -/
theorem good_fits (s : ByteArray) (a : Nat) (ha : a < s.size) (h : ¬ badD (Utf8.decode s a)) : a + (Utf8.decode s a).2 ≤ s.size ∧ fitsR s a (Utf8.decode s a).2 ((Utf8.decode s a).1 : Int) := by
  have hd := decFin_dec s a ha
  generalize Utf8.decode s a = d at *
  obtain ⟨r, n⟩ := d
  rw [show decG (r, n) = ((r : Int), (n : Int), true) from by unfold decG; rw [if_neg h]] at hd
  obtain ⟨k, e, h1, h2⟩ := decFin_fits s a _ _ _ _ hd
  obtain rfl : n = k := by omega
  exact ⟨h1, h2⟩
theorem bad_width (s : ByteArray) (a : Nat) (ha : a < s.size) (h : badD (Utf8.decode s a)) : (Utf8.decode s a).1 = 65533 ∧ (Utf8.decode s a).2 = 1 := by
  have := width_pos s a ha
  exact ⟨h.1, by have := h.2; omega⟩
theorem dec_f (s : ByteArray) (hs : s.size ≤ 4611686018427387904) (a : Nat) (ha : a < s.size) : harrowref03_Decode.f s (a : Int) = some (decG (Utf8.decode s a)) := by
  unfold harrowref03_Decode.f
  rw [if_pos ⟨hs, by omega⟩, dec_same, decR_at s a ha]
theorem decG_yes {d : Nat × Nat} (h : ¬ badD d) : decG d = ((d.1 : Int), (d.2 : Int), true) := by unfold decG; rw [if_neg h]
theorem decG_no {d : Nat × Nat} (h : badD d) : decG d = (0, 0, false) := by unfold decG; rw [if_pos h]
theorem width_le4 (s : ByteArray) (a : Nat) (ha : a < s.size) (h : ¬ badD (Utf8.decode s a)) : (Utf8.decode s a).2 ≤ 4 := by
  obtain ⟨h1, h2, h3, h4⟩ := good_fits s a ha h
  rw [← h3]
  unfold sizeL
  split; omega
  split; omega
  split; omega
  omega
theorem wrap_nat {a b : Nat} (h : a + b ≤ 9223372036854775807) : wrap64 ((a : Int) + (b : Int)) = ((a + b : Nat) : Int) := by unfold wrap64; omega
theorem refValid_l (s : ByteArray) (hs : s.size ≤ 4611686018427387904) : ∀ (f pos k : Nat), s.size ≤ pos + f → f < k → harrowref03_Valid.l0 k s (pos : Int) = some (validFrom s f pos) := by
  intro f
  induction f with
  | zero =>
    intro pos k hf hk
    obtain ⟨k, rfl⟩ : ∃ m, k = m + 1 := ⟨k - 1, by omega⟩
    simp only [harrowref03_Valid.l0]
    rw [if_neg (by omega)]
    rfl
  | succ f ih =>
    intro pos k hf hk
    obtain ⟨k, rfl⟩ : ∃ m, k = m + 1 := ⟨k - 1, by omega⟩
    simp only [harrowref03_Valid.l0, validFrom]
    by_cases hp : pos < s.size
    · rw [if_pos (by omega), if_pos hp, dec_f s hs pos hp]
      have hw := width_pos s pos hp
      by_cases hb : badD (Utf8.decode s pos)
      · rw [decG_no hb, if_pos hb]; rfl
      · have hw4 := width_le4 s pos hp hb
        rw [decG_yes hb, if_neg hb]
        simp only [Option.bind_some, if_true]
        rw [wrap_nat (by omega)]
        exact ih _ k (by omega) (by omega)
    · rw [if_neg (by omega), if_neg hp]
theorem refValid_pure (s : ByteArray) (hs : s.size ≤ 4611686018427387904) : ∃ k, harrowref03_Valid.f k s = some (validB s) :=
  ⟨s.size + 1, refValid_l s hs s.size 0 _ (by omega) (by omega)⟩
theorem refPoints_l (s : ByteArray) (hs : s.size ≤ 65536) : ∀ (f pos k : Nat) (acc : List Int), s.size ≤ pos + f → f < k → acc.length ≤ pos → harrowref03_Points.l0 k s acc (pos : Int) = some (ptsFrom s f pos acc) := by
  intro f
  induction f with
  | zero =>
    intro pos k acc hf hk ha
    obtain ⟨k, rfl⟩ : ∃ m, k = m + 1 := ⟨k - 1, by omega⟩
    simp only [harrowref03_Points.l0]
    rw [if_neg (by omega)]
    rfl
  | succ f ih =>
    intro pos k acc hf hk ha
    obtain ⟨k, rfl⟩ : ∃ m, k = m + 1 := ⟨k - 1, by omega⟩
    simp only [harrowref03_Points.l0, ptsFrom]
    by_cases hp : pos < s.size
    · rw [if_pos (by omega), if_pos hp, dec_f s (by omega) pos hp]
      have hw := width_pos s pos hp
      by_cases hb : badD (Utf8.decode s pos)
      · rw [decG_no hb, if_pos hb]; rfl
      · have hw4 := width_le4 s pos hp hb
        rw [decG_yes hb, if_neg hb]
        simp only [Option.bind_some, if_true]
        rw [wrap_nat (by omega), if_pos (by omega)]
        exact ih _ k _ (by omega) (by omega) (by rw [List.length_append, List.length_singleton]; omega)
    · rw [if_neg (by omega), if_neg hp]
theorem refPoints_pure (s : ByteArray) : ∃ k, harrowref03_Points.f k s = some (ptsB s) := by
  refine ⟨s.size + 1, ?_⟩
  unfold harrowref03_Points.f ptsB
  by_cases hs : s.size ≤ 65536
  · rw [if_neg (by omega), if_pos hs]
    exact refPoints_l s hs s.size 0 _ [] (by omega) (by omega) (Nat.le_refl _)
  · rw [if_pos (by omega), if_neg hs]
/-- The cleaned bytes as numbers. -/
def cleanZ (s : ByteArray) : Nat → Nat → List Int
  | 0, _ => []
  | f + 1, pos => if pos < s.size then Lib.encodeRuneZ (Utf8.decode s pos).1 ++ cleanZ s f (pos + (Utf8.decode s pos).2) else []
theorem cleanFrom_Z (s : ByteArray) : ∀ (f pos : Nat), cleanFrom s f pos = (cleanZ s f pos).map fun x => x.toNat.toUInt8
  | 0, _ => rfl
  | f + 1, pos => by
    simp only [cleanFrom, cleanZ]
    split
    · rw [List.map_append, cleanFrom_Z s f]; rfl
    · rfl
theorem cleanB_Z (s : ByteArray) : cleanB s = strOfNums (cleanZ s s.size 0) := by
  unfold cleanB strOfNums
  rw [cleanFrom_Z]
theorem extract_bytes (s : ByteArray) (a n : Nat) (r : Int) (h : fitsR s a n r) : bytesOf (s.extract a (a + n)) = codeL r := by
  obtain ⟨h1, h2, h3⟩ := h
  rw [← h3]
  unfold bytesOf
  rw [strOfNums_data, List.map_map]
  refine (List.map_congr_left fun x hx => ?_).trans (List.map_id _)
  obtain ⟨h0, h4⟩ := codeL_bytes' r h1.1 h1.2.1 x hx
  show ((UInt8.ofNat x.toNat).toNat : Int) = x
  rw [UInt8.toNat_ofNat']
  omega
theorem encode_bad : Lib.encodeRuneZ ((65533 : Nat) : Int) = [239, 191, 189] := by decide
theorem clean_bad {s : ByteArray} (hs : s.size ≤ 35184372088831) {pos k : Nat} {acc : List Int} (hp : pos < s.size) (hb : badD (Utf8.decode s pos)) (ha : acc.length ≤ 3 * pos) :
    harrowref03_Clean.l0 (k + 1) s acc (pos : Int) = harrowref03_Clean.l0 k s (acc ++ [239, 191, 189]) ((pos + 1 : Nat) : Int) := by
  simp only [harrowref03_Clean.l0]
  rw [if_pos (by omega), dec_f s (by omega) pos hp, decG_no hb]
  simp only [Option.bind_some, Bool.false_eq_true, if_false]
  rw [if_pos (by simp only [List.length_cons, List.length_nil]; omega), show wrap64 ((pos : Int) + 1) = ((pos + 1 : Nat) : Int) from by unfold wrap64; omega]
theorem clean_good {s : ByteArray} (hs : s.size ≤ 35184372088831) {pos k : Nat} {acc : List Int} (hp : pos < s.size) (hb : ¬ badD (Utf8.decode s pos)) (ha : acc.length ≤ 3 * pos) :
    harrowref03_Clean.l0 (k + 1) s acc (pos : Int) = harrowref03_Clean.l0 k s (acc ++ Lib.encodeRuneZ (Utf8.decode s pos).1) ((pos + (Utf8.decode s pos).2 : Nat) : Int) := by
  have hw := width_pos s pos hp
  have hw4 := width_le4 s pos hp hb
  obtain ⟨g1, g2⟩ := good_fits s pos hp hb
  simp only [harrowref03_Clean.l0]
  rw [if_pos (by omega), dec_f s (by omega) pos hp, decG_yes hb]
  have hx := extract_bytes s pos _ _ g2
  have hsz : (s.extract pos (pos + (Utf8.decode s pos).2)).size = (Utf8.decode s pos).2 := by rw [ByteArray.size_extract]; omega
  rw [Option.bind_some, if_pos rfl]
  dsimp only
  rw [wrap_nat (by omega), if_pos (by omega), if_pos (by omega), if_pos (by omega), Int.toNat_natCast, Int.toNat_natCast, hsz, if_pos (by omega), hx, encode_code g2.1]
theorem refClean_l (s : ByteArray) (hs : s.size ≤ 35184372088831) : ∀ (f pos k : Nat) (acc : List Int), s.size ≤ pos + f → f < k → acc.length ≤ 3 * pos → harrowref03_Clean.l0 k s acc (pos : Int) = some (strOfNums (acc ++ cleanZ s f pos)) := by
  intro f
  induction f with
  | zero =>
    intro pos k acc hf hk ha
    obtain ⟨k, rfl⟩ : ∃ m, k = m + 1 := ⟨k - 1, by omega⟩
    simp only [harrowref03_Clean.l0]
    rw [if_neg (by omega), cleanZ, List.append_nil]
  | succ f ih =>
    intro pos k acc hf hk ha
    obtain ⟨k, rfl⟩ : ∃ m, k = m + 1 := ⟨k - 1, by omega⟩
    by_cases hp : pos < s.size
    · have hw := width_pos s pos hp
      by_cases hb : badD (Utf8.decode s pos)
      · obtain ⟨b1, b2⟩ := bad_width s pos hp hb
        rw [clean_bad hs hp hb ha, ih _ k _ (by omega) (by omega) (by simp only [List.length_append, List.length_cons, List.length_nil]; omega), cleanZ, if_pos hp, b1, b2, encode_bad, List.append_assoc]
      · have hl : (Lib.encodeRuneZ ((Utf8.decode s pos).1 : Int)).length ≤ 3 * (Utf8.decode s pos).2 := by
          obtain ⟨g1, g2⟩ := good_fits s pos hp hb
          rw [encode_code g2.1, codeL_size, g2.2.1]; omega
        rw [clean_good hs hp hb ha, ih _ k _ (by omega) (by omega) (by rw [List.length_append]; omega), cleanZ, if_pos hp, List.append_assoc]
    · simp only [harrowref03_Clean.l0]
      rw [if_neg (by omega), cleanZ, if_neg hp, List.append_nil]
theorem refClean_pure (s : ByteArray) (hs : s.size ≤ 35184372088831) : ∃ k, harrowref03_Clean.f k s = some (cleanB s) :=
  ⟨s.size + 1, by rw [cleanB_Z]; exact refClean_l s hs s.size 0 _ [] (by omega) (by omega) (Nat.le_refl _)⟩
end Go.Proofs.YtebebognifiinaaDoor.T
