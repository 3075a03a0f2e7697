/-
  The document's Decode is the model's decoding. No program here.
-/
import Derived.Test.YtebebognifiinaaDoorRefDec
import Derived.Test.YtebebognifiinaaDoorDecode
namespace Go.Proofs.YtebebognifiinaaDoor
open Go.RowKit
set_option linter.unusedVariables false
set_option linter.unusedSimpArgs false
theorem decN (s : ByteArray) (a : Nat) : Utf8.decode s a = Lib.decodeN (s.size - a) (s.get! a).toNat (s.get! (a + 1)).toNat (s.get! (a + 2)).toNat (s.get! (a + 3)).toNat := Lib.decode_at s a
/-- A text against a piece of another: byte for byte. -/
theorem strOf_extract (l : List Int) (s : ByteArray) (a : Nat) (hl : ∀ x ∈ l, 0 ≤ x ∧ x < 256) (h : a + l.length ≤ s.size) :
    strOfNums l = s.extract a (a + l.length) ↔ ∀ j (hj : j < l.length), l[j] = byteAt s (a + j) := by
  have hd : (s.extract a (a + l.length)).data = s.data.extract a (a + l.length) := ByteArray.data_extract
  have hs : s.size = s.data.size := rfl
  constructor
  · intro e j hj
    have e2 : (strOfNums l).data[j]? = (s.extract a (a + l.length)).data[j]? := by rw [e]
    rw [hd] at e2
    have e3 : (strOfNums l).data[j]? = some (UInt8.ofNat (l[j]).toNat) := by
      rw [← Array.getElem?_toList, strOfNums_data, List.getElem?_map, List.getElem?_eq_getElem hj]; rfl
    rw [e3, Array.getElem?_extract, if_pos (by omega), Array.getElem?_eq_getElem (by omega)] at e2
    obtain ⟨h0, h1⟩ := hl _ (List.getElem_mem hj)
    have e4 := Option.some.inj e2
    unfold byteAt
    rw [show s.get! (a + j) = s.data[a + j] from getElem!_pos s.data (a + j) (by omega), ← e4, UInt8.toNat_ofNat']
    omega
  · intro e
    apply ByteArray.ext
    rw [hd]
    apply Array.ext'
    refine (strOfNums_data l).trans ?_
    refine List.ext_getElem? fun j => ?_
    rw [List.getElem?_map, Array.getElem?_toList (xs := s.data.extract a (a + l.length)), Array.getElem?_extract]
    by_cases hj : j < l.length
    · rw [List.getElem?_eq_getElem hj, if_pos (by omega), Array.getElem?_eq_getElem (by omega)]
      obtain ⟨h0, h1⟩ := hl _ (List.getElem_mem hj)
      have e1 := e j hj
      unfold byteAt at e1
      rw [show s.get! (a + j) = s.data[a + j] from getElem!_pos s.data (a + j) (by omega)] at e1
      simp only [Option.map_some, Option.some.injEq]
      apply UInt8.toNat_inj.1
      rw [UInt8.toNat_ofNat']
      omega
    · rw [List.getElem?_eq_none (by omega), if_neg (by omega)]
      rfl
theorem codeL_bytes' (r : Int) (h0 : 0 ≤ r) (h1 : r ≤ 1114111) : ∀ x ∈ codeL r, 0 ≤ x ∧ x < 256 := by
  intro x hx
  unfold codeL at hx
  split at hx
  · simp only [List.mem_cons, List.not_mem_nil, or_false] at hx; omega
  split at hx
  · simp only [List.mem_cons, List.not_mem_nil, or_false] at hx; omega
  split at hx
  · simp only [List.mem_cons, List.not_mem_nil, or_false] at hx; omega
  · simp only [List.mem_cons, List.not_mem_nil, or_false] at hx; omega
theorem codeL_size (r : Int) : (codeL r).length = sizeL r := by
  unfold codeL sizeL
  split; rfl
  split; rfl
  split; rfl
  rfl
theorem fitsR_iff (s : ByteArray) (a n : Nat) (r : Int) (h : a + n ≤ s.size) : fitsR s a n r ↔ isRune r ∧ sizeL r = n ∧ ∀ j (hj : j < (codeL r).length), (codeL r)[j] = byteAt s (a + j) := by
  unfold fitsR
  constructor
  · rintro ⟨h1, h2, h3⟩
    refine ⟨h1, h2, ?_⟩
    rw [← h2, ← codeL_size] at h3
    exact (strOf_extract _ s a (codeL_bytes' r h1.1 h1.2.1) (by rw [codeL_size, h2]; exact h)).1 h3
  · rintro ⟨h1, h2, h3⟩
    refine ⟨h1, h2, ?_⟩
    rw [← h2, ← codeL_size]
    exact (strOf_extract _ s a (codeL_bytes' r h1.1 h1.2.1) (by rw [codeL_size, h2]; exact h)).2 h3
theorem fitB1 (s : ByteArray) (a : Nat) (h : a + 1 ≤ s.size) : fitsR s a 1 (byteAt s a) ↔ byteAt s a < 128 := by
  rw [fitsR_iff s a 1 _ h]
  have h0 := byteAt_lo s a
  have h1 := byteAt_hi s a
  generalize hb : byteAt s a = b at *
  constructor
  · rintro ⟨-, h2, -⟩
    unfold sizeL at h2
    split at h2
    · omega
    · split at h2
      · omega
      · split at h2 <;> omega
  · intro h2
    refine ⟨⟨h0, by omega, by omega⟩, by unfold sizeL; rw [if_pos (by omega)], fun j hj => ?_⟩
    have hc : codeL b = [b] := by unfold codeL; rw [if_pos (by omega)]
    have hj0 : j = 0 := by rw [hc] at hj; simpa using hj
    subst hj0
    simp only [hc, List.getElem_cons_zero, Nat.add_zero, hb]
theorem fitB2 (s : ByteArray) (a : Nat) (h : a + 2 ≤ s.size) (r : Int) : fitsR s a 2 r ↔ 128 ≤ r ∧ r ≤ 2047 ∧ byteAt s a = 192 + r / 64 ∧ byteAt s (a + 1) = 128 + r % 64 := by
  rw [fitsR_iff s a 2 _ h]
  constructor
  · rintro ⟨h1, h2, h3⟩
    have h4 : 128 ≤ r ∧ r ≤ 2047 := by
      unfold sizeL at h2
      split at h2
      · omega
      · split at h2
        · omega
        · split at h2 <;> omega
    have hc : codeL r = [192 + r / 64, 128 + r % 64] := by unfold codeL; rw [if_neg (by omega), if_pos (by omega)]
    simp only [hc] at h3
    exact ⟨h4.1, h4.2, (h3 0 (by simp)).symm, (h3 1 (by simp)).symm⟩
  · rintro ⟨h1, h2, h3, h4⟩
    have hc : codeL r = [192 + r / 64, 128 + r % 64] := by unfold codeL; rw [if_neg (by omega), if_pos (by omega)]
    refine ⟨⟨by omega, by omega, by omega⟩, by unfold sizeL; rw [if_neg (by omega), if_pos (by omega)], ?_⟩
    simp only [hc]
    intro j hj
    have hj2 : j = 0 ∨ j = 1 := by simp at hj; omega
    rcases hj2 with rfl | rfl
    · exact h3.symm
    · exact h4.symm
theorem fitB3 (s : ByteArray) (a : Nat) (h : a + 3 ≤ s.size) (r : Int) : fitsR s a 3 r ↔ 2048 ≤ r ∧ r ≤ 65535 ∧ ¬ (55296 ≤ r ∧ r ≤ 57343) ∧ byteAt s a = 224 + r / 64 / 64 ∧ byteAt s (a + 1) = 128 + r / 64 % 64 ∧ byteAt s (a + 2) = 128 + r % 64 := by
  rw [fitsR_iff s a 3 _ h]
  constructor
  · rintro ⟨h1, h2, h3⟩
    have h4 : 2048 ≤ r ∧ r ≤ 65535 := by
      unfold sizeL at h2
      split at h2
      · omega
      · split at h2
        · omega
        · split at h2 <;> omega
    have hc : codeL r = [224 + r / 64 / 64, 128 + r / 64 % 64, 128 + r % 64] := by unfold codeL; rw [if_neg (by omega), if_neg (by omega), if_pos (by omega)]
    simp only [hc] at h3
    exact ⟨h4.1, h4.2, h1.2.2, (h3 0 (by simp)).symm, (h3 1 (by simp)).symm, (h3 2 (by simp)).symm⟩
  · rintro ⟨h1, h2, h5, h3, h4, h6⟩
    have hc : codeL r = [224 + r / 64 / 64, 128 + r / 64 % 64, 128 + r % 64] := by unfold codeL; rw [if_neg (by omega), if_neg (by omega), if_pos (by omega)]
    refine ⟨⟨by omega, by omega, h5⟩, by unfold sizeL; rw [if_neg (by omega), if_neg (by omega), if_pos (by omega)], ?_⟩
    simp only [hc]
    intro j hj
    have hj2 : j = 0 ∨ j = 1 ∨ j = 2 := by simp at hj; omega
    rcases hj2 with rfl | rfl | rfl
    · exact h3.symm
    · exact h4.symm
    · exact h6.symm
theorem fitB4 (s : ByteArray) (a : Nat) (h : a + 4 ≤ s.size) (r : Int) : fitsR s a 4 r ↔ 65536 ≤ r ∧ r ≤ 1114111 ∧ byteAt s a = 240 + r / 64 / 64 / 64 ∧ byteAt s (a + 1) = 128 + r / 64 / 64 % 64 ∧ byteAt s (a + 2) = 128 + r / 64 % 64 ∧ byteAt s (a + 3) = 128 + r % 64 := by
  rw [fitsR_iff s a 4 _ h]
  constructor
  · rintro ⟨h1, h2, h3⟩
    have h4 : 65536 ≤ r := by
      unfold sizeL at h2
      split at h2
      · omega
      · split at h2
        · omega
        · split at h2 <;> omega
    have hc : codeL r = [240 + r / 64 / 64 / 64, 128 + r / 64 / 64 % 64, 128 + r / 64 % 64, 128 + r % 64] := by unfold codeL; rw [if_neg (by omega), if_neg (by omega), if_neg (by omega)]
    simp only [hc] at h3
    exact ⟨h4, h1.2.1, (h3 0 (by simp)).symm, (h3 1 (by simp)).symm, (h3 2 (by simp)).symm, (h3 3 (by simp)).symm⟩
  · rintro ⟨h1, h2, h3, h4, h6, h7⟩
    have hc : codeL r = [240 + r / 64 / 64 / 64, 128 + r / 64 / 64 % 64, 128 + r / 64 % 64, 128 + r % 64] := by unfold codeL; rw [if_neg (by omega), if_neg (by omega), if_neg (by omega)]
    refine ⟨⟨by omega, by omega, by omega⟩, by unfold sizeL; rw [if_neg (by omega), if_neg (by omega), if_neg (by omega)], ?_⟩
    simp only [hc]
    intro j hj
    have hj2 : j = 0 ∨ j = 1 ∨ j = 2 ∨ j = 3 := by simp at hj; omega
    rcases hj2 with rfl | rfl | rfl | rfl
    · exact h3.symm
    · exact h4.symm
    · exact h6.symm
    · exact h7.symm
def R2 (b0 b1 : Int) : Int := if 0 ≤ b0 - 192 then (b0 - 192) * 64 + b1 - 128 else b0 - 192
def R3 (b0 b1 b2 : Int) : Int := if 0 ≤ b0 - 224 then (if 0 ≤ (b0 - 224) * 64 + b1 - 128 then ((b0 - 224) * 64 + b1 - 128) * 64 + b2 - 128 else (b0 - 224) * 64 + b1 - 128) else b0 - 224
def R4 (b0 b1 b2 b3 : Int) : Int := if 0 ≤ b0 - 240 then (if 0 ≤ (b0 - 240) * 64 + b1 - 128 then (if 0 ≤ ((b0 - 240) * 64 + b1 - 128) * 64 + b2 - 128 then (((b0 - 240) * 64 + b1 - 128) * 64 + b2 - 128) * 64 + b3 - 128 else ((b0 - 240) * 64 + b1 - 128) * 64 + b2 - 128) else (b0 - 240) * 64 + b1 - 128) else b0 - 240
theorem in2 (s : ByteArray) (a : Nat) : inFin s a 2 4 1 (byteAt s a - 192) = R2 (byteAt s a) (byteAt s (a + 1)) := by
  simp only [inFin, R2, Nat.reduceAdd]; repeat' split
  all_goals first | rfl | omega
theorem in3 (s : ByteArray) (a : Nat) : inFin s a 3 4 1 (byteAt s a - 224) = R3 (byteAt s a) (byteAt s (a + 1)) (byteAt s (a + 2)) := by
  simp only [inFin, R3, Nat.reduceAdd]; repeat' split
  all_goals first | rfl | omega
theorem in4 (s : ByteArray) (a : Nat) : inFin s a 4 4 1 (byteAt s a - 240) = R4 (byteAt s a) (byteAt s (a + 1)) (byteAt s (a + 2)) (byteAt s (a + 3)) := by
  simp only [inFin, R4, Nat.reduceAdd]; repeat' split
  all_goals first | rfl | omega
def V2 (b0 b1 : Int) : Prop := 194 ≤ b0 ∧ b0 < 224 ∧ 128 ≤ b1 ∧ b1 < 192
def V3 (b0 b1 b2 : Int) : Prop := 224 ≤ b0 ∧ b0 < 240 ∧ 128 ≤ b1 ∧ b1 < 192 ∧ 128 ≤ b2 ∧ b2 < 192 ∧ 2048 ≤ (b0 - 224) * 4096 + (b1 - 128) * 64 + (b2 - 128) ∧ ¬ (55296 ≤ (b0 - 224) * 4096 + (b1 - 128) * 64 + (b2 - 128) ∧ (b0 - 224) * 4096 + (b1 - 128) * 64 + (b2 - 128) ≤ 57343)
def V4 (b0 b1 b2 b3 : Int) : Prop := 240 ≤ b0 ∧ b0 < 248 ∧ 128 ≤ b1 ∧ b1 < 192 ∧ 128 ≤ b2 ∧ b2 < 192 ∧ 128 ≤ b3 ∧ b3 < 192 ∧ 65536 ≤ (b0 - 240) * 262144 + (b1 - 128) * 4096 + (b2 - 128) * 64 + (b3 - 128) ∧ (b0 - 240) * 262144 + (b1 - 128) * 4096 + (b2 - 128) * 64 + (b3 - 128) ≤ 1114111
theorem v2_iff (b0 b1 : Int) (h0 : 0 ≤ b0 ∧ b0 ≤ 255) (h1 : 0 ≤ b1 ∧ b1 ≤ 255) : (128 ≤ R2 b0 b1 ∧ R2 b0 b1 ≤ 2047 ∧ b0 = 192 + R2 b0 b1 / 64 ∧ b1 = 128 + R2 b0 b1 % 64) ↔ V2 b0 b1 := by
  unfold R2 V2; split <;> omega
theorem v2_R {b0 b1 : Int} (h : V2 b0 b1) : R2 b0 b1 = (b0 - 192) * 64 + (b1 - 128) := by
  unfold V2 at h; unfold R2; rw [if_pos (by omega)]; omega
theorem v3_iff (b0 b1 b2 : Int) (h0 : 0 ≤ b0 ∧ b0 ≤ 255) (h1 : 0 ≤ b1 ∧ b1 ≤ 255) (h2 : 0 ≤ b2 ∧ b2 ≤ 255) : (2048 ≤ R3 b0 b1 b2 ∧ R3 b0 b1 b2 ≤ 65535 ∧ ¬ (55296 ≤ R3 b0 b1 b2 ∧ R3 b0 b1 b2 ≤ 57343) ∧ b0 = 224 + R3 b0 b1 b2 / 64 / 64 ∧ b1 = 128 + R3 b0 b1 b2 / 64 % 64 ∧ b2 = 128 + R3 b0 b1 b2 % 64) ↔ V3 b0 b1 b2 := by
  unfold R3 V3; repeat' split
  all_goals omega
theorem v3_R {b0 b1 b2 : Int} (h : V3 b0 b1 b2) : R3 b0 b1 b2 = (b0 - 224) * 4096 + (b1 - 128) * 64 + (b2 - 128) := by
  unfold V3 at h; unfold R3; rw [if_pos (by omega), if_pos (by omega)]; omega
theorem v4_iff (b0 b1 b2 b3 : Int) (h0 : 0 ≤ b0 ∧ b0 ≤ 255) (h1 : 0 ≤ b1 ∧ b1 ≤ 255) (h2 : 0 ≤ b2 ∧ b2 ≤ 255) (h3 : 0 ≤ b3 ∧ b3 ≤ 255) : (65536 ≤ R4 b0 b1 b2 b3 ∧ R4 b0 b1 b2 b3 ≤ 1114111 ∧ b0 = 240 + R4 b0 b1 b2 b3 / 64 / 64 / 64 ∧ b1 = 128 + R4 b0 b1 b2 b3 / 64 / 64 % 64 ∧ b2 = 128 + R4 b0 b1 b2 b3 / 64 % 64 ∧ b3 = 128 + R4 b0 b1 b2 b3 % 64) ↔ V4 b0 b1 b2 b3 := by
  unfold R4 V4; repeat' split
  all_goals omega
theorem v4_R {b0 b1 b2 b3 : Int} (h : V4 b0 b1 b2 b3) : R4 b0 b1 b2 b3 = (b0 - 240) * 262144 + (b1 - 128) * 4096 + (b2 - 128) * 64 + (b3 - 128) := by
  unfold V4 at h; unfold R4; rw [if_pos (by omega), if_pos (by omega), if_pos (by omega)]; omega
theorem dn1 (n b0 b1 b2 b3 : Nat) (h : b0 < 128) : Lib.decodeN n b0 b1 b2 b3 = (b0, 1) := by unfold Lib.decodeN; rw [if_pos h]
theorem dn2 (n b0 b1 b2 b3 : Nat) (h : V2 b0 b1) (hn : 1 < n) : Lib.decodeN n b0 b1 b2 b3 = (b0 % 32 * 64 + b1 % 64, 2) := by
  unfold V2 at h; unfold Lib.decodeN; rw [if_neg (by omega), if_pos (by omega), if_pos (by omega)]
theorem dn3 (n b0 b1 b2 b3 : Nat) (h : V3 b0 b1 b2) (hn : 2 < n) : Lib.decodeN n b0 b1 b2 b3 = (b0 % 16 * 4096 + b1 % 64 * 64 + b2 % 64, 3) := by
  unfold V3 at h; unfold Lib.decodeN; rw [if_neg (by omega), if_neg (by omega), if_pos (by omega), if_pos (by omega)]
theorem dn4 (n b0 b1 b2 b3 : Nat) (h : V4 b0 b1 b2 b3) (hn : 3 < n) : Lib.decodeN n b0 b1 b2 b3 = (b0 % 8 * 262144 + b1 % 64 * 4096 + b2 % 64 * 64 + b3 % 64, 4) := by
  unfold V4 at h; unfold Lib.decodeN; rw [if_neg (by omega), if_neg (by omega), if_neg (by omega), if_pos (by omega), if_pos (by omega)]
theorem dnb (n b0 b1 b2 b3 : Nat) (h1 : ¬ b0 < 128) (h2 : ¬ (1 < n ∧ V2 b0 b1)) (h3 : ¬ (2 < n ∧ V3 b0 b1 b2)) (h4 : ¬ (3 < n ∧ V4 b0 b1 b2 b3)) : Lib.decodeN n b0 b1 b2 b3 = (65533, 1) := by
  unfold V2 at h2; unfold V3 at h3; unfold V4 at h4; unfold Lib.decodeN; rw [if_neg h1]
  repeat' split
  all_goals first | rfl | (exfalso; omega)
theorem decG_good {r n : Nat} (h : ¬ (r = 65533 ∧ n ≤ 1)) : decG (r, n) = ((r : Int), (n : Int), true) := by unfold decG; rw [if_neg (show ¬ badD (r, n) from h)]
theorem decG_bad : decG (65533, 1) = (0, 0, false) := by unfold decG; rw [if_pos (show badD (65533, 1) from ⟨rfl, Nat.le_refl _⟩)]
theorem and4 {α : Type} {n : Nat} (hn : n ≤ 4) {P : Prop} [Decidable P] (x y : α) : (if n ≤ 4 ∧ P then x else y) = if P then x else y := by
  by_cases h : P
  · rw [if_pos ⟨hn, h⟩, if_pos h]
  · rw [if_neg (fun h2 => h h2.2), if_neg h]
theorem decFin_dec (s : ByteArray) (a : Nat) (ha : a < s.size) : decFin s a 5 1 = decG (Utf8.decode s a) := by
  rw [decN]
  have e0 : byteAt s a = ((s.get! a).toNat : Int) := rfl
  have e1 : byteAt s (a + 1) = ((s.get! (a + 1)).toNat : Int) := rfl
  have e2 : byteAt s (a + 2) = ((s.get! (a + 2)).toNat : Int) := rfl
  have e3 : byteAt s (a + 3) = ((s.get! (a + 3)).toNat : Int) := rfl
  have l0 := byteAt_lo s a; have u0 := byteAt_hi s a
  have l1 := byteAt_lo s (a + 1); have u1 := byteAt_hi s (a + 1)
  have l2 := byteAt_lo s (a + 2); have u2 := byteAt_hi s (a + 2)
  have l3 := byteAt_lo s (a + 3); have u3 := byteAt_hi s (a + 3)
  have s1 : decFin s a 5 1 = if a + 1 ≤ s.size then (if fitsR s a 1 (inFin s a 1 4 1 (byteAt s a - headOf 1)) then (inFin s a 1 4 1 (byteAt s a - headOf 1), ((1 : Nat) : Int), true) else decFin s a 4 2) else (0, 0, false) := and4 (by decide) _ _
  have s2 : decFin s a 4 2 = if a + 2 ≤ s.size then (if fitsR s a 2 (inFin s a 2 4 1 (byteAt s a - 192)) then (inFin s a 2 4 1 (byteAt s a - 192), ((2 : Nat) : Int), true) else decFin s a 3 3) else (0, 0, false) := and4 (by decide) _ _
  have s3 : decFin s a 3 3 = if a + 3 ≤ s.size then (if fitsR s a 3 (inFin s a 3 4 1 (byteAt s a - 224)) then (inFin s a 3 4 1 (byteAt s a - 224), ((3 : Nat) : Int), true) else decFin s a 2 4) else (0, 0, false) := and4 (by decide) _ _
  have s4 : decFin s a 2 4 = if a + 4 ≤ s.size then (if fitsR s a 4 (inFin s a 4 4 1 (byteAt s a - 240)) then (inFin s a 4 4 1 (byteAt s a - 240), ((4 : Nat) : Int), true) else decFin s a 1 5) else (0, 0, false) := and4 (by decide) _ _
  have s5 : decFin s a 1 5 = (0, 0, false) := by show (if 5 ≤ 4 ∧ _ then _ else _) = _; rw [if_neg (by omega)]
  have i1 : inFin s a 1 4 1 (byteAt s a - headOf 1) = byteAt s a := by
    rw [inFin_stop (by omega)]; unfold headOf; omega
  rw [s1, if_pos (by omega), i1]
  by_cases c1 : byteAt s a < 128
  · rw [if_pos ((fitB1 s a (by omega)).2 c1), dn1 _ _ _ _ _ (by omega), decG_good (by omega)]
    rfl
  rw [if_neg (fun h => c1 ((fitB1 s a (by omega)).1 h)), s2, in2, s3, in3, s4, in4, s5]
  have w2 := v2_iff (byteAt s a) (byteAt s (a + 1)) ⟨l0, u0⟩ ⟨l1, u1⟩
  have w3 := v3_iff (byteAt s a) (byteAt s (a + 1)) (byteAt s (a + 2)) ⟨l0, u0⟩ ⟨l1, u1⟩ ⟨l2, u2⟩
  have w4 := v4_iff (byteAt s a) (byteAt s (a + 1)) (byteAt s (a + 2)) (byteAt s (a + 3)) ⟨l0, u0⟩ ⟨l1, u1⟩ ⟨l2, u2⟩ ⟨l3, u3⟩
  by_cases c2 : a + 2 ≤ s.size ∧ V2 (byteAt s a) (byteAt s (a + 1))
  · rw [if_pos c2.1, if_pos ((fitB2 s a c2.1 _).2 (w2.2 c2.2)), v2_R c2.2]
    have h := c2.2
    rw [e0, e1] at h ⊢
    rw [dn2 _ _ _ _ _ h (by omega)]
    unfold V2 at h
    rw [decG_good (by omega)]
    refine Prod.ext ?_ (Prod.ext rfl rfl)
    simp only
    omega
  have f2 : (if a + 2 ≤ s.size then (if fitsR s a 2 (R2 (byteAt s a) (byteAt s (a + 1))) then (R2 (byteAt s a) (byteAt s (a + 1)), ((2 : Nat) : Int), true) else
      (if a + 3 ≤ s.size then (if fitsR s a 3 (R3 (byteAt s a) (byteAt s (a + 1)) (byteAt s (a + 2))) then (R3 (byteAt s a) (byteAt s (a + 1)) (byteAt s (a + 2)), ((3 : Nat) : Int), true) else
      (if a + 4 ≤ s.size then (if fitsR s a 4 (R4 (byteAt s a) (byteAt s (a + 1)) (byteAt s (a + 2)) (byteAt s (a + 3))) then (R4 (byteAt s a) (byteAt s (a + 1)) (byteAt s (a + 2)) (byteAt s (a + 3)), ((4 : Nat) : Int), true) else (0, 0, false)) else (0, 0, false))) else (0, 0, false))) else (0, 0, false)) =
      (if a + 3 ≤ s.size then (if fitsR s a 3 (R3 (byteAt s a) (byteAt s (a + 1)) (byteAt s (a + 2))) then (R3 (byteAt s a) (byteAt s (a + 1)) (byteAt s (a + 2)), ((3 : Nat) : Int), true) else
      (if a + 4 ≤ s.size then (if fitsR s a 4 (R4 (byteAt s a) (byteAt s (a + 1)) (byteAt s (a + 2)) (byteAt s (a + 3))) then (R4 (byteAt s a) (byteAt s (a + 1)) (byteAt s (a + 2)) (byteAt s (a + 3)), ((4 : Nat) : Int), true) else (0, 0, false)) else (0, 0, false))) else (0, 0, false)) := by
    by_cases d2 : a + 2 ≤ s.size
    · rw [if_pos d2, if_neg (fun h => c2 ⟨d2, w2.1 ((fitB2 s a d2 _).1 h)⟩)]
    · rw [if_neg d2, if_neg (by omega)]
  rw [f2]
  by_cases c3 : a + 3 ≤ s.size ∧ V3 (byteAt s a) (byteAt s (a + 1)) (byteAt s (a + 2))
  · rw [if_pos c3.1, if_pos ((fitB3 s a c3.1 _).2 (w3.2 c3.2)), v3_R c3.2]
    have h := c3.2
    rw [e0, e1, e2] at h ⊢
    rw [dn3 _ _ _ _ _ h (by omega)]
    unfold V3 at h
    rw [decG_good (by omega)]
    refine Prod.ext ?_ (Prod.ext rfl rfl)
    simp only
    omega
  by_cases c4 : a + 4 ≤ s.size ∧ V4 (byteAt s a) (byteAt s (a + 1)) (byteAt s (a + 2)) (byteAt s (a + 3))
  · rw [if_pos (by omega : a + 3 ≤ s.size), if_neg (fun h => c3 ⟨by omega, w3.1 ((fitB3 s a (by omega) _).1 h)⟩), if_pos c4.1, if_pos ((fitB4 s a c4.1 _).2 (w4.2 c4.2)), v4_R c4.2]
    have h := c4.2
    rw [e0, e1, e2, e3] at h ⊢
    rw [dn4 _ _ _ _ _ h (by omega)]
    unfold V4 at h
    rw [decG_good (by omega)]
    refine Prod.ext ?_ (Prod.ext rfl rfl)
    simp only
    omega
  have f4 : (if a + 3 ≤ s.size then (if fitsR s a 3 (R3 (byteAt s a) (byteAt s (a + 1)) (byteAt s (a + 2))) then (R3 (byteAt s a) (byteAt s (a + 1)) (byteAt s (a + 2)), ((3 : Nat) : Int), true) else
      (if a + 4 ≤ s.size then (if fitsR s a 4 (R4 (byteAt s a) (byteAt s (a + 1)) (byteAt s (a + 2)) (byteAt s (a + 3))) then (R4 (byteAt s a) (byteAt s (a + 1)) (byteAt s (a + 2)) (byteAt s (a + 3)), ((4 : Nat) : Int), true) else (0, 0, false)) else (0, 0, false))) else (0, 0, false)) = (0, 0, false) := by
    by_cases d3 : a + 3 ≤ s.size
    · rw [if_pos d3, if_neg (fun h => c3 ⟨d3, w3.1 ((fitB3 s a d3 _).1 h)⟩)]
      by_cases d4 : a + 4 ≤ s.size
      · rw [if_pos d4, if_neg (fun h => c4 ⟨d4, w4.1 ((fitB4 s a d4 _).1 h)⟩)]
      · rw [if_neg d4]
    · rw [if_neg d3]
  rw [f4, dnb _ _ _ _ _ (by omega) (fun h => c2 ⟨by omega, h.2⟩) (fun h => c3 ⟨by omega, h.2⟩) (fun h => c4 ⟨by omega, h.2⟩), decG_bad]
theorem dec_same (s : ByteArray) (at_ : Int) : refDec s at_ = decR s at_ := by
  unfold refDec decR
  by_cases h : at_ < 0 ∨ (s.size : Int) ≤ at_
  · rw [if_pos h, if_pos h]
  · rw [if_neg h, if_neg h]
    exact decFin_dec s _ (by omega)
theorem encode_code {r : Int} (h : isRune r) : Lib.encodeRuneZ r = codeL r := by
  obtain ⟨h0, h1, h2⟩ := h
  unfold codeL
  by_cases c1 : r ≤ 127
  · rw [if_pos c1, Lib.encodeRuneZ_one h0 c1]
  rw [if_neg c1]
  by_cases c2 : r ≤ 2047
  · rw [if_pos c2, Lib.encodeRuneZ_two (by omega) c2]
  rw [if_neg c2]
  by_cases c3 : r ≤ 65535
  · rw [if_pos c3, Lib.encodeRuneZ_three (by omega), show r / 4096 = r / 64 / 64 from by omega]
  · rw [if_neg c3, Lib.encodeRuneZ_four (by omega) h1, show r / 262144 = r / 64 / 64 / 64 from by omega, show r / 4096 = r / 64 / 64 from by omega]
theorem decFin_fits (s : ByteArray) (a : Nat) : ∀ (f n : Nat) (r m : Int), decFin s a f n = (r, m, true) → ∃ k : Nat, m = k ∧ a + k ≤ s.size ∧ fitsR s a k r
  | 0, n, r, m, h => by simp [decFin] at h
  | f + 1, n, r, m, h => by
    have h2 : (if n ≤ 4 ∧ a + n ≤ s.size then (if fitsR s a n (inFin s a n 4 1 (byteAt s a - headOf n)) then (inFin s a n 4 1 (byteAt s a - headOf n), (n : Int), true) else decFin s a f (n + 1)) else (0, 0, false)) = (r, m, true) := h
    by_cases c : n ≤ 4 ∧ a + n ≤ s.size
    · rw [if_pos c] at h2
      by_cases d : fitsR s a n (inFin s a n 4 1 (byteAt s a - headOf n))
      · rw [if_pos d] at h2
        injection h2 with e1 e2
        injection e2 with e3 e4
        subst e1
        exact ⟨n, e3.symm, c.2, d⟩
      · rw [if_neg d] at h2
        exact decFin_fits s a f (n + 1) r m h2
    · rw [if_neg c] at h2; cases h2
/-- What is decoded well is a code point, and its bytes stand there. -/
theorem good_fits (s : ByteArray) (a : Nat) (ha : a < s.size) (h : ¬ badD (Utf8.decode s a)) : a + (Utf8.decode s a).2 ≤ s.size ∧ fitsR s a (Utf8.decode s a).2 ((Utf8.decode s a).1 : Int) := by
  have hd := decFin_dec s a ha
  generalize Utf8.decode s a = d at *
  obtain ⟨r, n⟩ := d
  rw [show decG (r, n) = ((r : Int), (n : Int), true) from by unfold decG; rw [if_neg h]] at hd
  obtain ⟨k, e, h1, h2⟩ := decFin_fits s a _ _ _ _ hd
  obtain rfl : n = k := by omega
  exact ⟨h1, h2⟩
theorem bad_width (s : ByteArray) (a : Nat) (ha : a < s.size) (h : badD (Utf8.decode s a)) : (Utf8.decode s a).1 = 65533 ∧ (Utf8.decode s a).2 = 1 := by
  have := width_pos s a ha
  exact ⟨h.1, by have := h.2; omega⟩
theorem decG_yes {d : Nat × Nat} (h : ¬ badD d) : decG d = ((d.1 : Int), (d.2 : Int), true) := by unfold decG; rw [if_neg h]
theorem decG_no {d : Nat × Nat} (h : badD d) : decG d = (0, 0, false) := by unfold decG; rw [if_pos h]
theorem width_le4 (s : ByteArray) (a : Nat) (ha : a < s.size) (h : ¬ badD (Utf8.decode s a)) : (Utf8.decode s a).2 ≤ 4 := by
  obtain ⟨h1, h2, h3, h4⟩ := good_fits s a ha h
  rw [← h3]
  unfold sizeL
  split; omega
  split; omega
  split; omega
  omega
/-- The cleaned bytes as numbers. -/
def cleanZ (s : ByteArray) : Nat → Nat → List Int
  | 0, _ => []
  | f + 1, pos => if pos < s.size then Lib.encodeRuneZ (Utf8.decode s pos).1 ++ cleanZ s f (pos + (Utf8.decode s pos).2) else []
theorem cleanFrom_Z (s : ByteArray) : ∀ (f pos : Nat), cleanFrom s f pos = (cleanZ s f pos).map fun x => x.toNat.toUInt8
  | 0, _ => rfl
  | f + 1, pos => by
    simp only [cleanFrom, cleanZ]
    split
    · rw [List.map_append, cleanFrom_Z s f]; rfl
    · rfl
theorem cleanB_Z (s : ByteArray) : cleanB s = strOfNums (cleanZ s s.size 0) := by
  unfold cleanB strOfNums
  rw [cleanFrom_Z]
theorem encode_bad : Lib.encodeRuneZ ((65533 : Nat) : Int) = [239, 191, 189] := by decide
/-- Where a code point's bytes stand, it is decoded. -/
theorem decode_fits (s : ByteArray) (a n : Nat) (r : Int) (hn : a + n ≤ s.size) (h : fitsR s a n r) : Utf8.decode s a = (r.toNat, n) := by
  rw [decN]
  have e0 : byteAt s a = ((s.get! a).toNat : Int) := rfl
  have e1 : byteAt s (a + 1) = ((s.get! (a + 1)).toNat : Int) := rfl
  have e2 : byteAt s (a + 2) = ((s.get! (a + 2)).toNat : Int) := rfl
  have e3 : byteAt s (a + 3) = ((s.get! (a + 3)).toNat : Int) := rfl
  have hs := h.2.1
  have hi := h.1
  have hc : n = 1 ∨ n = 2 ∨ n = 3 ∨ n = 4 := by
    rw [← hs]; unfold sizeL
    split; omega
    split; omega
    split; omega
    omega
  rcases hc with rfl | rfl | rfl | rfl
  · have hr : r ≤ 127 := by
      unfold sizeL at hs
      split at hs
      · omega
      · split at hs
        · omega
        · split at hs <;> omega
    have hb := ((fitsR_iff s a 1 r hn).1 h).2.2 0 (by rw [codeL_size, hs]; decide)
    have hcl : codeL r = [r] := by unfold codeL; rw [if_pos hr]
    simp only [hcl, List.getElem_cons_zero, Nat.add_zero] at hb
    have h0 := hi.1
    rw [dn1 _ _ _ _ _ (by omega)]
    refine Prod.ext ?_ rfl
    simp only
    omega
  · obtain ⟨h1, h2, h3, h4⟩ := (fitB2 s a hn r).1 h
    rw [dn2 _ _ _ _ _ (by unfold V2; omega) (by omega)]
    refine Prod.ext ?_ rfl
    simp only
    omega
  · obtain ⟨h1, h2, h5, h3, h4, h6⟩ := (fitB3 s a hn r).1 h
    rw [dn3 _ _ _ _ _ (by unfold V3; omega) (by omega)]
    refine Prod.ext ?_ rfl
    simp only
    omega
  · obtain ⟨h1, h2, h3, h4, h6, h7⟩ := (fitB4 s a hn r).1 h
    rw [dn4 _ _ _ _ _ (by unfold V4; omega) (by omega)]
    refine Prod.ext ?_ rfl
    simp only
    omega
theorem fits_good {r : Int} {n : Nat} (h0 : 0 ≤ r) (h : sizeL r = n) : ¬ badD (r.toNat, n) := by
  rintro ⟨h1, h2⟩
  simp only at h1 h2
  have : r = 65533 := by omega
  subst this
  have : sizeL 65533 = 3 := by decide
  omega
/-- A text that stands behind another within one. -/
theorem strOf_at (l m : List Int) (r : List Int) : (strOfNums (l ++ (m ++ r))).extract l.length (l.length + m.length) = strOfNums m := by
  apply ByteArray.ext
  apply Array.ext'
  rw [ByteArray.data_extract, Array.toList_extract, strOfNums_data, strOfNums_data, List.extract_eq_take_drop]
  simp
/-- Of runes, told as a text behind others: they are decoded again. -/
theorem decode_flat (pre L : List Int) (r : Int) (hr : isRune r) : Utf8.decode (strOfNums (pre ++ (codeL r ++ L))) pre.length = (r.toNat, sizeL r) := by
  refine decode_fits _ _ _ r (by rw [strOfNums_size, List.length_append, List.length_append, codeL_size]; omega) ⟨hr, rfl, ?_⟩
  rw [← codeL_size]
  exact (strOf_at pre (codeL r) L).symm
theorem size_pos (r : Int) : 1 ≤ sizeL r := by
  unfold sizeL
  split; omega
  split; omega
  split; omega
  omega
/-- A code point's own text is decoded to it. -/
theorem decode_own (r : Int) (hr : isRune r) : decR (strOfNums (codeL r)) 0 = (r, ((codeL r).length : Int), true) := by
  have h := decode_flat [] [] r hr
  rw [List.append_nil, List.nil_append] at h
  have hp := size_pos r
  have hs : (strOfNums (codeL r)).size = sizeL r := by rw [strOfNums_size, codeL_size]
  have e := decR_at (strOfNums (codeL r)) 0 (by omega)
  refine Eq.trans e ?_
  show decG (Utf8.decode (strOfNums (codeL r)) ([] : List Int).length) = _
  rw [h, codeL_size]
  unfold decG
  rw [if_neg (fits_good hr.1 rfl)]
  simp only [Int.toNat_of_nonneg hr.1]
end Go.Proofs.YtebebognifiinaaDoor
