/-
  A code point's bytes by utf8.AppendRune, as it is printed: those of the document's Code. No memory here.
-/
import Derived.Test.YtebebognifiinaaUx
import Derived.Test.YtebebognifiinaaCode
namespace Go.Proofs.Ytebebognifiinaa.U
open Go.RowKit Go.Proofs.YtebebognifiinaaW.PrintWords Go.Proofs.YtebebognifiinaaW.PrintLast Go.Proofs.YtebebognifiinaaW.PrintMore
set_option linter.unusedVariables false
set_option linter.unusedSimpArgs false
theorem head2_bits (y : Int) (h0 : 0 ≤ y) (h : y < 32) : Go.bits .or .u8 192 (y % 256) = 192 + y := by
  have key : ∀ z : Fin 32, Go.bits .or .u8 192 (z.val : Int) = 192 + (z.val : Int) := by decide +kernel
  have h2 := key ⟨y.toNat, by omega⟩
  simp only at h2
  rw [Int.toNat_of_nonneg h0] at h2
  rw [Int.emod_eq_of_lt h0 (by omega), h2]
theorem head3_bits (y : Int) (h0 : 0 ≤ y) (h : y < 16) : Go.bits .or .u8 224 (y % 256) = 224 + y := by
  have key : ∀ z : Fin 16, Go.bits .or .u8 224 (z.val : Int) = 224 + (z.val : Int) := by decide +kernel
  have h2 := key ⟨y.toNat, by omega⟩
  simp only at h2
  rw [Int.toNat_of_nonneg h0] at h2
  rw [Int.emod_eq_of_lt h0 (by omega), h2]
theorem head4_bits (y : Int) (h0 : 0 ≤ y) (h : y < 8) : Go.bits .or .u8 240 (y % 256) = 240 + y := by
  have key : ∀ z : Fin 8, Go.bits .or .u8 240 (z.val : Int) = 240 + (z.val : Int) := by decide +kernel
  have h2 := key ⟨y.toNat, by omega⟩
  simp only at h2
  rw [Int.toNat_of_nonneg h0] at h2
  rw [Int.emod_eq_of_lt h0 (by omega), h2]
theorem codeL_len (r : Int) : (codeL r).length ≤ 4 := by unfold codeL; split <;> (try split) <;> (try split) <;> simp
theorem append_rune (k : Nat) (l : List Int) (r : Int) (h : isRune r) (hl : l.length + 4 < 140737488355328) : utf8_AppendRune.f (k + 1) l r = some (l ++ codeL r) := by
  obtain ⟨h0, h1, h2⟩ := h
  have hm : r % 4294967296 = r := by omega
  unfold utf8_AppendRune.f
  rw [hm]
  by_cases c1 : r ≤ 127
  · rw [if_pos c1, if_pos (by omega)]
    unfold codeL
    rw [if_pos c1, show r % 256 = r from by omega]
  rw [if_neg c1]
  unfold utf8_appendRuneNonASCII.f
  rw [hm]
  by_cases c2 : r ≤ 2047
  · rw [if_pos c2]
    simp only [Option.bind_some, List.length_cons, List.length_nil]
    rw [if_pos (by omega), head2_bits _ (by omega) (by omega)]
    unfold codeL
    rw [if_neg c1, if_pos c2]
    rfl
  rw [if_neg c2]
  have hj : ∀ b, b = decide (r ≤ 65535) → (utf8_appendRuneNonASCII.j0 (k + 1) l r r b).bind (fun t => some t) = some (l ++ codeL r) := by
    intro b hb
    simp only [utf8_appendRuneNonASCII.j0]
    by_cases c3 : r ≤ 65535
    · rw [if_pos (by rw [hb]; simp [c3])]
      simp only [Option.bind_some, List.length_cons, List.length_nil]
      rw [if_pos (by omega), head3_bits _ (by omega) (by omega)]
      unfold codeL
      rw [if_neg c1, if_neg c2, if_pos c3, show r / 4096 = r / 64 / 64 from by omega]
      rfl
    · rw [if_neg (by rw [hb]; simp [c3]), if_pos (by omega), if_pos h1]
      simp only [Option.bind_some, List.length_cons, List.length_nil]
      rw [if_pos (by omega), head4_bits _ (by omega) (by omega)]
      unfold codeL
      rw [if_neg c1, if_neg c2, if_neg c3, show r / 262144 = r / 64 / 64 / 64 from by omega, show r / 4096 = r / 64 / 64 from by omega]
      rfl
  by_cases c4 : r < 55296
  · rw [if_pos c4]
    exact hj _ (by simp [c4]; omega)
  · rw [if_neg c4, if_pos (by omega)]
    exact hj _ rfl
end Go.Proofs.Ytebebognifiinaa.U
