/-
  The bytes of a code point, by the document's Code.
-/
import Derived.Test.YtebebognifiinaaReads
import Derived.Test.YtebebognifiinaaProg
import Derived.OwnWalk
import Derived.Laws.MakeOwn
import Derived.Laws.OwnMore
namespace Go.Proofs.Ytebebognifiinaa
open Go.RowKit
set_option linter.unusedVariables false
set_option linter.unusedSimpArgs false
def codeL (r : Int) : List Int :=
  if r ≤ 127 then [r] else if r ≤ 2047 then [192 + r / 64, 128 + r % 64] else if r ≤ 65535 then [224 + r / 64 / 64, 128 + r / 64 % 64, 128 + r % 64]
  else [240 + r / 64 / 64 / 64, 128 + r / 64 / 64 % 64, 128 + r / 64 % 64, 128 + r % 64]
def isRune (r : Int) : Prop := 0 ≤ r ∧ r ≤ 1114111 ∧ ¬ (55296 ≤ r ∧ r ≤ 57343)
instance (r : Int) : Decidable (isRune r) := by unfold isRune; infer_instance
theorem info_bytes : (Try.prog.info? 5).map (fun i => (i.zero, i.size, i.bytes)) = some (some (.int .u8 0), 1, 1) := by kernel_rfl
def bytesV (l : List Int) : List Value := l.map (Value.int .u8)
theorem size_any (r : Int) (w : World) : Calls Try.prog 50 #[.int .i64 r] w fun e w' => e = .returned (.int .i64 (if r ≤ 127 then 1 else if r ≤ 2047 then 2 else if r ≤ 65535 then 3 else 4)) ∧ w = w' := by
  go_enter Try.func50, Try.ntmps50
  by_cases h1 : r ≤ 127
  · go_wp2
    go_ret
    exact ⟨by simp [h1], rfl⟩
  by_cases h2 : r ≤ 2047
  · go_wp2
    go_ret
    exact ⟨by simp [h1, h2], rfl⟩
  by_cases h3 : r ≤ 65535
  · go_wp2
    go_ret
    exact ⟨by simp [h1, h2, h3], rfl⟩
  · go_wp2
    go_ret
    exact ⟨by simp [h1, h2, h3], rfl⟩
set_option maxRecDepth 100000 in
set_option maxHeartbeats 8000000 in
theorem code_any (r : Int) (h0 : 0 ≤ r) (hr : r ≤ 1114111) (w : World) : Calls Try.prog 41 #[.int .i64 r] w fun e w' => e = .returned (.string (strOfNums (codeL r))) ∧ Below w.heap.size w w' := by
  have hS := size_any r w
  obtain ⟨i0, hi, hz0, hz1, hz2⟩ : ∃ i, Try.prog.info? 5 = some i ∧ i.zero = some (.int .u8 0) ∧ i.size = 1 ∧ i.bytes = 1 := by
    have := info_bytes
    cases hq : Try.prog.info? 5 with
    | none => rw [hq] at this; cases this
    | some i => rw [hq] at this; simp only [Option.map_some, Option.some.injEq, Prod.mk.injEq] at this; exact ⟨i, rfl, this.1, this.2.1, this.2.2⟩
  go_enter Try.func41, Try.ntmps41
  by_cases h1 : r ≤ 127
  · rw [if_pos h1] at hS
    have hL : codeL r = [r] := by unfold codeL; rw [if_pos h1]
    have hrow : (w.alloc (.cells #[.int .u8 r] 5)).ownsRow 0 5 1 (.slice (some ⟨w.heap.size, 0, none⟩) 1 1) 1 ([r].map (Value.int .u8)) := ⟨rfl, .inr ⟨_, 1, #[.int .u8 r], rfl, Nat.zero_le _, alloc_new _ _, Nat.le_refl _, by decide, rfl, rfl⟩⟩
    have hconv := own_text Try.underlying82 Try.underlying5 hrow 9 Try.underlying9
    have hw8 : IntKind.u8.wrap r = r := by show r % 256 = r; omega
    go_wp2_with (fail)
    refine hS.mono ?_
    rintro e w1 ⟨rfl, rfl⟩
    go_wp2_with (fail)
    go_ret
    rw [hL]
    exact ⟨rfl, (Below.refl _ _).alloc (Nat.le_refl _) _⟩
  rw [if_neg h1] at hS
  by_cases h2 : r ≤ 2047
  · rw [if_pos h2] at hS
    have hL : codeL r = [192 + r / 64, 128 + r % 64] := by unfold codeL; rw [if_neg h1, if_pos h2]
    go_wp2_with (fail)
    refine hS.mono ?_
    rintro e w1 ⟨rfl, rfl⟩
    go_wp2_with (at_make; refine wpList_make_full _ rfl _ _ 82 rfl w.heap.size 5 i0 (.int .u8 0) 1 Try.underlying82 hi hz0 hz1 _ _ _ _ 2 rfl rfl rfl rfl (by rw [hz2]; decide) (by decide) (Nat.le_refl _) ?_)
    intro w2 hown2 hg2
    rw [Go.toList_madeCells_one] at hown2
    have hB2 : Below w.heap.size w w2 := (Below.refl _ _).grown hg2 (Nat.le_refl _) (fun b e => by cases e)
    have hbl := (hown2.lt w.heap.size rfl).2
    have c0 : w2.cell? ⟨w.heap.size, 0, none⟩ = some (.int .u8 0) := hown2.cellAt 0 (by decide)
    have f0 := hown2.frozenAt 0
    have c1 : w2.cell? ⟨w.heap.size, 1, none⟩ = some (.int .u8 0) := hown2.cellAt 1 (by decide)
    have f1 := hown2.frozenAt 1
    have b1 : 0 ≤ r / 64 ∧ r / 64 ≤ 17407 := by omega
    obtain ⟨ba1, bb1⟩ := b1
    have g1 : IntKind.i64.wrap (r / 64) = r / 64 := by rw [IntKind.wrap_i64]; omega
    have e0 : IntKind.u8.wrap (192 + r / 64) = 192 + r / 64 := by show (192 + r / 64) % 256 = _; omega
    have d0 : IntKind.i64.wrap (192 + r / 64) = 192 + r / 64 := by rw [IntKind.wrap_i64]; omega
    have e1 : IntKind.u8.wrap (128 + r % 64) = 128 + r % 64 := by show (128 + r % 64) % 256 = _; omega
    have d1 : IntKind.i64.wrap (128 + r % 64) = 128 + r % 64 := by rw [IntKind.wrap_i64]; omega
    have hs1 := (hown2.stored 1 (.int .u8 (128 + r % 64))).1
    have hs0 := (hs1.stored 0 (.int .u8 (192 + r / 64))).1
    have hfin := hs0.alloc (.cells #[.int .i64 0, .int .i64 0, .int .i64 192, .int .i64 224, .int .i64 240] 106)
    rw [show ((List.replicate 2 (Value.int .u8 0)).set 1 (.int .u8 (128 + r % 64))).set 0 (.int .u8 (192 + r / 64)) = [192 + r / 64, 128 + r % 64].map (Value.int .u8) from rfl] at hfin
    have hconv := own_text Try.underlying82 Try.underlying5 hfin 9 Try.underlying9
    have hBf := ((hB2.setCell (p := ⟨w.heap.size, 1, none⟩) (Nat.le_refl _) (.int .u8 (128 + r % 64))).setCell (p := ⟨w.heap.size, 0, none⟩) (Nat.le_refl _) (.int .u8 (192 + r / 64))).alloc (by simp; omega) (.cells #[.int .i64 0, .int .i64 0, .int .i64 192, .int .i64 224, .int .i64 240] 106)
    clear hs0 hs1 hfin hown2
    go_wp2_with (fail)
    refine wp_loop_rounds 2 ?_
    iterate 2 (rw [rounds_succ]; go_wp2)
    go_ret
    rw [hL]
    exact ⟨rfl, hBf⟩
  rw [if_neg h2] at hS
  by_cases h3 : r ≤ 65535
  · rw [if_pos h3] at hS
    have hL : codeL r = [224 + r / 64 / 64, 128 + r / 64 % 64, 128 + r % 64] := by unfold codeL; rw [if_neg h1, if_neg h2, if_pos h3]
    go_wp2_with (fail)
    refine hS.mono ?_
    rintro e w1 ⟨rfl, rfl⟩
    go_wp2_with (at_make; refine wpList_make_full _ rfl _ _ 82 rfl w.heap.size 5 i0 (.int .u8 0) 1 Try.underlying82 hi hz0 hz1 _ _ _ _ 3 rfl rfl rfl rfl (by rw [hz2]; decide) (by decide) (Nat.le_refl _) ?_)
    intro w2 hown2 hg2
    rw [Go.toList_madeCells_one] at hown2
    have hB2 : Below w.heap.size w w2 := (Below.refl _ _).grown hg2 (Nat.le_refl _) (fun b e => by cases e)
    have hbl := (hown2.lt w.heap.size rfl).2
    have c0 : w2.cell? ⟨w.heap.size, 0, none⟩ = some (.int .u8 0) := hown2.cellAt 0 (by decide)
    have f0 := hown2.frozenAt 0
    have c1 : w2.cell? ⟨w.heap.size, 1, none⟩ = some (.int .u8 0) := hown2.cellAt 1 (by decide)
    have f1 := hown2.frozenAt 1
    have c2 : w2.cell? ⟨w.heap.size, 2, none⟩ = some (.int .u8 0) := hown2.cellAt 2 (by decide)
    have f2 := hown2.frozenAt 2
    have b1 : 0 ≤ r / 64 ∧ r / 64 ≤ 17407 := by omega
    obtain ⟨ba1, bb1⟩ := b1
    have g1 : IntKind.i64.wrap (r / 64) = r / 64 := by rw [IntKind.wrap_i64]; omega
    have b2 : 0 ≤ r / 64 / 64 ∧ r / 64 / 64 ≤ 271 := by omega
    obtain ⟨ba2, bb2⟩ := b2
    have g2 : IntKind.i64.wrap (r / 64 / 64) = r / 64 / 64 := by rw [IntKind.wrap_i64]; omega
    have e0 : IntKind.u8.wrap (224 + r / 64 / 64) = 224 + r / 64 / 64 := by show (224 + r / 64 / 64) % 256 = _; omega
    have d0 : IntKind.i64.wrap (224 + r / 64 / 64) = 224 + r / 64 / 64 := by rw [IntKind.wrap_i64]; omega
    have e1 : IntKind.u8.wrap (128 + r / 64 % 64) = 128 + r / 64 % 64 := by show (128 + r / 64 % 64) % 256 = _; omega
    have d1 : IntKind.i64.wrap (128 + r / 64 % 64) = 128 + r / 64 % 64 := by rw [IntKind.wrap_i64]; omega
    have e2 : IntKind.u8.wrap (128 + r % 64) = 128 + r % 64 := by show (128 + r % 64) % 256 = _; omega
    have d2 : IntKind.i64.wrap (128 + r % 64) = 128 + r % 64 := by rw [IntKind.wrap_i64]; omega
    have hs2 := (hown2.stored 2 (.int .u8 (128 + r % 64))).1
    have hs1 := (hs2.stored 1 (.int .u8 (128 + r / 64 % 64))).1
    have hs0 := (hs1.stored 0 (.int .u8 (224 + r / 64 / 64))).1
    have hfin := hs0.alloc (.cells #[.int .i64 0, .int .i64 0, .int .i64 192, .int .i64 224, .int .i64 240] 106)
    rw [show (((List.replicate 3 (Value.int .u8 0)).set 2 (.int .u8 (128 + r % 64))).set 1 (.int .u8 (128 + r / 64 % 64))).set 0 (.int .u8 (224 + r / 64 / 64)) = [224 + r / 64 / 64, 128 + r / 64 % 64, 128 + r % 64].map (Value.int .u8) from rfl] at hfin
    have hconv := own_text Try.underlying82 Try.underlying5 hfin 9 Try.underlying9
    have hBf := (((hB2.setCell (p := ⟨w.heap.size, 2, none⟩) (Nat.le_refl _) (.int .u8 (128 + r % 64))).setCell (p := ⟨w.heap.size, 1, none⟩) (Nat.le_refl _) (.int .u8 (128 + r / 64 % 64))).setCell (p := ⟨w.heap.size, 0, none⟩) (Nat.le_refl _) (.int .u8 (224 + r / 64 / 64))).alloc (by simp; omega) (.cells #[.int .i64 0, .int .i64 0, .int .i64 192, .int .i64 224, .int .i64 240] 106)
    clear hs0 hs1 hs2 hfin hown2
    go_wp2_with (fail)
    refine wp_loop_rounds 3 ?_
    iterate 3 (rw [rounds_succ]; go_wp2)
    go_ret
    rw [hL]
    exact ⟨rfl, hBf⟩
  · rw [if_neg h3] at hS
    have hL : codeL r = [240 + r / 64 / 64 / 64, 128 + r / 64 / 64 % 64, 128 + r / 64 % 64, 128 + r % 64] := by unfold codeL; rw [if_neg h1, if_neg h2, if_neg h3]
    go_wp2_with (fail)
    refine hS.mono ?_
    rintro e w1 ⟨rfl, rfl⟩
    go_wp2_with (at_make; refine wpList_make_full _ rfl _ _ 82 rfl w.heap.size 5 i0 (.int .u8 0) 1 Try.underlying82 hi hz0 hz1 _ _ _ _ 4 rfl rfl rfl rfl (by rw [hz2]; decide) (by decide) (Nat.le_refl _) ?_)
    intro w2 hown2 hg2
    rw [Go.toList_madeCells_one] at hown2
    have hB2 : Below w.heap.size w w2 := (Below.refl _ _).grown hg2 (Nat.le_refl _) (fun b e => by cases e)
    have hbl := (hown2.lt w.heap.size rfl).2
    have c0 : w2.cell? ⟨w.heap.size, 0, none⟩ = some (.int .u8 0) := hown2.cellAt 0 (by decide)
    have f0 := hown2.frozenAt 0
    have c1 : w2.cell? ⟨w.heap.size, 1, none⟩ = some (.int .u8 0) := hown2.cellAt 1 (by decide)
    have f1 := hown2.frozenAt 1
    have c2 : w2.cell? ⟨w.heap.size, 2, none⟩ = some (.int .u8 0) := hown2.cellAt 2 (by decide)
    have f2 := hown2.frozenAt 2
    have c3 : w2.cell? ⟨w.heap.size, 3, none⟩ = some (.int .u8 0) := hown2.cellAt 3 (by decide)
    have f3 := hown2.frozenAt 3
    have b1 : 0 ≤ r / 64 ∧ r / 64 ≤ 17407 := by omega
    obtain ⟨ba1, bb1⟩ := b1
    have g1 : IntKind.i64.wrap (r / 64) = r / 64 := by rw [IntKind.wrap_i64]; omega
    have b2 : 0 ≤ r / 64 / 64 ∧ r / 64 / 64 ≤ 271 := by omega
    obtain ⟨ba2, bb2⟩ := b2
    have g2 : IntKind.i64.wrap (r / 64 / 64) = r / 64 / 64 := by rw [IntKind.wrap_i64]; omega
    have b3 : 0 ≤ r / 64 / 64 / 64 ∧ r / 64 / 64 / 64 ≤ 4 := by omega
    obtain ⟨ba3, bb3⟩ := b3
    have g3 : IntKind.i64.wrap (r / 64 / 64 / 64) = r / 64 / 64 / 64 := by rw [IntKind.wrap_i64]; omega
    have e0 : IntKind.u8.wrap (240 + r / 64 / 64 / 64) = 240 + r / 64 / 64 / 64 := by show (240 + r / 64 / 64 / 64) % 256 = _; omega
    have d0 : IntKind.i64.wrap (240 + r / 64 / 64 / 64) = 240 + r / 64 / 64 / 64 := by rw [IntKind.wrap_i64]; omega
    have e1 : IntKind.u8.wrap (128 + r / 64 / 64 % 64) = 128 + r / 64 / 64 % 64 := by show (128 + r / 64 / 64 % 64) % 256 = _; omega
    have d1 : IntKind.i64.wrap (128 + r / 64 / 64 % 64) = 128 + r / 64 / 64 % 64 := by rw [IntKind.wrap_i64]; omega
    have e2 : IntKind.u8.wrap (128 + r / 64 % 64) = 128 + r / 64 % 64 := by show (128 + r / 64 % 64) % 256 = _; omega
    have d2 : IntKind.i64.wrap (128 + r / 64 % 64) = 128 + r / 64 % 64 := by rw [IntKind.wrap_i64]; omega
    have e3 : IntKind.u8.wrap (128 + r % 64) = 128 + r % 64 := by show (128 + r % 64) % 256 = _; omega
    have d3 : IntKind.i64.wrap (128 + r % 64) = 128 + r % 64 := by rw [IntKind.wrap_i64]; omega
    have hs3 := (hown2.stored 3 (.int .u8 (128 + r % 64))).1
    have hs2 := (hs3.stored 2 (.int .u8 (128 + r / 64 % 64))).1
    have hs1 := (hs2.stored 1 (.int .u8 (128 + r / 64 / 64 % 64))).1
    have hs0 := (hs1.stored 0 (.int .u8 (240 + r / 64 / 64 / 64))).1
    have hfin := hs0.alloc (.cells #[.int .i64 0, .int .i64 0, .int .i64 192, .int .i64 224, .int .i64 240] 106)
    rw [show ((((List.replicate 4 (Value.int .u8 0)).set 3 (.int .u8 (128 + r % 64))).set 2 (.int .u8 (128 + r / 64 % 64))).set 1 (.int .u8 (128 + r / 64 / 64 % 64))).set 0 (.int .u8 (240 + r / 64 / 64 / 64)) = [240 + r / 64 / 64 / 64, 128 + r / 64 / 64 % 64, 128 + r / 64 % 64, 128 + r % 64].map (Value.int .u8) from rfl] at hfin
    have hconv := own_text Try.underlying82 Try.underlying5 hfin 9 Try.underlying9
    have hBf := ((((hB2.setCell (p := ⟨w.heap.size, 3, none⟩) (Nat.le_refl _) (.int .u8 (128 + r % 64))).setCell (p := ⟨w.heap.size, 2, none⟩) (Nat.le_refl _) (.int .u8 (128 + r / 64 % 64))).setCell (p := ⟨w.heap.size, 1, none⟩) (Nat.le_refl _) (.int .u8 (128 + r / 64 / 64 % 64))).setCell (p := ⟨w.heap.size, 0, none⟩) (Nat.le_refl _) (.int .u8 (240 + r / 64 / 64 / 64))).alloc (by simp; omega) (.cells #[.int .i64 0, .int .i64 0, .int .i64 192, .int .i64 224, .int .i64 240] 106)
    clear hs0 hs1 hs2 hs3 hfin hown2
    go_wp2_with (fail)
    refine wp_loop_rounds 4 ?_
    iterate 4 (rw [rounds_succ]; go_wp2)
    go_ret
    rw [hL]
    exact ⟨rfl, hBf⟩
end Go.Proofs.Ytebebognifiinaa
