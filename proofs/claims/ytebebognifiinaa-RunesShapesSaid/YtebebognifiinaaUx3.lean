-- PRINTED by print.py (a twelfth state) out of the translation. Not trusted: Lean checks it.
import Derived.Test.YtebebognifiinaaUx0
import Derived.Test.YtebebognifiinaaUx2
namespace Go.Proofs.Ytebebognifiinaa.U
open Go.RowKit Go.Proofs.YtebebognifiinaaW.PrintWords Go.Proofs.YtebebognifiinaaW.PrintLast Go.Proofs.YtebebognifiinaaW.PrintMore
attribute [local go_sem] max2_int min2_int max_two min_two max_three min_three max_four min_four   -- for this text's walks alone
set_option linter.unusedVariables false
set_option linter.unusedSimpArgs false

/-! ### runes_pieces: function 45 -/
def piecesL (k : Nat) (hi : Int) : List Int → Int → List S63 → Option (List S63)
  | [], _, out => some out
  | e :: es, fr, out => if hi < fr then some out else if fr ≤ e then (if e = 57343 then piecesL k hi es (e + 1) out else (runes_cut.f k fr (mn hi e)).bind fun c => if out.length + c.length < 8796093022208 then piecesL k hi es (e + 1) (out ++ c) else none) else piecesL k hi es fr out
theorem piecesL_mono (k : Nat) (hi : Int) : ∀ (es : List Int) (fr : Int) (out : List S63), LeO (piecesL k hi es fr out) (piecesL (k + 1) hi es fr out)
  | [], fr, out => LeO.refl _
  | e :: es, fr, out => by
    unfold piecesL
    refine LeO.ite (LeO.refl _) (LeO.ite (LeO.ite (piecesL_mono k hi es _ _) (LeO.bind (runes_cut.mono _ _ _) fun c => LeO.ite (piecesL_mono k hi es _ _) (LeO.refl _))) (piecesL_mono k hi es _ _))
def encSp (x : S63) : List Value := [.int .i64 x.f0, .int .i64 x.f1]
def endsL : List Int := [127, 2047, 55295, 57343, 65535, 1114111]
theorem info_span : (Try.prog.info? 63).map (fun i => (i.zero, i.size, i.bytes)) = some (some (.agg #[.int .i64 0, .int .i64 0]), 2, 16) := by kernel_rfl
def runes_pieces.f (k : Nat) (a0 : Int) (a1 : Int) : Option ((List (S63))) := piecesL k a1 [127, 2047, 55295, 57343, 65535, 1114111] a0 []
set_option maxHeartbeats 8000000 in
set_option maxRecDepth 100000 in
theorem runes_pieces.calls (k : Nat) (a0 : Int) (a1 : Int) (r : List (S63)) (w : World) (h : runes_pieces.f k a0 a1 = some r) :
    Calls Try.prog 45 #[.int .i64 a0, .int .i64 a1] w fun e w' => ∃ v0_ : Value, e = .returned (v0_) ∧ Kd.R k63 63 w' w.heap.size (fun _ => True) v0_ r ∧ Below w.heap.size w w' := by
  obtain ⟨i0, hi, hz0, hz1, hz2⟩ := info_parts info_span
  unfold runes_pieces.f at h
  replace h : piecesL k a1 endsL a0 [] = some r := h
  go_enter Try.func45, Try.ntmps45
  go_wp2_with (fail)
  go_loopw [5, 6, 11] (fun out fr i wr => ∃ (j : Nat) (f : Int) (o : List S63), j ≤ 6 ∧ i = .int .i64 j ∧ fr = .int .i64 f ∧ wr.ownsRow w.heap.size 63 2 out o.length (o.flatMap encSp) ∧ piecesL k a1 (endsL.drop j) f o = some r ∧ Below w.heap.size w wr) (fun _ _ i _ => 6 - (intOf i).toNat)
  case atStart => exact ⟨0, a0, [], by decide, rfl, rfl, World.ownsRow_nil _ _ _ _, h, Below.refl _ _⟩
  case round =>
    obtain ⟨j, f, o, hj, rfl, rfl, hown, hp, hB⟩ := hrel
    have hend : ∀ out v (wz : World), wz.ownsRow w.heap.size 63 2 v out.length (out.flatMap encSp) → Below w.heap.size w wz → out = r → ∃ v0_ : Value, Ending.returned v = .returned (v0_) ∧ Kd.R k63 63 wz w.heap.size (fun _ => True) v0_ r ∧ Below w.heap.size w wz := by
      intro out v wz h1 h2 h3
      subst h3
      exact ⟨v, rfl, R_of_owns (enc := encSp) (fun _ => rfl) (fun _ _ _ _ => k63_mkM _ _ _ _) h1 rfl, h2⟩
    have hj7 : j = 0 ∨ j = 1 ∨ j = 2 ∨ j = 3 ∨ j = 4 ∨ j = 5 ∨ j = 6 := by omega
    rcases hj7 with rfl | rfl | rfl | rfl | rfl | rfl | rfl
    · have hs : piecesL k a1 (endsL.drop 0) f o = if a1 < f then some o else if f ≤ 127 then (if (127 : Int) = 57343 then piecesL k a1 (endsL.drop 1) (127 + 1) o else (runes_cut.f k f (mn a1 127)).bind fun c => if o.length + c.length < 8796093022208 then piecesL k a1 (endsL.drop 1) (127 + 1) (o ++ c) else none) else piecesL k a1 (endsL.drop 1) f o := rfl
      rw [hs] at hp
      clear hs
      have hix : ∀ w : World, (Instr.index 115 (.agg #[.int .i64 127, .int .i64 2047, .int .i64 55295, .int .i64 57343, .int .i64 65535, .int .i64 1114111]) (.int .i64 0)).run Try.prog w = .ok (.int .i64 127) w := fun _ => by kernel_rfl
      by_cases c1 : a1 < f
      · rw [if_pos c1] at hp
        have hor : o = r := by injection hp
        go_wp2_with (fail)
        go_ret
        exact hend o _ _ hown hB hor
      rw [if_neg c1] at hp
      by_cases c2 : f ≤ 127
      · rw [if_pos c2] at hp
        rw [if_neg (by decide)] at hp
        by_cases c4 : 127 < a1
        · have hmn : mn a1 127 = 127 := by unfold mn; split <;> omega
          rw [hmn] at hp
          clear hmn
          cases hcut : runes_cut.f k f 127 with
          | none => rw [hcut] at hp; cases hp
          | some c =>
            rw [hcut] at hp
            simp only [Option.bind_some] at hp
            by_cases c3 : o.length + c.length < 8796093022208
            rotate_left 1
            · rw [if_neg c3] at hp; cases hp
            rw [if_pos c3] at hp
            have hcall := runes_cut.calls k f 127 c wr hcut
            clear hcut
            go_wp2_with (fail)
            with_reducible refine hcall.mono ?_
            rintro e w4 ⟨v4, rfl, hR4, hb4⟩
            have hown4 := owns_of_R (enc := encSp) (fun _ => rfl) (fun _ _ _ _ _ h => k63_openM h) hR4
            have hown5 := own_below hown hb4
            have hB4 := hB.trans (hb4.mono hB.size)
            have hone : ∀ x ∈ c.flatMap encSp, x.oneCell' = true := by intro x hx; obtain ⟨y, _, hy⟩ := List.mem_flatMap.1 hx; simp [encSp] at hy; rcases hy with rfl | rfl <;> rfl
            go_wp2_with (at_builtin; refine wpList_append_row rfl _ _ 61 rfl w.heap.size 63 i0 _ 2 16 Try.underlying61 hi hz0 hz1 hz2 rfl (by decide) _ o.length (o.flatMap encSp) rfl hown5 v4 c.length (c.flatMap encSp) rfl (RowIs.of_owns hown4) hone (by unfold maxLen; omega) (by omega) hB4.size ?_)
            intro v6 w6 hown6 hg6 hb6
            have hB6 := hB4.grown hg6 hB4.size (fun b e => (hown5.lt b e).1)
            go_wp2_with (fail)
            go_roundw
            case rel => exact ⟨1, 127 + 1, o ++ c, by decide, rfl, rfl, by rw [List.length_append, List.flatMap_append]; exact hown6, hp, hB6⟩
            case measure => decide
        · have hmn : mn a1 127 = a1 := by unfold mn; split <;> omega
          rw [hmn] at hp
          clear hmn
          cases hcut : runes_cut.f k f a1 with
          | none => rw [hcut] at hp; cases hp
          | some c =>
            rw [hcut] at hp
            simp only [Option.bind_some] at hp
            by_cases c3 : o.length + c.length < 8796093022208
            rotate_left 1
            · rw [if_neg c3] at hp; cases hp
            rw [if_pos c3] at hp
            have hcall := runes_cut.calls k f a1 c wr hcut
            clear hcut
            go_wp2_with (fail)
            with_reducible refine hcall.mono ?_
            rintro e w4 ⟨v4, rfl, hR4, hb4⟩
            have hown4 := owns_of_R (enc := encSp) (fun _ => rfl) (fun _ _ _ _ _ h => k63_openM h) hR4
            have hown5 := own_below hown hb4
            have hB4 := hB.trans (hb4.mono hB.size)
            have hone : ∀ x ∈ c.flatMap encSp, x.oneCell' = true := by intro x hx; obtain ⟨y, _, hy⟩ := List.mem_flatMap.1 hx; simp [encSp] at hy; rcases hy with rfl | rfl <;> rfl
            go_wp2_with (at_builtin; refine wpList_append_row rfl _ _ 61 rfl w.heap.size 63 i0 _ 2 16 Try.underlying61 hi hz0 hz1 hz2 rfl (by decide) _ o.length (o.flatMap encSp) rfl hown5 v4 c.length (c.flatMap encSp) rfl (RowIs.of_owns hown4) hone (by unfold maxLen; omega) (by omega) hB4.size ?_)
            intro v6 w6 hown6 hg6 hb6
            have hB6 := hB4.grown hg6 hB4.size (fun b e => (hown5.lt b e).1)
            go_wp2_with (fail)
            go_roundw
            case rel => exact ⟨1, 127 + 1, o ++ c, by decide, rfl, rfl, by rw [List.length_append, List.flatMap_append]; exact hown6, hp, hB6⟩
            case measure => decide
      · rw [if_neg c2] at hp
        go_wp2_with (fail)
        go_roundw
        case rel => exact ⟨1, f, o, by decide, rfl, rfl, hown, hp, hB⟩
        case measure => decide
    · have hs : piecesL k a1 (endsL.drop 1) f o = if a1 < f then some o else if f ≤ 2047 then (if (2047 : Int) = 57343 then piecesL k a1 (endsL.drop 2) (2047 + 1) o else (runes_cut.f k f (mn a1 2047)).bind fun c => if o.length + c.length < 8796093022208 then piecesL k a1 (endsL.drop 2) (2047 + 1) (o ++ c) else none) else piecesL k a1 (endsL.drop 2) f o := rfl
      rw [hs] at hp
      clear hs
      have hix : ∀ w : World, (Instr.index 115 (.agg #[.int .i64 127, .int .i64 2047, .int .i64 55295, .int .i64 57343, .int .i64 65535, .int .i64 1114111]) (.int .i64 1)).run Try.prog w = .ok (.int .i64 2047) w := fun _ => by kernel_rfl
      by_cases c1 : a1 < f
      · rw [if_pos c1] at hp
        have hor : o = r := by injection hp
        go_wp2_with (fail)
        go_ret
        exact hend o _ _ hown hB hor
      rw [if_neg c1] at hp
      by_cases c2 : f ≤ 2047
      · rw [if_pos c2] at hp
        rw [if_neg (by decide)] at hp
        by_cases c4 : 2047 < a1
        · have hmn : mn a1 2047 = 2047 := by unfold mn; split <;> omega
          rw [hmn] at hp
          clear hmn
          cases hcut : runes_cut.f k f 2047 with
          | none => rw [hcut] at hp; cases hp
          | some c =>
            rw [hcut] at hp
            simp only [Option.bind_some] at hp
            by_cases c3 : o.length + c.length < 8796093022208
            rotate_left 1
            · rw [if_neg c3] at hp; cases hp
            rw [if_pos c3] at hp
            have hcall := runes_cut.calls k f 2047 c wr hcut
            clear hcut
            go_wp2_with (fail)
            with_reducible refine hcall.mono ?_
            rintro e w4 ⟨v4, rfl, hR4, hb4⟩
            have hown4 := owns_of_R (enc := encSp) (fun _ => rfl) (fun _ _ _ _ _ h => k63_openM h) hR4
            have hown5 := own_below hown hb4
            have hB4 := hB.trans (hb4.mono hB.size)
            have hone : ∀ x ∈ c.flatMap encSp, x.oneCell' = true := by intro x hx; obtain ⟨y, _, hy⟩ := List.mem_flatMap.1 hx; simp [encSp] at hy; rcases hy with rfl | rfl <;> rfl
            go_wp2_with (at_builtin; refine wpList_append_row rfl _ _ 61 rfl w.heap.size 63 i0 _ 2 16 Try.underlying61 hi hz0 hz1 hz2 rfl (by decide) _ o.length (o.flatMap encSp) rfl hown5 v4 c.length (c.flatMap encSp) rfl (RowIs.of_owns hown4) hone (by unfold maxLen; omega) (by omega) hB4.size ?_)
            intro v6 w6 hown6 hg6 hb6
            have hB6 := hB4.grown hg6 hB4.size (fun b e => (hown5.lt b e).1)
            go_wp2_with (fail)
            go_roundw
            case rel => exact ⟨2, 2047 + 1, o ++ c, by decide, rfl, rfl, by rw [List.length_append, List.flatMap_append]; exact hown6, hp, hB6⟩
            case measure => decide
        · have hmn : mn a1 2047 = a1 := by unfold mn; split <;> omega
          rw [hmn] at hp
          clear hmn
          cases hcut : runes_cut.f k f a1 with
          | none => rw [hcut] at hp; cases hp
          | some c =>
            rw [hcut] at hp
            simp only [Option.bind_some] at hp
            by_cases c3 : o.length + c.length < 8796093022208
            rotate_left 1
            · rw [if_neg c3] at hp; cases hp
            rw [if_pos c3] at hp
            have hcall := runes_cut.calls k f a1 c wr hcut
            clear hcut
            go_wp2_with (fail)
            with_reducible refine hcall.mono ?_
            rintro e w4 ⟨v4, rfl, hR4, hb4⟩
            have hown4 := owns_of_R (enc := encSp) (fun _ => rfl) (fun _ _ _ _ _ h => k63_openM h) hR4
            have hown5 := own_below hown hb4
            have hB4 := hB.trans (hb4.mono hB.size)
            have hone : ∀ x ∈ c.flatMap encSp, x.oneCell' = true := by intro x hx; obtain ⟨y, _, hy⟩ := List.mem_flatMap.1 hx; simp [encSp] at hy; rcases hy with rfl | rfl <;> rfl
            go_wp2_with (at_builtin; refine wpList_append_row rfl _ _ 61 rfl w.heap.size 63 i0 _ 2 16 Try.underlying61 hi hz0 hz1 hz2 rfl (by decide) _ o.length (o.flatMap encSp) rfl hown5 v4 c.length (c.flatMap encSp) rfl (RowIs.of_owns hown4) hone (by unfold maxLen; omega) (by omega) hB4.size ?_)
            intro v6 w6 hown6 hg6 hb6
            have hB6 := hB4.grown hg6 hB4.size (fun b e => (hown5.lt b e).1)
            go_wp2_with (fail)
            go_roundw
            case rel => exact ⟨2, 2047 + 1, o ++ c, by decide, rfl, rfl, by rw [List.length_append, List.flatMap_append]; exact hown6, hp, hB6⟩
            case measure => decide
      · rw [if_neg c2] at hp
        go_wp2_with (fail)
        go_roundw
        case rel => exact ⟨2, f, o, by decide, rfl, rfl, hown, hp, hB⟩
        case measure => decide
    · have hs : piecesL k a1 (endsL.drop 2) f o = if a1 < f then some o else if f ≤ 55295 then (if (55295 : Int) = 57343 then piecesL k a1 (endsL.drop 3) (55295 + 1) o else (runes_cut.f k f (mn a1 55295)).bind fun c => if o.length + c.length < 8796093022208 then piecesL k a1 (endsL.drop 3) (55295 + 1) (o ++ c) else none) else piecesL k a1 (endsL.drop 3) f o := rfl
      rw [hs] at hp
      clear hs
      have hix : ∀ w : World, (Instr.index 115 (.agg #[.int .i64 127, .int .i64 2047, .int .i64 55295, .int .i64 57343, .int .i64 65535, .int .i64 1114111]) (.int .i64 2)).run Try.prog w = .ok (.int .i64 55295) w := fun _ => by kernel_rfl
      by_cases c1 : a1 < f
      · rw [if_pos c1] at hp
        have hor : o = r := by injection hp
        go_wp2_with (fail)
        go_ret
        exact hend o _ _ hown hB hor
      rw [if_neg c1] at hp
      by_cases c2 : f ≤ 55295
      · rw [if_pos c2] at hp
        rw [if_neg (by decide)] at hp
        by_cases c4 : 55295 < a1
        · have hmn : mn a1 55295 = 55295 := by unfold mn; split <;> omega
          rw [hmn] at hp
          clear hmn
          cases hcut : runes_cut.f k f 55295 with
          | none => rw [hcut] at hp; cases hp
          | some c =>
            rw [hcut] at hp
            simp only [Option.bind_some] at hp
            by_cases c3 : o.length + c.length < 8796093022208
            rotate_left 1
            · rw [if_neg c3] at hp; cases hp
            rw [if_pos c3] at hp
            have hcall := runes_cut.calls k f 55295 c wr hcut
            clear hcut
            go_wp2_with (fail)
            with_reducible refine hcall.mono ?_
            rintro e w4 ⟨v4, rfl, hR4, hb4⟩
            have hown4 := owns_of_R (enc := encSp) (fun _ => rfl) (fun _ _ _ _ _ h => k63_openM h) hR4
            have hown5 := own_below hown hb4
            have hB4 := hB.trans (hb4.mono hB.size)
            have hone : ∀ x ∈ c.flatMap encSp, x.oneCell' = true := by intro x hx; obtain ⟨y, _, hy⟩ := List.mem_flatMap.1 hx; simp [encSp] at hy; rcases hy with rfl | rfl <;> rfl
            go_wp2_with (at_builtin; refine wpList_append_row rfl _ _ 61 rfl w.heap.size 63 i0 _ 2 16 Try.underlying61 hi hz0 hz1 hz2 rfl (by decide) _ o.length (o.flatMap encSp) rfl hown5 v4 c.length (c.flatMap encSp) rfl (RowIs.of_owns hown4) hone (by unfold maxLen; omega) (by omega) hB4.size ?_)
            intro v6 w6 hown6 hg6 hb6
            have hB6 := hB4.grown hg6 hB4.size (fun b e => (hown5.lt b e).1)
            go_wp2_with (fail)
            go_roundw
            case rel => exact ⟨3, 55295 + 1, o ++ c, by decide, rfl, rfl, by rw [List.length_append, List.flatMap_append]; exact hown6, hp, hB6⟩
            case measure => decide
        · have hmn : mn a1 55295 = a1 := by unfold mn; split <;> omega
          rw [hmn] at hp
          clear hmn
          cases hcut : runes_cut.f k f a1 with
          | none => rw [hcut] at hp; cases hp
          | some c =>
            rw [hcut] at hp
            simp only [Option.bind_some] at hp
            by_cases c3 : o.length + c.length < 8796093022208
            rotate_left 1
            · rw [if_neg c3] at hp; cases hp
            rw [if_pos c3] at hp
            have hcall := runes_cut.calls k f a1 c wr hcut
            clear hcut
            go_wp2_with (fail)
            with_reducible refine hcall.mono ?_
            rintro e w4 ⟨v4, rfl, hR4, hb4⟩
            have hown4 := owns_of_R (enc := encSp) (fun _ => rfl) (fun _ _ _ _ _ h => k63_openM h) hR4
            have hown5 := own_below hown hb4
            have hB4 := hB.trans (hb4.mono hB.size)
            have hone : ∀ x ∈ c.flatMap encSp, x.oneCell' = true := by intro x hx; obtain ⟨y, _, hy⟩ := List.mem_flatMap.1 hx; simp [encSp] at hy; rcases hy with rfl | rfl <;> rfl
            go_wp2_with (at_builtin; refine wpList_append_row rfl _ _ 61 rfl w.heap.size 63 i0 _ 2 16 Try.underlying61 hi hz0 hz1 hz2 rfl (by decide) _ o.length (o.flatMap encSp) rfl hown5 v4 c.length (c.flatMap encSp) rfl (RowIs.of_owns hown4) hone (by unfold maxLen; omega) (by omega) hB4.size ?_)
            intro v6 w6 hown6 hg6 hb6
            have hB6 := hB4.grown hg6 hB4.size (fun b e => (hown5.lt b e).1)
            go_wp2_with (fail)
            go_roundw
            case rel => exact ⟨3, 55295 + 1, o ++ c, by decide, rfl, rfl, by rw [List.length_append, List.flatMap_append]; exact hown6, hp, hB6⟩
            case measure => decide
      · rw [if_neg c2] at hp
        go_wp2_with (fail)
        go_roundw
        case rel => exact ⟨3, f, o, by decide, rfl, rfl, hown, hp, hB⟩
        case measure => decide
    · have hs : piecesL k a1 (endsL.drop 3) f o = if a1 < f then some o else if f ≤ 57343 then (if (57343 : Int) = 57343 then piecesL k a1 (endsL.drop 4) (57343 + 1) o else (runes_cut.f k f (mn a1 57343)).bind fun c => if o.length + c.length < 8796093022208 then piecesL k a1 (endsL.drop 4) (57343 + 1) (o ++ c) else none) else piecesL k a1 (endsL.drop 4) f o := rfl
      rw [hs] at hp
      clear hs
      have hix : ∀ w : World, (Instr.index 115 (.agg #[.int .i64 127, .int .i64 2047, .int .i64 55295, .int .i64 57343, .int .i64 65535, .int .i64 1114111]) (.int .i64 3)).run Try.prog w = .ok (.int .i64 57343) w := fun _ => by kernel_rfl
      by_cases c1 : a1 < f
      · rw [if_pos c1] at hp
        have hor : o = r := by injection hp
        go_wp2_with (fail)
        go_ret
        exact hend o _ _ hown hB hor
      rw [if_neg c1] at hp
      by_cases c2 : f ≤ 57343
      · rw [if_pos c2] at hp
        rw [if_pos rfl] at hp
        go_wp2_with (fail)
        go_roundw
        case rel => exact ⟨4, 57343 + 1, o, by decide, rfl, rfl, hown, hp, hB⟩
        case measure => decide
      · rw [if_neg c2] at hp
        go_wp2_with (fail)
        go_roundw
        case rel => exact ⟨4, f, o, by decide, rfl, rfl, hown, hp, hB⟩
        case measure => decide
    · have hs : piecesL k a1 (endsL.drop 4) f o = if a1 < f then some o else if f ≤ 65535 then (if (65535 : Int) = 57343 then piecesL k a1 (endsL.drop 5) (65535 + 1) o else (runes_cut.f k f (mn a1 65535)).bind fun c => if o.length + c.length < 8796093022208 then piecesL k a1 (endsL.drop 5) (65535 + 1) (o ++ c) else none) else piecesL k a1 (endsL.drop 5) f o := rfl
      rw [hs] at hp
      clear hs
      have hix : ∀ w : World, (Instr.index 115 (.agg #[.int .i64 127, .int .i64 2047, .int .i64 55295, .int .i64 57343, .int .i64 65535, .int .i64 1114111]) (.int .i64 4)).run Try.prog w = .ok (.int .i64 65535) w := fun _ => by kernel_rfl
      by_cases c1 : a1 < f
      · rw [if_pos c1] at hp
        have hor : o = r := by injection hp
        go_wp2_with (fail)
        go_ret
        exact hend o _ _ hown hB hor
      rw [if_neg c1] at hp
      by_cases c2 : f ≤ 65535
      · rw [if_pos c2] at hp
        rw [if_neg (by decide)] at hp
        by_cases c4 : 65535 < a1
        · have hmn : mn a1 65535 = 65535 := by unfold mn; split <;> omega
          rw [hmn] at hp
          clear hmn
          cases hcut : runes_cut.f k f 65535 with
          | none => rw [hcut] at hp; cases hp
          | some c =>
            rw [hcut] at hp
            simp only [Option.bind_some] at hp
            by_cases c3 : o.length + c.length < 8796093022208
            rotate_left 1
            · rw [if_neg c3] at hp; cases hp
            rw [if_pos c3] at hp
            have hcall := runes_cut.calls k f 65535 c wr hcut
            clear hcut
            go_wp2_with (fail)
            with_reducible refine hcall.mono ?_
            rintro e w4 ⟨v4, rfl, hR4, hb4⟩
            have hown4 := owns_of_R (enc := encSp) (fun _ => rfl) (fun _ _ _ _ _ h => k63_openM h) hR4
            have hown5 := own_below hown hb4
            have hB4 := hB.trans (hb4.mono hB.size)
            have hone : ∀ x ∈ c.flatMap encSp, x.oneCell' = true := by intro x hx; obtain ⟨y, _, hy⟩ := List.mem_flatMap.1 hx; simp [encSp] at hy; rcases hy with rfl | rfl <;> rfl
            go_wp2_with (at_builtin; refine wpList_append_row rfl _ _ 61 rfl w.heap.size 63 i0 _ 2 16 Try.underlying61 hi hz0 hz1 hz2 rfl (by decide) _ o.length (o.flatMap encSp) rfl hown5 v4 c.length (c.flatMap encSp) rfl (RowIs.of_owns hown4) hone (by unfold maxLen; omega) (by omega) hB4.size ?_)
            intro v6 w6 hown6 hg6 hb6
            have hB6 := hB4.grown hg6 hB4.size (fun b e => (hown5.lt b e).1)
            go_wp2_with (fail)
            go_roundw
            case rel => exact ⟨5, 65535 + 1, o ++ c, by decide, rfl, rfl, by rw [List.length_append, List.flatMap_append]; exact hown6, hp, hB6⟩
            case measure => decide
        · have hmn : mn a1 65535 = a1 := by unfold mn; split <;> omega
          rw [hmn] at hp
          clear hmn
          cases hcut : runes_cut.f k f a1 with
          | none => rw [hcut] at hp; cases hp
          | some c =>
            rw [hcut] at hp
            simp only [Option.bind_some] at hp
            by_cases c3 : o.length + c.length < 8796093022208
            rotate_left 1
            · rw [if_neg c3] at hp; cases hp
            rw [if_pos c3] at hp
            have hcall := runes_cut.calls k f a1 c wr hcut
            clear hcut
            go_wp2_with (fail)
            with_reducible refine hcall.mono ?_
            rintro e w4 ⟨v4, rfl, hR4, hb4⟩
            have hown4 := owns_of_R (enc := encSp) (fun _ => rfl) (fun _ _ _ _ _ h => k63_openM h) hR4
            have hown5 := own_below hown hb4
            have hB4 := hB.trans (hb4.mono hB.size)
            have hone : ∀ x ∈ c.flatMap encSp, x.oneCell' = true := by intro x hx; obtain ⟨y, _, hy⟩ := List.mem_flatMap.1 hx; simp [encSp] at hy; rcases hy with rfl | rfl <;> rfl
            go_wp2_with (at_builtin; refine wpList_append_row rfl _ _ 61 rfl w.heap.size 63 i0 _ 2 16 Try.underlying61 hi hz0 hz1 hz2 rfl (by decide) _ o.length (o.flatMap encSp) rfl hown5 v4 c.length (c.flatMap encSp) rfl (RowIs.of_owns hown4) hone (by unfold maxLen; omega) (by omega) hB4.size ?_)
            intro v6 w6 hown6 hg6 hb6
            have hB6 := hB4.grown hg6 hB4.size (fun b e => (hown5.lt b e).1)
            go_wp2_with (fail)
            go_roundw
            case rel => exact ⟨5, 65535 + 1, o ++ c, by decide, rfl, rfl, by rw [List.length_append, List.flatMap_append]; exact hown6, hp, hB6⟩
            case measure => decide
      · rw [if_neg c2] at hp
        go_wp2_with (fail)
        go_roundw
        case rel => exact ⟨5, f, o, by decide, rfl, rfl, hown, hp, hB⟩
        case measure => decide
    · have hs : piecesL k a1 (endsL.drop 5) f o = if a1 < f then some o else if f ≤ 1114111 then (if (1114111 : Int) = 57343 then piecesL k a1 (endsL.drop 6) (1114111 + 1) o else (runes_cut.f k f (mn a1 1114111)).bind fun c => if o.length + c.length < 8796093022208 then piecesL k a1 (endsL.drop 6) (1114111 + 1) (o ++ c) else none) else piecesL k a1 (endsL.drop 6) f o := rfl
      rw [hs] at hp
      clear hs
      have hix : ∀ w : World, (Instr.index 115 (.agg #[.int .i64 127, .int .i64 2047, .int .i64 55295, .int .i64 57343, .int .i64 65535, .int .i64 1114111]) (.int .i64 5)).run Try.prog w = .ok (.int .i64 1114111) w := fun _ => by kernel_rfl
      by_cases c1 : a1 < f
      · rw [if_pos c1] at hp
        have hor : o = r := by injection hp
        go_wp2_with (fail)
        go_ret
        exact hend o _ _ hown hB hor
      rw [if_neg c1] at hp
      by_cases c2 : f ≤ 1114111
      · rw [if_pos c2] at hp
        rw [if_neg (by decide)] at hp
        by_cases c4 : 1114111 < a1
        · have hmn : mn a1 1114111 = 1114111 := by unfold mn; split <;> omega
          rw [hmn] at hp
          clear hmn
          cases hcut : runes_cut.f k f 1114111 with
          | none => rw [hcut] at hp; cases hp
          | some c =>
            rw [hcut] at hp
            simp only [Option.bind_some] at hp
            by_cases c3 : o.length + c.length < 8796093022208
            rotate_left 1
            · rw [if_neg c3] at hp; cases hp
            rw [if_pos c3] at hp
            have hcall := runes_cut.calls k f 1114111 c wr hcut
            clear hcut
            go_wp2_with (fail)
            with_reducible refine hcall.mono ?_
            rintro e w4 ⟨v4, rfl, hR4, hb4⟩
            have hown4 := owns_of_R (enc := encSp) (fun _ => rfl) (fun _ _ _ _ _ h => k63_openM h) hR4
            have hown5 := own_below hown hb4
            have hB4 := hB.trans (hb4.mono hB.size)
            have hone : ∀ x ∈ c.flatMap encSp, x.oneCell' = true := by intro x hx; obtain ⟨y, _, hy⟩ := List.mem_flatMap.1 hx; simp [encSp] at hy; rcases hy with rfl | rfl <;> rfl
            go_wp2_with (at_builtin; refine wpList_append_row rfl _ _ 61 rfl w.heap.size 63 i0 _ 2 16 Try.underlying61 hi hz0 hz1 hz2 rfl (by decide) _ o.length (o.flatMap encSp) rfl hown5 v4 c.length (c.flatMap encSp) rfl (RowIs.of_owns hown4) hone (by unfold maxLen; omega) (by omega) hB4.size ?_)
            intro v6 w6 hown6 hg6 hb6
            have hB6 := hB4.grown hg6 hB4.size (fun b e => (hown5.lt b e).1)
            go_wp2_with (fail)
            go_roundw
            case rel => exact ⟨6, 1114111 + 1, o ++ c, by decide, rfl, rfl, by rw [List.length_append, List.flatMap_append]; exact hown6, hp, hB6⟩
            case measure => decide
        · have hmn : mn a1 1114111 = a1 := by unfold mn; split <;> omega
          rw [hmn] at hp
          clear hmn
          cases hcut : runes_cut.f k f a1 with
          | none => rw [hcut] at hp; cases hp
          | some c =>
            rw [hcut] at hp
            simp only [Option.bind_some] at hp
            by_cases c3 : o.length + c.length < 8796093022208
            rotate_left 1
            · rw [if_neg c3] at hp; cases hp
            rw [if_pos c3] at hp
            have hcall := runes_cut.calls k f a1 c wr hcut
            clear hcut
            go_wp2_with (fail)
            with_reducible refine hcall.mono ?_
            rintro e w4 ⟨v4, rfl, hR4, hb4⟩
            have hown4 := owns_of_R (enc := encSp) (fun _ => rfl) (fun _ _ _ _ _ h => k63_openM h) hR4
            have hown5 := own_below hown hb4
            have hB4 := hB.trans (hb4.mono hB.size)
            have hone : ∀ x ∈ c.flatMap encSp, x.oneCell' = true := by intro x hx; obtain ⟨y, _, hy⟩ := List.mem_flatMap.1 hx; simp [encSp] at hy; rcases hy with rfl | rfl <;> rfl
            go_wp2_with (at_builtin; refine wpList_append_row rfl _ _ 61 rfl w.heap.size 63 i0 _ 2 16 Try.underlying61 hi hz0 hz1 hz2 rfl (by decide) _ o.length (o.flatMap encSp) rfl hown5 v4 c.length (c.flatMap encSp) rfl (RowIs.of_owns hown4) hone (by unfold maxLen; omega) (by omega) hB4.size ?_)
            intro v6 w6 hown6 hg6 hb6
            have hB6 := hB4.grown hg6 hB4.size (fun b e => (hown5.lt b e).1)
            go_wp2_with (fail)
            go_roundw
            case rel => exact ⟨6, 1114111 + 1, o ++ c, by decide, rfl, rfl, by rw [List.length_append, List.flatMap_append]; exact hown6, hp, hB6⟩
            case measure => decide
      · rw [if_neg c2] at hp
        go_wp2_with (fail)
        go_roundw
        case rel => exact ⟨6, f, o, by decide, rfl, rfl, hown, hp, hB⟩
        case measure => decide
    · have hor : o = r := by injection hp
      go_wp2_with (fail)
      go_ret
      exact hend o _ _ hown hB hor
theorem runes_pieces.mono : ∀ a0 a1 k, LeO (runes_pieces.f k a0 a1) (runes_pieces.f (k + 1) a0 a1) := fun a0 a1 k => piecesL_mono k a1 _ a0 []

end Go.Proofs.Ytebebognifiinaa.U
