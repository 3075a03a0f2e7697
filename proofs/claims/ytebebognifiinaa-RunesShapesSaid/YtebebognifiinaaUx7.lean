-- PRINTED by print.py (a twelfth state) out of the translation. Not trusted: Lean checks it.
import Derived.Test.YtebebognifiinaaUx0
import Derived.Test.YtebebognifiinaaUx6
namespace Go.Proofs.Ytebebognifiinaa.U
open Go.RowKit Go.Proofs.YtebebognifiinaaW.PrintWords Go.Proofs.YtebebognifiinaaW.PrintLast Go.Proofs.YtebebognifiinaaW.PrintMore
attribute [local go_sem] max2_int min2_int max_two min_two max_three min_three max_four min_four   -- for this text's walks alone
set_option linter.unusedVariables false
set_option linter.unusedSimpArgs false

/-! ### harrowref03_Shapes: function 23 -/
def refShapesL (k : Nat) (lo hi : Int) : List (Int × Int) → List (List S63) → Option (List (List S63))
  | [], out => some out
  | e :: es, out => (harrowref03_pieces.f k (mx lo e.1) (mn hi e.2)).bind fun c => if out.length + c.length < 5864062014805 then refShapesL k lo hi es (out ++ c) else none
theorem refShapesL_mono (k : Nat) (lo hi : Int) : ∀ (es : List (Int × Int)) (out : List (List S63)), LeO (refShapesL k lo hi es out) (refShapesL (k + 1) lo hi es out)
  | [], out => LeO.refl _
  | e :: es, out => by
    unfold refShapesL
    exact LeO.bind (harrowref03_pieces.mono _ _ _) fun c => LeO.ite (refShapesL_mono k lo hi es _) (LeO.refl _)
def partsL : List (Int × Int) := [(0, 127), (128, 2047), (2048, 55295), (57344, 65535), (65536, 1114111)]
def harrowref03_Shapes.f (k : Nat) (a0 : Int) (a1 : Int) : Option ((List (List (S63))) × Int) := if a0 < 0 then some ([], 30) else if 1114111 < a0 then some ([], 30) else if a1 < 0 then some ([], 30) else if 1114111 < a1 then some ([], 30) else if a1 < a0 then some ([], 1) else (refShapesL k a0 a1 partsL []).bind fun o => some (o, 0)
set_option maxHeartbeats 8000000 in
set_option maxRecDepth 100000 in
theorem harrowref03_Shapes.calls (k : Nat) (a0 : Int) (a1 : Int) (r1 : List (List (S63))) (r2 : Int) (w : World) (h : harrowref03_Shapes.f k a0 a1 = some (r1, r2)) :
    Calls Try.prog 23 #[.int .i64 a0, .int .i64 a1] w fun e w' => ∃ v0_ : Value, e = .returned (.tuple #[v0_, .int .i64 r2]) ∧ Kd.N (Kd.slice 63 k63) 61 w' w.heap.size (fun k_ => (w.heap.size ≤ k_)) v0_ r1 ∧ Below w.heap.size w w' := by
  unfold harrowref03_Shapes.f at h
  by_cases d0 : a0 < 0
  · rw [if_pos d0] at h
    injection h with h
    injection h with h1 h2
    subst h1 h2
    go_enter Try.func23, Try.ntmps23
    go_wp2
    go_ret2
    exact ⟨_, rfl, Kd.N_nil _ _ _ _ _, Below.refl _ _⟩
  rw [if_neg d0] at h
  by_cases d1 : 1114111 < a0
  · rw [if_pos d1] at h
    injection h with h
    injection h with h1 h2
    subst h1 h2
    go_enter Try.func23, Try.ntmps23
    go_wp2
    go_ret2
    exact ⟨_, rfl, Kd.N_nil _ _ _ _ _, Below.refl _ _⟩
  rw [if_neg d1] at h
  by_cases d2 : a1 < 0
  · rw [if_pos d2] at h
    injection h with h
    injection h with h1 h2
    subst h1 h2
    go_enter Try.func23, Try.ntmps23
    go_wp2
    go_ret2
    exact ⟨_, rfl, Kd.N_nil _ _ _ _ _, Below.refl _ _⟩
  rw [if_neg d2] at h
  by_cases d3 : 1114111 < a1
  · rw [if_pos d3] at h
    injection h with h
    injection h with h1 h2
    subst h1 h2
    go_enter Try.func23, Try.ntmps23
    go_wp2
    go_ret2
    exact ⟨_, rfl, Kd.N_nil _ _ _ _ _, Below.refl _ _⟩
  rw [if_neg d3] at h
  by_cases d4 : a1 < a0
  · rw [if_pos d4] at h
    injection h with h
    injection h with h1 h2
    subst h1 h2
    go_enter Try.func23, Try.ntmps23
    go_wp2
    go_ret2
    exact ⟨_, rfl, Kd.N_nil _ _ _ _ _, Below.refl _ _⟩
  rw [if_neg d4] at h
  cases hL : refShapesL k a0 a1 partsL [] with
  | none => rw [hL] at h; cases h
  | some oR =>
  rw [hL] at h
  injection h with h
  injection h with h1 h2
  subst h1 h2
  go_enter Try.func23, Try.ntmps23
  go_wp2
  go_loopw [7, 8] (fun out i wr => ∃ (j : Nat) (o : List (List S63)), j ≤ 5 ∧ i = .int .i64 j ∧ Kd.N (Kd.slice 63 k63) 61 wr (w.heap.size + 1) (fun k_ => w.heap.size + 1 ≤ k_) out o ∧ refShapesL k a0 a1 (partsL.drop j) o = some oR ∧ wr.heap[w.heap.size]? = some (.cells #[.int .i64 0, .int .i64 127, .int .i64 128, .int .i64 2047, .int .i64 2048, .int .i64 55295, .int .i64 57344, .int .i64 65535, .int .i64 65536, .int .i64 1114111] 90) ∧ Below w.heap.size w wr) (fun _ i _ => 5 - (intOf i).toNat)
  case atStart => exact ⟨0, [], by decide, rfl, Kd.N_nil _ _ _ _ _, hL, alloc_new _ _, (Below.refl _ _).alloc (Nat.le_refl _) _⟩
  case round =>
    clear hL
    obtain ⟨j, o, hj, rfl, hown, hp, hP, hB⟩ := hrel
    have hsz : w.heap.size + 1 ≤ wr.heap.size := block_lt hP
    have hj6 : j = 0 ∨ j = 1 ∨ j = 2 ∨ j = 3 ∨ j = 4 ∨ j = 5 := by omega
    have hcP := block_cell hP
    rcases hj6 with rfl | rfl | rfl | rfl | rfl | rfl
    · have hs : refShapesL k a0 a1 (partsL.drop 0) o = (harrowref03_pieces.f k (mx a0 0) (mn a1 127)).bind fun c => if o.length + c.length < 5864062014805 then refShapesL k a0 a1 (partsL.drop 1) (o ++ c) else none := rfl
      rw [hs] at hp
      clear hs
      cases hcut : harrowref03_pieces.f k (mx a0 0) (mn a1 127) with
      | none => rw [hcut] at hp; cases hp
      | some c =>
      rw [hcut] at hp
      simp only [Option.bind_some] at hp
      by_cases c3 : o.length + c.length < 5864062014805
      rotate_left 1
      · rw [if_neg c3] at hp; cases hp
      rw [if_pos c3] at hp
      go_wp2_with (fail)
      have hownD := Kd.N_drew hown
      have hBD : Below w.heap.size w wr.drew := below_drew hB
      have hPD : wr.drew.heap[w.heap.size]? = some (.cells #[.int .i64 0, .int .i64 127, .int .i64 128, .int .i64 2047, .int .i64 2048, .int .i64 55295, .int .i64 57344, .int .i64 65535, .int .i64 65536, .int .i64 1114111] 90) := hP
      have hszD : w.heap.size + 1 ≤ wr.drew.heap.size := hsz
      refine start_ (n := 16) (S := fun w' => ∀ o : Nat, w'.cell? ⟨w.heap.size, o, none⟩ = (#[.int .i64 0, .int .i64 127, .int .i64 128, .int .i64 2047, .int .i64 2048, .int .i64 55295, .int .i64 57344, .int .i64 65535, .int .i64 65536, .int .i64 1114111] : Array Value)[o]?) (ds := [13, 14]) #[false, false, false, false, false, false, false, false, false, false, false, false, false, false, false, false] (by kernel_rfl) rfl rfl hcP (fun hHeld => ?_)
      generalize wr.drew = Wd at hownD hBD hPD hszD hHeld ⊢
      refine pure_ (i := 0) (N := some 36) (v := ?_) (a' := ?_) #[true, false, false, false, false, false, false, false, false, false, false, false, false, false, false, false] rfl rfl (by kernel_rfl) (fun _ _ _ h => h) (Or.inl ⟨by rfl, ?_⟩) ?_ ?_
      rotate_left
      · intro w'
        go_simp
        with_reducible rfl
      rotate_left
      · simp only [Act.put, List.setIfInBounds_toArray, List.set_cons_zero, List.set_cons_succ, i64_w, i32_w]
        rfl
      refine pure_ (i := 1) (N := some 37) (v := ?_) (a' := ?_) #[true, true, false, false, false, false, false, false, false, false, false, false, false, false, false, false] rfl rfl (by kernel_rfl) (fun _ _ _ h => h) (Or.inl ⟨by rfl, ?_⟩) ?_ ?_
      rotate_left
      · intro w'
        go_simp
        with_reducible rfl
      rotate_left
      · simp only [Act.put, List.setIfInBounds_toArray, List.set_cons_zero, List.set_cons_succ, i64_w, i32_w]
        rfl
      refine pure_ (i := 2) (N := some 38) (v := ?_) (a' := ?_) #[true, true, true, false, false, false, false, false, false, false, false, false, false, false, false, false] rfl rfl (by kernel_rfl) (fun _ _ _ h => h) (Or.inl ⟨by rfl, ?_⟩) ?_ ?_
      rotate_left
      · intro w'
        go_simp
        with_reducible rfl
      rotate_left
      · simp only [Act.put, List.setIfInBounds_toArray, List.set_cons_zero, List.set_cons_succ, i64_w, i32_w]
        rfl
      refine pure_ (i := 3) (N := some 39) (v := ?_) (a' := ?_) #[true, true, true, true, false, false, false, false, false, false, false, false, false, false, false, false] rfl rfl (by kernel_rfl) (fun _ _ _ h => h) (Or.inl ⟨by rfl, ?_⟩) ?_ ?_
      rotate_left
      · intro w'
        go_simp
        with_reducible rfl
      rotate_left
      · simp only [Act.put, List.setIfInBounds_toArray, List.set_cons_zero, List.set_cons_succ, i64_w, i32_w]
        rfl
      refine pure_ (i := 4) (N := some 40) (v := ?_) (a' := ?_) #[true, true, true, true, true, false, false, false, false, false, false, false, false, false, false, false] rfl rfl (by kernel_rfl) (fun _ _ _ h => h) (Or.inl ⟨by rfl, ?_⟩) ?_ ?_
      rotate_left
      · intro w'
        go_simp
        with_reducible rfl
      rotate_left
      · simp only [Act.put, List.setIfInBounds_toArray, List.set_cons_zero, List.set_cons_succ, i64_w, i32_w]
        rfl
      refine take_ (i := 5) (N := some 41) (v := ?_) (a' := ?_) #[true, true, true, true, true, true, false, false, false, false, false, false, false, false, false, false] rfl rfl (by kernel_rfl) (fun _ _ _ h => h) (Or.inl ⟨by rfl, ?_⟩) hHeld ?_ ?_
      rotate_left
      · intro w' s0
        have s1 : w'.cell? ⟨w.heap.size, 0, none⟩ = some (.int .i64 0) := s0 0
        go_simp
        with_reducible rfl
      rotate_left
      · simp only [Act.put, List.setIfInBounds_toArray, List.set_cons_zero, List.set_cons_succ, i64_w, i32_w]
        rfl
      refine pure_ (i := 6) (N := some 42) (v := ?_) (a' := ?_) #[true, true, true, true, true, true, true, false, false, false, false, false, false, false, false, false] rfl rfl (by kernel_rfl) (fun _ _ _ h => h) (Or.inl ⟨by rfl, ?_⟩) ?_ ?_
      rotate_left
      · intro w'
        go_simp
        with_reducible rfl
      rotate_left
      · simp only [Act.put, List.setIfInBounds_toArray, List.set_cons_zero, List.set_cons_succ, i64_w, i32_w]
        rfl
      refine pure_ (i := 7) (N := some 43) (v := ?_) (a' := ?_) #[true, true, true, true, true, true, true, true, false, false, false, false, false, false, false, false] rfl rfl (by kernel_rfl) (fun _ _ _ h => h) (Or.inl ⟨by rfl, ?_⟩) ?_ ?_
      rotate_left
      · intro w'
        go_simp
        with_reducible rfl
      rotate_left
      · simp only [Act.put, List.setIfInBounds_toArray, List.set_cons_zero, List.set_cons_succ, i64_w, i32_w]
        rfl
      refine pure_ (i := 8) (N := some 44) (v := ?_) (a' := ?_) #[true, true, true, true, true, true, true, true, true, false, false, false, false, false, false, false] rfl rfl (by kernel_rfl) (fun _ _ _ h => h) (Or.inl ⟨by rfl, ?_⟩) ?_ ?_
      rotate_left
      · intro w'
        go_simp
        with_reducible rfl
      rotate_left
      · simp only [Act.put, List.setIfInBounds_toArray, List.set_cons_zero, List.set_cons_succ, i64_w, i32_w]
        rfl
      refine pure_ (i := 9) (N := some 45) (v := ?_) (a' := ?_) #[true, true, true, true, true, true, true, true, true, true, false, false, false, false, false, false] rfl rfl (by kernel_rfl) (fun _ _ _ h => h) (Or.inl ⟨by rfl, ?_⟩) ?_ ?_
      rotate_left
      · intro w'
        go_simp
        with_reducible rfl
      rotate_left
      · simp only [Act.put, List.setIfInBounds_toArray, List.set_cons_zero, List.set_cons_succ, i64_w, i32_w]
        rfl
      refine pure_ (i := 10) (N := some 46) (v := ?_) (a' := ?_) #[true, true, true, true, true, true, true, true, true, true, true, false, false, false, false, false] rfl rfl (by kernel_rfl) (fun _ _ _ h => h) (Or.inl ⟨by rfl, ?_⟩) ?_ ?_
      rotate_left
      · intro w'
        go_simp
        with_reducible rfl
      rotate_left
      · simp only [Act.put, List.setIfInBounds_toArray, List.set_cons_zero, List.set_cons_succ, i64_w, i32_w]
        rfl
      refine take_ (i := 11) (N := some 47) (v := ?_) (a' := ?_) #[true, true, true, true, true, true, true, true, true, true, true, true, false, false, false, false] rfl rfl (by kernel_rfl) (fun _ _ _ h => h) (Or.inl ⟨by rfl, ?_⟩) hHeld ?_ ?_
      rotate_left
      · intro w' s0
        have s1 : w'.cell? ⟨w.heap.size, 1, none⟩ = some (.int .i64 127) := s0 1
        go_simp
        with_reducible rfl
      rotate_left
      · simp only [Act.put, List.setIfInBounds_toArray, List.set_cons_zero, List.set_cons_succ, i64_w, i32_w]
        rfl
      refine pure_ (i := 12) (N := some 48) (v := ?_) (a' := ?_) #[true, true, true, true, true, true, true, true, true, true, true, true, true, false, false, false] rfl rfl (by kernel_rfl) (fun _ _ _ h => h) (Or.inl ⟨by rfl, ?_⟩) ?_ ?_
      rotate_left
      · intro w'
        go_simp
        with_reducible rfl
      rotate_left
      · simp only [Act.put, List.setIfInBounds_toArray, List.set_cons_zero, List.set_cons_succ, i64_w, i32_w]
        rfl
      refine last_ (i := 13) (N := some 49) #[true, true, true, true, true, true, true, true, true, true, true, true, true, true, false, false] rfl rfl (by kernel_rfl) (by decide) (fun K hK => ?_)
      refine goes_ Try.func46 (by kernel_rfl) rfl #[.int .i64 (mx a0 0), .int .i64 (mn a1 127)] (by rfl) rfl rfl (by (try simp only [List.map_toArray, List.map_cons, List.map_nil]); rfl) ?_
      with_reducible refine (harrowref03_pieces.calls k (mx a0 0) (mn a1 127) c _ hcut).mono ?_
      rintro e w4 ⟨v4, rfl, hN4, hb4⟩
      refine ⟨_, rfl, ?_⟩
      refine hK.out _ _ ?_
      clear hK K
      refine norm_ (a' := ?_) ?_ ?_
      rotate_left
      · show Act.put _ (some 49) _ = _
        simp only [Act.put, List.setIfInBounds_toArray, List.set_cons_zero, List.set_cons_succ, i64_w, i32_w]
        rfl
      have hO5 := Kd.N_below hownD hb4
      have hF5 : Kd.N (Kd.slice 63 k63) 61 w4 (w.heap.size + 1) (fun k_ => (w.heap.size + 1 ≤ k_) ∧ some k_ ≠ u7.ownBlock) v4 c := Kd.N_lower (Kd.N_mono hN4 (fun k_ hk_ => ⟨Nat.le_trans hszD hk_, Kd.fresh' (Kd.N_lt hownD) k_ hk_⟩)) hszD
      have hB5 := hBD.trans (hb4.mono (Nat.le_of_lt hszD))
      have hBw : Below (w.heap.size + 1) Wd w4 := hb4.mono hszD
      obtain ⟨A5, c5, e5⟩ := Kd.N_slice hF5
      subst e5
      refine last_ (i := 14) (N := some 50) #[true, true, true, true, true, true, true, true, true, true, true, true, true, true, true, false] rfl rfl (by kernel_rfl) (by decide) (fun K hK => ?_)
      refine Kd.N_append_rows_step (Kd.slice 63 k63) (w0 := Wd) (w.heap.size + 1) (by rfl) (.tmp 36) (.tmp 49) 48 61 (.slice none 0 0) 24 rfl Try.underlying48 info61 rfl (by decide) (by omega) u7 o c _ _ _ (fun k_ => (w.heap.size + 1 ≤ k_)) (fun k_ => (w.heap.size + 1 ≤ k_) ∧ some k_ ≠ u7.ownBlock) rfl rfl hO5 (Kd.N_F hF5) (fun _ hk => hk) (fun k_ hk => Nat.le_trans (Nat.le_trans hszD hb4.size) hk) hBw (Nat.le_trans hszD hb4.size) (by omega) ?_
      intro v7 w7 ho hb hg hat
      refine hK.out _ _ ?_
      clear hK K
      refine norm_ (a' := ?_) ?_ ?_
      rotate_left
      · show Act.put _ (some 50) _ = _
        simp only [Act.put, List.setIfInBounds_toArray, List.set_cons_zero, List.set_cons_succ, i64_w, i32_w]
        rfl
      refine pure_ (i := 15) (N := some 7) (v := ?_) (a' := ?_) #[true, true, true, true, true, true, true, true, true, true, true, true, true, true, true, true] rfl rfl (by kernel_rfl) (fun _ _ _ h => h) (Or.inl ⟨by rfl, ?_⟩) ?_ ?_
      rotate_left
      · intro w'
        go_simp
        with_reducible rfl
      rotate_left
      · simp only [Act.put, List.setIfInBounds_toArray, List.set_cons_zero, List.set_cons_succ, i64_w, i32_w]
        rfl
      refine done_ (by kernel_rfl) ?_
      have hP7 : w7.heap[w.heap.size]? = some (.cells #[.int .i64 0, .int .i64 127, .int .i64 128, .int .i64 2047, .int .i64 2048, .int .i64 55295, .int .i64 57344, .int .i64 65535, .int .i64 65536, .int .i64 1114111] 90) := (hb.block _ (Nat.lt_succ_self _)).trans hPD
      have hB7 : Below w.heap.size w w7 := hBD.trans (hb.mono (Nat.le_succ _))
      go_wp2_with (fail)
      go_roundw
      case rel => exact ⟨1, o ++ c, by decide, rfl, ho, hp, hP7, hB7⟩
      case measure => decide
    · have hs : refShapesL k a0 a1 (partsL.drop 1) o = (harrowref03_pieces.f k (mx a0 128) (mn a1 2047)).bind fun c => if o.length + c.length < 5864062014805 then refShapesL k a0 a1 (partsL.drop 2) (o ++ c) else none := rfl
      rw [hs] at hp
      clear hs
      cases hcut : harrowref03_pieces.f k (mx a0 128) (mn a1 2047) with
      | none => rw [hcut] at hp; cases hp
      | some c =>
      rw [hcut] at hp
      simp only [Option.bind_some] at hp
      by_cases c3 : o.length + c.length < 5864062014805
      rotate_left 1
      · rw [if_neg c3] at hp; cases hp
      rw [if_pos c3] at hp
      go_wp2_with (fail)
      have hownD := Kd.N_drew hown
      have hBD : Below w.heap.size w wr.drew := below_drew hB
      have hPD : wr.drew.heap[w.heap.size]? = some (.cells #[.int .i64 0, .int .i64 127, .int .i64 128, .int .i64 2047, .int .i64 2048, .int .i64 55295, .int .i64 57344, .int .i64 65535, .int .i64 65536, .int .i64 1114111] 90) := hP
      have hszD : w.heap.size + 1 ≤ wr.drew.heap.size := hsz
      refine start_ (n := 16) (S := fun w' => ∀ o : Nat, w'.cell? ⟨w.heap.size, o, none⟩ = (#[.int .i64 0, .int .i64 127, .int .i64 128, .int .i64 2047, .int .i64 2048, .int .i64 55295, .int .i64 57344, .int .i64 65535, .int .i64 65536, .int .i64 1114111] : Array Value)[o]?) (ds := [13, 14]) #[false, false, false, false, false, false, false, false, false, false, false, false, false, false, false, false] (by kernel_rfl) rfl rfl hcP (fun hHeld => ?_)
      generalize wr.drew = Wd at hownD hBD hPD hszD hHeld ⊢
      refine pure_ (i := 0) (N := some 36) (v := ?_) (a' := ?_) #[true, false, false, false, false, false, false, false, false, false, false, false, false, false, false, false] rfl rfl (by kernel_rfl) (fun _ _ _ h => h) (Or.inl ⟨by rfl, ?_⟩) ?_ ?_
      rotate_left
      · intro w'
        go_simp
        with_reducible rfl
      rotate_left
      · simp only [Act.put, List.setIfInBounds_toArray, List.set_cons_zero, List.set_cons_succ, i64_w, i32_w]
        rfl
      refine pure_ (i := 1) (N := some 37) (v := ?_) (a' := ?_) #[true, true, false, false, false, false, false, false, false, false, false, false, false, false, false, false] rfl rfl (by kernel_rfl) (fun _ _ _ h => h) (Or.inl ⟨by rfl, ?_⟩) ?_ ?_
      rotate_left
      · intro w'
        go_simp
        with_reducible rfl
      rotate_left
      · simp only [Act.put, List.setIfInBounds_toArray, List.set_cons_zero, List.set_cons_succ, i64_w, i32_w]
        rfl
      refine pure_ (i := 2) (N := some 38) (v := ?_) (a' := ?_) #[true, true, true, false, false, false, false, false, false, false, false, false, false, false, false, false] rfl rfl (by kernel_rfl) (fun _ _ _ h => h) (Or.inl ⟨by rfl, ?_⟩) ?_ ?_
      rotate_left
      · intro w'
        go_simp
        with_reducible rfl
      rotate_left
      · simp only [Act.put, List.setIfInBounds_toArray, List.set_cons_zero, List.set_cons_succ, i64_w, i32_w]
        rfl
      refine pure_ (i := 3) (N := some 39) (v := ?_) (a' := ?_) #[true, true, true, true, false, false, false, false, false, false, false, false, false, false, false, false] rfl rfl (by kernel_rfl) (fun _ _ _ h => h) (Or.inl ⟨by rfl, ?_⟩) ?_ ?_
      rotate_left
      · intro w'
        go_simp
        with_reducible rfl
      rotate_left
      · simp only [Act.put, List.setIfInBounds_toArray, List.set_cons_zero, List.set_cons_succ, i64_w, i32_w]
        rfl
      refine pure_ (i := 4) (N := some 40) (v := ?_) (a' := ?_) #[true, true, true, true, true, false, false, false, false, false, false, false, false, false, false, false] rfl rfl (by kernel_rfl) (fun _ _ _ h => h) (Or.inl ⟨by rfl, ?_⟩) ?_ ?_
      rotate_left
      · intro w'
        go_simp
        with_reducible rfl
      rotate_left
      · simp only [Act.put, List.setIfInBounds_toArray, List.set_cons_zero, List.set_cons_succ, i64_w, i32_w]
        rfl
      refine take_ (i := 5) (N := some 41) (v := ?_) (a' := ?_) #[true, true, true, true, true, true, false, false, false, false, false, false, false, false, false, false] rfl rfl (by kernel_rfl) (fun _ _ _ h => h) (Or.inl ⟨by rfl, ?_⟩) hHeld ?_ ?_
      rotate_left
      · intro w' s0
        have s1 : w'.cell? ⟨w.heap.size, 2, none⟩ = some (.int .i64 128) := s0 2
        go_simp
        with_reducible rfl
      rotate_left
      · simp only [Act.put, List.setIfInBounds_toArray, List.set_cons_zero, List.set_cons_succ, i64_w, i32_w]
        rfl
      refine pure_ (i := 6) (N := some 42) (v := ?_) (a' := ?_) #[true, true, true, true, true, true, true, false, false, false, false, false, false, false, false, false] rfl rfl (by kernel_rfl) (fun _ _ _ h => h) (Or.inl ⟨by rfl, ?_⟩) ?_ ?_
      rotate_left
      · intro w'
        go_simp
        with_reducible rfl
      rotate_left
      · simp only [Act.put, List.setIfInBounds_toArray, List.set_cons_zero, List.set_cons_succ, i64_w, i32_w]
        rfl
      refine pure_ (i := 7) (N := some 43) (v := ?_) (a' := ?_) #[true, true, true, true, true, true, true, true, false, false, false, false, false, false, false, false] rfl rfl (by kernel_rfl) (fun _ _ _ h => h) (Or.inl ⟨by rfl, ?_⟩) ?_ ?_
      rotate_left
      · intro w'
        go_simp
        with_reducible rfl
      rotate_left
      · simp only [Act.put, List.setIfInBounds_toArray, List.set_cons_zero, List.set_cons_succ, i64_w, i32_w]
        rfl
      refine pure_ (i := 8) (N := some 44) (v := ?_) (a' := ?_) #[true, true, true, true, true, true, true, true, true, false, false, false, false, false, false, false] rfl rfl (by kernel_rfl) (fun _ _ _ h => h) (Or.inl ⟨by rfl, ?_⟩) ?_ ?_
      rotate_left
      · intro w'
        go_simp
        with_reducible rfl
      rotate_left
      · simp only [Act.put, List.setIfInBounds_toArray, List.set_cons_zero, List.set_cons_succ, i64_w, i32_w]
        rfl
      refine pure_ (i := 9) (N := some 45) (v := ?_) (a' := ?_) #[true, true, true, true, true, true, true, true, true, true, false, false, false, false, false, false] rfl rfl (by kernel_rfl) (fun _ _ _ h => h) (Or.inl ⟨by rfl, ?_⟩) ?_ ?_
      rotate_left
      · intro w'
        go_simp
        with_reducible rfl
      rotate_left
      · simp only [Act.put, List.setIfInBounds_toArray, List.set_cons_zero, List.set_cons_succ, i64_w, i32_w]
        rfl
      refine pure_ (i := 10) (N := some 46) (v := ?_) (a' := ?_) #[true, true, true, true, true, true, true, true, true, true, true, false, false, false, false, false] rfl rfl (by kernel_rfl) (fun _ _ _ h => h) (Or.inl ⟨by rfl, ?_⟩) ?_ ?_
      rotate_left
      · intro w'
        go_simp
        with_reducible rfl
      rotate_left
      · simp only [Act.put, List.setIfInBounds_toArray, List.set_cons_zero, List.set_cons_succ, i64_w, i32_w]
        rfl
      refine take_ (i := 11) (N := some 47) (v := ?_) (a' := ?_) #[true, true, true, true, true, true, true, true, true, true, true, true, false, false, false, false] rfl rfl (by kernel_rfl) (fun _ _ _ h => h) (Or.inl ⟨by rfl, ?_⟩) hHeld ?_ ?_
      rotate_left
      · intro w' s0
        have s1 : w'.cell? ⟨w.heap.size, 3, none⟩ = some (.int .i64 2047) := s0 3
        go_simp
        with_reducible rfl
      rotate_left
      · simp only [Act.put, List.setIfInBounds_toArray, List.set_cons_zero, List.set_cons_succ, i64_w, i32_w]
        rfl
      refine pure_ (i := 12) (N := some 48) (v := ?_) (a' := ?_) #[true, true, true, true, true, true, true, true, true, true, true, true, true, false, false, false] rfl rfl (by kernel_rfl) (fun _ _ _ h => h) (Or.inl ⟨by rfl, ?_⟩) ?_ ?_
      rotate_left
      · intro w'
        go_simp
        with_reducible rfl
      rotate_left
      · simp only [Act.put, List.setIfInBounds_toArray, List.set_cons_zero, List.set_cons_succ, i64_w, i32_w]
        rfl
      refine last_ (i := 13) (N := some 49) #[true, true, true, true, true, true, true, true, true, true, true, true, true, true, false, false] rfl rfl (by kernel_rfl) (by decide) (fun K hK => ?_)
      refine goes_ Try.func46 (by kernel_rfl) rfl #[.int .i64 (mx a0 128), .int .i64 (mn a1 2047)] (by rfl) rfl rfl (by (try simp only [List.map_toArray, List.map_cons, List.map_nil]); rfl) ?_
      with_reducible refine (harrowref03_pieces.calls k (mx a0 128) (mn a1 2047) c _ hcut).mono ?_
      rintro e w4 ⟨v4, rfl, hN4, hb4⟩
      refine ⟨_, rfl, ?_⟩
      refine hK.out _ _ ?_
      clear hK K
      refine norm_ (a' := ?_) ?_ ?_
      rotate_left
      · show Act.put _ (some 49) _ = _
        simp only [Act.put, List.setIfInBounds_toArray, List.set_cons_zero, List.set_cons_succ, i64_w, i32_w]
        rfl
      have hO5 := Kd.N_below hownD hb4
      have hF5 : Kd.N (Kd.slice 63 k63) 61 w4 (w.heap.size + 1) (fun k_ => (w.heap.size + 1 ≤ k_) ∧ some k_ ≠ u7.ownBlock) v4 c := Kd.N_lower (Kd.N_mono hN4 (fun k_ hk_ => ⟨Nat.le_trans hszD hk_, Kd.fresh' (Kd.N_lt hownD) k_ hk_⟩)) hszD
      have hB5 := hBD.trans (hb4.mono (Nat.le_of_lt hszD))
      have hBw : Below (w.heap.size + 1) Wd w4 := hb4.mono hszD
      obtain ⟨A5, c5, e5⟩ := Kd.N_slice hF5
      subst e5
      refine last_ (i := 14) (N := some 50) #[true, true, true, true, true, true, true, true, true, true, true, true, true, true, true, false] rfl rfl (by kernel_rfl) (by decide) (fun K hK => ?_)
      refine Kd.N_append_rows_step (Kd.slice 63 k63) (w0 := Wd) (w.heap.size + 1) (by rfl) (.tmp 36) (.tmp 49) 48 61 (.slice none 0 0) 24 rfl Try.underlying48 info61 rfl (by decide) (by omega) u7 o c _ _ _ (fun k_ => (w.heap.size + 1 ≤ k_)) (fun k_ => (w.heap.size + 1 ≤ k_) ∧ some k_ ≠ u7.ownBlock) rfl rfl hO5 (Kd.N_F hF5) (fun _ hk => hk) (fun k_ hk => Nat.le_trans (Nat.le_trans hszD hb4.size) hk) hBw (Nat.le_trans hszD hb4.size) (by omega) ?_
      intro v7 w7 ho hb hg hat
      refine hK.out _ _ ?_
      clear hK K
      refine norm_ (a' := ?_) ?_ ?_
      rotate_left
      · show Act.put _ (some 50) _ = _
        simp only [Act.put, List.setIfInBounds_toArray, List.set_cons_zero, List.set_cons_succ, i64_w, i32_w]
        rfl
      refine pure_ (i := 15) (N := some 7) (v := ?_) (a' := ?_) #[true, true, true, true, true, true, true, true, true, true, true, true, true, true, true, true] rfl rfl (by kernel_rfl) (fun _ _ _ h => h) (Or.inl ⟨by rfl, ?_⟩) ?_ ?_
      rotate_left
      · intro w'
        go_simp
        with_reducible rfl
      rotate_left
      · simp only [Act.put, List.setIfInBounds_toArray, List.set_cons_zero, List.set_cons_succ, i64_w, i32_w]
        rfl
      refine done_ (by kernel_rfl) ?_
      have hP7 : w7.heap[w.heap.size]? = some (.cells #[.int .i64 0, .int .i64 127, .int .i64 128, .int .i64 2047, .int .i64 2048, .int .i64 55295, .int .i64 57344, .int .i64 65535, .int .i64 65536, .int .i64 1114111] 90) := (hb.block _ (Nat.lt_succ_self _)).trans hPD
      have hB7 : Below w.heap.size w w7 := hBD.trans (hb.mono (Nat.le_succ _))
      go_wp2_with (fail)
      go_roundw
      case rel => exact ⟨2, o ++ c, by decide, rfl, ho, hp, hP7, hB7⟩
      case measure => decide
    · have hs : refShapesL k a0 a1 (partsL.drop 2) o = (harrowref03_pieces.f k (mx a0 2048) (mn a1 55295)).bind fun c => if o.length + c.length < 5864062014805 then refShapesL k a0 a1 (partsL.drop 3) (o ++ c) else none := rfl
      rw [hs] at hp
      clear hs
      cases hcut : harrowref03_pieces.f k (mx a0 2048) (mn a1 55295) with
      | none => rw [hcut] at hp; cases hp
      | some c =>
      rw [hcut] at hp
      simp only [Option.bind_some] at hp
      by_cases c3 : o.length + c.length < 5864062014805
      rotate_left 1
      · rw [if_neg c3] at hp; cases hp
      rw [if_pos c3] at hp
      go_wp2_with (fail)
      have hownD := Kd.N_drew hown
      have hBD : Below w.heap.size w wr.drew := below_drew hB
      have hPD : wr.drew.heap[w.heap.size]? = some (.cells #[.int .i64 0, .int .i64 127, .int .i64 128, .int .i64 2047, .int .i64 2048, .int .i64 55295, .int .i64 57344, .int .i64 65535, .int .i64 65536, .int .i64 1114111] 90) := hP
      have hszD : w.heap.size + 1 ≤ wr.drew.heap.size := hsz
      refine start_ (n := 16) (S := fun w' => ∀ o : Nat, w'.cell? ⟨w.heap.size, o, none⟩ = (#[.int .i64 0, .int .i64 127, .int .i64 128, .int .i64 2047, .int .i64 2048, .int .i64 55295, .int .i64 57344, .int .i64 65535, .int .i64 65536, .int .i64 1114111] : Array Value)[o]?) (ds := [13, 14]) #[false, false, false, false, false, false, false, false, false, false, false, false, false, false, false, false] (by kernel_rfl) rfl rfl hcP (fun hHeld => ?_)
      generalize wr.drew = Wd at hownD hBD hPD hszD hHeld ⊢
      refine pure_ (i := 0) (N := some 36) (v := ?_) (a' := ?_) #[true, false, false, false, false, false, false, false, false, false, false, false, false, false, false, false] rfl rfl (by kernel_rfl) (fun _ _ _ h => h) (Or.inl ⟨by rfl, ?_⟩) ?_ ?_
      rotate_left
      · intro w'
        go_simp
        with_reducible rfl
      rotate_left
      · simp only [Act.put, List.setIfInBounds_toArray, List.set_cons_zero, List.set_cons_succ, i64_w, i32_w]
        rfl
      refine pure_ (i := 1) (N := some 37) (v := ?_) (a' := ?_) #[true, true, false, false, false, false, false, false, false, false, false, false, false, false, false, false] rfl rfl (by kernel_rfl) (fun _ _ _ h => h) (Or.inl ⟨by rfl, ?_⟩) ?_ ?_
      rotate_left
      · intro w'
        go_simp
        with_reducible rfl
      rotate_left
      · simp only [Act.put, List.setIfInBounds_toArray, List.set_cons_zero, List.set_cons_succ, i64_w, i32_w]
        rfl
      refine pure_ (i := 2) (N := some 38) (v := ?_) (a' := ?_) #[true, true, true, false, false, false, false, false, false, false, false, false, false, false, false, false] rfl rfl (by kernel_rfl) (fun _ _ _ h => h) (Or.inl ⟨by rfl, ?_⟩) ?_ ?_
      rotate_left
      · intro w'
        go_simp
        with_reducible rfl
      rotate_left
      · simp only [Act.put, List.setIfInBounds_toArray, List.set_cons_zero, List.set_cons_succ, i64_w, i32_w]
        rfl
      refine pure_ (i := 3) (N := some 39) (v := ?_) (a' := ?_) #[true, true, true, true, false, false, false, false, false, false, false, false, false, false, false, false] rfl rfl (by kernel_rfl) (fun _ _ _ h => h) (Or.inl ⟨by rfl, ?_⟩) ?_ ?_
      rotate_left
      · intro w'
        go_simp
        with_reducible rfl
      rotate_left
      · simp only [Act.put, List.setIfInBounds_toArray, List.set_cons_zero, List.set_cons_succ, i64_w, i32_w]
        rfl
      refine pure_ (i := 4) (N := some 40) (v := ?_) (a' := ?_) #[true, true, true, true, true, false, false, false, false, false, false, false, false, false, false, false] rfl rfl (by kernel_rfl) (fun _ _ _ h => h) (Or.inl ⟨by rfl, ?_⟩) ?_ ?_
      rotate_left
      · intro w'
        go_simp
        with_reducible rfl
      rotate_left
      · simp only [Act.put, List.setIfInBounds_toArray, List.set_cons_zero, List.set_cons_succ, i64_w, i32_w]
        rfl
      refine take_ (i := 5) (N := some 41) (v := ?_) (a' := ?_) #[true, true, true, true, true, true, false, false, false, false, false, false, false, false, false, false] rfl rfl (by kernel_rfl) (fun _ _ _ h => h) (Or.inl ⟨by rfl, ?_⟩) hHeld ?_ ?_
      rotate_left
      · intro w' s0
        have s1 : w'.cell? ⟨w.heap.size, 4, none⟩ = some (.int .i64 2048) := s0 4
        go_simp
        with_reducible rfl
      rotate_left
      · simp only [Act.put, List.setIfInBounds_toArray, List.set_cons_zero, List.set_cons_succ, i64_w, i32_w]
        rfl
      refine pure_ (i := 6) (N := some 42) (v := ?_) (a' := ?_) #[true, true, true, true, true, true, true, false, false, false, false, false, false, false, false, false] rfl rfl (by kernel_rfl) (fun _ _ _ h => h) (Or.inl ⟨by rfl, ?_⟩) ?_ ?_
      rotate_left
      · intro w'
        go_simp
        with_reducible rfl
      rotate_left
      · simp only [Act.put, List.setIfInBounds_toArray, List.set_cons_zero, List.set_cons_succ, i64_w, i32_w]
        rfl
      refine pure_ (i := 7) (N := some 43) (v := ?_) (a' := ?_) #[true, true, true, true, true, true, true, true, false, false, false, false, false, false, false, false] rfl rfl (by kernel_rfl) (fun _ _ _ h => h) (Or.inl ⟨by rfl, ?_⟩) ?_ ?_
      rotate_left
      · intro w'
        go_simp
        with_reducible rfl
      rotate_left
      · simp only [Act.put, List.setIfInBounds_toArray, List.set_cons_zero, List.set_cons_succ, i64_w, i32_w]
        rfl
      refine pure_ (i := 8) (N := some 44) (v := ?_) (a' := ?_) #[true, true, true, true, true, true, true, true, true, false, false, false, false, false, false, false] rfl rfl (by kernel_rfl) (fun _ _ _ h => h) (Or.inl ⟨by rfl, ?_⟩) ?_ ?_
      rotate_left
      · intro w'
        go_simp
        with_reducible rfl
      rotate_left
      · simp only [Act.put, List.setIfInBounds_toArray, List.set_cons_zero, List.set_cons_succ, i64_w, i32_w]
        rfl
      refine pure_ (i := 9) (N := some 45) (v := ?_) (a' := ?_) #[true, true, true, true, true, true, true, true, true, true, false, false, false, false, false, false] rfl rfl (by kernel_rfl) (fun _ _ _ h => h) (Or.inl ⟨by rfl, ?_⟩) ?_ ?_
      rotate_left
      · intro w'
        go_simp
        with_reducible rfl
      rotate_left
      · simp only [Act.put, List.setIfInBounds_toArray, List.set_cons_zero, List.set_cons_succ, i64_w, i32_w]
        rfl
      refine pure_ (i := 10) (N := some 46) (v := ?_) (a' := ?_) #[true, true, true, true, true, true, true, true, true, true, true, false, false, false, false, false] rfl rfl (by kernel_rfl) (fun _ _ _ h => h) (Or.inl ⟨by rfl, ?_⟩) ?_ ?_
      rotate_left
      · intro w'
        go_simp
        with_reducible rfl
      rotate_left
      · simp only [Act.put, List.setIfInBounds_toArray, List.set_cons_zero, List.set_cons_succ, i64_w, i32_w]
        rfl
      refine take_ (i := 11) (N := some 47) (v := ?_) (a' := ?_) #[true, true, true, true, true, true, true, true, true, true, true, true, false, false, false, false] rfl rfl (by kernel_rfl) (fun _ _ _ h => h) (Or.inl ⟨by rfl, ?_⟩) hHeld ?_ ?_
      rotate_left
      · intro w' s0
        have s1 : w'.cell? ⟨w.heap.size, 5, none⟩ = some (.int .i64 55295) := s0 5
        go_simp
        with_reducible rfl
      rotate_left
      · simp only [Act.put, List.setIfInBounds_toArray, List.set_cons_zero, List.set_cons_succ, i64_w, i32_w]
        rfl
      refine pure_ (i := 12) (N := some 48) (v := ?_) (a' := ?_) #[true, true, true, true, true, true, true, true, true, true, true, true, true, false, false, false] rfl rfl (by kernel_rfl) (fun _ _ _ h => h) (Or.inl ⟨by rfl, ?_⟩) ?_ ?_
      rotate_left
      · intro w'
        go_simp
        with_reducible rfl
      rotate_left
      · simp only [Act.put, List.setIfInBounds_toArray, List.set_cons_zero, List.set_cons_succ, i64_w, i32_w]
        rfl
      refine last_ (i := 13) (N := some 49) #[true, true, true, true, true, true, true, true, true, true, true, true, true, true, false, false] rfl rfl (by kernel_rfl) (by decide) (fun K hK => ?_)
      refine goes_ Try.func46 (by kernel_rfl) rfl #[.int .i64 (mx a0 2048), .int .i64 (mn a1 55295)] (by rfl) rfl rfl (by (try simp only [List.map_toArray, List.map_cons, List.map_nil]); rfl) ?_
      with_reducible refine (harrowref03_pieces.calls k (mx a0 2048) (mn a1 55295) c _ hcut).mono ?_
      rintro e w4 ⟨v4, rfl, hN4, hb4⟩
      refine ⟨_, rfl, ?_⟩
      refine hK.out _ _ ?_
      clear hK K
      refine norm_ (a' := ?_) ?_ ?_
      rotate_left
      · show Act.put _ (some 49) _ = _
        simp only [Act.put, List.setIfInBounds_toArray, List.set_cons_zero, List.set_cons_succ, i64_w, i32_w]
        rfl
      have hO5 := Kd.N_below hownD hb4
      have hF5 : Kd.N (Kd.slice 63 k63) 61 w4 (w.heap.size + 1) (fun k_ => (w.heap.size + 1 ≤ k_) ∧ some k_ ≠ u7.ownBlock) v4 c := Kd.N_lower (Kd.N_mono hN4 (fun k_ hk_ => ⟨Nat.le_trans hszD hk_, Kd.fresh' (Kd.N_lt hownD) k_ hk_⟩)) hszD
      have hB5 := hBD.trans (hb4.mono (Nat.le_of_lt hszD))
      have hBw : Below (w.heap.size + 1) Wd w4 := hb4.mono hszD
      obtain ⟨A5, c5, e5⟩ := Kd.N_slice hF5
      subst e5
      refine last_ (i := 14) (N := some 50) #[true, true, true, true, true, true, true, true, true, true, true, true, true, true, true, false] rfl rfl (by kernel_rfl) (by decide) (fun K hK => ?_)
      refine Kd.N_append_rows_step (Kd.slice 63 k63) (w0 := Wd) (w.heap.size + 1) (by rfl) (.tmp 36) (.tmp 49) 48 61 (.slice none 0 0) 24 rfl Try.underlying48 info61 rfl (by decide) (by omega) u7 o c _ _ _ (fun k_ => (w.heap.size + 1 ≤ k_)) (fun k_ => (w.heap.size + 1 ≤ k_) ∧ some k_ ≠ u7.ownBlock) rfl rfl hO5 (Kd.N_F hF5) (fun _ hk => hk) (fun k_ hk => Nat.le_trans (Nat.le_trans hszD hb4.size) hk) hBw (Nat.le_trans hszD hb4.size) (by omega) ?_
      intro v7 w7 ho hb hg hat
      refine hK.out _ _ ?_
      clear hK K
      refine norm_ (a' := ?_) ?_ ?_
      rotate_left
      · show Act.put _ (some 50) _ = _
        simp only [Act.put, List.setIfInBounds_toArray, List.set_cons_zero, List.set_cons_succ, i64_w, i32_w]
        rfl
      refine pure_ (i := 15) (N := some 7) (v := ?_) (a' := ?_) #[true, true, true, true, true, true, true, true, true, true, true, true, true, true, true, true] rfl rfl (by kernel_rfl) (fun _ _ _ h => h) (Or.inl ⟨by rfl, ?_⟩) ?_ ?_
      rotate_left
      · intro w'
        go_simp
        with_reducible rfl
      rotate_left
      · simp only [Act.put, List.setIfInBounds_toArray, List.set_cons_zero, List.set_cons_succ, i64_w, i32_w]
        rfl
      refine done_ (by kernel_rfl) ?_
      have hP7 : w7.heap[w.heap.size]? = some (.cells #[.int .i64 0, .int .i64 127, .int .i64 128, .int .i64 2047, .int .i64 2048, .int .i64 55295, .int .i64 57344, .int .i64 65535, .int .i64 65536, .int .i64 1114111] 90) := (hb.block _ (Nat.lt_succ_self _)).trans hPD
      have hB7 : Below w.heap.size w w7 := hBD.trans (hb.mono (Nat.le_succ _))
      go_wp2_with (fail)
      go_roundw
      case rel => exact ⟨3, o ++ c, by decide, rfl, ho, hp, hP7, hB7⟩
      case measure => decide
    · have hs : refShapesL k a0 a1 (partsL.drop 3) o = (harrowref03_pieces.f k (mx a0 57344) (mn a1 65535)).bind fun c => if o.length + c.length < 5864062014805 then refShapesL k a0 a1 (partsL.drop 4) (o ++ c) else none := rfl
      rw [hs] at hp
      clear hs
      cases hcut : harrowref03_pieces.f k (mx a0 57344) (mn a1 65535) with
      | none => rw [hcut] at hp; cases hp
      | some c =>
      rw [hcut] at hp
      simp only [Option.bind_some] at hp
      by_cases c3 : o.length + c.length < 5864062014805
      rotate_left 1
      · rw [if_neg c3] at hp; cases hp
      rw [if_pos c3] at hp
      go_wp2_with (fail)
      have hownD := Kd.N_drew hown
      have hBD : Below w.heap.size w wr.drew := below_drew hB
      have hPD : wr.drew.heap[w.heap.size]? = some (.cells #[.int .i64 0, .int .i64 127, .int .i64 128, .int .i64 2047, .int .i64 2048, .int .i64 55295, .int .i64 57344, .int .i64 65535, .int .i64 65536, .int .i64 1114111] 90) := hP
      have hszD : w.heap.size + 1 ≤ wr.drew.heap.size := hsz
      refine start_ (n := 16) (S := fun w' => ∀ o : Nat, w'.cell? ⟨w.heap.size, o, none⟩ = (#[.int .i64 0, .int .i64 127, .int .i64 128, .int .i64 2047, .int .i64 2048, .int .i64 55295, .int .i64 57344, .int .i64 65535, .int .i64 65536, .int .i64 1114111] : Array Value)[o]?) (ds := [13, 14]) #[false, false, false, false, false, false, false, false, false, false, false, false, false, false, false, false] (by kernel_rfl) rfl rfl hcP (fun hHeld => ?_)
      generalize wr.drew = Wd at hownD hBD hPD hszD hHeld ⊢
      refine pure_ (i := 0) (N := some 36) (v := ?_) (a' := ?_) #[true, false, false, false, false, false, false, false, false, false, false, false, false, false, false, false] rfl rfl (by kernel_rfl) (fun _ _ _ h => h) (Or.inl ⟨by rfl, ?_⟩) ?_ ?_
      rotate_left
      · intro w'
        go_simp
        with_reducible rfl
      rotate_left
      · simp only [Act.put, List.setIfInBounds_toArray, List.set_cons_zero, List.set_cons_succ, i64_w, i32_w]
        rfl
      refine pure_ (i := 1) (N := some 37) (v := ?_) (a' := ?_) #[true, true, false, false, false, false, false, false, false, false, false, false, false, false, false, false] rfl rfl (by kernel_rfl) (fun _ _ _ h => h) (Or.inl ⟨by rfl, ?_⟩) ?_ ?_
      rotate_left
      · intro w'
        go_simp
        with_reducible rfl
      rotate_left
      · simp only [Act.put, List.setIfInBounds_toArray, List.set_cons_zero, List.set_cons_succ, i64_w, i32_w]
        rfl
      refine pure_ (i := 2) (N := some 38) (v := ?_) (a' := ?_) #[true, true, true, false, false, false, false, false, false, false, false, false, false, false, false, false] rfl rfl (by kernel_rfl) (fun _ _ _ h => h) (Or.inl ⟨by rfl, ?_⟩) ?_ ?_
      rotate_left
      · intro w'
        go_simp
        with_reducible rfl
      rotate_left
      · simp only [Act.put, List.setIfInBounds_toArray, List.set_cons_zero, List.set_cons_succ, i64_w, i32_w]
        rfl
      refine pure_ (i := 3) (N := some 39) (v := ?_) (a' := ?_) #[true, true, true, true, false, false, false, false, false, false, false, false, false, false, false, false] rfl rfl (by kernel_rfl) (fun _ _ _ h => h) (Or.inl ⟨by rfl, ?_⟩) ?_ ?_
      rotate_left
      · intro w'
        go_simp
        with_reducible rfl
      rotate_left
      · simp only [Act.put, List.setIfInBounds_toArray, List.set_cons_zero, List.set_cons_succ, i64_w, i32_w]
        rfl
      refine pure_ (i := 4) (N := some 40) (v := ?_) (a' := ?_) #[true, true, true, true, true, false, false, false, false, false, false, false, false, false, false, false] rfl rfl (by kernel_rfl) (fun _ _ _ h => h) (Or.inl ⟨by rfl, ?_⟩) ?_ ?_
      rotate_left
      · intro w'
        go_simp
        with_reducible rfl
      rotate_left
      · simp only [Act.put, List.setIfInBounds_toArray, List.set_cons_zero, List.set_cons_succ, i64_w, i32_w]
        rfl
      refine take_ (i := 5) (N := some 41) (v := ?_) (a' := ?_) #[true, true, true, true, true, true, false, false, false, false, false, false, false, false, false, false] rfl rfl (by kernel_rfl) (fun _ _ _ h => h) (Or.inl ⟨by rfl, ?_⟩) hHeld ?_ ?_
      rotate_left
      · intro w' s0
        have s1 : w'.cell? ⟨w.heap.size, 6, none⟩ = some (.int .i64 57344) := s0 6
        go_simp
        with_reducible rfl
      rotate_left
      · simp only [Act.put, List.setIfInBounds_toArray, List.set_cons_zero, List.set_cons_succ, i64_w, i32_w]
        rfl
      refine pure_ (i := 6) (N := some 42) (v := ?_) (a' := ?_) #[true, true, true, true, true, true, true, false, false, false, false, false, false, false, false, false] rfl rfl (by kernel_rfl) (fun _ _ _ h => h) (Or.inl ⟨by rfl, ?_⟩) ?_ ?_
      rotate_left
      · intro w'
        go_simp
        with_reducible rfl
      rotate_left
      · simp only [Act.put, List.setIfInBounds_toArray, List.set_cons_zero, List.set_cons_succ, i64_w, i32_w]
        rfl
      refine pure_ (i := 7) (N := some 43) (v := ?_) (a' := ?_) #[true, true, true, true, true, true, true, true, false, false, false, false, false, false, false, false] rfl rfl (by kernel_rfl) (fun _ _ _ h => h) (Or.inl ⟨by rfl, ?_⟩) ?_ ?_
      rotate_left
      · intro w'
        go_simp
        with_reducible rfl
      rotate_left
      · simp only [Act.put, List.setIfInBounds_toArray, List.set_cons_zero, List.set_cons_succ, i64_w, i32_w]
        rfl
      refine pure_ (i := 8) (N := some 44) (v := ?_) (a' := ?_) #[true, true, true, true, true, true, true, true, true, false, false, false, false, false, false, false] rfl rfl (by kernel_rfl) (fun _ _ _ h => h) (Or.inl ⟨by rfl, ?_⟩) ?_ ?_
      rotate_left
      · intro w'
        go_simp
        with_reducible rfl
      rotate_left
      · simp only [Act.put, List.setIfInBounds_toArray, List.set_cons_zero, List.set_cons_succ, i64_w, i32_w]
        rfl
      refine pure_ (i := 9) (N := some 45) (v := ?_) (a' := ?_) #[true, true, true, true, true, true, true, true, true, true, false, false, false, false, false, false] rfl rfl (by kernel_rfl) (fun _ _ _ h => h) (Or.inl ⟨by rfl, ?_⟩) ?_ ?_
      rotate_left
      · intro w'
        go_simp
        with_reducible rfl
      rotate_left
      · simp only [Act.put, List.setIfInBounds_toArray, List.set_cons_zero, List.set_cons_succ, i64_w, i32_w]
        rfl
      refine pure_ (i := 10) (N := some 46) (v := ?_) (a' := ?_) #[true, true, true, true, true, true, true, true, true, true, true, false, false, false, false, false] rfl rfl (by kernel_rfl) (fun _ _ _ h => h) (Or.inl ⟨by rfl, ?_⟩) ?_ ?_
      rotate_left
      · intro w'
        go_simp
        with_reducible rfl
      rotate_left
      · simp only [Act.put, List.setIfInBounds_toArray, List.set_cons_zero, List.set_cons_succ, i64_w, i32_w]
        rfl
      refine take_ (i := 11) (N := some 47) (v := ?_) (a' := ?_) #[true, true, true, true, true, true, true, true, true, true, true, true, false, false, false, false] rfl rfl (by kernel_rfl) (fun _ _ _ h => h) (Or.inl ⟨by rfl, ?_⟩) hHeld ?_ ?_
      rotate_left
      · intro w' s0
        have s1 : w'.cell? ⟨w.heap.size, 7, none⟩ = some (.int .i64 65535) := s0 7
        go_simp
        with_reducible rfl
      rotate_left
      · simp only [Act.put, List.setIfInBounds_toArray, List.set_cons_zero, List.set_cons_succ, i64_w, i32_w]
        rfl
      refine pure_ (i := 12) (N := some 48) (v := ?_) (a' := ?_) #[true, true, true, true, true, true, true, true, true, true, true, true, true, false, false, false] rfl rfl (by kernel_rfl) (fun _ _ _ h => h) (Or.inl ⟨by rfl, ?_⟩) ?_ ?_
      rotate_left
      · intro w'
        go_simp
        with_reducible rfl
      rotate_left
      · simp only [Act.put, List.setIfInBounds_toArray, List.set_cons_zero, List.set_cons_succ, i64_w, i32_w]
        rfl
      refine last_ (i := 13) (N := some 49) #[true, true, true, true, true, true, true, true, true, true, true, true, true, true, false, false] rfl rfl (by kernel_rfl) (by decide) (fun K hK => ?_)
      refine goes_ Try.func46 (by kernel_rfl) rfl #[.int .i64 (mx a0 57344), .int .i64 (mn a1 65535)] (by rfl) rfl rfl (by (try simp only [List.map_toArray, List.map_cons, List.map_nil]); rfl) ?_
      with_reducible refine (harrowref03_pieces.calls k (mx a0 57344) (mn a1 65535) c _ hcut).mono ?_
      rintro e w4 ⟨v4, rfl, hN4, hb4⟩
      refine ⟨_, rfl, ?_⟩
      refine hK.out _ _ ?_
      clear hK K
      refine norm_ (a' := ?_) ?_ ?_
      rotate_left
      · show Act.put _ (some 49) _ = _
        simp only [Act.put, List.setIfInBounds_toArray, List.set_cons_zero, List.set_cons_succ, i64_w, i32_w]
        rfl
      have hO5 := Kd.N_below hownD hb4
      have hF5 : Kd.N (Kd.slice 63 k63) 61 w4 (w.heap.size + 1) (fun k_ => (w.heap.size + 1 ≤ k_) ∧ some k_ ≠ u7.ownBlock) v4 c := Kd.N_lower (Kd.N_mono hN4 (fun k_ hk_ => ⟨Nat.le_trans hszD hk_, Kd.fresh' (Kd.N_lt hownD) k_ hk_⟩)) hszD
      have hB5 := hBD.trans (hb4.mono (Nat.le_of_lt hszD))
      have hBw : Below (w.heap.size + 1) Wd w4 := hb4.mono hszD
      obtain ⟨A5, c5, e5⟩ := Kd.N_slice hF5
      subst e5
      refine last_ (i := 14) (N := some 50) #[true, true, true, true, true, true, true, true, true, true, true, true, true, true, true, false] rfl rfl (by kernel_rfl) (by decide) (fun K hK => ?_)
      refine Kd.N_append_rows_step (Kd.slice 63 k63) (w0 := Wd) (w.heap.size + 1) (by rfl) (.tmp 36) (.tmp 49) 48 61 (.slice none 0 0) 24 rfl Try.underlying48 info61 rfl (by decide) (by omega) u7 o c _ _ _ (fun k_ => (w.heap.size + 1 ≤ k_)) (fun k_ => (w.heap.size + 1 ≤ k_) ∧ some k_ ≠ u7.ownBlock) rfl rfl hO5 (Kd.N_F hF5) (fun _ hk => hk) (fun k_ hk => Nat.le_trans (Nat.le_trans hszD hb4.size) hk) hBw (Nat.le_trans hszD hb4.size) (by omega) ?_
      intro v7 w7 ho hb hg hat
      refine hK.out _ _ ?_
      clear hK K
      refine norm_ (a' := ?_) ?_ ?_
      rotate_left
      · show Act.put _ (some 50) _ = _
        simp only [Act.put, List.setIfInBounds_toArray, List.set_cons_zero, List.set_cons_succ, i64_w, i32_w]
        rfl
      refine pure_ (i := 15) (N := some 7) (v := ?_) (a' := ?_) #[true, true, true, true, true, true, true, true, true, true, true, true, true, true, true, true] rfl rfl (by kernel_rfl) (fun _ _ _ h => h) (Or.inl ⟨by rfl, ?_⟩) ?_ ?_
      rotate_left
      · intro w'
        go_simp
        with_reducible rfl
      rotate_left
      · simp only [Act.put, List.setIfInBounds_toArray, List.set_cons_zero, List.set_cons_succ, i64_w, i32_w]
        rfl
      refine done_ (by kernel_rfl) ?_
      have hP7 : w7.heap[w.heap.size]? = some (.cells #[.int .i64 0, .int .i64 127, .int .i64 128, .int .i64 2047, .int .i64 2048, .int .i64 55295, .int .i64 57344, .int .i64 65535, .int .i64 65536, .int .i64 1114111] 90) := (hb.block _ (Nat.lt_succ_self _)).trans hPD
      have hB7 : Below w.heap.size w w7 := hBD.trans (hb.mono (Nat.le_succ _))
      go_wp2_with (fail)
      go_roundw
      case rel => exact ⟨4, o ++ c, by decide, rfl, ho, hp, hP7, hB7⟩
      case measure => decide
    · have hs : refShapesL k a0 a1 (partsL.drop 4) o = (harrowref03_pieces.f k (mx a0 65536) (mn a1 1114111)).bind fun c => if o.length + c.length < 5864062014805 then refShapesL k a0 a1 (partsL.drop 5) (o ++ c) else none := rfl
      rw [hs] at hp
      clear hs
      cases hcut : harrowref03_pieces.f k (mx a0 65536) (mn a1 1114111) with
      | none => rw [hcut] at hp; cases hp
      | some c =>
      rw [hcut] at hp
      simp only [Option.bind_some] at hp
      by_cases c3 : o.length + c.length < 5864062014805
      rotate_left 1
      · rw [if_neg c3] at hp; cases hp
      rw [if_pos c3] at hp
      go_wp2_with (fail)
      have hownD := Kd.N_drew hown
      have hBD : Below w.heap.size w wr.drew := below_drew hB
      have hPD : wr.drew.heap[w.heap.size]? = some (.cells #[.int .i64 0, .int .i64 127, .int .i64 128, .int .i64 2047, .int .i64 2048, .int .i64 55295, .int .i64 57344, .int .i64 65535, .int .i64 65536, .int .i64 1114111] 90) := hP
      have hszD : w.heap.size + 1 ≤ wr.drew.heap.size := hsz
      refine start_ (n := 16) (S := fun w' => ∀ o : Nat, w'.cell? ⟨w.heap.size, o, none⟩ = (#[.int .i64 0, .int .i64 127, .int .i64 128, .int .i64 2047, .int .i64 2048, .int .i64 55295, .int .i64 57344, .int .i64 65535, .int .i64 65536, .int .i64 1114111] : Array Value)[o]?) (ds := [13, 14]) #[false, false, false, false, false, false, false, false, false, false, false, false, false, false, false, false] (by kernel_rfl) rfl rfl hcP (fun hHeld => ?_)
      generalize wr.drew = Wd at hownD hBD hPD hszD hHeld ⊢
      refine pure_ (i := 0) (N := some 36) (v := ?_) (a' := ?_) #[true, false, false, false, false, false, false, false, false, false, false, false, false, false, false, false] rfl rfl (by kernel_rfl) (fun _ _ _ h => h) (Or.inl ⟨by rfl, ?_⟩) ?_ ?_
      rotate_left
      · intro w'
        go_simp
        with_reducible rfl
      rotate_left
      · simp only [Act.put, List.setIfInBounds_toArray, List.set_cons_zero, List.set_cons_succ, i64_w, i32_w]
        rfl
      refine pure_ (i := 1) (N := some 37) (v := ?_) (a' := ?_) #[true, true, false, false, false, false, false, false, false, false, false, false, false, false, false, false] rfl rfl (by kernel_rfl) (fun _ _ _ h => h) (Or.inl ⟨by rfl, ?_⟩) ?_ ?_
      rotate_left
      · intro w'
        go_simp
        with_reducible rfl
      rotate_left
      · simp only [Act.put, List.setIfInBounds_toArray, List.set_cons_zero, List.set_cons_succ, i64_w, i32_w]
        rfl
      refine pure_ (i := 2) (N := some 38) (v := ?_) (a' := ?_) #[true, true, true, false, false, false, false, false, false, false, false, false, false, false, false, false] rfl rfl (by kernel_rfl) (fun _ _ _ h => h) (Or.inl ⟨by rfl, ?_⟩) ?_ ?_
      rotate_left
      · intro w'
        go_simp
        with_reducible rfl
      rotate_left
      · simp only [Act.put, List.setIfInBounds_toArray, List.set_cons_zero, List.set_cons_succ, i64_w, i32_w]
        rfl
      refine pure_ (i := 3) (N := some 39) (v := ?_) (a' := ?_) #[true, true, true, true, false, false, false, false, false, false, false, false, false, false, false, false] rfl rfl (by kernel_rfl) (fun _ _ _ h => h) (Or.inl ⟨by rfl, ?_⟩) ?_ ?_
      rotate_left
      · intro w'
        go_simp
        with_reducible rfl
      rotate_left
      · simp only [Act.put, List.setIfInBounds_toArray, List.set_cons_zero, List.set_cons_succ, i64_w, i32_w]
        rfl
      refine pure_ (i := 4) (N := some 40) (v := ?_) (a' := ?_) #[true, true, true, true, true, false, false, false, false, false, false, false, false, false, false, false] rfl rfl (by kernel_rfl) (fun _ _ _ h => h) (Or.inl ⟨by rfl, ?_⟩) ?_ ?_
      rotate_left
      · intro w'
        go_simp
        with_reducible rfl
      rotate_left
      · simp only [Act.put, List.setIfInBounds_toArray, List.set_cons_zero, List.set_cons_succ, i64_w, i32_w]
        rfl
      refine take_ (i := 5) (N := some 41) (v := ?_) (a' := ?_) #[true, true, true, true, true, true, false, false, false, false, false, false, false, false, false, false] rfl rfl (by kernel_rfl) (fun _ _ _ h => h) (Or.inl ⟨by rfl, ?_⟩) hHeld ?_ ?_
      rotate_left
      · intro w' s0
        have s1 : w'.cell? ⟨w.heap.size, 8, none⟩ = some (.int .i64 65536) := s0 8
        go_simp
        with_reducible rfl
      rotate_left
      · simp only [Act.put, List.setIfInBounds_toArray, List.set_cons_zero, List.set_cons_succ, i64_w, i32_w]
        rfl
      refine pure_ (i := 6) (N := some 42) (v := ?_) (a' := ?_) #[true, true, true, true, true, true, true, false, false, false, false, false, false, false, false, false] rfl rfl (by kernel_rfl) (fun _ _ _ h => h) (Or.inl ⟨by rfl, ?_⟩) ?_ ?_
      rotate_left
      · intro w'
        go_simp
        with_reducible rfl
      rotate_left
      · simp only [Act.put, List.setIfInBounds_toArray, List.set_cons_zero, List.set_cons_succ, i64_w, i32_w]
        rfl
      refine pure_ (i := 7) (N := some 43) (v := ?_) (a' := ?_) #[true, true, true, true, true, true, true, true, false, false, false, false, false, false, false, false] rfl rfl (by kernel_rfl) (fun _ _ _ h => h) (Or.inl ⟨by rfl, ?_⟩) ?_ ?_
      rotate_left
      · intro w'
        go_simp
        with_reducible rfl
      rotate_left
      · simp only [Act.put, List.setIfInBounds_toArray, List.set_cons_zero, List.set_cons_succ, i64_w, i32_w]
        rfl
      refine pure_ (i := 8) (N := some 44) (v := ?_) (a' := ?_) #[true, true, true, true, true, true, true, true, true, false, false, false, false, false, false, false] rfl rfl (by kernel_rfl) (fun _ _ _ h => h) (Or.inl ⟨by rfl, ?_⟩) ?_ ?_
      rotate_left
      · intro w'
        go_simp
        with_reducible rfl
      rotate_left
      · simp only [Act.put, List.setIfInBounds_toArray, List.set_cons_zero, List.set_cons_succ, i64_w, i32_w]
        rfl
      refine pure_ (i := 9) (N := some 45) (v := ?_) (a' := ?_) #[true, true, true, true, true, true, true, true, true, true, false, false, false, false, false, false] rfl rfl (by kernel_rfl) (fun _ _ _ h => h) (Or.inl ⟨by rfl, ?_⟩) ?_ ?_
      rotate_left
      · intro w'
        go_simp
        with_reducible rfl
      rotate_left
      · simp only [Act.put, List.setIfInBounds_toArray, List.set_cons_zero, List.set_cons_succ, i64_w, i32_w]
        rfl
      refine pure_ (i := 10) (N := some 46) (v := ?_) (a' := ?_) #[true, true, true, true, true, true, true, true, true, true, true, false, false, false, false, false] rfl rfl (by kernel_rfl) (fun _ _ _ h => h) (Or.inl ⟨by rfl, ?_⟩) ?_ ?_
      rotate_left
      · intro w'
        go_simp
        with_reducible rfl
      rotate_left
      · simp only [Act.put, List.setIfInBounds_toArray, List.set_cons_zero, List.set_cons_succ, i64_w, i32_w]
        rfl
      refine take_ (i := 11) (N := some 47) (v := ?_) (a' := ?_) #[true, true, true, true, true, true, true, true, true, true, true, true, false, false, false, false] rfl rfl (by kernel_rfl) (fun _ _ _ h => h) (Or.inl ⟨by rfl, ?_⟩) hHeld ?_ ?_
      rotate_left
      · intro w' s0
        have s1 : w'.cell? ⟨w.heap.size, 9, none⟩ = some (.int .i64 1114111) := s0 9
        go_simp
        with_reducible rfl
      rotate_left
      · simp only [Act.put, List.setIfInBounds_toArray, List.set_cons_zero, List.set_cons_succ, i64_w, i32_w]
        rfl
      refine pure_ (i := 12) (N := some 48) (v := ?_) (a' := ?_) #[true, true, true, true, true, true, true, true, true, true, true, true, true, false, false, false] rfl rfl (by kernel_rfl) (fun _ _ _ h => h) (Or.inl ⟨by rfl, ?_⟩) ?_ ?_
      rotate_left
      · intro w'
        go_simp
        with_reducible rfl
      rotate_left
      · simp only [Act.put, List.setIfInBounds_toArray, List.set_cons_zero, List.set_cons_succ, i64_w, i32_w]
        rfl
      refine last_ (i := 13) (N := some 49) #[true, true, true, true, true, true, true, true, true, true, true, true, true, true, false, false] rfl rfl (by kernel_rfl) (by decide) (fun K hK => ?_)
      refine goes_ Try.func46 (by kernel_rfl) rfl #[.int .i64 (mx a0 65536), .int .i64 (mn a1 1114111)] (by rfl) rfl rfl (by (try simp only [List.map_toArray, List.map_cons, List.map_nil]); rfl) ?_
      with_reducible refine (harrowref03_pieces.calls k (mx a0 65536) (mn a1 1114111) c _ hcut).mono ?_
      rintro e w4 ⟨v4, rfl, hN4, hb4⟩
      refine ⟨_, rfl, ?_⟩
      refine hK.out _ _ ?_
      clear hK K
      refine norm_ (a' := ?_) ?_ ?_
      rotate_left
      · show Act.put _ (some 49) _ = _
        simp only [Act.put, List.setIfInBounds_toArray, List.set_cons_zero, List.set_cons_succ, i64_w, i32_w]
        rfl
      have hO5 := Kd.N_below hownD hb4
      have hF5 : Kd.N (Kd.slice 63 k63) 61 w4 (w.heap.size + 1) (fun k_ => (w.heap.size + 1 ≤ k_) ∧ some k_ ≠ u7.ownBlock) v4 c := Kd.N_lower (Kd.N_mono hN4 (fun k_ hk_ => ⟨Nat.le_trans hszD hk_, Kd.fresh' (Kd.N_lt hownD) k_ hk_⟩)) hszD
      have hB5 := hBD.trans (hb4.mono (Nat.le_of_lt hszD))
      have hBw : Below (w.heap.size + 1) Wd w4 := hb4.mono hszD
      obtain ⟨A5, c5, e5⟩ := Kd.N_slice hF5
      subst e5
      refine last_ (i := 14) (N := some 50) #[true, true, true, true, true, true, true, true, true, true, true, true, true, true, true, false] rfl rfl (by kernel_rfl) (by decide) (fun K hK => ?_)
      refine Kd.N_append_rows_step (Kd.slice 63 k63) (w0 := Wd) (w.heap.size + 1) (by rfl) (.tmp 36) (.tmp 49) 48 61 (.slice none 0 0) 24 rfl Try.underlying48 info61 rfl (by decide) (by omega) u7 o c _ _ _ (fun k_ => (w.heap.size + 1 ≤ k_)) (fun k_ => (w.heap.size + 1 ≤ k_) ∧ some k_ ≠ u7.ownBlock) rfl rfl hO5 (Kd.N_F hF5) (fun _ hk => hk) (fun k_ hk => Nat.le_trans (Nat.le_trans hszD hb4.size) hk) hBw (Nat.le_trans hszD hb4.size) (by omega) ?_
      intro v7 w7 ho hb hg hat
      refine hK.out _ _ ?_
      clear hK K
      refine norm_ (a' := ?_) ?_ ?_
      rotate_left
      · show Act.put _ (some 50) _ = _
        simp only [Act.put, List.setIfInBounds_toArray, List.set_cons_zero, List.set_cons_succ, i64_w, i32_w]
        rfl
      refine pure_ (i := 15) (N := some 7) (v := ?_) (a' := ?_) #[true, true, true, true, true, true, true, true, true, true, true, true, true, true, true, true] rfl rfl (by kernel_rfl) (fun _ _ _ h => h) (Or.inl ⟨by rfl, ?_⟩) ?_ ?_
      rotate_left
      · intro w'
        go_simp
        with_reducible rfl
      rotate_left
      · simp only [Act.put, List.setIfInBounds_toArray, List.set_cons_zero, List.set_cons_succ, i64_w, i32_w]
        rfl
      refine done_ (by kernel_rfl) ?_
      have hP7 : w7.heap[w.heap.size]? = some (.cells #[.int .i64 0, .int .i64 127, .int .i64 128, .int .i64 2047, .int .i64 2048, .int .i64 55295, .int .i64 57344, .int .i64 65535, .int .i64 65536, .int .i64 1114111] 90) := (hb.block _ (Nat.lt_succ_self _)).trans hPD
      have hB7 : Below w.heap.size w w7 := hBD.trans (hb.mono (Nat.le_succ _))
      go_wp2_with (fail)
      go_roundw
      case rel => exact ⟨5, o ++ c, by decide, rfl, ho, hp, hP7, hB7⟩
      case measure => decide
    · have hoR : o = oR := Option.some.inj hp
      subst hoR
      go_wp2_with (fail)
      go_ret2
      exact ⟨_, rfl, Kd.N_lower (Kd.N_mono hown (fun k_ hk_ => Nat.le_trans (Nat.le_succ _) hk_)) (Nat.le_succ _), hB⟩
theorem harrowref03_Shapes.mono : ∀ (a0 : Int) (a1 : Int) k, LeO (harrowref03_Shapes.f k a0 a1) (harrowref03_Shapes.f (k + 1) a0 a1) := by
  intro a0 a1 k
  unfold harrowref03_Shapes.f
  exact LeO.ite (LeO.refl _) (LeO.ite (LeO.refl _) (LeO.ite (LeO.refl _) (LeO.ite (LeO.refl _) (LeO.ite (LeO.refl _) (LeO.bind (refShapesL_mono k a0 a1 _ _) fun _ => LeO.refl _)))))

end Go.Proofs.Ytebebognifiinaa.U
