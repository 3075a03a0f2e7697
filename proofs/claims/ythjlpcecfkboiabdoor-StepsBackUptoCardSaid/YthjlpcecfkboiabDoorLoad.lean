/-
  steps.Load, walked: the state that bytes tell, or that they tell none.
-/
import Derived.Test.YthjlpcecfkboiabDoorLoadP
import Derived.Test.YthjlpcecfkboiabDoorLoader
import Derived.Test.YthjlpcecfkboiabDoorClone
import Derived.Test.YthjlpcecfkboiabDoorSave
import Derived.WalkKit
import Derived.BigQuiet
import Derived.BigRegion
import Derived.Deep.RegionLaw
import Derived.Deep.DeepCutAuto
import Derived.Deep.CutBlock
import Derived.Deep.RegionHeld3
import Derived.Laws.ResultCell
import Derived.Lib.ConvBytes
namespace Go.Proofs.YthjlpcecfkboiabDoor
open Go.RowKit
set_option linter.unusedVariables false
set_option linter.unusedSimpArgs false
set_option maxHeartbeats 8000000 in
set_option maxRecDepth 20000 in
theorem load_any (w : World) (s : ByteArray) :
    Calls Tryd.prog 6 #[.string s] w fun e w' => ∃ v, e = .returned (.tuple #[v, .int .i64 (loadM s).2]) ∧ MstOwn w' w.heap.size (loadM s).1 v ∧ Below w.heap.size w w' := by
  have hX := alloc_new w (.cells #[.int .i64 0, .int .i64 0, .int .i64 0, .int .i64 0, .slice none 0 0, .slice none 0 0] 25)
  have hb0 := g_al1 (Below.refl w.heap.size w) (Nat.le_refl _) (.cells #[.int .i64 0, .int .i64 0, .int .i64 0, .int .i64 0, .slice none 0 0, .slice none 0 0] 25)
  go_enter Tryd.func6, Tryd.ntmps6
  by_cases hbig : 1048576 < s.size
  · have q0 : decide ((1048576 : Int) < (s.size : Int)) = true := decide_eq_true (by omega)
    go_wp2_with (fail)
    refine bodyPost_ret (v := .tuple #[.agg #[.int .i64 0, .int .i64 0, .int .i64 0, .int .i64 0, .slice none 0 0, .slice none 0 0], .int .i64 2]) ?_ rfl ?_
    · rw [results_cell_tmp (show Tryd.f6.results = _ from rfl)]
      go_simp
    · refine ⟨_, by unfold loadM; rw [if_pos hbig], ?_, hb0⟩
      unfold loadM
      rw [if_pos hbig]
      exact ⟨_, _, rfl, World.ownsRow_nil _ _ _ _, World.ownsRow_nil _ _ _ _⟩
  · have q0 : decide ((1048576 : Int) < (s.size : Int)) = false := decide_eq_false (by omega)
    have hcv := fun w => Lib.run_convert_string_bytes (P := Tryd.prog) w 9 51 5 s Tryd.underlying9 Tryd.underlying51 Tryd.underlying5
    go_wp2_with (fail)
    clear hcv
    have hX0 : (Lib.bytesWorld (w.alloc (.cells #[.int .i64 0, .int .i64 0, .int .i64 0, .int .i64 0, .slice none 0 0, .slice none 0 0] 25)) 5 s).heap[w.heap.size]? = some (.cells #[.int .i64 0, .int .i64 0, .int .i64 0, .int .i64 0, .slice none 0 0, .slice none 0 0] 25) := (Lib.bytesWorld_at_old _ _ _ _ (by simp)).trans hX
    have hz0 := Lib.bytesWorld_size (w.alloc (.cells #[.int .i64 0, .int .i64 0, .int .i64 0, .int .i64 0, .slice none 0 0, .slice none 0 0] 25)) 5 s
    have hbw : Below w.heap.size w (Lib.bytesWorld (w.alloc (.cells #[.int .i64 0, .int .i64 0, .int .i64 0, .int .i64 0, .slice none 0 0, .slice none 0 0] 25)) 5 s) := hb0.trans ⟨rfl, rfl, rfl, by rw [hz0]; omega, fun i hi => Lib.bytesWorld_at_old _ _ _ _ (by simp; omega)⟩
    have hcl : ∀ j, j < s.size → (Lib.bytesWorld (w.alloc (.cells #[.int .i64 0, .int .i64 0, .int .i64 0, .int .i64 0, .slice none 0 0, .slice none 0 0] 25)) 5 s).cell? ⟨w.heap.size + 1, 0 + j, none⟩ = some (.int .u8 ((bytesL s).getD j 0)) := by
      intro j hj
      have h := Lib.bytesWorld_cell (w.alloc (.cells #[.int .i64 0, .int .i64 0, .int .i64 0, .int .i64 0, .slice none 0 0, .slice none 0 0] 25)) 5 s j hj
      rw [show (w.alloc (.cells #[.int .i64 0, .int .i64 0, .int .i64 0, .int .i64 0, .slice none 0 0, .slice none 0 0] 25)).heap.size = w.heap.size + 1 by simp] at h
      rw [Nat.zero_add, h]
      unfold bytesL
      simp [List.getD, hj]
    have hB0 := Lib.bytesWorld_at_new (w.alloc (.cells #[.int .i64 0, .int .i64 0, .int .i64 0, .int .i64 0, .slice none 0 0, .slice none 0 0] 25)) 5 s
    rw [show (w.alloc (.cells #[.int .i64 0, .int .i64 0, .int .i64 0, .int .i64 0, .slice none 0 0, .slice none 0 0] 25)).heap.size = w.heap.size + 1 by simp] at hB0
    have hge := grownCap_ge (w.alloc (.cells #[.int .i64 0, .int .i64 0, .int .i64 0, .int .i64 0, .slice none 0 0, .slice none 0 0] 25)) s.size 0 5
    rw [show (w.alloc (.cells #[.int .i64 0, .int .i64 0, .int .i64 0, .int .i64 0, .slice none 0 0, .slice none 0 0] 25)).heap.size = w.heap.size + 1 by simp] at hz0
    generalize grownCap (w.alloc (.cells #[.int .i64 0, .int .i64 0, .int .i64 0, .int .i64 0, .slice none 0 0, .slice none 0 0] 25)) s.size 0 5 = cap at *
    generalize Lib.bytesWorld (w.alloc (.cells #[.int .i64 0, .int .i64 0, .int .i64 0, .int .i64 0, .slice none 0 0, .slice none 0 0] 25)) 5 s = W0 at *
    have hL1 : LdW (W0.alloc (.cells #[.slice (some ⟨w.heap.size + 1, 0, none⟩) s.size cap, .bool false] 61)) w.heap.size W0.heap.size (bytesL s) false := by
      refine ⟨_, alloc_new _ _, by omega, w.heap.size + 1, 0, cap, by rw [bytesL_len], by rw [bytesL_len]; exact hge, by omega, ⟨_, _, alloc_old hB0⟩, fun j hj => ?_⟩
      rw [bytesL_len] at hj
      rw [cell_alloc (by omega), hcl j hj]
    have hX1 := alloc_old (y := .cells #[.slice (some ⟨w.heap.size + 1, 0, none⟩) s.size cap, .bool false] 61) hX0
    have hb1 := g_al1 hbw (by omega) (.cells #[.slice (some ⟨w.heap.size + 1, 0, none⟩) s.size cap, .bool false] 61)
    have hlt0 : w.heap.size < W0.heap.size := by omega
    have hl0 : (bytesL s).length ≤ 1048576 := by rw [bytesL_len]; omega
    have hu0 := bytesL_u8 s
    clear hX hb0 hX0 hbw hcl hge hz0
    generalize W0.alloc (.cells #[.slice (some ⟨w.heap.size + 1, 0, none⟩) s.size cap, .bool false] 61) = W1 at *
    generalize W0.heap.size = r at *
    have hne : some w.heap.size ≠ some r := by intro h; injection h with h; omega
    have hM : loadM s = if (loadQ (bytesL s)).2.2 = true ∨ 0 < (loadQ (bytesL s)).2.1.length then (⟨0, 0, 0, 0, [], []⟩, 220) else ((loadQ (bytesL s)).1, 0) := if_neg hbig
    clear q0 hbig
    generalize bytesL s = L0 at *
    have hl2 : (numM L0 false).2.1.length ≤ 1048576 := Nat.le_trans (numM_u8 hu0).2 hl0
    have hu2 := (numM_u8 (bad := false) hu0).1
    with_reducible refine (lnumber_any W1 w.heap.size r L0 false hL1 hl0 hu0).mono ?_
    rintro e W2 ⟨rfl, hL2, hg2⟩
    generalize hQ2 : numM L0 false = q2 at *
    obtain ⟨v2, L2, b2⟩ := q2
    have hX2 := (hg2.block w.heap.size (block_lt hX1) hne).trans hX1
    have hb2 := hb1.grown hg2 hb1.size (fun b e => by injection e with e; omega)
    clear hL1 hX1 hb1 hg2
    go_wp2_with (fail)
    have hl3 : (numM L2 b2).2.1.length ≤ 1048576 := Nat.le_trans (numM_u8 hu2).2 hl2
    have hu3 := (numM_u8 (bad := b2) hu2).1
    with_reducible refine (lnumber_any W2 w.heap.size r L2 b2 hL2 hl2 hu2).mono ?_
    rintro e W3 ⟨rfl, hL3, hg3⟩
    generalize hQ3 : numM L2 b2 = q3 at *
    obtain ⟨v3, L3, b3⟩ := q3
    have hX3 := (hg3.block w.heap.size (block_lt hX2) hne).trans hX2
    have hb3 := hb2.grown hg3 hb2.size (fun b e => by injection e with e; omega)
    clear hL2 hX2 hb2 hg3
    go_wp2_with (fail)
    have hl4 : (numM L3 b3).2.1.length ≤ 1048576 := Nat.le_trans (numM_u8 hu3).2 hl3
    have hu4 := (numM_u8 (bad := b3) hu3).1
    with_reducible refine (lnumber_any W3 w.heap.size r L3 b3 hL3 hl3 hu3).mono ?_
    rintro e W4 ⟨rfl, hL4, hg4⟩
    generalize hQ4 : numM L3 b3 = q4 at *
    obtain ⟨v4, L4, b4⟩ := q4
    have hX4 := (hg4.block w.heap.size (block_lt hX3) hne).trans hX3
    have hb4 := hb3.grown hg4 hb3.size (fun b e => by injection e with e; omega)
    clear hL3 hX3 hb3 hg4
    go_wp2_with (fail)
    have hl5 : (smaM L4 b4).2.1.length ≤ 1048576 := Nat.le_trans (smaM_u8 hu4).2 hl4
    have hu5 := (smaM_u8 (bad := b4) hu4).1
    with_reducible refine (lsmall_any W4 w.heap.size r L4 b4 hL4 hl4 hu4).mono ?_
    rintro e W5 ⟨rfl, hL5, hg5⟩
    generalize hQ5 : smaM L4 b4 = q5 at *
    obtain ⟨v5, L5, b5⟩ := q5
    have hX5 := (hg5.block w.heap.size (block_lt hX4) hne).trans hX4
    have hb5 := hb4.grown hg5 hb4.size (fun b e => by injection e with e; omega)
    clear hL4 hX4 hb4 hg5
    go_wp2_with (fail)
    have hXs := alloc_new W5 (.cells #[.int .i64 v2, .int .i64 v3, .int .i64 v4, .int .i64 v5, .slice none 0 0, .slice none 0 0] 25)
    have hL5a : LdW (W5.alloc (.cells #[.int .i64 v2, .int .i64 v3, .int .i64 v4, .int .i64 v5, .slice none 0 0, .slice none 0 0] 25)) w.heap.size r L5 b5 := hL5.below ((Below.refl W5.heap.size W5).alloc (Nat.le_refl _) (.cells #[.int .i64 v2, .int .i64 v3, .int .i64 v4, .int .i64 v5, .slice none 0 0, .slice none 0 0] 25))
    have hX5a := alloc_old (y := (.cells #[.int .i64 v2, .int .i64 v3, .int .i64 v4, .int .i64 v5, .slice none 0 0, .slice none 0 0] 25)) hX5
    have hb5a := g_al1 hb5 hb5.size (.cells #[.int .i64 v2, .int .i64 v3, .int .i64 v4, .int .i64 v5, .slice none 0 0, .slice none 0 0] 25)
    have hrl : r < W5.heap.size := by obtain ⟨_, h, _⟩ := hL5; exact block_lt h
    have hbl := block_lt hX5
    clear hL5 hX5 hb5
    generalize W5.alloc (.cells #[.int .i64 v2, .int .i64 v3, .int .i64 v4, .int .i64 v5, .slice none 0 0, .slice none 0 0] 25) = W6 at *
    generalize W5.heap.size = bx at *
    have hne2 : some bx ≠ some r := by intro h; injection h with h; omega
    have hl6 : (numM L5 b5).2.1.length ≤ 1048576 := Nat.le_trans (numM_u8 hu5).2 hl5
    have hu6 := (numM_u8 (bad := b5) hu5).1
    have hr6 := numM_range (bad := b5) hu5
    with_reducible refine (lnumber_any W6 w.heap.size r L5 b5 hL5a hl5 hu5).mono ?_
    rintro e W7 ⟨rfl, hL7, hg7⟩
    generalize hQ6 : numM L5 b5 = q6 at *
    obtain ⟨v6, L6, b6⟩ := q6
    have hX7 := (hg7.block w.heap.size (block_lt hX5a) hne).trans hX5a
    have hXs7 := (hg7.block bx (block_lt hXs) hne2).trans hXs
    have hb7 := hb5a.grown hg7 hb5a.size (fun b e => by injection e with e; omega)
    clear hL5a hX5a hb5a hg7 hXs
    obtain ⟨n6, rfl⟩ := Int.eq_ofNat_of_zero_le hr6.1
    have hn6 : n6 ≤ 2147483647 := by have := hr6.2; simp only at this; omega
    have hcX := block_cell hXs7
    have hltX := block_lt hXs7
    generalize hR1 : entL n6 [] L6 b6 = R1
    obtain ⟨i0, hi, hz0, hz1, hz2⟩ := info_parts info_ent
    go_wp2_with (fail)
    go_loopw [6, 28] (fun _ i wr => ∃ (k : Nat) (acc : List Ent) (l : List Int) (bd : Bool) (A : Option Addr) (c : Nat), k ≤ n6 ∧ i = .int .i64 k ∧ LdW wr w.heap.size r l bd ∧ allB l ∧ acc.length + l.length ≤ 1048576 + (if bd = true then 1 else 0) ∧ entL (n6 - k) acc l bd = R1 ∧ wr.heap[bx]? = some (.cells #[.int .i64 v2, .int .i64 v3, .int .i64 v4, .int .i64 v5, .slice A acc.length c, .slice none 0 0] 25) ∧ wr.ownsRow w.heap.size 56 4 (.slice A acc.length c) acc.length (acc.flatMap entC) ∧ wr.heap[w.heap.size]? = some (.cells #[.int .i64 0, .int .i64 0, .int .i64 0, .int .i64 0, .slice none 0 0, .slice none 0 0] 25) ∧ Below w.heap.size w wr) (fun _ i _ => n6 - (intOf i).toNat)
    case atStart =>
      refine ⟨0, [], L6, b6, none, 0, Nat.zero_le _, rfl, hL7, hu6, ?_, by rw [Nat.sub_zero]; exact hR1, hXs7, World.ownsRow_nil _ _ _ _, hX7, hb7⟩
      simp only [List.length_nil]
      have hl6 : L6.length ≤ 1048576 := hl6
      omega
    case round =>
      clear hcX hltX hXs7 hX7 hb7 hL7
      obtain ⟨k, acc, l, bd, A, c, hk, rfl, hL, hu, hlen, hE, hXs, hS, hX, hb⟩ := hrel
      have hcX := block_cell hXs
      have hltX := block_lt hXs
      have hLc := hL
      obtain ⟨bv, hRl, hBr, hBy⟩ := hLc
      have hcR := block_cell hRl
      have hfR := block_free hRl
      have hltR := block_lt hRl
      have hrT : (Value.slice A acc.length c).ownBlock ≠ some r := fun e => by obtain ⟨cs, h⟩ := own_typed' hS r e; rw [hRl] at h; injection h with h; injection h with _ h; cases h
      have hcV := block_cell hX
      have hfV := block_free hX
      have hltV := block_lt hX
      by_cases hlt : k < n6
      · have q1 : decide ((k : Int) < (n6 : Int)) = true := decide_eq_true (by omega)
        cases bd with
        | true =>
          have hR1f : R1 = (acc, l, true) := by rw [← hE, show n6 - k = (n6 - k - 1) + 1 by omega, entL, if_pos rfl]
          go_wp2_with (fail)
          refine wp_loop_rounds 1 ?_
          rw [rounds_succ]
          go_wp2_with (fail)
          have hLQ : loadQ L0 = (⟨v2, v3, v4, v5, acc, []⟩, l, true) := by
            unfold loadQ
            simp only [hQ2, hQ3, hQ4, hQ5, hQ6, Int.toNat_natCast, hR1, hR1f, if_true]
            rfl
          have hMf : loadM s = (⟨0, 0, 0, 0, [], []⟩, 220) := by rw [hM, hLQ, if_pos (.inl rfl)]
          refine gen_l (P := fun W' => W'.heap[w.heap.size]? = some (.cells #[.int .i64 0, .int .i64 0, .int .i64 0, .int .i64 0, .slice none 0 0, .slice none 0 0] 25) ∧ Below w.heap.size w W') (Q := fun W' => bodyPost Tryd.prog _ _ _ _ W') ⟨?_, ?_⟩ ?_
          · exact heap_setCell_self (heap_setCell_self (heap_setCell_self (heap_setCell_self (heap_setCell_self (heap_setCell_self hX 0 _) 1 _) 2 _) 3 _) 4 _) 5 _
          · exact g_st1 (g_st1 (g_st1 (g_st1 (g_st1 (g_st1 hb (Nat.le_refl _) _ _) (Nat.le_refl _) _ _) (Nat.le_refl _) _ _) (Nat.le_refl _) _ _) (Nat.le_refl _) _ _) (Nat.le_refl _) _ _
          rintro W ⟨hW, hbW⟩
          have hcW := block_cell hW
          refine bodyPost_ret (v := .tuple #[.agg #[.int .i64 0, .int .i64 0, .int .i64 0, .int .i64 0, .slice none 0 0, .slice none 0 0], .int .i64 220]) ?_ rfl ⟨_, by rw [hMf], ?_, hbW⟩
          · rw [results_cell_tmp (show Tryd.f6.results = _ from rfl)]
            go_simp
          · rw [hMf]; exact ⟨_, _, rfl, World.ownsRow_nil _ _ _ _, World.ownsRow_nil _ _ _ _⟩
        | false =>
          rw [if_neg (by decide)] at hlen
          have hl : l.length ≤ 1048576 := by omega
          obtain ⟨m, hm⟩ : ∃ m, n6 - k = m + 1 := ⟨n6 - k - 1, by omega⟩
          rw [hm, entL, if_neg (by decide)] at hE
          go_wp2_with (fail)
          have h1l := (smaM_u8 (bad := false) hu).2
          have h1u := (smaM_u8 (bad := false) hu).1
          have h1b := smaM_byte (bad := false) hu
          have h1d := smaM_down hu
          with_reducible refine (lsmall_any wr w.heap.size r l false hL hl hu).mono ?_
          rintro e w1 ⟨rfl, hL1, hg1⟩
          have hX1 := (hg1.block w.heap.size (block_lt hX) hne).trans hX
          have hXs1 := (hg1.block bx (block_lt hXs) hne2).trans hXs
          have hb1 := hb.grown hg1 hb.size (fun b e => by injection e with e; omega)
          have hS1 := own_grown1 hS hg1 hrT
          generalize hq0 : smaM l false = q0 at *
          obtain ⟨ret, l1, bs⟩ := q0
          simp only at h1l h1u h1b h1d hE
          clear hL hX hXs hb hg1 hcX hltX hcR hfR hltR hRl hBy hcV hfV hltV
          obtain ⟨bv1, hRl, hBr, hBy⟩ := hL1
          have hcR := block_cell hRl
          have hfR := block_free hRl
          have hltR := block_lt hRl
          go_upto_region 9 with (fail)
          go_cut [] (fun wc => wc = w1.setCell ⟨r, 1, none⟩ (.bool (bs || decide (1 < ret))))
          case first =>
            rcases (show bs = true ∨ (bs = false ∧ decide (1 < ret) = true) ∨ (bs = false ∧ decide (1 < ret) = false) by cases bs <;> simp; omega) with c0 | ⟨c0, c1⟩ | ⟨c0, c1⟩
            all_goals
              subst c0
              go_wp2_with (fail)
              go_meet
              case rel => first | rfl | (rw [c1]; rfl)
          case rest =>
            subst hcut
            have hV : LdW (w1.setCell ⟨r, 1, none⟩ (.bool (bs || decide (1 < ret)))) w.heap.size r l1 (bs || decide (1 < ret)) ∧ w1.grownBy (w1.setCell ⟨r, 1, none⟩ (.bool (bs || decide (1 < ret)))) (some r) := ⟨⟨_, heap_setCell_self hRl 1 _, hBr, hBy.set 1 _⟩, grown_set _ r 1 _⟩
            generalize hVV : (bs || decide (1 < ret)) = VV at *
            go_upto_region 10 with (fail)
            have hXs2 := ((hV.2).block bx (block_lt hXs1) hne2).trans hXs1
            have hX2 := ((hV.2).block w.heap.size (block_lt hX1) hne).trans hX1
            have hb2 := hb1.grown hV.2 hb1.size (fun b e => by injection e with e; omega)
            have hS2 := own_grown1 hS1 hV.2 hrT
            have hL2 := (hV.1).below (below_drew1 (Below.refl _ _))
            clear hV hcR hfR hltR hRl hBy hX1 hXs1 hb1 hS1
            generalize (w1.setCell ⟨r, 1, none⟩ (.bool VV)) = W2 at *
            have hsz2 : bx < W2.heap.size := block_lt hXs2
            have hc2 : W2.drew.cell? ⟨bx, 4, none⟩ = some (.slice A acc.length c) := block_cell hXs2 4
            have hXd : W2.drew.heap[w.heap.size]? = _ := hX2
            have hXsd : W2.drew.heap[bx]? = _ := hXs2
            have hbd := below_drew1 hb2
            have hSd : W2.drew.ownsRow w.heap.size 56 4 (.slice A acc.length c) acc.length (acc.flatMap entC) := own_below hS2 (below_drew1 (Below.refl _ _))
            have hl1l : l1.length ≤ 1048576 := by omega
            have k1 := numM_u8 (bad := VV) h1u
            have k2 := numM_u8 (bad := (numM l1 VV).2.2) k1.1
            clear hX2 hXs2 hb2 hS2
            have hone : ∀ y ∈ [Value.bool (ret == 1), .int .i64 (numM l1 VV).1, .int .i64 (numM (numM l1 VV).2.1 (numM l1 VV).2.2).1, .int .i64 (numM (numM (numM l1 VV).2.1 (numM l1 VV).2.2).2.1 (numM (numM l1 VV).2.1 (numM l1 VV).2.2).2.2).1], y.oneCell' = true := by intro y hy; simp only [List.mem_cons, List.not_mem_nil, or_false] at hy; rcases hy with rfl | rfl | rfl | rfl <;> rfl
            have h63 : acc.length + 1 ≤ maxLen := by unfold maxLen; omega
            have h64 : (acc.length + 1) * 32 ≤ 140737488355328 := by omega
            go_region_law (first | (refine step_append_row rfl (.tmp 48) (.tmp 58) 22 rfl w.heap.size 56 i0 _ 4 32 Tryd.underlying22 hi hz0 hz1 hz2 rfl (by decide) (.slice A acc.length c) acc.length (acc.flatMap entC) rfl hS6 _ 1 _ rfl hrow hone h63 h64 hBX ?_; intro v7 w7 hS7 hg7 ha7; have hXs7 := (hg7.block bx (block_lt hXs6) hneA).trans hXs6; have hcX7 := block_cell hXs7; have hfX7 := block_free hXs7; obtain ⟨A7, c7, rfl⟩ := (RowIs.of_owns hS7).form) | (go_simp; go_at_call 18; (with_reducible refine Calls.mono (lnumber_any W2.drew w.heap.size r l1 VV hL2 hl1l h1u) ?_); rintro e w3 ⟨rfl, hL3, hg3⟩; have hc3 := (cell_grown hg3 hsz2 hne2 4).trans hc2; go_simp) | (go_simp; go_at_call 18; (with_reducible refine Calls.mono (lnumber_any w3 w.heap.size r _ _ hL3 (Nat.le_trans k1.2 hl1l) k1.1) ?_); rintro e w4 ⟨rfl, hL4, hg4⟩; have hc4 := (cell_grown hg4 (Nat.lt_of_lt_of_le hsz2 hg3.size) hne2 4).trans hc3; go_simp) | (go_simp; go_at_call 18; (with_reducible refine Calls.mono (lnumber_any w4 w.heap.size r _ _ hL4 (Nat.le_trans k2.2 (Nat.le_trans k1.2 hl1l)) k2.1) ?_); rintro e w5 ⟨rfl, hL5, hg5⟩; have hc5 := (cell_grown hg5 (Nat.lt_of_lt_of_le hsz2 (Nat.le_trans hg3.size hg4.size)) hne2 4).trans hc4; have hsz5 := Nat.lt_of_lt_of_le hsz2 (Nat.le_trans (Nat.le_trans hg3.size hg4.size) hg5.size); have hS5 := own_grown1 (own_grown1 (own_grown1 hSd hg3 hrT) hg4 hrT) hg5 hrT; have hS6 := hS5.alloc (.cells #[.bool (ret == 1), .int .i64 (numM l1 VV).1, .int .i64 (numM (numM l1 VV).2.1 (numM l1 VV).2.2).1, .int .i64 (numM (numM (numM l1 VV).2.1 (numM l1 VV).2.2).2.1 (numM (numM l1 VV).2.1 (numM l1 VV).2.2).2.2).1] 56); have hrow := row_new w5 56 #[.bool (ret == 1), .int .i64 (numM l1 VV).1, .int .i64 (numM (numM l1 VV).2.1 (numM l1 VV).2.2).1, .int .i64 (numM (numM (numM l1 VV).2.1 (numM l1 VV).2.2).2.1 (numM (numM l1 VV).2.1 (numM l1 VV).2.2).2.2).1] 4 rfl; have hXs6 := alloc_old (y := (.cells #[.bool (ret == 1), .int .i64 (numM l1 VV).1, .int .i64 (numM (numM l1 VV).2.1 (numM l1 VV).2.2).1, .int .i64 (numM (numM (numM l1 VV).2.1 (numM l1 VV).2.2).2.1 (numM (numM l1 VV).2.1 (numM l1 VV).2.2).2.2).1] 56)) ((hg5.block bx (Nat.lt_of_lt_of_le hsz2 (Nat.le_trans hg3.size hg4.size)) hne2).trans ((hg4.block bx (Nat.lt_of_lt_of_le hsz2 hg3.size) hne2).trans ((hg3.block bx hsz2 hne2).trans hXsd))); have hneA : some bx ≠ (Value.slice A acc.length c).ownBlock := own_ne hS6 hXs6 (by decide); have hBX : w.heap.size ≤ (w5.alloc (.cells #[.bool (ret == 1), .int .i64 (numM l1 VV).1, .int .i64 (numM (numM l1 VV).2.1 (numM l1 VV).2.2).1, .int .i64 (numM (numM (numM l1 VV).2.1 (numM l1 VV).2.2).2.1 (numM (numM l1 VV).2.1 (numM l1 VV).2.2).2.2).1] 56)).heap.size := Nat.le_trans hbd.size (Nat.le_trans hg3.size (Nat.le_trans hg4.size (Nat.le_trans hg5.size (by simp)))); go_simp))
            all_goals
              have hXs8 := heap_setCell_self hXs7 4 (.slice A7 (acc.length + 1) c7)
              have hS8 := own_set hS7 hXs7 (by decide) 4 (.slice A7 (acc.length + 1) c7)
              have hL8 := hL5.keeps (((KeepsV.below ((Below.refl w5.heap.size w5).alloc (Nat.le_refl _) (.cells #[.bool (ret == 1), .int .i64 (numM l1 VV).1, .int .i64 (numM (numM l1 VV).2.1 (numM l1 VV).2.2).1, .int .i64 (numM (numM (numM l1 VV).2.1 (numM l1 VV).2.2).2.1 (numM (numM l1 VV).2.1 (numM l1 VV).2.2).2.2).1] 56))).trans (KeepsV.grown hS6 (by decide) (by decide) hg7)).trans (KeepsV.set hXs7 (by decide) (by decide) 4 (.slice A7 (acc.length + 1) c7)))
              have hX3 := (hg3.block w.heap.size (block_lt hXd) hne).trans hXd
              have hX4 := (hg4.block w.heap.size (block_lt hX3) hne).trans hX3
              have hX5 := alloc_old (y := (.cells #[.bool (ret == 1), .int .i64 (numM l1 VV).1, .int .i64 (numM (numM l1 VV).2.1 (numM l1 VV).2.2).1, .int .i64 (numM (numM (numM l1 VV).2.1 (numM l1 VV).2.2).2.1 (numM (numM l1 VV).2.1 (numM l1 VV).2.2).2.2).1] 56)) ((hg5.block w.heap.size (block_lt hX4) hne).trans hX4)
              have hX7 := (hg7.block w.heap.size (block_lt hX5) (own_ne hS6 hX5 (by decide))).trans hX5
              have hX8 := (heap_setCell_ne (w := w7) (b := bx) 4 w.heap.size (.slice A7 (acc.length + 1) c7) (Nat.ne_of_lt hbl)).trans hX7
              have hb3 := hbd.grown hg3 hbd.size (fun b e => by injection e with e; omega)
              have hb4 := hb3.grown hg4 hb3.size (fun b e => by injection e with e; omega)
              have hb5 := hb4.grown hg5 hb4.size (fun b e => by injection e with e; omega)
              have hb7 := (g_al1 hb5 hb5.size (.cells #[.bool (ret == 1), .int .i64 (numM l1 VV).1, .int .i64 (numM (numM l1 VV).2.1 (numM l1 VV).2.2).1, .int .i64 (numM (numM (numM l1 VV).2.1 (numM l1 VV).2.2).2.1 (numM (numM l1 VV).2.1 (numM l1 VV).2.2).2.2).1] 56)).grown hg7 hBX (fun b e => (hS6.lt b e).1)
              have hb8 := g_st1 hb7 (Nat.le_of_lt hbl) 4 (.slice A7 (acc.length + 1) c7)
              have k3 := numM_u8 (bad := (numM (numM l1 VV).2.1 (numM l1 VV).2.2).2.2) k2.1
              have hlen4 : acc.length + 1 + (numM (numM (numM l1 VV).2.1 (numM l1 VV).2.2).2.1 (numM (numM l1 VV).2.1 (numM l1 VV).2.2).2.2).2.1.length ≤ 1048576 + (if (numM (numM (numM l1 VV).2.1 (numM l1 VV).2.2).2.1 (numM (numM l1 VV).2.1 (numM l1 VV).2.2).2.2).2.2 = true then 1 else 0) := by
                have j1 := k1.2
                have j2 := k2.2
                have j3 := k3.2
                cases bs with
                | false => rw [if_neg (by decide)] at h1d; omega
                | true =>
                  have hv : VV = true := by rw [← hVV]; rfl
                  rw [if_pos rfl] at h1d
                  rw [hv] at j1 j2 j3 ⊢
                  rw [if_pos (by rw [numM_bad, numM_bad, numM_bad])]
                  rw [numM_bad, numM_bad] at j3 ⊢
                  rw [numM_bad] at j2
                  omega
              clear hcX7 hfX7 hXs7 hS7 hg7 hX3 hX4 hX5 hX7 hb3 hb4 hb5 hb7 hg3 hg4 hg5 hc3 hc4 hc5 hS5 hS6 hrow hXs6 hneA hBX hsz5 hL3 hL4 hL5 hc2 hXd hXsd hbd hSd hone h63 h64
              go_wp2_with (fail)
              go_roundw
              case rel => exact ⟨k + 1, acc ++ [⟨ret == 1, (numM l1 VV).1, (numM (numM l1 VV).2.1 (numM l1 VV).2.2).1, (numM (numM (numM l1 VV).2.1 (numM l1 VV).2.2).2.1 (numM (numM l1 VV).2.1 (numM l1 VV).2.2).2.2).1⟩], _, _, A7, c7, by omega, by congr 1, hL8, k3.1, by (rw [List.length_append]; exact hlen4), by (rw [show n6 - (k + 1) = m by omega]; exact hE), by (rw [List.length_append]; exact hXs8), by (rw [List.length_append, List.flatMap_append]; exact hS8), hX8, hb8⟩
              case measure => simp [intOf]; omega
      · have hk2 : k = n6 := by omega
        subst hk2
        rw [Nat.sub_self, entL] at hE
        have hq1 : decide ((k : Int) < (k : Int)) = false := decide_eq_false (by omega)
        cases bd with
        | true =>
          have hR1f : R1 = (acc, l, true) := hE.symm
          go_wp2_with (fail)
          refine wp_loop_rounds 1 ?_
          rw [rounds_succ]
          go_wp2_with (fail)
          have hLQ : loadQ L0 = (⟨v2, v3, v4, v5, acc, []⟩, l, true) := by
            unfold loadQ
            simp only [hQ2, hQ3, hQ4, hQ5, hQ6, Int.toNat_natCast, hR1, hR1f, if_true]
            rfl
          have hMf : loadM s = (⟨0, 0, 0, 0, [], []⟩, 220) := by rw [hM, hLQ, if_pos (.inl rfl)]
          refine gen_l (P := fun W' => W'.heap[w.heap.size]? = some (.cells #[.int .i64 0, .int .i64 0, .int .i64 0, .int .i64 0, .slice none 0 0, .slice none 0 0] 25) ∧ Below w.heap.size w W') (Q := fun W' => bodyPost Tryd.prog _ _ _ _ W') ⟨?_, ?_⟩ ?_
          · exact heap_setCell_self (heap_setCell_self (heap_setCell_self (heap_setCell_self (heap_setCell_self (heap_setCell_self hX 0 _) 1 _) 2 _) 3 _) 4 _) 5 _
          · exact g_st1 (g_st1 (g_st1 (g_st1 (g_st1 (g_st1 hb (Nat.le_refl _) _ _) (Nat.le_refl _) _ _) (Nat.le_refl _) _ _) (Nat.le_refl _) _ _) (Nat.le_refl _) _ _) (Nat.le_refl _) _ _
          rintro W ⟨hW, hbW⟩
          have hcW := block_cell hW
          refine bodyPost_ret (v := .tuple #[.agg #[.int .i64 0, .int .i64 0, .int .i64 0, .int .i64 0, .slice none 0 0, .slice none 0 0], .int .i64 220]) ?_ rfl ⟨_, by rw [hMf], ?_, hbW⟩
          · rw [results_cell_tmp (show Tryd.f6.results = _ from rfl)]
            go_simp
          · rw [hMf]; exact ⟨_, _, rfl, World.ownsRow_nil _ _ _ _, World.ownsRow_nil _ _ _ _⟩
        | false =>
          have hR1f : R1 = (acc, l, false) := hE.symm
          rw [if_neg (by decide)] at hlen
          have hl : l.length ≤ 1048576 := by omega
          go_wp2_with (fail)
          have hu7 := (numM_u8 (bad := false) hu).1
          have hd7 := (numM_u8 (bad := false) hu).2
          have hr7 := numM_range (bad := false) hu
          with_reducible refine (lnumber_any wr w.heap.size r l false hL hl hu).mono ?_
          rintro e V7 ⟨rfl, hL7, hg7⟩
          generalize hQ7 : numM l false = q7 at *
          obtain ⟨v7, L7, b7⟩ := q7
          have hX7 := (hg7.block w.heap.size (block_lt hX) hne).trans hX
          have hXs7 := (hg7.block bx (block_lt hXs) hne2).trans hXs
          have hb7 := hb.grown hg7 hb.size (fun b e => by injection e with e; omega)
          have hS7 := own_grown1 hS hg7 hrT
          clear hL hX hXs hb hg7 hcX hltX hcR hfR hltR hRl hBy hcV hfV hltV hS
          obtain ⟨n7, rfl⟩ := Int.eq_ofNat_of_zero_le hr7.1
          have hn7 : n7 ≤ 2147483647 := by have := hr7.2; simp only at this; omega
          have hcX := block_cell hXs7
          have hltX := block_lt hXs7
          generalize hR2 : notL n7 [] L7 b7 = R2
          have hLQ : loadQ L0 = (⟨v2, v3, v4, v5, acc, R2.1⟩, R2.2.1, R2.2.2) := by
            unfold loadQ
            simp only [hQ2, hQ3, hQ4, hQ5, hQ6, Int.toNat_natCast, hR1, hR1f, Bool.false_eq_true, if_false, hQ7, hR2]
          obtain ⟨j0, hj, hjz0, hjz1, hjz2⟩ := info_parts info_not
          clear hR1 hR1f hQ2 hQ3 hQ4 hQ5 hQ6 hQ7 hE
          go_wp2_with (fail)
          go_loopw [8, 70] (fun _ i wr => ∃ (k : Nat) (acc2 : List Not) (l : List Int) (bd : Bool) (A2 : Option Addr) (c2 : Nat), k ≤ n7 ∧ i = .int .i64 k ∧ LdW wr w.heap.size r l bd ∧ allB l ∧ acc2.length + l.length ≤ 1048576 + (if bd = true then 1 else 0) ∧ notL (n7 - k) acc2 l bd = R2 ∧ wr.heap[bx]? = some (.cells #[.int .i64 v2, .int .i64 v3, .int .i64 v4, .int .i64 v5, .slice A acc.length c, .slice A2 acc2.length c2] 25) ∧ wr.ownsRow w.heap.size 56 4 (.slice A acc.length c) acc.length (acc.flatMap entC) ∧ wr.ownsRow w.heap.size 59 6 (.slice A2 acc2.length c2) acc2.length (acc2.flatMap notC) ∧ wr.heap[w.heap.size]? = some (.cells #[.int .i64 0, .int .i64 0, .int .i64 0, .int .i64 0, .slice none 0 0, .slice none 0 0] 25) ∧ Below w.heap.size w wr) (fun _ i _ => n7 - (intOf i).toNat)
          case atStart =>
            refine ⟨0, [], L7, b7, none, 0, Nat.zero_le _, rfl, hL7, hu7, ?_, by rw [Nat.sub_zero]; exact hR2, hXs7, hS7, World.ownsRow_nil _ _ _ _, hX7, hb7⟩
            have h1 : L7.length ≤ l.length := hd7
            simp only [List.length_nil]
            omega
          case round =>
            clear hcX hltX hXs7 hX7 hb7 hL7 hS7 hR2 hu7 hd7
            clear hrT
            obtain ⟨k, acc2, l, bd, A2, c2, hk, rfl, hL, hu, hlen, hE, hXs, hS, hS2, hX, hb⟩ := hrel
            have hcX := block_cell hXs
            have hfX := block_free hXs
            have hltX := block_lt hXs
            have hLc := hL
            obtain ⟨bv, hRl, hBr, hBy⟩ := hLc
            have hcR := block_cell hRl
            have hfR := block_free hRl
            have hltR := block_lt hRl
            have hrT : (Value.slice A acc.length c).ownBlock ≠ some r := (own_ne hS hRl (by decide)).symm
            have hrT2 : (Value.slice A2 acc2.length c2).ownBlock ≠ some r := (own_ne hS2 hRl (by decide)).symm
            have hcV := block_cell hX
            have hfV := block_free hX
            have hltV := block_lt hX
            by_cases hgo : k < n7 ∧ bd = false
            · obtain ⟨hlt, hbd⟩ := hgo
              subst hbd
              have q1 : decide ((k : Int) < (n7 : Int)) = true := decide_eq_true (by omega)
              rw [if_neg (by decide)] at hlen
              have hl : l.length ≤ 1048576 := by omega
              obtain ⟨m, hm⟩ : ∃ m, n7 - k = m + 1 := ⟨n7 - k - 1, by omega⟩
              rw [hm, notL, if_neg (by decide)] at hE
              go_wp2_with (fail)
              have hy1 := (smaM_u8 (bad := false) hu).1
              have hz1 := Nat.le_trans (smaM_u8 (bad := false) hu).2 hl
              have hdn := smaM_down hu
              with_reducible refine (lsmall_any wr w.heap.size r l false hL hl hu).mono ?_
              rintro e U1 ⟨rfl, hL1, hg⟩
              generalize hq1 : smaM l false = q1 at *
              obtain ⟨t1, M1, f1⟩ := q1
              replace hX := (hg.block w.heap.size (block_lt hX) hne).trans hX
              replace hXs := (hg.block bx (block_lt hXs) hne2).trans hXs
              replace hb := hb.grown hg hb.size (fun b e => by injection e with e; omega)
              replace hS := own_grown1 hS hg hrT
              replace hS2 := own_grown1 hS2 hg hrT2
              clear hg hcX hfX hltX
              have hcX := block_cell hXs
              have hfX := block_free hXs
              have hltX := block_lt hXs
              go_wp2_with (fail)
              have hy2 := (smaM_u8 (bad := f1) hy1).1
              have hz2 := Nat.le_trans (smaM_u8 (bad := f1) hy1).2 hz1
              have hd2 := (smaM_u8 (bad := f1) hy1).2
              have hm2 : f1 = true → (smaM M1 f1).2.2 = true := fun h => by rw [h]; exact smaM_bad
              with_reducible refine (lsmall_any U1 w.heap.size r M1 f1 hL1 hz1 hy1).mono ?_
              rintro e U2 ⟨rfl, hL2, hg⟩
              generalize hq2 : smaM M1 f1 = q2 at *
              obtain ⟨t2, M2, f2⟩ := q2
              replace hX := (hg.block w.heap.size (block_lt hX) hne).trans hX
              replace hXs := (hg.block bx (block_lt hXs) hne2).trans hXs
              replace hb := hb.grown hg hb.size (fun b e => by injection e with e; omega)
              replace hS := own_grown1 hS hg hrT
              replace hS2 := own_grown1 hS2 hg hrT2
              clear hg hcX hfX hltX
              have hcX := block_cell hXs
              have hfX := block_free hXs
              have hltX := block_lt hXs
              go_wp2_with (fail)
              have hy3 := (numM_u8 (bad := f2) hy2).1
              have hz3 := Nat.le_trans (numM_u8 (bad := f2) hy2).2 hz2
              have hd3 := (numM_u8 (bad := f2) hy2).2
              have hm3 : f2 = true → (numM M2 f2).2.2 = true := fun h => by rw [h]; exact numM_bad
              with_reducible refine (lnumber_any U2 w.heap.size r M2 f2 hL2 hz2 hy2).mono ?_
              rintro e U3 ⟨rfl, hL3, hg⟩
              generalize hq3 : numM M2 f2 = q3 at *
              obtain ⟨t3, M3, f3⟩ := q3
              replace hX := (hg.block w.heap.size (block_lt hX) hne).trans hX
              replace hXs := (hg.block bx (block_lt hXs) hne2).trans hXs
              replace hb := hb.grown hg hb.size (fun b e => by injection e with e; omega)
              replace hS := own_grown1 hS hg hrT
              replace hS2 := own_grown1 hS2 hg hrT2
              clear hg hcX hfX hltX
              have hcX := block_cell hXs
              have hfX := block_free hXs
              have hltX := block_lt hXs
              go_wp2_with (fail)
              have hy4 := (numM_u8 (bad := f3) hy3).1
              have hz4 := Nat.le_trans (numM_u8 (bad := f3) hy3).2 hz3
              have hd4 := (numM_u8 (bad := f3) hy3).2
              have hm4 : f3 = true → (numM M3 f3).2.2 = true := fun h => by rw [h]; exact numM_bad
              with_reducible refine (lnumber_any U3 w.heap.size r M3 f3 hL3 hz3 hy3).mono ?_
              rintro e U4 ⟨rfl, hL4, hg⟩
              generalize hq4 : numM M3 f3 = q4 at *
              obtain ⟨t4, M4, f4⟩ := q4
              replace hX := (hg.block w.heap.size (block_lt hX) hne).trans hX
              replace hXs := (hg.block bx (block_lt hXs) hne2).trans hXs
              replace hb := hb.grown hg hb.size (fun b e => by injection e with e; omega)
              replace hS := own_grown1 hS hg hrT
              replace hS2 := own_grown1 hS2 hg hrT2
              clear hg hcX hfX hltX
              have hcX := block_cell hXs
              have hfX := block_free hXs
              have hltX := block_lt hXs
              go_wp2_with (fail)
              have hy5 := (smaM_u8 (bad := f4) hy4).1
              have hz5 := Nat.le_trans (smaM_u8 (bad := f4) hy4).2 hz4
              have hd5 := (smaM_u8 (bad := f4) hy4).2
              have hm5 : f4 = true → (smaM M4 f4).2.2 = true := fun h => by rw [h]; exact smaM_bad
              with_reducible refine (lsmall_any U4 w.heap.size r M4 f4 hL4 hz4 hy4).mono ?_
              rintro e U5 ⟨rfl, hL5, hg⟩
              generalize hq5 : smaM M4 f4 = q5 at *
              obtain ⟨t5, M5, f5⟩ := q5
              replace hX := (hg.block w.heap.size (block_lt hX) hne).trans hX
              replace hXs := (hg.block bx (block_lt hXs) hne2).trans hXs
              replace hb := hb.grown hg hb.size (fun b e => by injection e with e; omega)
              replace hS := own_grown1 hS hg hrT
              replace hS2 := own_grown1 hS2 hg hrT2
              clear hg hcX hfX hltX
              have hcX := block_cell hXs
              have hfX := block_free hXs
              have hltX := block_lt hXs
              go_wp2_with (fail)
              have hN := alloc_new U5 (.cells #[.int .i64 t1, .int .i64 t2, .int .i64 t3, .int .i64 t4, .int .i64 t5, .string { data := #[] }] 59)
              replace hX := alloc_old (y := (.cells #[.int .i64 t1, .int .i64 t2, .int .i64 t3, .int .i64 t4, .int .i64 t5, .string { data := #[] }] 59)) hX
              replace hXs := alloc_old (y := (.cells #[.int .i64 t1, .int .i64 t2, .int .i64 t3, .int .i64 t4, .int .i64 t5, .string { data := #[] }] 59)) hXs
              replace hb := g_al1 hb hb.size (.cells #[.int .i64 t1, .int .i64 t2, .int .i64 t3, .int .i64 t4, .int .i64 t5, .string { data := #[] }] 59)
              replace hS := hS.alloc (.cells #[.int .i64 t1, .int .i64 t2, .int .i64 t3, .int .i64 t4, .int .i64 t5, .string { data := #[] }] 59)
              have hbnS : (Value.slice A2 acc2.length c2).ownBlock ≠ some U5.heap.size := fun e => Nat.lt_irrefl _ (hS2.lt _ e).2
              replace hS2 := hS2.alloc (.cells #[.int .i64 t1, .int .i64 t2, .int .i64 t3, .int .i64 t4, .int .i64 t5, .string { data := #[] }] 59)
              have hL5a := hL5.below ((Below.refl U5.heap.size U5).alloc (Nat.le_refl _) (.cells #[.int .i64 t1, .int .i64 t2, .int .i64 t3, .int .i64 t4, .int .i64 t5, .string { data := #[] }] 59))
              have hneN : some U5.heap.size ≠ some r := by
                obtain ⟨_, h, _⟩ := hL5
                have := block_lt h
                intro h; injection h with h; omega
              have hbn : w.heap.size < U5.heap.size ∧ bx < U5.heap.size := ⟨Nat.lt_trans hbl hltX, hltX⟩
              clear hL5 hcX hfX hltX
              generalize U5.alloc (.cells #[.int .i64 t1, .int .i64 t2, .int .i64 t3, .int .i64 t4, .int .i64 t5, .string { data := #[] }] 59) = U6 at *
              generalize U5.heap.size = bn at *
              have hy6 := (smaM_u8 (bad := f5) hy5).1
              have hd6 := (smaM_u8 (bad := f5) hy5).2
              have hz6 := Nat.le_trans (smaM_u8 (bad := f5) hy5).2 hz5
              have hm6 : f5 = true → (smaM M5 f5).2.2 = true := fun h => by rw [h]; exact smaM_bad
              have hr6 := smaM_byte (bad := f5) hy5
              with_reducible refine (lsmall_any U6 w.heap.size r M5 f5 hL5a hz5 hy5).mono ?_
              rintro e U7 ⟨rfl, hL6, hg⟩
              generalize hq6 : smaM M5 f5 = q6 at *
              obtain ⟨t6, M6, f6⟩ := q6
              have hcX := True.intro
              have hfX := True.intro
              have hltX := True.intro
              replace hX := (hg.block w.heap.size (block_lt hX) hne).trans hX
              replace hXs := (hg.block bx (block_lt hXs) hne2).trans hXs
              replace hN := (hg.block bn (block_lt hN) hneN).trans hN
              replace hb := hb.grown hg hb.size (fun b e => by injection e with e; omega)
              replace hS := own_grown1 hS hg hrT
              replace hS2 := own_grown1 hS2 hg hrT2
              clear hg hcX hfX hltX
              have hcX := block_cell hXs
              have hfX := block_free hXs
              have hltX := block_lt hXs
              have hcN := block_cell hN
              have hfN := block_free hN
              have hltN := block_lt hN
              obtain ⟨tl, rfl⟩ := Int.eq_ofNat_of_zero_le hr6.1
              have htl : tl ≤ 255 := by have := hr6.2; simp only at this; omega
              go_wp2_with (fail)
              have hy7 := (takM_u8 (n := tl) (bad := f6) hy6).2
              have hd7 := takM_le tl M6 f6
              have hm7 : f6 = true → (takM tl M6 f6).2.2 = true := fun h => by rw [h]; exact takM_bad
              have hk7 := takM_len tl M6 f6
              with_reducible refine (ltake_any U7 w.heap.size r M6 f6 tl htl hL6 hz6).mono ?_
              rintro e U8 ⟨v, rfl, ⟨gv, ov, cv, rfl, hvc, hgv, hgvt, hcv⟩, hL7, hg⟩
              generalize hq7 : takM tl M6 f6 = q7 at *
              obtain ⟨bs7, M7, f7⟩ := q7
              replace hX := (hg.block w.heap.size (block_lt hX) hne).trans hX
              replace hXs := (hg.block bx (block_lt hXs) hne2).trans hXs
              replace hN := (hg.block bn (block_lt hN) hneN).trans hN
              replace hb := hb.grown hg hb.size (fun b e => by injection e with e; omega)
              replace hS := own_grown1 hS hg hrT
              replace hS2 := own_grown1 hS2 hg hrT2
              clear hg hcX hfX hltX
              have hcX := block_cell hXs
              have hfX := block_free hXs
              have hltX := block_lt hXs
              have hcN := block_cell hN
              have hfN := block_free hN
              have hltN := block_lt hN
              have hconv : (convert 51 9 (.slice (some ⟨gv, ov, none⟩) bs7.length cv)).run Tryd.prog U8 = .ok (.string (strOfNums bs7)) U8 :=
                run_convert_bytes_arg U8 51 5 Tryd.underlying51 Tryd.underlying5 gv ov bs7.length cv bs7 rfl (fun i hi => hcv i hi) 9 Tryd.underlying9
              clear hcv hgvt
              rw [hk7] at hconv
              obtain ⟨W9, hW9⟩ : ∃ W9, W9 = U8.setCell ⟨bn, 5, none⟩ (.string (strOfNums bs7)) := ⟨_, rfl⟩
              have hN9 : W9.heap[bn]? = some (.cells #[.int .i64 t1, .int .i64 t2, .int .i64 t3, .int .i64 t4, .int .i64 t5, .string (strOfNums bs7)] 59) := by rw [hW9]; exact heap_setCell_self hN 5 _
              have hS9 : W9.ownsRow w.heap.size 56 4 (.slice A acc.length c) acc.length (acc.flatMap entC) := by rw [hW9]; exact own_set hS hN (by decide) 5 _
              have hS29 : W9.ownsRow w.heap.size 59 6 (.slice A2 acc2.length c2) acc2.length (acc2.flatMap notC) := by rw [hW9]; exact own_grown1 hS2 (grown_set U8 bn 5 _) hbnS
              have hL9 : LdW W9 w.heap.size r M7 f7 := by rw [hW9]; exact hL7.keeps (KeepsV.set hN (by decide) (by decide) 5 _)
              have hX9 : W9.heap[w.heap.size]? = some (.cells #[.int .i64 0, .int .i64 0, .int .i64 0, .int .i64 0, .slice none 0 0, .slice none 0 0] 25) := by rw [hW9]; exact (heap_setCell_ne (w := U8) (b := bn) 5 w.heap.size _ (Nat.ne_of_lt hbn.1)).trans hX
              have hXs9 : W9.heap[bx]? = some (.cells #[.int .i64 v2, .int .i64 v3, .int .i64 v4, .int .i64 v5, .slice A acc.length c, .slice A2 acc2.length c2] 25) := by rw [hW9]; exact (heap_setCell_ne (w := U8) (b := bn) 5 bx _ (Nat.ne_of_lt hbn.2)).trans hXs
              have hb9 : Below w.heap.size w W9 := by rw [hW9]; exact g_st1 hb (Nat.le_of_lt hbn.1) 5 _
              have hsz9 : W9.heap.size = U8.heap.size := by rw [hW9]; simp [World.setCell]
              have hr9 := row_new W9 59 #[.int .i64 t1, .int .i64 t2, .int .i64 t3, .int .i64 t4, .int .i64 t5, .string (strOfNums bs7)] 6 rfl
              have hS10 := hS9.alloc (.cells #[.int .i64 t1, .int .i64 t2, .int .i64 t3, .int .i64 t4, .int .i64 t5, .string (strOfNums bs7)] 59)
              have hS210 := hS29.alloc (.cells #[.int .i64 t1, .int .i64 t2, .int .i64 t3, .int .i64 t4, .int .i64 t5, .string (strOfNums bs7)] 59)
              have hL10 := hL9.below ((Below.refl W9.heap.size W9).alloc (Nat.le_refl _) (.cells #[.int .i64 t1, .int .i64 t2, .int .i64 t3, .int .i64 t4, .int .i64 t5, .string (strOfNums bs7)] 59))
              have hX10 := alloc_old (y := .cells #[.int .i64 t1, .int .i64 t2, .int .i64 t3, .int .i64 t4, .int .i64 t5, .string (strOfNums bs7)] 59) hX9
              have hXs10 := alloc_old (y := .cells #[.int .i64 t1, .int .i64 t2, .int .i64 t3, .int .i64 t4, .int .i64 t5, .string (strOfNums bs7)] 59) hXs9
              have hb10 := g_al1 hb9 hb9.size (.cells #[.int .i64 t1, .int .i64 t2, .int .i64 t3, .int .i64 t4, .int .i64 t5, .string (strOfNums bs7)] 59)
              have hBX : w.heap.size ≤ (W9.alloc (.cells #[.int .i64 t1, .int .i64 t2, .int .i64 t3, .int .i64 t4, .int .i64 t5, .string (strOfNums bs7)] 59)).heap.size := hb10.size
              have hneA := own_ne hS210 hXs10 (by decide)
              have hneB := own_ne hS210 hX10 (by decide)
              have hfin : ∀ (A7 : Option Addr) (c7 : Nat) (w7 : World), w7.ownsRow w.heap.size 59 6 (.slice A7 (acc2.length + 1) c7) (acc2.length + 1) (acc2.flatMap notC ++ #[.int .i64 t1, .int .i64 t2, .int .i64 t3, .int .i64 t4, .int .i64 t5, .string (strOfNums bs7)].toList) → (W9.alloc (.cells #[.int .i64 t1, .int .i64 t2, .int .i64 t3, .int .i64 t4, .int .i64 t5, .string (strOfNums bs7)] 59)).grownBy w7 (Value.slice A2 acc2.length c2).ownBlock → w7.heap[bx]? = some (.cells #[.int .i64 v2, .int .i64 v3, .int .i64 v4, .int .i64 v5, .slice A acc.length c, .slice A2 acc2.length c2] 25) ∧ (∃ (k' : Nat) (acc' : List Not) (l' : List Int) (bd' : Bool) (A' : Option Addr) (c' : Nat), k' ≤ n7 ∧ (.int .i64 ((k : Int) + 1) : Value) = .int .i64 k' ∧ LdW (w7.setCell ⟨bx, 5, none⟩ (.slice A7 (acc2.length + 1) c7)) w.heap.size r l' bd' ∧ allB l' ∧ acc'.length + l'.length ≤ 1048576 + (if bd' = true then 1 else 0) ∧ notL (n7 - k') acc' l' bd' = R2 ∧ (w7.setCell ⟨bx, 5, none⟩ (.slice A7 (acc2.length + 1) c7)).heap[bx]? = some (.cells #[.int .i64 v2, .int .i64 v3, .int .i64 v4, .int .i64 v5, .slice A acc.length c, .slice A' acc'.length c'] 25) ∧ (w7.setCell ⟨bx, 5, none⟩ (.slice A7 (acc2.length + 1) c7)).ownsRow w.heap.size 56 4 (.slice A acc.length c) acc.length (acc.flatMap entC) ∧ (w7.setCell ⟨bx, 5, none⟩ (.slice A7 (acc2.length + 1) c7)).ownsRow w.heap.size 59 6 (.slice A' acc'.length c') acc'.length (acc'.flatMap notC) ∧ (w7.setCell ⟨bx, 5, none⟩ (.slice A7 (acc2.length + 1) c7)).heap[w.heap.size]? = some (.cells #[.int .i64 0, .int .i64 0, .int .i64 0, .int .i64 0, .slice none 0 0, .slice none 0 0] 25) ∧ Below w.heap.size w (w7.setCell ⟨bx, 5, none⟩ (.slice A7 (acc2.length + 1) c7))) := by
                intro A7 c7 w7 hS7 hg7
                have hXs7 := (hg7.block bx (block_lt hXs10) hneA).trans hXs10
                have hX7 := (hg7.block w.heap.size (block_lt hX10) hneB).trans hX10
                have hE7 := own_other hS10 hS210 (by decide) hg7
                have hL7b := hL10.keeps (KeepsV.grown hS210 (by decide) (by decide) hg7)
                have hb7 := hb10.grown hg7 hBX (fun b e => (hS210.lt b e).1)
                have hE2 : notL m (acc2 ++ [⟨t1, t2, t3, t4, t5, strOfNums bs7⟩]) M7 f7 = R2 := by
                  rw [← hE]
                  simp only [hq1, hq2, hq3, hq4, hq5, hq6, Int.toNat_natCast, hq7]
                refine ⟨hXs7, k + 1, acc2 ++ [⟨t1, t2, t3, t4, t5, strOfNums bs7⟩], M7, f7, A7, c7, by omega, by congr 1, hL7b.keeps (KeepsV.set hXs7 (by decide) (by decide) 5 _), hy7, ?_, by rw [show n7 - (k + 1) = m by omega]; exact hE2, ?_, own_set hE7 hXs7 (by decide) 5 _, ?_, (heap_setCell_ne (w := w7) (b := bx) 5 w.heap.size _ (Nat.ne_of_lt hbl)).trans hX7, g_st1 hb7 (Nat.le_of_lt hbl) 5 _⟩
                · rw [List.length_append]
                  show acc2.length + 1 + M7.length ≤ _
                  have i1 : M1.length + 1 ≤ l.length + (if f1 = true then 1 else 0) := hdn
                  have i2 : M2.length ≤ M1.length := hd2
                  have i3 : M3.length ≤ M2.length := hd3
                  have i4 : M4.length ≤ M3.length := hd4
                  have i5 : M5.length ≤ M4.length := hd5
                  have i6 : M6.length ≤ M5.length := hd6
                  have i7 : M7.length ≤ M6.length := hd7
                  cases hf1 : f1 with
                  | false => rw [hf1, if_neg (by decide)] at i1; omega
                  | true =>
                    rw [hf1, if_pos rfl] at i1
                    have hf7 : f7 = true := hm7 (hm6 (hm5 (hm4 (hm3 (hm2 hf1)))))
                    rw [hf7, if_pos rfl]
                    omega
                · rw [List.length_append]; exact heap_setCell_self hXs7 5 _
                · rw [List.length_append, List.flatMap_append]; exact own_set hS7 hXs7 (by decide) 5 _
              clear hX9 hXs9 hb9 hN9 hS9 hS29 hL9 hS10 hL10 hX10 hb10 hneA hneB hq1 hq2 hq3 hq4 hq5 hq6 hq7 hdn hd2 hd3 hd4 hd5 hd6 hd7 hm2 hm3 hm4 hm5 hm6 hm7 hE
              rw [hsz9] at hr9
              rw [hW9] at hr9 hS210 hBX hfin hXs10
              clear hsz9
              clear hW9
              clear W9
              have h63 : acc2.length + 1 ≤ maxLen := by unfold maxLen; omega
              have h64 : (acc2.length + 1) * 56 ≤ 140737488355328 := by omega
              go_wp2_with (at_builtin; refine wpList_append_row rfl _ _ 23 rfl w.heap.size 59 j0 _ 6 56 Tryd.underlying23 hj hjz0 hjz1 hjz2 rfl (by decide) (.slice A2 acc2.length c2) acc2.length (acc2.flatMap notC) rfl hS210 _ 1 _ rfl hr9 ?q2 h63 h64 hBX ?_)
              case q2 => simp [Value.oneCell']
              intro v7 w7 hS7 hg7 hb7
              obtain ⟨A7, c7, rfl⟩ := (RowIs.of_owns hS7).form
              obtain ⟨hXs7, hF⟩ := hfin A7 c7 w7 hS7 hg7
              clear hfin
              have hcX7 := block_cell hXs7
              have hfX7 := block_free hXs7
              go_wp2_with (fail)
              go_roundw
              case rel => exact hF
              case measure => simp [intOf]; omega
            · have hR2f : R2 = (acc2, l, bd) := by
                rw [← hE]
                by_cases hlt : k < n7
                · have hbd : bd = true := by cases bd with | true => rfl | false => exact absurd ⟨hlt, rfl⟩ hgo
                  rw [hbd, show n7 - k = (n7 - k - 1) + 1 by omega, notL, if_pos rfl]
                · rw [show n7 - k = 0 by omega, notL]
              clear hE
              cases bd with
              | true =>
                by_cases hlt : k < n7
                · have q1 : decide ((k : Int) < (n7 : Int)) = true := decide_eq_true (by omega)
                  go_wp2_with (fail)
                  have hMf : loadM s = (⟨0, 0, 0, 0, [], []⟩, 220) := by rw [hM, hLQ, hR2f, if_pos (.inl rfl)]
                  refine gen_l (P := fun W' => W'.heap[w.heap.size]? = some (.cells #[.int .i64 0, .int .i64 0, .int .i64 0, .int .i64 0, .slice none 0 0, .slice none 0 0] 25) ∧ Below w.heap.size w W') (Q := fun W' => bodyPost Tryd.prog _ _ _ _ W') ⟨?_, ?_⟩ ?_
                  · exact heap_setCell_self (heap_setCell_self (heap_setCell_self (heap_setCell_self (heap_setCell_self (heap_setCell_self hX 0 _) 1 _) 2 _) 3 _) 4 _) 5 _
                  · exact g_st1 (g_st1 (g_st1 (g_st1 (g_st1 (g_st1 hb (Nat.le_refl _) _ _) (Nat.le_refl _) _ _) (Nat.le_refl _) _ _) (Nat.le_refl _) _ _) (Nat.le_refl _) _ _) (Nat.le_refl _) _ _
                  rintro W ⟨hW, hbW⟩
                  have hcW := block_cell hW
                  refine bodyPost_ret (v := .tuple #[.agg #[.int .i64 0, .int .i64 0, .int .i64 0, .int .i64 0, .slice none 0 0, .slice none 0 0], .int .i64 220]) ?_ rfl ⟨_, by first | rfl | rw [hMf], ?_, hbW⟩
                  · rw [results_cell_tmp (show Tryd.f6.results = _ from rfl)]
                    go_simp
                  · first | exact ⟨_, _, rfl, World.ownsRow_nil _ _ _ _, World.ownsRow_nil _ _ _ _⟩ | (rw [hMf]; exact ⟨_, _, rfl, World.ownsRow_nil _ _ _ _, World.ownsRow_nil _ _ _ _⟩)
                · have q1 : decide ((k : Int) < (n7 : Int)) = false := decide_eq_false (by omega)
                  go_wp2_with (fail)
                  have hMf : loadM s = (⟨0, 0, 0, 0, [], []⟩, 220) := by rw [hM, hLQ, hR2f, if_pos (.inl rfl)]
                  refine gen_l (P := fun W' => W'.heap[w.heap.size]? = some (.cells #[.int .i64 0, .int .i64 0, .int .i64 0, .int .i64 0, .slice none 0 0, .slice none 0 0] 25) ∧ Below w.heap.size w W') (Q := fun W' => bodyPost Tryd.prog _ _ _ _ W') ⟨?_, ?_⟩ ?_
                  · exact heap_setCell_self (heap_setCell_self (heap_setCell_self (heap_setCell_self (heap_setCell_self (heap_setCell_self hX 0 _) 1 _) 2 _) 3 _) 4 _) 5 _
                  · exact g_st1 (g_st1 (g_st1 (g_st1 (g_st1 (g_st1 hb (Nat.le_refl _) _ _) (Nat.le_refl _) _ _) (Nat.le_refl _) _ _) (Nat.le_refl _) _ _) (Nat.le_refl _) _ _) (Nat.le_refl _) _ _
                  rintro W ⟨hW, hbW⟩
                  have hcW := block_cell hW
                  refine bodyPost_ret (v := .tuple #[.agg #[.int .i64 0, .int .i64 0, .int .i64 0, .int .i64 0, .slice none 0 0, .slice none 0 0], .int .i64 220]) ?_ rfl ⟨_, by first | rfl | rw [hMf], ?_, hbW⟩
                  · rw [results_cell_tmp (show Tryd.f6.results = _ from rfl)]
                    go_simp
                  · first | exact ⟨_, _, rfl, World.ownsRow_nil _ _ _ _, World.ownsRow_nil _ _ _ _⟩ | (rw [hMf]; exact ⟨_, _, rfl, World.ownsRow_nil _ _ _ _, World.ownsRow_nil _ _ _ _⟩)
              | false =>
                obtain rfl : k = n7 := by
                  have : ¬ k < n7 := fun h => hgo ⟨h, rfl⟩
                  omega
                clear hgo
                have q1 : decide ((k : Int) < (k : Int)) = false := decide_eq_false (by omega)
                obtain ⟨gv, ov, cv, rfl, hvc, hgv, hgvt, hcv⟩ := hBy
                by_cases hz : 0 < l.length
                · have q2 : decide ((0 : Int) < (l.length : Int)) = true := decide_eq_true (by omega)
                  go_wp2_with (fail)
                  have hMf : loadM s = (⟨0, 0, 0, 0, [], []⟩, 220) := by rw [hM, hLQ, hR2f, if_pos (.inr hz)]
                  refine gen_l (P := fun W' => W'.heap[w.heap.size]? = some (.cells #[.int .i64 0, .int .i64 0, .int .i64 0, .int .i64 0, .slice none 0 0, .slice none 0 0] 25) ∧ Below w.heap.size w W') (Q := fun W' => bodyPost Tryd.prog _ _ _ _ W') ⟨?_, ?_⟩ ?_
                  · exact heap_setCell_self (heap_setCell_self (heap_setCell_self (heap_setCell_self (heap_setCell_self (heap_setCell_self hX 0 _) 1 _) 2 _) 3 _) 4 _) 5 _
                  · exact g_st1 (g_st1 (g_st1 (g_st1 (g_st1 (g_st1 hb (Nat.le_refl _) _ _) (Nat.le_refl _) _ _) (Nat.le_refl _) _ _) (Nat.le_refl _) _ _) (Nat.le_refl _) _ _) (Nat.le_refl _) _ _
                  rintro W ⟨hW, hbW⟩
                  have hcW := block_cell hW
                  refine bodyPost_ret (v := .tuple #[.agg #[.int .i64 0, .int .i64 0, .int .i64 0, .int .i64 0, .slice none 0 0, .slice none 0 0], .int .i64 220]) ?_ rfl ⟨_, by first | rfl | rw [hMf], ?_, hbW⟩
                  · rw [results_cell_tmp (show Tryd.f6.results = _ from rfl)]
                    go_simp
                  · first | exact ⟨_, _, rfl, World.ownsRow_nil _ _ _ _, World.ownsRow_nil _ _ _ _⟩ | (rw [hMf]; exact ⟨_, _, rfl, World.ownsRow_nil _ _ _ _, World.ownsRow_nil _ _ _ _⟩)
                · have q2 : decide ((0 : Int) < (l.length : Int)) = false := decide_eq_false (by omega)
                  go_wp2_with (fail)
                  have hMf : loadM s = (⟨v2, v3, v4, v5, acc, acc2⟩, 0) := by rw [hM, hLQ, hR2f, if_neg (by intro h; rcases h with h | h; cases h; exact hz h)]
                  refine gen_l (P := fun W' => W'.heap[w.heap.size]? = some (.cells #[.int .i64 v2, .int .i64 v3, .int .i64 v4, .int .i64 v5, .slice A acc.length c, .slice A2 acc2.length c2] 25) ∧ Below w.heap.size w W' ∧ W'.ownsRow w.heap.size 56 4 (.slice A acc.length c) acc.length (acc.flatMap entC) ∧ W'.ownsRow w.heap.size 59 6 (.slice A2 acc2.length c2) acc2.length (acc2.flatMap notC)) (Q := fun W' => bodyPost Tryd.prog _ _ _ _ W') ⟨?_, ?_, ?_, ?_⟩ ?_
                  · exact heap_setCell_self (heap_setCell_self (heap_setCell_self (heap_setCell_self (heap_setCell_self (heap_setCell_self hX 0 _) 1 _) 2 _) 3 _) 4 _) 5 _
                  · exact g_st1 (g_st1 (g_st1 (g_st1 (g_st1 (g_st1 hb (Nat.le_refl _) _ _) (Nat.le_refl _) _ _) (Nat.le_refl _) _ _) (Nat.le_refl _) _ _) (Nat.le_refl _) _ _) (Nat.le_refl _) _ _
                  · exact set_six hS hX (by decide) _ _ _ _ _ _
                  · exact set_six hS2 hX (by decide) _ _ _ _ _ _
                  rintro W ⟨hW, hbW, hSW, hS2W⟩
                  have hcW := block_cell hW
                  refine bodyPost_ret (v := .tuple #[.agg #[.int .i64 v2, .int .i64 v3, .int .i64 v4, .int .i64 v5, .slice A acc.length c, .slice A2 acc2.length c2], .int .i64 0]) ?_ rfl ⟨_, by first | rfl | rw [hMf], ?_, hbW⟩
                  · rw [results_cell_tmp (show Tryd.f6.results = _ from rfl)]
                    go_simp
                  · first | exact ⟨_, _, rfl, hSW, hS2W⟩ | (rw [hMf]; exact ⟨_, _, rfl, hSW, hS2W⟩)
end Go.Proofs.YthjlpcecfkboiabDoor
