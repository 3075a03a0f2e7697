import Derived.Test.YthjlpcecfkboiaaDoorZx0
import Derived.Test.YthjlpcecfkboiaaDoorZx1
import Derived.Test.YthjlpcecfkboiaaDoorZx5
-- PRINTED by print.py (a twelfth state) out of the translation. Not trusted: Lean checks it.
namespace Go.Proofs.YthjlpcecfkboiaaDoor.Z
open Go.RowKit Go.Proofs.YthjlpcecfkboiaaDoorW.PrintWords Go.Proofs.YthjlpcecfkboiaaDoorW.PrintLast Go.Proofs.YthjlpcecfkboiaaDoorW.PrintMore
attribute [local go_sem] eqset_a eqset_b max2_int min2_int max_two min_two max_three min_three max_four min_four   -- for this text's walks alone
set_option linter.unusedVariables false
set_option linter.unusedSimpArgs false

/-! ### instr_Check: function 44 -/
def instr_Check.l0 : Nat → List (S52) → List (S52) → Int → Int → Option (Int × Int)
  | 0, _, _, _, _ => none
  | k + 1, x0, x13, x14, x15 => if x15 < x14 then (if 0 ≤ x15 then (if x15 < (x13.length : Int) then ((instr_is.f ((rd_T52 x13 x15).f0)).bind fun t154 => (if t154 = true then ((instr_fits.f k ((rd_T52 x13 x15).f0) ((rd_T52 x13 x15).f1) ((rd_T52 x13 x15).f2) ((rd_T52 x13 x15).f3) ((rd_T52 x13 x15).f4) ((rd_T52 x13 x15).f5.f0) ((rd_T52 x13 x15).f5.f1) ((rd_T52 x13 x15).f5.f2) ((rd_T52 x13 x15).f5.f3)).bind fun t155 => (if t155 = true then ((instr_has.f ((rd_T52 x13 x15).f0) 32).bind fun t156 => (if t156 = true then (if ((rd_T52 x13 x15).f1) < (wrap64 (-x15)) then (some (x15, 162)) else (if ((rd_T52 x13 x15).f1) ≥ (wrap64 ((x0.length : Int) - x15)) then (some (x15, 162)) else (instr_Check.l0 k x0 x13 x14 (wrap64 (x15 + 1))))) else (instr_Check.l0 k x0 x13 x14 (wrap64 (x15 + 1))))) else (some (x15, 161)))) else (some (x15, 160)))) else (none)) else (none)) else (if 0 ≤ (wrap64 ((x0.length : Int) - 1)) then (if (wrap64 ((x0.length : Int) - 1)) < (x0.length : Int) then ((instr_has.f ((rd_T52 x0 (wrap64 ((x0.length : Int) - 1))).f0) 64).bind fun t151 => (if t151 = true then (some (wrap64 ((x0.length : Int) - 1), 163)) else (some (0, 0)))) else (none)) else (none))
def instr_Check.f (k : Nat) (l0 : List (S52)) : Option (Int × Int) := if (l0.length : Int) > 8192 then (some (0, 2)) else (if (l0.length : Int) = 0 then (some (0, 3)) else (instr_Check.l0 k l0 l0 (l0.length : Int) 0))
theorem instr_Check.mono_l : ∀ k, (∀ y0 y1 y2 y3, LeO (instr_Check.l0 k y0 y1 y2 y3) (instr_Check.l0 (k + 1) y0 y1 y2 y3))
  | 0 => fun _ _ _ _ r h => by simp [instr_Check.l0] at h
  | k + 1 => by
    have ih0 := instr_Check.mono_l k
    · intro y0 y1 y2 y3
      unfold instr_Check.l0
      repeat' first
      | (with_reducible exact ih0 _ _ _ _)
      | (with_reducible exact instr_fits.mono _ _ _ _ _ _ _ _ _ _)
      | (with_reducible exact LeO.refl _)
      | (with_reducible exact LeO.none _)
      | (with_reducible refine LeO.ite ?_ ?_)
      | (with_reducible refine LeO.bind ?_ (fun _ => ?_))
      | exact ih0 _ _ _ _
      | exact instr_fits.mono _ _ _ _ _ _ _ _ _ _
      | exact LeO.none _
      | refine LeO.ite ?_ ?_
      | refine LeO.bind ?_ (fun _ => ?_)
theorem instr_Check.mono : ∀ a0 k, LeO (instr_Check.f k a0) (instr_Check.f (k + 1) a0) := by
  intro a0 k
  have ih0 := instr_Check.mono_l k
  unfold instr_Check.f
  repeat' first
      | (with_reducible exact ih0 _ _ _ _)
      | (with_reducible exact instr_fits.mono _ _ _ _ _ _ _ _ _ _)
      | (with_reducible exact LeO.refl _)
      | (with_reducible exact LeO.none _)
      | (with_reducible refine LeO.ite ?_ ?_)
      | (with_reducible refine LeO.bind ?_ (fun _ => ?_))
      | exact ih0 _ _ _ _
      | exact instr_fits.mono _ _ _ _ _ _ _ _ _ _
      | exact LeO.none _
      | refine LeO.ite ?_ ?_
      | refine LeO.bind ?_ (fun _ => ?_)
set_option maxHeartbeats 8000000 in
set_option maxRecDepth 100000 in
theorem instr_Check.calls (k : Nat) (A0 : Option Addr) (c0 : Nat) (l0 : List (S52)) (r1 : Int) (r2 : Int) (w : World) (hr0 : Kd.C k52 w A0 l0.length l0) (hc0 : l0.length ≤ c0) (h : instr_Check.f k l0 = some (r1, r2)) (hU : UsesOk w) :
    Calls Tryd.prog 44 #[.slice A0 l0.length c0] w fun e w' => e = .returned (.tuple #[.int .i64 r1, .int .i64 r2]) ∧ Below w.heap.size w w' := by
  have hu52 := Tryd.underlying52
  have HR0 := Aside0.mk hr0
  have HC0 := Aside0.mk hc0
  clear hr0 hc0
  have HB := Aside0.mk (Below.refl w.heap.size w)
  have H : (if (l0.length : Int) > 8192 then (some (0, 2)) else (if (l0.length : Int) = 0 then (some (0, 3)) else (instr_Check.l0 k l0 l0 (l0.length : Int) 0))) = some (r1, r2) := h
  clear h
  by_cases c2 : (l0.length : Int) > 8192
  · rw [if_pos c2] at H
    have c2b0 : decide (8192 < (l0.length : Int)) = true := decide_eq_true c2
    have c2b1 : decide (8192 < l0.length) = true := decide_eq_true (by omega)
    clear c2
    simp only [Option.some.injEq, Prod.mk.injEq] at H
    obtain ⟨rfl, rfl⟩ := H
    go_enter Tryd.func44, Tryd.ntmps44
    go_wp2
    go_ret2
    exact ⟨by first | rfl | (simp [errW_none, errW_some] <;> rfl) | (simp [*, errW_none, errW_some] <;> rfl), by repeat (first | (with_reducible first | exact HB.out | apply below_alloc | apply pw_below_drewN | apply below_drew1) | exact HB.out)⟩
  · rw [if_neg c2] at H
    have c2b0 : decide (8192 < (l0.length : Int)) = false := decide_eq_false c2
    have c2b1 : decide (8192 < l0.length) = false := decide_eq_false (by omega)
    clear c2
    by_cases c3 : (l0.length : Int) = 0
    · rw [if_pos c3] at H
      have c3b0 : ((l0.length : Int) == 0) = true := beq_iff_eq.mpr c3
      have c3b1 : ((l0.length : Int) != 0) = false := bne_eq_false_iff_eq.mpr c3
      clear c3
      simp only [Option.some.injEq, Prod.mk.injEq] at H
      obtain ⟨rfl, rfl⟩ := H
      go_enter Tryd.func44, Tryd.ntmps44
      go_wp2
      go_ret2
      exact ⟨by first | rfl | (simp [errW_none, errW_some] <;> rfl) | (simp [*, errW_none, errW_some] <;> rfl), by repeat (first | (with_reducible first | exact HB.out | apply below_alloc | apply pw_below_drewN | apply below_drew1) | exact HB.out)⟩
    · rw [if_neg c3] at H
      have c3b0 : ((l0.length : Int) == 0) = false := beq_eq_false_iff_ne.mpr c3
      have c3b1 : ((l0.length : Int) != 0) = true := bne_iff_ne.mpr c3
      have c3b2 : ¬ (l0 = []) := fun h_ => c3 (by rw [h_]; rfl)
      have H' := Aside0.mk H
      clear H
      go_enter Tryd.func44, Tryd.ntmps44
      go_wp2
      go_loopg [15] k (fun kq v15 w' => ∃ (x15_1 : Int), v15 = .int .i64 x15_1 ∧ Aside0 (instr_Check.l0 kq l0 l0 (l0.length : Int) x15_1 = some (r1, r2)) ∧ Aside0 (kq ≤ k) ∧ Aside0 (Below w.heap.size w w'))
      case atStart => exact ⟨(0), (by first | rfl | (simp; done) | (simp [*]; done)), H', ⟨Nat.le_refl _⟩, ⟨by repeat (first | (with_reducible first | exact HB.out | apply below_alloc | apply pw_below_drewN | apply below_drew1) | exact HB.out)⟩⟩
      case round =>
        clear H'
        try clear c2
        try clear c2b0
        try clear c2b1
        try clear p2
        try clear c3
        try clear c3b0
        try clear c3b1
        try clear c3b2
        obtain ⟨x15_1, rfl, HA, HK1, HB⟩ := hrel
        cases gk with
        | zero => exact absurd HA.out (by simp [instr_Check.l0])
        | succ k1 =>
          have H := HA.out
          clear HA
          simp only [instr_Check.l0] at H
          by_cases c4 : x15_1 < (l0.length : Int)
          · rw [if_pos c4] at H
            have c4b0 : decide (x15_1 < (l0.length : Int)) = true := decide_eq_true c4
            clear c4
            by_cases c5 : 0 ≤ x15_1
            · rw [if_pos c5] at H
              have c5b0 : decide (0 ≤ x15_1) = true := decide_eq_true c5
              clear c5
              by_cases c6 : x15_1 < (l0.length : Int)
              · rw [if_pos c6] at H
                have c6b0 : decide (x15_1 < (l0.length : Int)) = true := decide_eq_true c6
                clear c6
                replace H := Option.bind_eq_some_iff.mp H
                obtain ⟨t154, A70, H⟩ := H
                replace H : (if t154 = true then ((instr_fits.f k1 ((rd_T52 l0 x15_1).f0) ((rd_T52 l0 x15_1).f1) ((rd_T52 l0 x15_1).f2) ((rd_T52 l0 x15_1).f3) ((rd_T52 l0 x15_1).f4) ((rd_T52 l0 x15_1).f5.f0) ((rd_T52 l0 x15_1).f5.f1) ((rd_T52 l0 x15_1).f5.f2) ((rd_T52 l0 x15_1).f5.f3)).bind fun t155 => (if t155 = true then ((instr_has.f ((rd_T52 l0 x15_1).f0) 32).bind fun t156 => (if t156 = true then (if ((rd_T52 l0 x15_1).f1) < (wrap64 (-x15_1)) then (some (x15_1, 162)) else (if ((rd_T52 l0 x15_1).f1) ≥ (wrap64 ((l0.length : Int) - x15_1)) then (some (x15_1, 162)) else (instr_Check.l0 k1 l0 l0 (l0.length : Int) (wrap64 (x15_1 + 1))))) else (instr_Check.l0 k1 l0 l0 (l0.length : Int) (wrap64 (x15_1 + 1))))) else (some (x15_1, 161)))) else (some (x15_1, 160))) = some (r1, r2) := H
                have A7 := Aside0.mk A70
                clear A70
                by_cases c8 : t154 = true
                · subst c8
                  have H1 : ((instr_fits.f k1 ((rd_T52 l0 x15_1).f0) ((rd_T52 l0 x15_1).f1) ((rd_T52 l0 x15_1).f2) ((rd_T52 l0 x15_1).f3) ((rd_T52 l0 x15_1).f4) ((rd_T52 l0 x15_1).f5.f0) ((rd_T52 l0 x15_1).f5.f1) ((rd_T52 l0 x15_1).f5.f2) ((rd_T52 l0 x15_1).f5.f3)).bind fun t155 => (if t155 = true then ((instr_has.f ((rd_T52 l0 x15_1).f0) 32).bind fun t156 => (if t156 = true then (if ((rd_T52 l0 x15_1).f1) < (wrap64 (-x15_1)) then (some (x15_1, 162)) else (if ((rd_T52 l0 x15_1).f1) ≥ (wrap64 ((l0.length : Int) - x15_1)) then (some (x15_1, 162)) else (instr_Check.l0 k1 l0 l0 (l0.length : Int) (wrap64 (x15_1 + 1))))) else (instr_Check.l0 k1 l0 l0 (l0.length : Int) (wrap64 (x15_1 + 1))))) else (some (x15_1, 161)))) = some (r1, r2) := by rw [if_pos rfl] at H; exact H
                  clear H
                  have H := H1
                  clear H1
                  replace H := Option.bind_eq_some_iff.mp H
                  obtain ⟨t155, A90, H⟩ := H
                  replace H : (if t155 = true then ((instr_has.f ((rd_T52 l0 x15_1).f0) 32).bind fun t156 => (if t156 = true then (if ((rd_T52 l0 x15_1).f1) < (wrap64 (-x15_1)) then (some (x15_1, 162)) else (if ((rd_T52 l0 x15_1).f1) ≥ (wrap64 ((l0.length : Int) - x15_1)) then (some (x15_1, 162)) else (instr_Check.l0 k1 l0 l0 (l0.length : Int) (wrap64 (x15_1 + 1))))) else (instr_Check.l0 k1 l0 l0 (l0.length : Int) (wrap64 (x15_1 + 1))))) else (some (x15_1, 161))) = some (r1, r2) := H
                  have A9 := Aside0.mk A90
                  clear A90
                  by_cases c10 : t155 = true
                  · subst c10
                    have H1 : ((instr_has.f ((rd_T52 l0 x15_1).f0) 32).bind fun t156 => (if t156 = true then (if ((rd_T52 l0 x15_1).f1) < (wrap64 (-x15_1)) then (some (x15_1, 162)) else (if ((rd_T52 l0 x15_1).f1) ≥ (wrap64 ((l0.length : Int) - x15_1)) then (some (x15_1, 162)) else (instr_Check.l0 k1 l0 l0 (l0.length : Int) (wrap64 (x15_1 + 1))))) else (instr_Check.l0 k1 l0 l0 (l0.length : Int) (wrap64 (x15_1 + 1))))) = some (r1, r2) := by rw [if_pos rfl] at H; exact H
                    clear H
                    have H := H1
                    clear H1
                    replace H := Option.bind_eq_some_iff.mp H
                    obtain ⟨t156, A110, H⟩ := H
                    replace H : (if t156 = true then (if ((rd_T52 l0 x15_1).f1) < (wrap64 (-x15_1)) then (some (x15_1, 162)) else (if ((rd_T52 l0 x15_1).f1) ≥ (wrap64 ((l0.length : Int) - x15_1)) then (some (x15_1, 162)) else (instr_Check.l0 k1 l0 l0 (l0.length : Int) (wrap64 (x15_1 + 1))))) else (instr_Check.l0 k1 l0 l0 (l0.length : Int) (wrap64 (x15_1 + 1)))) = some (r1, r2) := H
                    have A11 := Aside0.mk A110
                    clear A110
                    by_cases c12 : t156 = true
                    · subst c12
                      have H1 : (if ((rd_T52 l0 x15_1).f1) < (wrap64 (-x15_1)) then (some (x15_1, 162)) else (if ((rd_T52 l0 x15_1).f1) ≥ (wrap64 ((l0.length : Int) - x15_1)) then (some (x15_1, 162)) else (instr_Check.l0 k1 l0 l0 (l0.length : Int) (wrap64 (x15_1 + 1))))) = some (r1, r2) := by rw [if_pos rfl] at H; exact H
                      clear H
                      have H := H1
                      clear H1
                      by_cases c13 : ((rd_T52 l0 x15_1).f1) < (wrap64 (-x15_1))
                      · rw [if_pos c13] at H
                        have c13b0 : decide (((rd_T52 l0 x15_1).f1) < (wrap64 (-x15_1))) = true := decide_eq_true c13
                        clear c13
                        simp only [Option.some.injEq, Prod.mk.injEq] at H
                        obtain ⟨rfl, rfl⟩ := H
                        have p152 : 0 ≤ (x15_1 : Int) := of_decide_eq_true (by first | (with_reducible assumption) | assumption)
                        have q152 : x15_1 < (l0.length : Int) := of_decide_eq_true (by first | (with_reducible assumption) | assumption)
                        obtain ⟨ad152, e152, hx152_0, hx152_1, hx152_2, hx152_3, hx152_4, hx152_5, hx152_6, hx152_7, hx152_8⟩ := at_T52 HR0.out x15_1 p152 q152
                        cases e152
                        replace hx152_0 := (HB.out.cell (World.block_lt_of_cell? w _ hx152_0)).trans hx152_0
                        replace hx152_1 := (HB.out.cell (World.block_lt_of_cell? w _ hx152_1)).trans hx152_1
                        replace hx152_2 := (HB.out.cell (World.block_lt_of_cell? w _ hx152_2)).trans hx152_2
                        replace hx152_3 := (HB.out.cell (World.block_lt_of_cell? w _ hx152_3)).trans hx152_3
                        replace hx152_4 := (HB.out.cell (World.block_lt_of_cell? w _ hx152_4)).trans hx152_4
                        replace hx152_5 := (HB.out.cell (World.block_lt_of_cell? w _ hx152_5)).trans hx152_5
                        replace hx152_6 := (HB.out.cell (World.block_lt_of_cell? w _ hx152_6)).trans hx152_6
                        replace hx152_7 := (HB.out.cell (World.block_lt_of_cell? w _ hx152_7)).trans hx152_7
                        replace hx152_8 := (HB.out.cell (World.block_lt_of_cell? w _ hx152_8)).trans hx152_8
                        replace p152 := eq_true p152
                        replace q152 := eq_true q152
                        go_wp2_with (first | ((with_reducible refine gate_dst (N := 5) rfl ?_); (try (refine gate_guard (by rfl) ?_; dsimp only)); refine box_event ?hg (N := 5) ?hd (cs := #[.int .i64 0, .int .i64 0, .int .i64 0, .int .i64 0, .string (⟨#[]⟩ : ByteArray), .int .u64 0, .int .u64 0, .int .u64 0, .int .u64 0]) (t := 52) ?hr ?_; (case hd => rfl); (case hg => rfl); (case hr => first | (go_simp; done) | (go_simp; rfl)); intro gb153 hg w14 hbox hb; have n0_ := Aside0.mk (below_step (by repeat (first | (with_reducible first | exact HB.out | apply below_alloc | apply pw_below_drewN | apply below_drew1) | exact HB.out)) hb); have n1_ := Aside0.mk (hbox); have n2_ := Aside0.mk ((by rw [hg]; exact (below_size (by repeat (first | (with_reducible first | exact HB.out | apply below_alloc | apply pw_below_drewN | apply below_drew1) | exact HB.out))) : w.heap.size ≤ gb153)); have n3_ := Aside0.mk ((by rw [hg]; exact (below_size (by repeat (first | (with_reducible first | exact HB.out | apply below_alloc | apply pw_below_drewN | apply below_drew1) | exact HB.out))) : w.heap.size ≤ gb153)); clear HB; have HB := n0_; have BK153 := n1_; have GW153 := n2_; have GE153 := n3_; clear n0_ n1_ n2_ n3_; clear hb hbox hg; have hcz15_0 : w14.cell? ⟨gb153, 0, none⟩ = some (.int .i64 0) := (blk_cell BK153.out 0).trans rfl; have hcz15_1 : w14.cell? ⟨gb153, 1, none⟩ = some (.int .i64 0) := (blk_cell BK153.out 1).trans rfl; have hcz15_2 : w14.cell? ⟨gb153, 2, none⟩ = some (.int .i64 0) := (blk_cell BK153.out 2).trans rfl; have hcz15_3 : w14.cell? ⟨gb153, 3, none⟩ = some (.int .i64 0) := (blk_cell BK153.out 3).trans rfl; have hcz15_4 : w14.cell? ⟨gb153, 4, none⟩ = some (.string (⟨#[]⟩ : ByteArray)) := (blk_cell BK153.out 4).trans rfl; have hcz15_5 : w14.cell? ⟨gb153, 5, none⟩ = some (.int .u64 0) := (blk_cell BK153.out 5).trans rfl; have hcz15_6 : w14.cell? ⟨gb153, 6, none⟩ = some (.int .u64 0) := (blk_cell BK153.out 6).trans rfl; have hcz15_7 : w14.cell? ⟨gb153, 7, none⟩ = some (.int .u64 0) := (blk_cell BK153.out 7).trans rfl; have hcz15_8 : w14.cell? ⟨gb153, 8, none⟩ = some (.int .u64 0) := (blk_cell BK153.out 8).trans rfl; have hfz15_0 := blk_frozen BK153.out 0; have hfz15_1 := blk_frozen BK153.out 1; have hfz15_2 := blk_frozen BK153.out 2; have hfz15_3 := blk_frozen BK153.out 3; have hfz15_4 := blk_frozen BK153.out 4; have hfz15_5 := blk_frozen BK153.out 5; have hfz15_6 := blk_frozen BK153.out 6; have hfz15_7 := blk_frozen BK153.out 7; have hfz15_8 := blk_frozen BK153.out 8) | ((with_reducible refine gate_callee (f := 55) rfl ?_); refine goesL_ (some 23) rfl rfl Tryd.func55 (by kernel_rfl) rfl #[.int .i64 ((rd_T52 l0 x15_1).f0)] rfl (by (try simp only [List.map_toArray, List.map_cons, List.map_nil]); first | done | rfl | (simp only [List.length_drop, List.length_take]; rfl)) ?_; (with_reducible refine (instr_is.calls ((rd_T52 l0 x15_1).f0) true _ A7.out).mono ?_); rintro e w' ⟨rfl, ⟨nd, rfl⟩⟩; refine ⟨_, rfl, ?_⟩) | ((with_reducible refine gate_callee (f := 56) rfl ?_); refine goesL_ (some 28) rfl rfl Tryd.func56 (by kernel_rfl) rfl #[.agg #[.int .i64 ((rd_T52 l0 x15_1).f0), .int .i64 ((rd_T52 l0 x15_1).f1), .int .i64 ((rd_T52 l0 x15_1).f2), .int .i64 ((rd_T52 l0 x15_1).f3), .string ((rd_T52 l0 x15_1).f4), .int .u64 ((rd_T52 l0 x15_1).f5.f0), .int .u64 ((rd_T52 l0 x15_1).f5.f1), .int .u64 ((rd_T52 l0 x15_1).f5.f2), .int .u64 ((rd_T52 l0 x15_1).f5.f3)]] rfl (by (try simp only [List.map_toArray, List.map_cons, List.map_nil]); first | done | rfl | (simp only [List.length_drop, List.length_take]; rfl)) ?_; (with_reducible refine (instr_fits.calls k1 ((rd_T52 l0 x15_1).f0) ((rd_T52 l0 x15_1).f1) ((rd_T52 l0 x15_1).f2) ((rd_T52 l0 x15_1).f3) ((rd_T52 l0 x15_1).f4) ((rd_T52 l0 x15_1).f5.f0) ((rd_T52 l0 x15_1).f5.f1) ((rd_T52 l0 x15_1).f5.f2) ((rd_T52 l0 x15_1).f5.f3) true _ A9.out (UsesOk.below hU (by repeat (first | (with_reducible first | exact HB.out | apply below_alloc | apply pw_below_drewN | apply below_drew1 | refine below_set ?_ GE153.out) | exact HB.out)))).mono ?_); rintro e w16 ⟨rfl, hb⟩; refine ⟨_, rfl, ?_⟩; have n0_ := Aside0.mk (blk_below (g := gb153) (o := .cells #[.int .i64 ((rd_T52 l0 x15_1).f0), .int .i64 ((rd_T52 l0 x15_1).f1), .int .i64 ((rd_T52 l0 x15_1).f2), .int .i64 ((rd_T52 l0 x15_1).f3), .string ((rd_T52 l0 x15_1).f4), .int .u64 ((rd_T52 l0 x15_1).f5.f0), .int .u64 ((rd_T52 l0 x15_1).f5.f1), .int .u64 ((rd_T52 l0 x15_1).f5.f2), .int .u64 ((rd_T52 l0 x15_1).f5.f3)] 52 (0, 0)) (by (with_reducible repeat (first | refine blk_drewN ?_ _ | refine blk_drew ?_ | refine blk_alloc ?_ _)); refine blk_put (cs := #[.int .i64 ((rd_T52 l0 x15_1).f0), .int .i64 ((rd_T52 l0 x15_1).f1), .int .i64 ((rd_T52 l0 x15_1).f2), .int .i64 ((rd_T52 l0 x15_1).f3), .string ((rd_T52 l0 x15_1).f4), .int .u64 ((rd_T52 l0 x15_1).f5.f0), .int .u64 ((rd_T52 l0 x15_1).f5.f1), .int .u64 ((rd_T52 l0 x15_1).f5.f2), .int .u64 0]) ?_ 8 _ rfl; (with_reducible repeat (first | refine blk_drewN ?_ _ | refine blk_drew ?_ | refine blk_alloc ?_ _)); refine blk_put (cs := #[.int .i64 ((rd_T52 l0 x15_1).f0), .int .i64 ((rd_T52 l0 x15_1).f1), .int .i64 ((rd_T52 l0 x15_1).f2), .int .i64 ((rd_T52 l0 x15_1).f3), .string ((rd_T52 l0 x15_1).f4), .int .u64 ((rd_T52 l0 x15_1).f5.f0), .int .u64 ((rd_T52 l0 x15_1).f5.f1), .int .u64 0, .int .u64 0]) ?_ 7 _ rfl; (with_reducible repeat (first | refine blk_drewN ?_ _ | refine blk_drew ?_ | refine blk_alloc ?_ _)); refine blk_put (cs := #[.int .i64 ((rd_T52 l0 x15_1).f0), .int .i64 ((rd_T52 l0 x15_1).f1), .int .i64 ((rd_T52 l0 x15_1).f2), .int .i64 ((rd_T52 l0 x15_1).f3), .string ((rd_T52 l0 x15_1).f4), .int .u64 ((rd_T52 l0 x15_1).f5.f0), .int .u64 0, .int .u64 0, .int .u64 0]) ?_ 6 _ rfl; (with_reducible repeat (first | refine blk_drewN ?_ _ | refine blk_drew ?_ | refine blk_alloc ?_ _)); refine blk_put (cs := #[.int .i64 ((rd_T52 l0 x15_1).f0), .int .i64 ((rd_T52 l0 x15_1).f1), .int .i64 ((rd_T52 l0 x15_1).f2), .int .i64 ((rd_T52 l0 x15_1).f3), .string ((rd_T52 l0 x15_1).f4), .int .u64 0, .int .u64 0, .int .u64 0, .int .u64 0]) ?_ 5 _ rfl; (with_reducible repeat (first | refine blk_drewN ?_ _ | refine blk_drew ?_ | refine blk_alloc ?_ _)); refine blk_put (cs := #[.int .i64 ((rd_T52 l0 x15_1).f0), .int .i64 ((rd_T52 l0 x15_1).f1), .int .i64 ((rd_T52 l0 x15_1).f2), .int .i64 ((rd_T52 l0 x15_1).f3), .string (⟨#[]⟩ : ByteArray), .int .u64 0, .int .u64 0, .int .u64 0, .int .u64 0]) ?_ 4 _ rfl; (with_reducible repeat (first | refine blk_drewN ?_ _ | refine blk_drew ?_ | refine blk_alloc ?_ _)); refine blk_put (cs := #[.int .i64 ((rd_T52 l0 x15_1).f0), .int .i64 ((rd_T52 l0 x15_1).f1), .int .i64 ((rd_T52 l0 x15_1).f2), .int .i64 0, .string (⟨#[]⟩ : ByteArray), .int .u64 0, .int .u64 0, .int .u64 0, .int .u64 0]) ?_ 3 _ rfl; (with_reducible repeat (first | refine blk_drewN ?_ _ | refine blk_drew ?_ | refine blk_alloc ?_ _)); refine blk_put (cs := #[.int .i64 ((rd_T52 l0 x15_1).f0), .int .i64 ((rd_T52 l0 x15_1).f1), .int .i64 0, .int .i64 0, .string (⟨#[]⟩ : ByteArray), .int .u64 0, .int .u64 0, .int .u64 0, .int .u64 0]) ?_ 2 _ rfl; (with_reducible repeat (first | refine blk_drewN ?_ _ | refine blk_drew ?_ | refine blk_alloc ?_ _)); refine blk_put (cs := #[.int .i64 ((rd_T52 l0 x15_1).f0), .int .i64 0, .int .i64 0, .int .i64 0, .string (⟨#[]⟩ : ByteArray), .int .u64 0, .int .u64 0, .int .u64 0, .int .u64 0]) ?_ 1 _ rfl; (with_reducible repeat (first | refine blk_drewN ?_ _ | refine blk_drew ?_ | refine blk_alloc ?_ _)); refine blk_put (cs := #[.int .i64 0, .int .i64 0, .int .i64 0, .int .i64 0, .string (⟨#[]⟩ : ByteArray), .int .u64 0, .int .u64 0, .int .u64 0, .int .u64 0]) ?_ 0 _ rfl; (with_reducible repeat (first | refine blk_drewN ?_ _ | refine blk_drew ?_ | refine blk_alloc ?_ _)); exact BK153.out) hb); have n1_ := Aside0.mk (below_step (by repeat (first | (with_reducible first | exact HB.out | apply below_alloc | apply pw_below_drewN | apply below_drew1 | refine below_set ?_ GE153.out) | exact HB.out)) hb); clear BK153; clear HB; have BK153 := n0_; have HB := n1_; clear n0_ n1_; (try clear hb); (try clear hb2); (try clear hk); (try clear hi); have hcz17_0 : w16.cell? ⟨gb153, 0, none⟩ = some (.int .i64 ((rd_T52 l0 x15_1).f0)) := (blk_cell BK153.out 0).trans rfl; have hcz17_1 : w16.cell? ⟨gb153, 1, none⟩ = some (.int .i64 ((rd_T52 l0 x15_1).f1)) := (blk_cell BK153.out 1).trans rfl; have hcz17_2 : w16.cell? ⟨gb153, 2, none⟩ = some (.int .i64 ((rd_T52 l0 x15_1).f2)) := (blk_cell BK153.out 2).trans rfl; have hcz17_3 : w16.cell? ⟨gb153, 3, none⟩ = some (.int .i64 ((rd_T52 l0 x15_1).f3)) := (blk_cell BK153.out 3).trans rfl; have hcz17_4 : w16.cell? ⟨gb153, 4, none⟩ = some (.string ((rd_T52 l0 x15_1).f4)) := (blk_cell BK153.out 4).trans rfl; have hcz17_5 : w16.cell? ⟨gb153, 5, none⟩ = some (.int .u64 ((rd_T52 l0 x15_1).f5.f0)) := (blk_cell BK153.out 5).trans rfl; have hcz17_6 : w16.cell? ⟨gb153, 6, none⟩ = some (.int .u64 ((rd_T52 l0 x15_1).f5.f1)) := (blk_cell BK153.out 6).trans rfl; have hcz17_7 : w16.cell? ⟨gb153, 7, none⟩ = some (.int .u64 ((rd_T52 l0 x15_1).f5.f2)) := (blk_cell BK153.out 7).trans rfl; have hcz17_8 : w16.cell? ⟨gb153, 8, none⟩ = some (.int .u64 ((rd_T52 l0 x15_1).f5.f3)) := (blk_cell BK153.out 8).trans rfl; have hfz17_0 := blk_frozen BK153.out 0; have hfz17_1 := blk_frozen BK153.out 1; have hfz17_2 := blk_frozen BK153.out 2; have hfz17_3 := blk_frozen BK153.out 3; have hfz17_4 := blk_frozen BK153.out 4; have hfz17_5 := blk_frozen BK153.out 5; have hfz17_6 := blk_frozen BK153.out 6; have hfz17_7 := blk_frozen BK153.out 7; have hfz17_8 := blk_frozen BK153.out 8) | ((with_reducible refine gate_callee (f := 57) rfl ?_); refine goesL_ (some 34) rfl rfl Tryd.func57 (by kernel_rfl) rfl #[.int .i64 ((rd_T52 l0 x15_1).f0), .int .i64 32] rfl (by (try simp only [List.map_toArray, List.map_cons, List.map_nil]); first | done | rfl | (simp only [List.length_drop, List.length_take]; rfl)) ?_; (with_reducible refine (instr_has.calls ((rd_T52 l0 x15_1).f0) 32 true _ A11.out (UsesOk.below hU (by repeat (first | (with_reducible first | exact HB.out | apply below_alloc | apply pw_below_drewN | apply below_drew1) | exact HB.out)))).mono ?_); rintro e w' ⟨rfl, ⟨nd, rfl⟩⟩; refine ⟨_, rfl, ?_⟩))
                        go_ret2
                        exact ⟨by first | rfl | (simp [errW_none, errW_some] <;> rfl) | (simp [*, errW_none, errW_some] <;> rfl), by repeat (first | (with_reducible first | exact HB.out | apply below_alloc | apply pw_below_drewN | apply below_drew1 | refine below_set ?_ GE153.out) | exact HB.out)⟩
                      · rw [if_neg c13] at H
                        have c13b0 : decide (((rd_T52 l0 x15_1).f1) < (wrap64 (-x15_1))) = false := decide_eq_false c13
                        clear c13
                        by_cases c18 : ((rd_T52 l0 x15_1).f1) ≥ (wrap64 ((l0.length : Int) - x15_1))
                        · rw [if_pos c18] at H
                          have c18b0 : decide ((wrap64 ((l0.length : Int) - x15_1)) ≤ ((rd_T52 l0 x15_1).f1)) = true := decide_eq_true c18
                          clear c18
                          simp only [Option.some.injEq, Prod.mk.injEq] at H
                          obtain ⟨rfl, rfl⟩ := H
                          have p152 : 0 ≤ (x15_1 : Int) := of_decide_eq_true (by first | (with_reducible assumption) | assumption)
                          have q152 : x15_1 < (l0.length : Int) := of_decide_eq_true (by first | (with_reducible assumption) | assumption)
                          obtain ⟨ad152, e152, hx152_0, hx152_1, hx152_2, hx152_3, hx152_4, hx152_5, hx152_6, hx152_7, hx152_8⟩ := at_T52 HR0.out x15_1 p152 q152
                          cases e152
                          replace hx152_0 := (HB.out.cell (World.block_lt_of_cell? w _ hx152_0)).trans hx152_0
                          replace hx152_1 := (HB.out.cell (World.block_lt_of_cell? w _ hx152_1)).trans hx152_1
                          replace hx152_2 := (HB.out.cell (World.block_lt_of_cell? w _ hx152_2)).trans hx152_2
                          replace hx152_3 := (HB.out.cell (World.block_lt_of_cell? w _ hx152_3)).trans hx152_3
                          replace hx152_4 := (HB.out.cell (World.block_lt_of_cell? w _ hx152_4)).trans hx152_4
                          replace hx152_5 := (HB.out.cell (World.block_lt_of_cell? w _ hx152_5)).trans hx152_5
                          replace hx152_6 := (HB.out.cell (World.block_lt_of_cell? w _ hx152_6)).trans hx152_6
                          replace hx152_7 := (HB.out.cell (World.block_lt_of_cell? w _ hx152_7)).trans hx152_7
                          replace hx152_8 := (HB.out.cell (World.block_lt_of_cell? w _ hx152_8)).trans hx152_8
                          replace p152 := eq_true p152
                          replace q152 := eq_true q152
                          go_wp2_with (first | ((with_reducible refine gate_dst (N := 5) rfl ?_); (try (refine gate_guard (by rfl) ?_; dsimp only)); refine box_event ?hg (N := 5) ?hd (cs := #[.int .i64 0, .int .i64 0, .int .i64 0, .int .i64 0, .string (⟨#[]⟩ : ByteArray), .int .u64 0, .int .u64 0, .int .u64 0, .int .u64 0]) (t := 52) ?hr ?_; (case hd => rfl); (case hg => rfl); (case hr => first | (go_simp; done) | (go_simp; rfl)); intro gb153 hg w19 hbox hb; have n0_ := Aside0.mk (below_step (by repeat (first | (with_reducible first | exact HB.out | apply below_alloc | apply pw_below_drewN | apply below_drew1) | exact HB.out)) hb); have n1_ := Aside0.mk (hbox); have n2_ := Aside0.mk ((by rw [hg]; exact (below_size (by repeat (first | (with_reducible first | exact HB.out | apply below_alloc | apply pw_below_drewN | apply below_drew1) | exact HB.out))) : w.heap.size ≤ gb153)); have n3_ := Aside0.mk ((by rw [hg]; exact (below_size (by repeat (first | (with_reducible first | exact HB.out | apply below_alloc | apply pw_below_drewN | apply below_drew1) | exact HB.out))) : w.heap.size ≤ gb153)); clear HB; have HB := n0_; have BK153 := n1_; have GW153 := n2_; have GE153 := n3_; clear n0_ n1_ n2_ n3_; clear hb hbox hg; have hcz20_0 : w19.cell? ⟨gb153, 0, none⟩ = some (.int .i64 0) := (blk_cell BK153.out 0).trans rfl; have hcz20_1 : w19.cell? ⟨gb153, 1, none⟩ = some (.int .i64 0) := (blk_cell BK153.out 1).trans rfl; have hcz20_2 : w19.cell? ⟨gb153, 2, none⟩ = some (.int .i64 0) := (blk_cell BK153.out 2).trans rfl; have hcz20_3 : w19.cell? ⟨gb153, 3, none⟩ = some (.int .i64 0) := (blk_cell BK153.out 3).trans rfl; have hcz20_4 : w19.cell? ⟨gb153, 4, none⟩ = some (.string (⟨#[]⟩ : ByteArray)) := (blk_cell BK153.out 4).trans rfl; have hcz20_5 : w19.cell? ⟨gb153, 5, none⟩ = some (.int .u64 0) := (blk_cell BK153.out 5).trans rfl; have hcz20_6 : w19.cell? ⟨gb153, 6, none⟩ = some (.int .u64 0) := (blk_cell BK153.out 6).trans rfl; have hcz20_7 : w19.cell? ⟨gb153, 7, none⟩ = some (.int .u64 0) := (blk_cell BK153.out 7).trans rfl; have hcz20_8 : w19.cell? ⟨gb153, 8, none⟩ = some (.int .u64 0) := (blk_cell BK153.out 8).trans rfl; have hfz20_0 := blk_frozen BK153.out 0; have hfz20_1 := blk_frozen BK153.out 1; have hfz20_2 := blk_frozen BK153.out 2; have hfz20_3 := blk_frozen BK153.out 3; have hfz20_4 := blk_frozen BK153.out 4; have hfz20_5 := blk_frozen BK153.out 5; have hfz20_6 := blk_frozen BK153.out 6; have hfz20_7 := blk_frozen BK153.out 7; have hfz20_8 := blk_frozen BK153.out 8) | ((with_reducible refine gate_callee (f := 55) rfl ?_); refine goesL_ (some 23) rfl rfl Tryd.func55 (by kernel_rfl) rfl #[.int .i64 ((rd_T52 l0 x15_1).f0)] rfl (by (try simp only [List.map_toArray, List.map_cons, List.map_nil]); first | done | rfl | (simp only [List.length_drop, List.length_take]; rfl)) ?_; (with_reducible refine (instr_is.calls ((rd_T52 l0 x15_1).f0) true _ A7.out).mono ?_); rintro e w' ⟨rfl, ⟨nd, rfl⟩⟩; refine ⟨_, rfl, ?_⟩) | ((with_reducible refine gate_callee (f := 56) rfl ?_); refine goesL_ (some 28) rfl rfl Tryd.func56 (by kernel_rfl) rfl #[.agg #[.int .i64 ((rd_T52 l0 x15_1).f0), .int .i64 ((rd_T52 l0 x15_1).f1), .int .i64 ((rd_T52 l0 x15_1).f2), .int .i64 ((rd_T52 l0 x15_1).f3), .string ((rd_T52 l0 x15_1).f4), .int .u64 ((rd_T52 l0 x15_1).f5.f0), .int .u64 ((rd_T52 l0 x15_1).f5.f1), .int .u64 ((rd_T52 l0 x15_1).f5.f2), .int .u64 ((rd_T52 l0 x15_1).f5.f3)]] rfl (by (try simp only [List.map_toArray, List.map_cons, List.map_nil]); first | done | rfl | (simp only [List.length_drop, List.length_take]; rfl)) ?_; (with_reducible refine (instr_fits.calls k1 ((rd_T52 l0 x15_1).f0) ((rd_T52 l0 x15_1).f1) ((rd_T52 l0 x15_1).f2) ((rd_T52 l0 x15_1).f3) ((rd_T52 l0 x15_1).f4) ((rd_T52 l0 x15_1).f5.f0) ((rd_T52 l0 x15_1).f5.f1) ((rd_T52 l0 x15_1).f5.f2) ((rd_T52 l0 x15_1).f5.f3) true _ A9.out (UsesOk.below hU (by repeat (first | (with_reducible first | exact HB.out | apply below_alloc | apply pw_below_drewN | apply below_drew1 | refine below_set ?_ GE153.out) | exact HB.out)))).mono ?_); rintro e w21 ⟨rfl, hb⟩; refine ⟨_, rfl, ?_⟩; have n0_ := Aside0.mk (blk_below (g := gb153) (o := .cells #[.int .i64 ((rd_T52 l0 x15_1).f0), .int .i64 ((rd_T52 l0 x15_1).f1), .int .i64 ((rd_T52 l0 x15_1).f2), .int .i64 ((rd_T52 l0 x15_1).f3), .string ((rd_T52 l0 x15_1).f4), .int .u64 ((rd_T52 l0 x15_1).f5.f0), .int .u64 ((rd_T52 l0 x15_1).f5.f1), .int .u64 ((rd_T52 l0 x15_1).f5.f2), .int .u64 ((rd_T52 l0 x15_1).f5.f3)] 52 (0, 0)) (by (with_reducible repeat (first | refine blk_drewN ?_ _ | refine blk_drew ?_ | refine blk_alloc ?_ _)); refine blk_put (cs := #[.int .i64 ((rd_T52 l0 x15_1).f0), .int .i64 ((rd_T52 l0 x15_1).f1), .int .i64 ((rd_T52 l0 x15_1).f2), .int .i64 ((rd_T52 l0 x15_1).f3), .string ((rd_T52 l0 x15_1).f4), .int .u64 ((rd_T52 l0 x15_1).f5.f0), .int .u64 ((rd_T52 l0 x15_1).f5.f1), .int .u64 ((rd_T52 l0 x15_1).f5.f2), .int .u64 0]) ?_ 8 _ rfl; (with_reducible repeat (first | refine blk_drewN ?_ _ | refine blk_drew ?_ | refine blk_alloc ?_ _)); refine blk_put (cs := #[.int .i64 ((rd_T52 l0 x15_1).f0), .int .i64 ((rd_T52 l0 x15_1).f1), .int .i64 ((rd_T52 l0 x15_1).f2), .int .i64 ((rd_T52 l0 x15_1).f3), .string ((rd_T52 l0 x15_1).f4), .int .u64 ((rd_T52 l0 x15_1).f5.f0), .int .u64 ((rd_T52 l0 x15_1).f5.f1), .int .u64 0, .int .u64 0]) ?_ 7 _ rfl; (with_reducible repeat (first | refine blk_drewN ?_ _ | refine blk_drew ?_ | refine blk_alloc ?_ _)); refine blk_put (cs := #[.int .i64 ((rd_T52 l0 x15_1).f0), .int .i64 ((rd_T52 l0 x15_1).f1), .int .i64 ((rd_T52 l0 x15_1).f2), .int .i64 ((rd_T52 l0 x15_1).f3), .string ((rd_T52 l0 x15_1).f4), .int .u64 ((rd_T52 l0 x15_1).f5.f0), .int .u64 0, .int .u64 0, .int .u64 0]) ?_ 6 _ rfl; (with_reducible repeat (first | refine blk_drewN ?_ _ | refine blk_drew ?_ | refine blk_alloc ?_ _)); refine blk_put (cs := #[.int .i64 ((rd_T52 l0 x15_1).f0), .int .i64 ((rd_T52 l0 x15_1).f1), .int .i64 ((rd_T52 l0 x15_1).f2), .int .i64 ((rd_T52 l0 x15_1).f3), .string ((rd_T52 l0 x15_1).f4), .int .u64 0, .int .u64 0, .int .u64 0, .int .u64 0]) ?_ 5 _ rfl; (with_reducible repeat (first | refine blk_drewN ?_ _ | refine blk_drew ?_ | refine blk_alloc ?_ _)); refine blk_put (cs := #[.int .i64 ((rd_T52 l0 x15_1).f0), .int .i64 ((rd_T52 l0 x15_1).f1), .int .i64 ((rd_T52 l0 x15_1).f2), .int .i64 ((rd_T52 l0 x15_1).f3), .string (⟨#[]⟩ : ByteArray), .int .u64 0, .int .u64 0, .int .u64 0, .int .u64 0]) ?_ 4 _ rfl; (with_reducible repeat (first | refine blk_drewN ?_ _ | refine blk_drew ?_ | refine blk_alloc ?_ _)); refine blk_put (cs := #[.int .i64 ((rd_T52 l0 x15_1).f0), .int .i64 ((rd_T52 l0 x15_1).f1), .int .i64 ((rd_T52 l0 x15_1).f2), .int .i64 0, .string (⟨#[]⟩ : ByteArray), .int .u64 0, .int .u64 0, .int .u64 0, .int .u64 0]) ?_ 3 _ rfl; (with_reducible repeat (first | refine blk_drewN ?_ _ | refine blk_drew ?_ | refine blk_alloc ?_ _)); refine blk_put (cs := #[.int .i64 ((rd_T52 l0 x15_1).f0), .int .i64 ((rd_T52 l0 x15_1).f1), .int .i64 0, .int .i64 0, .string (⟨#[]⟩ : ByteArray), .int .u64 0, .int .u64 0, .int .u64 0, .int .u64 0]) ?_ 2 _ rfl; (with_reducible repeat (first | refine blk_drewN ?_ _ | refine blk_drew ?_ | refine blk_alloc ?_ _)); refine blk_put (cs := #[.int .i64 ((rd_T52 l0 x15_1).f0), .int .i64 0, .int .i64 0, .int .i64 0, .string (⟨#[]⟩ : ByteArray), .int .u64 0, .int .u64 0, .int .u64 0, .int .u64 0]) ?_ 1 _ rfl; (with_reducible repeat (first | refine blk_drewN ?_ _ | refine blk_drew ?_ | refine blk_alloc ?_ _)); refine blk_put (cs := #[.int .i64 0, .int .i64 0, .int .i64 0, .int .i64 0, .string (⟨#[]⟩ : ByteArray), .int .u64 0, .int .u64 0, .int .u64 0, .int .u64 0]) ?_ 0 _ rfl; (with_reducible repeat (first | refine blk_drewN ?_ _ | refine blk_drew ?_ | refine blk_alloc ?_ _)); exact BK153.out) hb); have n1_ := Aside0.mk (below_step (by repeat (first | (with_reducible first | exact HB.out | apply below_alloc | apply pw_below_drewN | apply below_drew1 | refine below_set ?_ GE153.out) | exact HB.out)) hb); clear BK153; clear HB; have BK153 := n0_; have HB := n1_; clear n0_ n1_; (try clear hb); (try clear hb2); (try clear hk); (try clear hi); have hcz22_0 : w21.cell? ⟨gb153, 0, none⟩ = some (.int .i64 ((rd_T52 l0 x15_1).f0)) := (blk_cell BK153.out 0).trans rfl; have hcz22_1 : w21.cell? ⟨gb153, 1, none⟩ = some (.int .i64 ((rd_T52 l0 x15_1).f1)) := (blk_cell BK153.out 1).trans rfl; have hcz22_2 : w21.cell? ⟨gb153, 2, none⟩ = some (.int .i64 ((rd_T52 l0 x15_1).f2)) := (blk_cell BK153.out 2).trans rfl; have hcz22_3 : w21.cell? ⟨gb153, 3, none⟩ = some (.int .i64 ((rd_T52 l0 x15_1).f3)) := (blk_cell BK153.out 3).trans rfl; have hcz22_4 : w21.cell? ⟨gb153, 4, none⟩ = some (.string ((rd_T52 l0 x15_1).f4)) := (blk_cell BK153.out 4).trans rfl; have hcz22_5 : w21.cell? ⟨gb153, 5, none⟩ = some (.int .u64 ((rd_T52 l0 x15_1).f5.f0)) := (blk_cell BK153.out 5).trans rfl; have hcz22_6 : w21.cell? ⟨gb153, 6, none⟩ = some (.int .u64 ((rd_T52 l0 x15_1).f5.f1)) := (blk_cell BK153.out 6).trans rfl; have hcz22_7 : w21.cell? ⟨gb153, 7, none⟩ = some (.int .u64 ((rd_T52 l0 x15_1).f5.f2)) := (blk_cell BK153.out 7).trans rfl; have hcz22_8 : w21.cell? ⟨gb153, 8, none⟩ = some (.int .u64 ((rd_T52 l0 x15_1).f5.f3)) := (blk_cell BK153.out 8).trans rfl; have hfz22_0 := blk_frozen BK153.out 0; have hfz22_1 := blk_frozen BK153.out 1; have hfz22_2 := blk_frozen BK153.out 2; have hfz22_3 := blk_frozen BK153.out 3; have hfz22_4 := blk_frozen BK153.out 4; have hfz22_5 := blk_frozen BK153.out 5; have hfz22_6 := blk_frozen BK153.out 6; have hfz22_7 := blk_frozen BK153.out 7; have hfz22_8 := blk_frozen BK153.out 8) | ((with_reducible refine gate_callee (f := 57) rfl ?_); refine goesL_ (some 34) rfl rfl Tryd.func57 (by kernel_rfl) rfl #[.int .i64 ((rd_T52 l0 x15_1).f0), .int .i64 32] rfl (by (try simp only [List.map_toArray, List.map_cons, List.map_nil]); first | done | rfl | (simp only [List.length_drop, List.length_take]; rfl)) ?_; (with_reducible refine (instr_has.calls ((rd_T52 l0 x15_1).f0) 32 true _ A11.out (UsesOk.below hU (by repeat (first | (with_reducible first | exact HB.out | apply below_alloc | apply pw_below_drewN | apply below_drew1) | exact HB.out)))).mono ?_); rintro e w' ⟨rfl, ⟨nd, rfl⟩⟩; refine ⟨_, rfl, ?_⟩))
                          go_ret2
                          exact ⟨by first | rfl | (simp [errW_none, errW_some] <;> rfl) | (simp [*, errW_none, errW_some] <;> rfl), by repeat (first | (with_reducible first | exact HB.out | apply below_alloc | apply pw_below_drewN | apply below_drew1 | refine below_set ?_ GE153.out) | exact HB.out)⟩
                        · rw [if_neg c18] at H
                          have c18b0 : decide ((wrap64 ((l0.length : Int) - x15_1)) ≤ ((rd_T52 l0 x15_1).f1)) = false := decide_eq_false c18
                          clear c18
                          have H' := Aside0.mk H
                          clear H
                          have p152 : 0 ≤ (x15_1 : Int) := of_decide_eq_true (by first | (with_reducible assumption) | assumption)
                          have q152 : x15_1 < (l0.length : Int) := of_decide_eq_true (by first | (with_reducible assumption) | assumption)
                          obtain ⟨ad152, e152, hx152_0, hx152_1, hx152_2, hx152_3, hx152_4, hx152_5, hx152_6, hx152_7, hx152_8⟩ := at_T52 HR0.out x15_1 p152 q152
                          cases e152
                          replace hx152_0 := (HB.out.cell (World.block_lt_of_cell? w _ hx152_0)).trans hx152_0
                          replace hx152_1 := (HB.out.cell (World.block_lt_of_cell? w _ hx152_1)).trans hx152_1
                          replace hx152_2 := (HB.out.cell (World.block_lt_of_cell? w _ hx152_2)).trans hx152_2
                          replace hx152_3 := (HB.out.cell (World.block_lt_of_cell? w _ hx152_3)).trans hx152_3
                          replace hx152_4 := (HB.out.cell (World.block_lt_of_cell? w _ hx152_4)).trans hx152_4
                          replace hx152_5 := (HB.out.cell (World.block_lt_of_cell? w _ hx152_5)).trans hx152_5
                          replace hx152_6 := (HB.out.cell (World.block_lt_of_cell? w _ hx152_6)).trans hx152_6
                          replace hx152_7 := (HB.out.cell (World.block_lt_of_cell? w _ hx152_7)).trans hx152_7
                          replace hx152_8 := (HB.out.cell (World.block_lt_of_cell? w _ hx152_8)).trans hx152_8
                          replace p152 := eq_true p152
                          replace q152 := eq_true q152
                          go_wp2_with (first | ((with_reducible refine gate_dst (N := 5) rfl ?_); (try (refine gate_guard (by rfl) ?_; dsimp only)); refine box_event ?hg (N := 5) ?hd (cs := #[.int .i64 0, .int .i64 0, .int .i64 0, .int .i64 0, .string (⟨#[]⟩ : ByteArray), .int .u64 0, .int .u64 0, .int .u64 0, .int .u64 0]) (t := 52) ?hr ?_; (case hd => rfl); (case hg => rfl); (case hr => first | (go_simp; done) | (go_simp; rfl)); intro gb153 hg w23 hbox hb; have n0_ := Aside0.mk (below_step (by repeat (first | (with_reducible first | exact HB.out | apply below_alloc | apply pw_below_drewN | apply below_drew1) | exact HB.out)) hb); have n1_ := Aside0.mk (hbox); have n2_ := Aside0.mk ((by rw [hg]; exact (below_size (by repeat (first | (with_reducible first | exact HB.out | apply below_alloc | apply pw_below_drewN | apply below_drew1) | exact HB.out))) : w.heap.size ≤ gb153)); have n3_ := Aside0.mk ((by rw [hg]; exact (below_size (by repeat (first | (with_reducible first | exact HB.out | apply below_alloc | apply pw_below_drewN | apply below_drew1) | exact HB.out))) : w.heap.size ≤ gb153)); clear HB; have HB := n0_; have BK153 := n1_; have GW153 := n2_; have GE153 := n3_; clear n0_ n1_ n2_ n3_; clear hb hbox hg; have hcz24_0 : w23.cell? ⟨gb153, 0, none⟩ = some (.int .i64 0) := (blk_cell BK153.out 0).trans rfl; have hcz24_1 : w23.cell? ⟨gb153, 1, none⟩ = some (.int .i64 0) := (blk_cell BK153.out 1).trans rfl; have hcz24_2 : w23.cell? ⟨gb153, 2, none⟩ = some (.int .i64 0) := (blk_cell BK153.out 2).trans rfl; have hcz24_3 : w23.cell? ⟨gb153, 3, none⟩ = some (.int .i64 0) := (blk_cell BK153.out 3).trans rfl; have hcz24_4 : w23.cell? ⟨gb153, 4, none⟩ = some (.string (⟨#[]⟩ : ByteArray)) := (blk_cell BK153.out 4).trans rfl; have hcz24_5 : w23.cell? ⟨gb153, 5, none⟩ = some (.int .u64 0) := (blk_cell BK153.out 5).trans rfl; have hcz24_6 : w23.cell? ⟨gb153, 6, none⟩ = some (.int .u64 0) := (blk_cell BK153.out 6).trans rfl; have hcz24_7 : w23.cell? ⟨gb153, 7, none⟩ = some (.int .u64 0) := (blk_cell BK153.out 7).trans rfl; have hcz24_8 : w23.cell? ⟨gb153, 8, none⟩ = some (.int .u64 0) := (blk_cell BK153.out 8).trans rfl; have hfz24_0 := blk_frozen BK153.out 0; have hfz24_1 := blk_frozen BK153.out 1; have hfz24_2 := blk_frozen BK153.out 2; have hfz24_3 := blk_frozen BK153.out 3; have hfz24_4 := blk_frozen BK153.out 4; have hfz24_5 := blk_frozen BK153.out 5; have hfz24_6 := blk_frozen BK153.out 6; have hfz24_7 := blk_frozen BK153.out 7; have hfz24_8 := blk_frozen BK153.out 8) | ((with_reducible refine gate_callee (f := 55) rfl ?_); refine goesL_ (some 23) rfl rfl Tryd.func55 (by kernel_rfl) rfl #[.int .i64 ((rd_T52 l0 x15_1).f0)] rfl (by (try simp only [List.map_toArray, List.map_cons, List.map_nil]); first | done | rfl | (simp only [List.length_drop, List.length_take]; rfl)) ?_; (with_reducible refine (instr_is.calls ((rd_T52 l0 x15_1).f0) true _ A7.out).mono ?_); rintro e w' ⟨rfl, ⟨nd, rfl⟩⟩; refine ⟨_, rfl, ?_⟩) | ((with_reducible refine gate_callee (f := 56) rfl ?_); refine goesL_ (some 28) rfl rfl Tryd.func56 (by kernel_rfl) rfl #[.agg #[.int .i64 ((rd_T52 l0 x15_1).f0), .int .i64 ((rd_T52 l0 x15_1).f1), .int .i64 ((rd_T52 l0 x15_1).f2), .int .i64 ((rd_T52 l0 x15_1).f3), .string ((rd_T52 l0 x15_1).f4), .int .u64 ((rd_T52 l0 x15_1).f5.f0), .int .u64 ((rd_T52 l0 x15_1).f5.f1), .int .u64 ((rd_T52 l0 x15_1).f5.f2), .int .u64 ((rd_T52 l0 x15_1).f5.f3)]] rfl (by (try simp only [List.map_toArray, List.map_cons, List.map_nil]); first | done | rfl | (simp only [List.length_drop, List.length_take]; rfl)) ?_; (with_reducible refine (instr_fits.calls k1 ((rd_T52 l0 x15_1).f0) ((rd_T52 l0 x15_1).f1) ((rd_T52 l0 x15_1).f2) ((rd_T52 l0 x15_1).f3) ((rd_T52 l0 x15_1).f4) ((rd_T52 l0 x15_1).f5.f0) ((rd_T52 l0 x15_1).f5.f1) ((rd_T52 l0 x15_1).f5.f2) ((rd_T52 l0 x15_1).f5.f3) true _ A9.out (UsesOk.below hU (by repeat (first | (with_reducible first | exact HB.out | apply below_alloc | apply pw_below_drewN | apply below_drew1 | refine below_set ?_ GE153.out) | exact HB.out)))).mono ?_); rintro e w25 ⟨rfl, hb⟩; refine ⟨_, rfl, ?_⟩; have n0_ := Aside0.mk (blk_below (g := gb153) (o := .cells #[.int .i64 ((rd_T52 l0 x15_1).f0), .int .i64 ((rd_T52 l0 x15_1).f1), .int .i64 ((rd_T52 l0 x15_1).f2), .int .i64 ((rd_T52 l0 x15_1).f3), .string ((rd_T52 l0 x15_1).f4), .int .u64 ((rd_T52 l0 x15_1).f5.f0), .int .u64 ((rd_T52 l0 x15_1).f5.f1), .int .u64 ((rd_T52 l0 x15_1).f5.f2), .int .u64 ((rd_T52 l0 x15_1).f5.f3)] 52 (0, 0)) (by (with_reducible repeat (first | refine blk_drewN ?_ _ | refine blk_drew ?_ | refine blk_alloc ?_ _)); refine blk_put (cs := #[.int .i64 ((rd_T52 l0 x15_1).f0), .int .i64 ((rd_T52 l0 x15_1).f1), .int .i64 ((rd_T52 l0 x15_1).f2), .int .i64 ((rd_T52 l0 x15_1).f3), .string ((rd_T52 l0 x15_1).f4), .int .u64 ((rd_T52 l0 x15_1).f5.f0), .int .u64 ((rd_T52 l0 x15_1).f5.f1), .int .u64 ((rd_T52 l0 x15_1).f5.f2), .int .u64 0]) ?_ 8 _ rfl; (with_reducible repeat (first | refine blk_drewN ?_ _ | refine blk_drew ?_ | refine blk_alloc ?_ _)); refine blk_put (cs := #[.int .i64 ((rd_T52 l0 x15_1).f0), .int .i64 ((rd_T52 l0 x15_1).f1), .int .i64 ((rd_T52 l0 x15_1).f2), .int .i64 ((rd_T52 l0 x15_1).f3), .string ((rd_T52 l0 x15_1).f4), .int .u64 ((rd_T52 l0 x15_1).f5.f0), .int .u64 ((rd_T52 l0 x15_1).f5.f1), .int .u64 0, .int .u64 0]) ?_ 7 _ rfl; (with_reducible repeat (first | refine blk_drewN ?_ _ | refine blk_drew ?_ | refine blk_alloc ?_ _)); refine blk_put (cs := #[.int .i64 ((rd_T52 l0 x15_1).f0), .int .i64 ((rd_T52 l0 x15_1).f1), .int .i64 ((rd_T52 l0 x15_1).f2), .int .i64 ((rd_T52 l0 x15_1).f3), .string ((rd_T52 l0 x15_1).f4), .int .u64 ((rd_T52 l0 x15_1).f5.f0), .int .u64 0, .int .u64 0, .int .u64 0]) ?_ 6 _ rfl; (with_reducible repeat (first | refine blk_drewN ?_ _ | refine blk_drew ?_ | refine blk_alloc ?_ _)); refine blk_put (cs := #[.int .i64 ((rd_T52 l0 x15_1).f0), .int .i64 ((rd_T52 l0 x15_1).f1), .int .i64 ((rd_T52 l0 x15_1).f2), .int .i64 ((rd_T52 l0 x15_1).f3), .string ((rd_T52 l0 x15_1).f4), .int .u64 0, .int .u64 0, .int .u64 0, .int .u64 0]) ?_ 5 _ rfl; (with_reducible repeat (first | refine blk_drewN ?_ _ | refine blk_drew ?_ | refine blk_alloc ?_ _)); refine blk_put (cs := #[.int .i64 ((rd_T52 l0 x15_1).f0), .int .i64 ((rd_T52 l0 x15_1).f1), .int .i64 ((rd_T52 l0 x15_1).f2), .int .i64 ((rd_T52 l0 x15_1).f3), .string (⟨#[]⟩ : ByteArray), .int .u64 0, .int .u64 0, .int .u64 0, .int .u64 0]) ?_ 4 _ rfl; (with_reducible repeat (first | refine blk_drewN ?_ _ | refine blk_drew ?_ | refine blk_alloc ?_ _)); refine blk_put (cs := #[.int .i64 ((rd_T52 l0 x15_1).f0), .int .i64 ((rd_T52 l0 x15_1).f1), .int .i64 ((rd_T52 l0 x15_1).f2), .int .i64 0, .string (⟨#[]⟩ : ByteArray), .int .u64 0, .int .u64 0, .int .u64 0, .int .u64 0]) ?_ 3 _ rfl; (with_reducible repeat (first | refine blk_drewN ?_ _ | refine blk_drew ?_ | refine blk_alloc ?_ _)); refine blk_put (cs := #[.int .i64 ((rd_T52 l0 x15_1).f0), .int .i64 ((rd_T52 l0 x15_1).f1), .int .i64 0, .int .i64 0, .string (⟨#[]⟩ : ByteArray), .int .u64 0, .int .u64 0, .int .u64 0, .int .u64 0]) ?_ 2 _ rfl; (with_reducible repeat (first | refine blk_drewN ?_ _ | refine blk_drew ?_ | refine blk_alloc ?_ _)); refine blk_put (cs := #[.int .i64 ((rd_T52 l0 x15_1).f0), .int .i64 0, .int .i64 0, .int .i64 0, .string (⟨#[]⟩ : ByteArray), .int .u64 0, .int .u64 0, .int .u64 0, .int .u64 0]) ?_ 1 _ rfl; (with_reducible repeat (first | refine blk_drewN ?_ _ | refine blk_drew ?_ | refine blk_alloc ?_ _)); refine blk_put (cs := #[.int .i64 0, .int .i64 0, .int .i64 0, .int .i64 0, .string (⟨#[]⟩ : ByteArray), .int .u64 0, .int .u64 0, .int .u64 0, .int .u64 0]) ?_ 0 _ rfl; (with_reducible repeat (first | refine blk_drewN ?_ _ | refine blk_drew ?_ | refine blk_alloc ?_ _)); exact BK153.out) hb); have n1_ := Aside0.mk (below_step (by repeat (first | (with_reducible first | exact HB.out | apply below_alloc | apply pw_below_drewN | apply below_drew1 | refine below_set ?_ GE153.out) | exact HB.out)) hb); clear BK153; clear HB; have BK153 := n0_; have HB := n1_; clear n0_ n1_; (try clear hb); (try clear hb2); (try clear hk); (try clear hi); have hcz26_0 : w25.cell? ⟨gb153, 0, none⟩ = some (.int .i64 ((rd_T52 l0 x15_1).f0)) := (blk_cell BK153.out 0).trans rfl; have hcz26_1 : w25.cell? ⟨gb153, 1, none⟩ = some (.int .i64 ((rd_T52 l0 x15_1).f1)) := (blk_cell BK153.out 1).trans rfl; have hcz26_2 : w25.cell? ⟨gb153, 2, none⟩ = some (.int .i64 ((rd_T52 l0 x15_1).f2)) := (blk_cell BK153.out 2).trans rfl; have hcz26_3 : w25.cell? ⟨gb153, 3, none⟩ = some (.int .i64 ((rd_T52 l0 x15_1).f3)) := (blk_cell BK153.out 3).trans rfl; have hcz26_4 : w25.cell? ⟨gb153, 4, none⟩ = some (.string ((rd_T52 l0 x15_1).f4)) := (blk_cell BK153.out 4).trans rfl; have hcz26_5 : w25.cell? ⟨gb153, 5, none⟩ = some (.int .u64 ((rd_T52 l0 x15_1).f5.f0)) := (blk_cell BK153.out 5).trans rfl; have hcz26_6 : w25.cell? ⟨gb153, 6, none⟩ = some (.int .u64 ((rd_T52 l0 x15_1).f5.f1)) := (blk_cell BK153.out 6).trans rfl; have hcz26_7 : w25.cell? ⟨gb153, 7, none⟩ = some (.int .u64 ((rd_T52 l0 x15_1).f5.f2)) := (blk_cell BK153.out 7).trans rfl; have hcz26_8 : w25.cell? ⟨gb153, 8, none⟩ = some (.int .u64 ((rd_T52 l0 x15_1).f5.f3)) := (blk_cell BK153.out 8).trans rfl; have hfz26_0 := blk_frozen BK153.out 0; have hfz26_1 := blk_frozen BK153.out 1; have hfz26_2 := blk_frozen BK153.out 2; have hfz26_3 := blk_frozen BK153.out 3; have hfz26_4 := blk_frozen BK153.out 4; have hfz26_5 := blk_frozen BK153.out 5; have hfz26_6 := blk_frozen BK153.out 6; have hfz26_7 := blk_frozen BK153.out 7; have hfz26_8 := blk_frozen BK153.out 8) | ((with_reducible refine gate_callee (f := 57) rfl ?_); refine goesL_ (some 34) rfl rfl Tryd.func57 (by kernel_rfl) rfl #[.int .i64 ((rd_T52 l0 x15_1).f0), .int .i64 32] rfl (by (try simp only [List.map_toArray, List.map_cons, List.map_nil]); first | done | rfl | (simp only [List.length_drop, List.length_take]; rfl)) ?_; (with_reducible refine (instr_has.calls ((rd_T52 l0 x15_1).f0) 32 true _ A11.out (UsesOk.below hU (by repeat (first | (with_reducible first | exact HB.out | apply below_alloc | apply pw_below_drewN | apply below_drew1) | exact HB.out)))).mono ?_); rintro e w' ⟨rfl, ⟨nd, rfl⟩⟩; refine ⟨_, rfl, ?_⟩))
                          go_roundg k1
                          case measure => have := HK1.out; omega
                          case rel => exact ⟨(wrap64 (x15_1 + 1)), (by first | rfl | (simp; done) | (simp [*]; done)), H', ⟨by have := HK1.out; omega⟩, ⟨by repeat (first | (with_reducible first | exact HB.out | apply below_alloc | apply pw_below_drewN | apply below_drew1 | refine below_set ?_ GE153.out) | exact HB.out)⟩⟩
                    · replace c12 := Bool.eq_false_iff.mpr c12
                      subst c12
                      have H1 : (instr_Check.l0 k1 l0 l0 (l0.length : Int) (wrap64 (x15_1 + 1))) = some (r1, r2) := by rw [if_neg (show ¬ (false = true) by decide)] at H; exact H
                      clear H
                      have H := H1
                      clear H1
                      have H' := Aside0.mk H
                      clear H
                      have p152 : 0 ≤ (x15_1 : Int) := of_decide_eq_true (by first | (with_reducible assumption) | assumption)
                      have q152 : x15_1 < (l0.length : Int) := of_decide_eq_true (by first | (with_reducible assumption) | assumption)
                      obtain ⟨ad152, e152, hx152_0, hx152_1, hx152_2, hx152_3, hx152_4, hx152_5, hx152_6, hx152_7, hx152_8⟩ := at_T52 HR0.out x15_1 p152 q152
                      cases e152
                      replace hx152_0 := (HB.out.cell (World.block_lt_of_cell? w _ hx152_0)).trans hx152_0
                      replace hx152_1 := (HB.out.cell (World.block_lt_of_cell? w _ hx152_1)).trans hx152_1
                      replace hx152_2 := (HB.out.cell (World.block_lt_of_cell? w _ hx152_2)).trans hx152_2
                      replace hx152_3 := (HB.out.cell (World.block_lt_of_cell? w _ hx152_3)).trans hx152_3
                      replace hx152_4 := (HB.out.cell (World.block_lt_of_cell? w _ hx152_4)).trans hx152_4
                      replace hx152_5 := (HB.out.cell (World.block_lt_of_cell? w _ hx152_5)).trans hx152_5
                      replace hx152_6 := (HB.out.cell (World.block_lt_of_cell? w _ hx152_6)).trans hx152_6
                      replace hx152_7 := (HB.out.cell (World.block_lt_of_cell? w _ hx152_7)).trans hx152_7
                      replace hx152_8 := (HB.out.cell (World.block_lt_of_cell? w _ hx152_8)).trans hx152_8
                      replace p152 := eq_true p152
                      replace q152 := eq_true q152
                      go_wp2_with (first | ((with_reducible refine gate_dst (N := 5) rfl ?_); (try (refine gate_guard (by rfl) ?_; dsimp only)); refine box_event ?hg (N := 5) ?hd (cs := #[.int .i64 0, .int .i64 0, .int .i64 0, .int .i64 0, .string (⟨#[]⟩ : ByteArray), .int .u64 0, .int .u64 0, .int .u64 0, .int .u64 0]) (t := 52) ?hr ?_; (case hd => rfl); (case hg => rfl); (case hr => first | (go_simp; done) | (go_simp; rfl)); intro gb153 hg w27 hbox hb; have n0_ := Aside0.mk (below_step (by repeat (first | (with_reducible first | exact HB.out | apply below_alloc | apply pw_below_drewN | apply below_drew1) | exact HB.out)) hb); have n1_ := Aside0.mk (hbox); have n2_ := Aside0.mk ((by rw [hg]; exact (below_size (by repeat (first | (with_reducible first | exact HB.out | apply below_alloc | apply pw_below_drewN | apply below_drew1) | exact HB.out))) : w.heap.size ≤ gb153)); have n3_ := Aside0.mk ((by rw [hg]; exact (below_size (by repeat (first | (with_reducible first | exact HB.out | apply below_alloc | apply pw_below_drewN | apply below_drew1) | exact HB.out))) : w.heap.size ≤ gb153)); clear HB; have HB := n0_; have BK153 := n1_; have GW153 := n2_; have GE153 := n3_; clear n0_ n1_ n2_ n3_; clear hb hbox hg; have hcz28_0 : w27.cell? ⟨gb153, 0, none⟩ = some (.int .i64 0) := (blk_cell BK153.out 0).trans rfl; have hcz28_1 : w27.cell? ⟨gb153, 1, none⟩ = some (.int .i64 0) := (blk_cell BK153.out 1).trans rfl; have hcz28_2 : w27.cell? ⟨gb153, 2, none⟩ = some (.int .i64 0) := (blk_cell BK153.out 2).trans rfl; have hcz28_3 : w27.cell? ⟨gb153, 3, none⟩ = some (.int .i64 0) := (blk_cell BK153.out 3).trans rfl; have hcz28_4 : w27.cell? ⟨gb153, 4, none⟩ = some (.string (⟨#[]⟩ : ByteArray)) := (blk_cell BK153.out 4).trans rfl; have hcz28_5 : w27.cell? ⟨gb153, 5, none⟩ = some (.int .u64 0) := (blk_cell BK153.out 5).trans rfl; have hcz28_6 : w27.cell? ⟨gb153, 6, none⟩ = some (.int .u64 0) := (blk_cell BK153.out 6).trans rfl; have hcz28_7 : w27.cell? ⟨gb153, 7, none⟩ = some (.int .u64 0) := (blk_cell BK153.out 7).trans rfl; have hcz28_8 : w27.cell? ⟨gb153, 8, none⟩ = some (.int .u64 0) := (blk_cell BK153.out 8).trans rfl; have hfz28_0 := blk_frozen BK153.out 0; have hfz28_1 := blk_frozen BK153.out 1; have hfz28_2 := blk_frozen BK153.out 2; have hfz28_3 := blk_frozen BK153.out 3; have hfz28_4 := blk_frozen BK153.out 4; have hfz28_5 := blk_frozen BK153.out 5; have hfz28_6 := blk_frozen BK153.out 6; have hfz28_7 := blk_frozen BK153.out 7; have hfz28_8 := blk_frozen BK153.out 8) | ((with_reducible refine gate_callee (f := 55) rfl ?_); refine goesL_ (some 23) rfl rfl Tryd.func55 (by kernel_rfl) rfl #[.int .i64 ((rd_T52 l0 x15_1).f0)] rfl (by (try simp only [List.map_toArray, List.map_cons, List.map_nil]); first | done | rfl | (simp only [List.length_drop, List.length_take]; rfl)) ?_; (with_reducible refine (instr_is.calls ((rd_T52 l0 x15_1).f0) true _ A7.out).mono ?_); rintro e w' ⟨rfl, ⟨nd, rfl⟩⟩; refine ⟨_, rfl, ?_⟩) | ((with_reducible refine gate_callee (f := 56) rfl ?_); refine goesL_ (some 28) rfl rfl Tryd.func56 (by kernel_rfl) rfl #[.agg #[.int .i64 ((rd_T52 l0 x15_1).f0), .int .i64 ((rd_T52 l0 x15_1).f1), .int .i64 ((rd_T52 l0 x15_1).f2), .int .i64 ((rd_T52 l0 x15_1).f3), .string ((rd_T52 l0 x15_1).f4), .int .u64 ((rd_T52 l0 x15_1).f5.f0), .int .u64 ((rd_T52 l0 x15_1).f5.f1), .int .u64 ((rd_T52 l0 x15_1).f5.f2), .int .u64 ((rd_T52 l0 x15_1).f5.f3)]] rfl (by (try simp only [List.map_toArray, List.map_cons, List.map_nil]); first | done | rfl | (simp only [List.length_drop, List.length_take]; rfl)) ?_; (with_reducible refine (instr_fits.calls k1 ((rd_T52 l0 x15_1).f0) ((rd_T52 l0 x15_1).f1) ((rd_T52 l0 x15_1).f2) ((rd_T52 l0 x15_1).f3) ((rd_T52 l0 x15_1).f4) ((rd_T52 l0 x15_1).f5.f0) ((rd_T52 l0 x15_1).f5.f1) ((rd_T52 l0 x15_1).f5.f2) ((rd_T52 l0 x15_1).f5.f3) true _ A9.out (UsesOk.below hU (by repeat (first | (with_reducible first | exact HB.out | apply below_alloc | apply pw_below_drewN | apply below_drew1 | refine below_set ?_ GE153.out) | exact HB.out)))).mono ?_); rintro e w29 ⟨rfl, hb⟩; refine ⟨_, rfl, ?_⟩; have n0_ := Aside0.mk (blk_below (g := gb153) (o := .cells #[.int .i64 ((rd_T52 l0 x15_1).f0), .int .i64 ((rd_T52 l0 x15_1).f1), .int .i64 ((rd_T52 l0 x15_1).f2), .int .i64 ((rd_T52 l0 x15_1).f3), .string ((rd_T52 l0 x15_1).f4), .int .u64 ((rd_T52 l0 x15_1).f5.f0), .int .u64 ((rd_T52 l0 x15_1).f5.f1), .int .u64 ((rd_T52 l0 x15_1).f5.f2), .int .u64 ((rd_T52 l0 x15_1).f5.f3)] 52 (0, 0)) (by (with_reducible repeat (first | refine blk_drewN ?_ _ | refine blk_drew ?_ | refine blk_alloc ?_ _)); refine blk_put (cs := #[.int .i64 ((rd_T52 l0 x15_1).f0), .int .i64 ((rd_T52 l0 x15_1).f1), .int .i64 ((rd_T52 l0 x15_1).f2), .int .i64 ((rd_T52 l0 x15_1).f3), .string ((rd_T52 l0 x15_1).f4), .int .u64 ((rd_T52 l0 x15_1).f5.f0), .int .u64 ((rd_T52 l0 x15_1).f5.f1), .int .u64 ((rd_T52 l0 x15_1).f5.f2), .int .u64 0]) ?_ 8 _ rfl; (with_reducible repeat (first | refine blk_drewN ?_ _ | refine blk_drew ?_ | refine blk_alloc ?_ _)); refine blk_put (cs := #[.int .i64 ((rd_T52 l0 x15_1).f0), .int .i64 ((rd_T52 l0 x15_1).f1), .int .i64 ((rd_T52 l0 x15_1).f2), .int .i64 ((rd_T52 l0 x15_1).f3), .string ((rd_T52 l0 x15_1).f4), .int .u64 ((rd_T52 l0 x15_1).f5.f0), .int .u64 ((rd_T52 l0 x15_1).f5.f1), .int .u64 0, .int .u64 0]) ?_ 7 _ rfl; (with_reducible repeat (first | refine blk_drewN ?_ _ | refine blk_drew ?_ | refine blk_alloc ?_ _)); refine blk_put (cs := #[.int .i64 ((rd_T52 l0 x15_1).f0), .int .i64 ((rd_T52 l0 x15_1).f1), .int .i64 ((rd_T52 l0 x15_1).f2), .int .i64 ((rd_T52 l0 x15_1).f3), .string ((rd_T52 l0 x15_1).f4), .int .u64 ((rd_T52 l0 x15_1).f5.f0), .int .u64 0, .int .u64 0, .int .u64 0]) ?_ 6 _ rfl; (with_reducible repeat (first | refine blk_drewN ?_ _ | refine blk_drew ?_ | refine blk_alloc ?_ _)); refine blk_put (cs := #[.int .i64 ((rd_T52 l0 x15_1).f0), .int .i64 ((rd_T52 l0 x15_1).f1), .int .i64 ((rd_T52 l0 x15_1).f2), .int .i64 ((rd_T52 l0 x15_1).f3), .string ((rd_T52 l0 x15_1).f4), .int .u64 0, .int .u64 0, .int .u64 0, .int .u64 0]) ?_ 5 _ rfl; (with_reducible repeat (first | refine blk_drewN ?_ _ | refine blk_drew ?_ | refine blk_alloc ?_ _)); refine blk_put (cs := #[.int .i64 ((rd_T52 l0 x15_1).f0), .int .i64 ((rd_T52 l0 x15_1).f1), .int .i64 ((rd_T52 l0 x15_1).f2), .int .i64 ((rd_T52 l0 x15_1).f3), .string (⟨#[]⟩ : ByteArray), .int .u64 0, .int .u64 0, .int .u64 0, .int .u64 0]) ?_ 4 _ rfl; (with_reducible repeat (first | refine blk_drewN ?_ _ | refine blk_drew ?_ | refine blk_alloc ?_ _)); refine blk_put (cs := #[.int .i64 ((rd_T52 l0 x15_1).f0), .int .i64 ((rd_T52 l0 x15_1).f1), .int .i64 ((rd_T52 l0 x15_1).f2), .int .i64 0, .string (⟨#[]⟩ : ByteArray), .int .u64 0, .int .u64 0, .int .u64 0, .int .u64 0]) ?_ 3 _ rfl; (with_reducible repeat (first | refine blk_drewN ?_ _ | refine blk_drew ?_ | refine blk_alloc ?_ _)); refine blk_put (cs := #[.int .i64 ((rd_T52 l0 x15_1).f0), .int .i64 ((rd_T52 l0 x15_1).f1), .int .i64 0, .int .i64 0, .string (⟨#[]⟩ : ByteArray), .int .u64 0, .int .u64 0, .int .u64 0, .int .u64 0]) ?_ 2 _ rfl; (with_reducible repeat (first | refine blk_drewN ?_ _ | refine blk_drew ?_ | refine blk_alloc ?_ _)); refine blk_put (cs := #[.int .i64 ((rd_T52 l0 x15_1).f0), .int .i64 0, .int .i64 0, .int .i64 0, .string (⟨#[]⟩ : ByteArray), .int .u64 0, .int .u64 0, .int .u64 0, .int .u64 0]) ?_ 1 _ rfl; (with_reducible repeat (first | refine blk_drewN ?_ _ | refine blk_drew ?_ | refine blk_alloc ?_ _)); refine blk_put (cs := #[.int .i64 0, .int .i64 0, .int .i64 0, .int .i64 0, .string (⟨#[]⟩ : ByteArray), .int .u64 0, .int .u64 0, .int .u64 0, .int .u64 0]) ?_ 0 _ rfl; (with_reducible repeat (first | refine blk_drewN ?_ _ | refine blk_drew ?_ | refine blk_alloc ?_ _)); exact BK153.out) hb); have n1_ := Aside0.mk (below_step (by repeat (first | (with_reducible first | exact HB.out | apply below_alloc | apply pw_below_drewN | apply below_drew1 | refine below_set ?_ GE153.out) | exact HB.out)) hb); clear BK153; clear HB; have BK153 := n0_; have HB := n1_; clear n0_ n1_; (try clear hb); (try clear hb2); (try clear hk); (try clear hi); have hcz30_0 : w29.cell? ⟨gb153, 0, none⟩ = some (.int .i64 ((rd_T52 l0 x15_1).f0)) := (blk_cell BK153.out 0).trans rfl; have hcz30_1 : w29.cell? ⟨gb153, 1, none⟩ = some (.int .i64 ((rd_T52 l0 x15_1).f1)) := (blk_cell BK153.out 1).trans rfl; have hcz30_2 : w29.cell? ⟨gb153, 2, none⟩ = some (.int .i64 ((rd_T52 l0 x15_1).f2)) := (blk_cell BK153.out 2).trans rfl; have hcz30_3 : w29.cell? ⟨gb153, 3, none⟩ = some (.int .i64 ((rd_T52 l0 x15_1).f3)) := (blk_cell BK153.out 3).trans rfl; have hcz30_4 : w29.cell? ⟨gb153, 4, none⟩ = some (.string ((rd_T52 l0 x15_1).f4)) := (blk_cell BK153.out 4).trans rfl; have hcz30_5 : w29.cell? ⟨gb153, 5, none⟩ = some (.int .u64 ((rd_T52 l0 x15_1).f5.f0)) := (blk_cell BK153.out 5).trans rfl; have hcz30_6 : w29.cell? ⟨gb153, 6, none⟩ = some (.int .u64 ((rd_T52 l0 x15_1).f5.f1)) := (blk_cell BK153.out 6).trans rfl; have hcz30_7 : w29.cell? ⟨gb153, 7, none⟩ = some (.int .u64 ((rd_T52 l0 x15_1).f5.f2)) := (blk_cell BK153.out 7).trans rfl; have hcz30_8 : w29.cell? ⟨gb153, 8, none⟩ = some (.int .u64 ((rd_T52 l0 x15_1).f5.f3)) := (blk_cell BK153.out 8).trans rfl; have hfz30_0 := blk_frozen BK153.out 0; have hfz30_1 := blk_frozen BK153.out 1; have hfz30_2 := blk_frozen BK153.out 2; have hfz30_3 := blk_frozen BK153.out 3; have hfz30_4 := blk_frozen BK153.out 4; have hfz30_5 := blk_frozen BK153.out 5; have hfz30_6 := blk_frozen BK153.out 6; have hfz30_7 := blk_frozen BK153.out 7; have hfz30_8 := blk_frozen BK153.out 8) | ((with_reducible refine gate_callee (f := 57) rfl ?_); refine goesL_ (some 34) rfl rfl Tryd.func57 (by kernel_rfl) rfl #[.int .i64 ((rd_T52 l0 x15_1).f0), .int .i64 32] rfl (by (try simp only [List.map_toArray, List.map_cons, List.map_nil]); first | done | rfl | (simp only [List.length_drop, List.length_take]; rfl)) ?_; (with_reducible refine (instr_has.calls ((rd_T52 l0 x15_1).f0) 32 false _ A11.out (UsesOk.below hU (by repeat (first | (with_reducible first | exact HB.out | apply below_alloc | apply pw_below_drewN | apply below_drew1) | exact HB.out)))).mono ?_); rintro e w' ⟨rfl, ⟨nd, rfl⟩⟩; refine ⟨_, rfl, ?_⟩))
                      go_roundg k1
                      case measure => have := HK1.out; omega
                      case rel => exact ⟨(wrap64 (x15_1 + 1)), (by first | rfl | (simp; done) | (simp [*]; done)), H', ⟨by have := HK1.out; omega⟩, ⟨by repeat (first | (with_reducible first | exact HB.out | apply below_alloc | apply pw_below_drewN | apply below_drew1 | refine below_set ?_ GE153.out) | exact HB.out)⟩⟩
                  · replace c10 := Bool.eq_false_iff.mpr c10
                    subst c10
                    have H1 : (some (x15_1, 161)) = some (r1, r2) := by rw [if_neg (show ¬ (false = true) by decide)] at H; exact H
                    clear H
                    have H := H1
                    clear H1
                    simp only [Option.some.injEq, Prod.mk.injEq] at H
                    obtain ⟨rfl, rfl⟩ := H
                    have p152 : 0 ≤ (x15_1 : Int) := of_decide_eq_true (by first | (with_reducible assumption) | assumption)
                    have q152 : x15_1 < (l0.length : Int) := of_decide_eq_true (by first | (with_reducible assumption) | assumption)
                    obtain ⟨ad152, e152, hx152_0, hx152_1, hx152_2, hx152_3, hx152_4, hx152_5, hx152_6, hx152_7, hx152_8⟩ := at_T52 HR0.out x15_1 p152 q152
                    cases e152
                    replace hx152_0 := (HB.out.cell (World.block_lt_of_cell? w _ hx152_0)).trans hx152_0
                    replace hx152_1 := (HB.out.cell (World.block_lt_of_cell? w _ hx152_1)).trans hx152_1
                    replace hx152_2 := (HB.out.cell (World.block_lt_of_cell? w _ hx152_2)).trans hx152_2
                    replace hx152_3 := (HB.out.cell (World.block_lt_of_cell? w _ hx152_3)).trans hx152_3
                    replace hx152_4 := (HB.out.cell (World.block_lt_of_cell? w _ hx152_4)).trans hx152_4
                    replace hx152_5 := (HB.out.cell (World.block_lt_of_cell? w _ hx152_5)).trans hx152_5
                    replace hx152_6 := (HB.out.cell (World.block_lt_of_cell? w _ hx152_6)).trans hx152_6
                    replace hx152_7 := (HB.out.cell (World.block_lt_of_cell? w _ hx152_7)).trans hx152_7
                    replace hx152_8 := (HB.out.cell (World.block_lt_of_cell? w _ hx152_8)).trans hx152_8
                    replace p152 := eq_true p152
                    replace q152 := eq_true q152
                    go_wp2_with (first | ((with_reducible refine gate_dst (N := 5) rfl ?_); (try (refine gate_guard (by rfl) ?_; dsimp only)); refine box_event ?hg (N := 5) ?hd (cs := #[.int .i64 0, .int .i64 0, .int .i64 0, .int .i64 0, .string (⟨#[]⟩ : ByteArray), .int .u64 0, .int .u64 0, .int .u64 0, .int .u64 0]) (t := 52) ?hr ?_; (case hd => rfl); (case hg => rfl); (case hr => first | (go_simp; done) | (go_simp; rfl)); intro gb153 hg w31 hbox hb; have n0_ := Aside0.mk (below_step (by repeat (first | (with_reducible first | exact HB.out | apply below_alloc | apply pw_below_drewN | apply below_drew1) | exact HB.out)) hb); have n1_ := Aside0.mk (hbox); have n2_ := Aside0.mk ((by rw [hg]; exact (below_size (by repeat (first | (with_reducible first | exact HB.out | apply below_alloc | apply pw_below_drewN | apply below_drew1) | exact HB.out))) : w.heap.size ≤ gb153)); have n3_ := Aside0.mk ((by rw [hg]; exact (below_size (by repeat (first | (with_reducible first | exact HB.out | apply below_alloc | apply pw_below_drewN | apply below_drew1) | exact HB.out))) : w.heap.size ≤ gb153)); clear HB; have HB := n0_; have BK153 := n1_; have GW153 := n2_; have GE153 := n3_; clear n0_ n1_ n2_ n3_; clear hb hbox hg; have hcz32_0 : w31.cell? ⟨gb153, 0, none⟩ = some (.int .i64 0) := (blk_cell BK153.out 0).trans rfl; have hcz32_1 : w31.cell? ⟨gb153, 1, none⟩ = some (.int .i64 0) := (blk_cell BK153.out 1).trans rfl; have hcz32_2 : w31.cell? ⟨gb153, 2, none⟩ = some (.int .i64 0) := (blk_cell BK153.out 2).trans rfl; have hcz32_3 : w31.cell? ⟨gb153, 3, none⟩ = some (.int .i64 0) := (blk_cell BK153.out 3).trans rfl; have hcz32_4 : w31.cell? ⟨gb153, 4, none⟩ = some (.string (⟨#[]⟩ : ByteArray)) := (blk_cell BK153.out 4).trans rfl; have hcz32_5 : w31.cell? ⟨gb153, 5, none⟩ = some (.int .u64 0) := (blk_cell BK153.out 5).trans rfl; have hcz32_6 : w31.cell? ⟨gb153, 6, none⟩ = some (.int .u64 0) := (blk_cell BK153.out 6).trans rfl; have hcz32_7 : w31.cell? ⟨gb153, 7, none⟩ = some (.int .u64 0) := (blk_cell BK153.out 7).trans rfl; have hcz32_8 : w31.cell? ⟨gb153, 8, none⟩ = some (.int .u64 0) := (blk_cell BK153.out 8).trans rfl; have hfz32_0 := blk_frozen BK153.out 0; have hfz32_1 := blk_frozen BK153.out 1; have hfz32_2 := blk_frozen BK153.out 2; have hfz32_3 := blk_frozen BK153.out 3; have hfz32_4 := blk_frozen BK153.out 4; have hfz32_5 := blk_frozen BK153.out 5; have hfz32_6 := blk_frozen BK153.out 6; have hfz32_7 := blk_frozen BK153.out 7; have hfz32_8 := blk_frozen BK153.out 8) | ((with_reducible refine gate_callee (f := 55) rfl ?_); refine goesL_ (some 23) rfl rfl Tryd.func55 (by kernel_rfl) rfl #[.int .i64 ((rd_T52 l0 x15_1).f0)] rfl (by (try simp only [List.map_toArray, List.map_cons, List.map_nil]); first | done | rfl | (simp only [List.length_drop, List.length_take]; rfl)) ?_; (with_reducible refine (instr_is.calls ((rd_T52 l0 x15_1).f0) true _ A7.out).mono ?_); rintro e w' ⟨rfl, ⟨nd, rfl⟩⟩; refine ⟨_, rfl, ?_⟩) | ((with_reducible refine gate_callee (f := 56) rfl ?_); refine goesL_ (some 28) rfl rfl Tryd.func56 (by kernel_rfl) rfl #[.agg #[.int .i64 ((rd_T52 l0 x15_1).f0), .int .i64 ((rd_T52 l0 x15_1).f1), .int .i64 ((rd_T52 l0 x15_1).f2), .int .i64 ((rd_T52 l0 x15_1).f3), .string ((rd_T52 l0 x15_1).f4), .int .u64 ((rd_T52 l0 x15_1).f5.f0), .int .u64 ((rd_T52 l0 x15_1).f5.f1), .int .u64 ((rd_T52 l0 x15_1).f5.f2), .int .u64 ((rd_T52 l0 x15_1).f5.f3)]] rfl (by (try simp only [List.map_toArray, List.map_cons, List.map_nil]); first | done | rfl | (simp only [List.length_drop, List.length_take]; rfl)) ?_; (with_reducible refine (instr_fits.calls k1 ((rd_T52 l0 x15_1).f0) ((rd_T52 l0 x15_1).f1) ((rd_T52 l0 x15_1).f2) ((rd_T52 l0 x15_1).f3) ((rd_T52 l0 x15_1).f4) ((rd_T52 l0 x15_1).f5.f0) ((rd_T52 l0 x15_1).f5.f1) ((rd_T52 l0 x15_1).f5.f2) ((rd_T52 l0 x15_1).f5.f3) false _ A9.out (UsesOk.below hU (by repeat (first | (with_reducible first | exact HB.out | apply below_alloc | apply pw_below_drewN | apply below_drew1 | refine below_set ?_ GE153.out) | exact HB.out)))).mono ?_); rintro e w33 ⟨rfl, hb⟩; refine ⟨_, rfl, ?_⟩; have n0_ := Aside0.mk (blk_below (g := gb153) (o := .cells #[.int .i64 ((rd_T52 l0 x15_1).f0), .int .i64 ((rd_T52 l0 x15_1).f1), .int .i64 ((rd_T52 l0 x15_1).f2), .int .i64 ((rd_T52 l0 x15_1).f3), .string ((rd_T52 l0 x15_1).f4), .int .u64 ((rd_T52 l0 x15_1).f5.f0), .int .u64 ((rd_T52 l0 x15_1).f5.f1), .int .u64 ((rd_T52 l0 x15_1).f5.f2), .int .u64 ((rd_T52 l0 x15_1).f5.f3)] 52 (0, 0)) (by (with_reducible repeat (first | refine blk_drewN ?_ _ | refine blk_drew ?_ | refine blk_alloc ?_ _)); refine blk_put (cs := #[.int .i64 ((rd_T52 l0 x15_1).f0), .int .i64 ((rd_T52 l0 x15_1).f1), .int .i64 ((rd_T52 l0 x15_1).f2), .int .i64 ((rd_T52 l0 x15_1).f3), .string ((rd_T52 l0 x15_1).f4), .int .u64 ((rd_T52 l0 x15_1).f5.f0), .int .u64 ((rd_T52 l0 x15_1).f5.f1), .int .u64 ((rd_T52 l0 x15_1).f5.f2), .int .u64 0]) ?_ 8 _ rfl; (with_reducible repeat (first | refine blk_drewN ?_ _ | refine blk_drew ?_ | refine blk_alloc ?_ _)); refine blk_put (cs := #[.int .i64 ((rd_T52 l0 x15_1).f0), .int .i64 ((rd_T52 l0 x15_1).f1), .int .i64 ((rd_T52 l0 x15_1).f2), .int .i64 ((rd_T52 l0 x15_1).f3), .string ((rd_T52 l0 x15_1).f4), .int .u64 ((rd_T52 l0 x15_1).f5.f0), .int .u64 ((rd_T52 l0 x15_1).f5.f1), .int .u64 0, .int .u64 0]) ?_ 7 _ rfl; (with_reducible repeat (first | refine blk_drewN ?_ _ | refine blk_drew ?_ | refine blk_alloc ?_ _)); refine blk_put (cs := #[.int .i64 ((rd_T52 l0 x15_1).f0), .int .i64 ((rd_T52 l0 x15_1).f1), .int .i64 ((rd_T52 l0 x15_1).f2), .int .i64 ((rd_T52 l0 x15_1).f3), .string ((rd_T52 l0 x15_1).f4), .int .u64 ((rd_T52 l0 x15_1).f5.f0), .int .u64 0, .int .u64 0, .int .u64 0]) ?_ 6 _ rfl; (with_reducible repeat (first | refine blk_drewN ?_ _ | refine blk_drew ?_ | refine blk_alloc ?_ _)); refine blk_put (cs := #[.int .i64 ((rd_T52 l0 x15_1).f0), .int .i64 ((rd_T52 l0 x15_1).f1), .int .i64 ((rd_T52 l0 x15_1).f2), .int .i64 ((rd_T52 l0 x15_1).f3), .string ((rd_T52 l0 x15_1).f4), .int .u64 0, .int .u64 0, .int .u64 0, .int .u64 0]) ?_ 5 _ rfl; (with_reducible repeat (first | refine blk_drewN ?_ _ | refine blk_drew ?_ | refine blk_alloc ?_ _)); refine blk_put (cs := #[.int .i64 ((rd_T52 l0 x15_1).f0), .int .i64 ((rd_T52 l0 x15_1).f1), .int .i64 ((rd_T52 l0 x15_1).f2), .int .i64 ((rd_T52 l0 x15_1).f3), .string (⟨#[]⟩ : ByteArray), .int .u64 0, .int .u64 0, .int .u64 0, .int .u64 0]) ?_ 4 _ rfl; (with_reducible repeat (first | refine blk_drewN ?_ _ | refine blk_drew ?_ | refine blk_alloc ?_ _)); refine blk_put (cs := #[.int .i64 ((rd_T52 l0 x15_1).f0), .int .i64 ((rd_T52 l0 x15_1).f1), .int .i64 ((rd_T52 l0 x15_1).f2), .int .i64 0, .string (⟨#[]⟩ : ByteArray), .int .u64 0, .int .u64 0, .int .u64 0, .int .u64 0]) ?_ 3 _ rfl; (with_reducible repeat (first | refine blk_drewN ?_ _ | refine blk_drew ?_ | refine blk_alloc ?_ _)); refine blk_put (cs := #[.int .i64 ((rd_T52 l0 x15_1).f0), .int .i64 ((rd_T52 l0 x15_1).f1), .int .i64 0, .int .i64 0, .string (⟨#[]⟩ : ByteArray), .int .u64 0, .int .u64 0, .int .u64 0, .int .u64 0]) ?_ 2 _ rfl; (with_reducible repeat (first | refine blk_drewN ?_ _ | refine blk_drew ?_ | refine blk_alloc ?_ _)); refine blk_put (cs := #[.int .i64 ((rd_T52 l0 x15_1).f0), .int .i64 0, .int .i64 0, .int .i64 0, .string (⟨#[]⟩ : ByteArray), .int .u64 0, .int .u64 0, .int .u64 0, .int .u64 0]) ?_ 1 _ rfl; (with_reducible repeat (first | refine blk_drewN ?_ _ | refine blk_drew ?_ | refine blk_alloc ?_ _)); refine blk_put (cs := #[.int .i64 0, .int .i64 0, .int .i64 0, .int .i64 0, .string (⟨#[]⟩ : ByteArray), .int .u64 0, .int .u64 0, .int .u64 0, .int .u64 0]) ?_ 0 _ rfl; (with_reducible repeat (first | refine blk_drewN ?_ _ | refine blk_drew ?_ | refine blk_alloc ?_ _)); exact BK153.out) hb); have n1_ := Aside0.mk (below_step (by repeat (first | (with_reducible first | exact HB.out | apply below_alloc | apply pw_below_drewN | apply below_drew1 | refine below_set ?_ GE153.out) | exact HB.out)) hb); clear BK153; clear HB; have BK153 := n0_; have HB := n1_; clear n0_ n1_; (try clear hb); (try clear hb2); (try clear hk); (try clear hi)))
                    go_ret2
                    exact ⟨by first | rfl | (simp [errW_none, errW_some] <;> rfl) | (simp [*, errW_none, errW_some] <;> rfl), by repeat (first | (with_reducible first | exact HB.out | apply below_alloc | apply pw_below_drewN | apply below_drew1 | refine below_set ?_ GE153.out) | exact HB.out)⟩
                · replace c8 := Bool.eq_false_iff.mpr c8
                  subst c8
                  have H1 : (some (x15_1, 160)) = some (r1, r2) := by rw [if_neg (show ¬ (false = true) by decide)] at H; exact H
                  clear H
                  have H := H1
                  clear H1
                  simp only [Option.some.injEq, Prod.mk.injEq] at H
                  obtain ⟨rfl, rfl⟩ := H
                  have p152 : 0 ≤ (x15_1 : Int) := of_decide_eq_true (by first | (with_reducible assumption) | assumption)
                  have q152 : x15_1 < (l0.length : Int) := of_decide_eq_true (by first | (with_reducible assumption) | assumption)
                  obtain ⟨ad152, e152, hx152_0, hx152_1, hx152_2, hx152_3, hx152_4, hx152_5, hx152_6, hx152_7, hx152_8⟩ := at_T52 HR0.out x15_1 p152 q152
                  cases e152
                  replace hx152_0 := (HB.out.cell (World.block_lt_of_cell? w _ hx152_0)).trans hx152_0
                  replace hx152_1 := (HB.out.cell (World.block_lt_of_cell? w _ hx152_1)).trans hx152_1
                  replace hx152_2 := (HB.out.cell (World.block_lt_of_cell? w _ hx152_2)).trans hx152_2
                  replace hx152_3 := (HB.out.cell (World.block_lt_of_cell? w _ hx152_3)).trans hx152_3
                  replace hx152_4 := (HB.out.cell (World.block_lt_of_cell? w _ hx152_4)).trans hx152_4
                  replace hx152_5 := (HB.out.cell (World.block_lt_of_cell? w _ hx152_5)).trans hx152_5
                  replace hx152_6 := (HB.out.cell (World.block_lt_of_cell? w _ hx152_6)).trans hx152_6
                  replace hx152_7 := (HB.out.cell (World.block_lt_of_cell? w _ hx152_7)).trans hx152_7
                  replace hx152_8 := (HB.out.cell (World.block_lt_of_cell? w _ hx152_8)).trans hx152_8
                  replace p152 := eq_true p152
                  replace q152 := eq_true q152
                  go_wp2_with (first | ((with_reducible refine gate_dst (N := 5) rfl ?_); (try (refine gate_guard (by rfl) ?_; dsimp only)); refine box_event ?hg (N := 5) ?hd (cs := #[.int .i64 0, .int .i64 0, .int .i64 0, .int .i64 0, .string (⟨#[]⟩ : ByteArray), .int .u64 0, .int .u64 0, .int .u64 0, .int .u64 0]) (t := 52) ?hr ?_; (case hd => rfl); (case hg => rfl); (case hr => first | (go_simp; done) | (go_simp; rfl)); intro gb153 hg w34 hbox hb; have n0_ := Aside0.mk (below_step (by repeat (first | (with_reducible first | exact HB.out | apply below_alloc | apply pw_below_drewN | apply below_drew1) | exact HB.out)) hb); have n1_ := Aside0.mk (hbox); have n2_ := Aside0.mk ((by rw [hg]; exact (below_size (by repeat (first | (with_reducible first | exact HB.out | apply below_alloc | apply pw_below_drewN | apply below_drew1) | exact HB.out))) : w.heap.size ≤ gb153)); have n3_ := Aside0.mk ((by rw [hg]; exact (below_size (by repeat (first | (with_reducible first | exact HB.out | apply below_alloc | apply pw_below_drewN | apply below_drew1) | exact HB.out))) : w.heap.size ≤ gb153)); clear HB; have HB := n0_; have BK153 := n1_; have GW153 := n2_; have GE153 := n3_; clear n0_ n1_ n2_ n3_; clear hb hbox hg; have hcz35_0 : w34.cell? ⟨gb153, 0, none⟩ = some (.int .i64 0) := (blk_cell BK153.out 0).trans rfl; have hcz35_1 : w34.cell? ⟨gb153, 1, none⟩ = some (.int .i64 0) := (blk_cell BK153.out 1).trans rfl; have hcz35_2 : w34.cell? ⟨gb153, 2, none⟩ = some (.int .i64 0) := (blk_cell BK153.out 2).trans rfl; have hcz35_3 : w34.cell? ⟨gb153, 3, none⟩ = some (.int .i64 0) := (blk_cell BK153.out 3).trans rfl; have hcz35_4 : w34.cell? ⟨gb153, 4, none⟩ = some (.string (⟨#[]⟩ : ByteArray)) := (blk_cell BK153.out 4).trans rfl; have hcz35_5 : w34.cell? ⟨gb153, 5, none⟩ = some (.int .u64 0) := (blk_cell BK153.out 5).trans rfl; have hcz35_6 : w34.cell? ⟨gb153, 6, none⟩ = some (.int .u64 0) := (blk_cell BK153.out 6).trans rfl; have hcz35_7 : w34.cell? ⟨gb153, 7, none⟩ = some (.int .u64 0) := (blk_cell BK153.out 7).trans rfl; have hcz35_8 : w34.cell? ⟨gb153, 8, none⟩ = some (.int .u64 0) := (blk_cell BK153.out 8).trans rfl; have hfz35_0 := blk_frozen BK153.out 0; have hfz35_1 := blk_frozen BK153.out 1; have hfz35_2 := blk_frozen BK153.out 2; have hfz35_3 := blk_frozen BK153.out 3; have hfz35_4 := blk_frozen BK153.out 4; have hfz35_5 := blk_frozen BK153.out 5; have hfz35_6 := blk_frozen BK153.out 6; have hfz35_7 := blk_frozen BK153.out 7; have hfz35_8 := blk_frozen BK153.out 8) | ((with_reducible refine gate_callee (f := 55) rfl ?_); refine goesL_ (some 23) rfl rfl Tryd.func55 (by kernel_rfl) rfl #[.int .i64 ((rd_T52 l0 x15_1).f0)] rfl (by (try simp only [List.map_toArray, List.map_cons, List.map_nil]); first | done | rfl | (simp only [List.length_drop, List.length_take]; rfl)) ?_; (with_reducible refine (instr_is.calls ((rd_T52 l0 x15_1).f0) false _ A7.out).mono ?_); rintro e w' ⟨rfl, ⟨nd, rfl⟩⟩; refine ⟨_, rfl, ?_⟩))
                  go_ret2
                  exact ⟨by first | rfl | (simp [errW_none, errW_some] <;> rfl) | (simp [*, errW_none, errW_some] <;> rfl), by repeat (first | (with_reducible first | exact HB.out | apply below_alloc | apply pw_below_drewN | apply below_drew1 | refine below_set ?_ GE153.out) | exact HB.out)⟩
              · rw [if_neg c6] at H
                exact absurd H (by simp)
            · rw [if_neg c5] at H
              exact absurd H (by simp)
          · rw [if_neg c4] at H
            have c4b0 : decide (x15_1 < (l0.length : Int)) = false := decide_eq_false c4
            clear c4
            obtain ⟨ji36, hji36⟩ : ∃ j_ : Int, (wrap64 ((l0.length : Int) - 1)) = j_ := ⟨_, rfl⟩
            replace H : (if 0 ≤ (ji36) then (if (ji36) < (l0.length : Int) then ((instr_has.f ((rd_T52 l0 (ji36)).f0) 64).bind fun t151 => (if t151 = true then (some (ji36, 163)) else (some (0, 0)))) else (none)) else (none)) = some (r1, r2) := by first | (rw [hji36] at H; exact H) | (simp only [hji36] at H ⊢; exact H)
            have hji36w : (IntKind.i64.wrap ((l0.length : Int) - 1)) = ji36 := (i64_w _).trans hji36
            by_cases c37 : 0 ≤ (ji36)
            · rw [if_pos c37] at H
              have c37b0 : decide (0 ≤ (ji36)) = true := decide_eq_true c37
              clear c37
              by_cases c38 : (ji36) < (l0.length : Int)
              · rw [if_pos c38] at H
                have c38b0 : decide ((ji36) < (l0.length : Int)) = true := decide_eq_true c38
                clear c38
                replace H := Option.bind_eq_some_iff.mp H
                obtain ⟨t151, A390, H⟩ := H
                replace H : (if t151 = true then (some (ji36, 163)) else (some (0, 0))) = some (r1, r2) := H
                have A39 := Aside0.mk A390
                clear A390
                by_cases c40 : t151 = true
                · subst c40
                  have H1 : (some (ji36, 163)) = some (r1, r2) := by rw [if_pos rfl] at H; exact H
                  clear H
                  have H := H1
                  clear H1
                  simp only [Option.some.injEq, Prod.mk.injEq] at H
                  obtain ⟨rfl, rfl⟩ := H
                  have p150 : 0 ≤ ((ji36) : Int) := of_decide_eq_true (by first | (with_reducible assumption) | assumption)
                  have q150 : (ji36) < (l0.length : Int) := of_decide_eq_true (by first | (with_reducible assumption) | assumption)
                  obtain ⟨ad150, e150, hx150_0, hx150_1, hx150_2, hx150_3, hx150_4, hx150_5, hx150_6, hx150_7, hx150_8⟩ := at_T52 HR0.out (ji36) p150 q150
                  cases e150
                  replace hx150_0 := (HB.out.cell (World.block_lt_of_cell? w _ hx150_0)).trans hx150_0
                  replace hx150_1 := (HB.out.cell (World.block_lt_of_cell? w _ hx150_1)).trans hx150_1
                  replace hx150_2 := (HB.out.cell (World.block_lt_of_cell? w _ hx150_2)).trans hx150_2
                  replace hx150_3 := (HB.out.cell (World.block_lt_of_cell? w _ hx150_3)).trans hx150_3
                  replace hx150_4 := (HB.out.cell (World.block_lt_of_cell? w _ hx150_4)).trans hx150_4
                  replace hx150_5 := (HB.out.cell (World.block_lt_of_cell? w _ hx150_5)).trans hx150_5
                  replace hx150_6 := (HB.out.cell (World.block_lt_of_cell? w _ hx150_6)).trans hx150_6
                  replace hx150_7 := (HB.out.cell (World.block_lt_of_cell? w _ hx150_7)).trans hx150_7
                  replace hx150_8 := (HB.out.cell (World.block_lt_of_cell? w _ hx150_8)).trans hx150_8
                  replace p150 := eq_true p150
                  replace q150 := eq_true q150
                  go_wp2_with (first | ((with_reducible refine gate_callee (f := 57) rfl ?_); refine goesL_ (some 61) rfl rfl Tryd.func57 (by kernel_rfl) rfl #[.int .i64 ((rd_T52 l0 (ji36)).f0), .int .i64 64] rfl (by (try simp only [List.map_toArray, List.map_cons, List.map_nil]); first | done | (simp only [hji36]; rfl) | rfl | (simp only [List.length_drop, List.length_take]; rfl)) ?_; (with_reducible refine (instr_has.calls ((rd_T52 l0 (ji36)).f0) 64 true _ A39.out (UsesOk.below hU (by repeat (first | (with_reducible first | exact HB.out | apply below_alloc | apply pw_below_drewN | apply below_drew1) | exact HB.out)))).mono ?_); rintro e w' ⟨rfl, ⟨nd, rfl⟩⟩; refine ⟨_, rfl, ?_⟩))
                  go_ret2
                  exact ⟨by first | rfl | (simp [errW_none, errW_some] <;> rfl) | (simp only [← hji36]; first | rfl | (simp [errW_none, errW_some] <;> rfl)) | (simp [*, errW_none, errW_some] <;> rfl), by repeat (first | (with_reducible first | exact HB.out | apply below_alloc | apply pw_below_drewN | apply below_drew1) | exact HB.out)⟩
                · replace c40 := Bool.eq_false_iff.mpr c40
                  subst c40
                  have H1 : (some (0, 0)) = some (r1, r2) := by rw [if_neg (show ¬ (false = true) by decide)] at H; exact H
                  clear H
                  have H := H1
                  clear H1
                  simp only [Option.some.injEq, Prod.mk.injEq] at H
                  obtain ⟨rfl, rfl⟩ := H
                  have p150 : 0 ≤ ((ji36) : Int) := of_decide_eq_true (by first | (with_reducible assumption) | assumption)
                  have q150 : (ji36) < (l0.length : Int) := of_decide_eq_true (by first | (with_reducible assumption) | assumption)
                  obtain ⟨ad150, e150, hx150_0, hx150_1, hx150_2, hx150_3, hx150_4, hx150_5, hx150_6, hx150_7, hx150_8⟩ := at_T52 HR0.out (ji36) p150 q150
                  cases e150
                  replace hx150_0 := (HB.out.cell (World.block_lt_of_cell? w _ hx150_0)).trans hx150_0
                  replace hx150_1 := (HB.out.cell (World.block_lt_of_cell? w _ hx150_1)).trans hx150_1
                  replace hx150_2 := (HB.out.cell (World.block_lt_of_cell? w _ hx150_2)).trans hx150_2
                  replace hx150_3 := (HB.out.cell (World.block_lt_of_cell? w _ hx150_3)).trans hx150_3
                  replace hx150_4 := (HB.out.cell (World.block_lt_of_cell? w _ hx150_4)).trans hx150_4
                  replace hx150_5 := (HB.out.cell (World.block_lt_of_cell? w _ hx150_5)).trans hx150_5
                  replace hx150_6 := (HB.out.cell (World.block_lt_of_cell? w _ hx150_6)).trans hx150_6
                  replace hx150_7 := (HB.out.cell (World.block_lt_of_cell? w _ hx150_7)).trans hx150_7
                  replace hx150_8 := (HB.out.cell (World.block_lt_of_cell? w _ hx150_8)).trans hx150_8
                  replace p150 := eq_true p150
                  replace q150 := eq_true q150
                  go_wp2_with (first | ((with_reducible refine gate_callee (f := 57) rfl ?_); refine goesL_ (some 61) rfl rfl Tryd.func57 (by kernel_rfl) rfl #[.int .i64 ((rd_T52 l0 (ji36)).f0), .int .i64 64] rfl (by (try simp only [List.map_toArray, List.map_cons, List.map_nil]); first | done | (simp only [hji36]; rfl) | rfl | (simp only [List.length_drop, List.length_take]; rfl)) ?_; (with_reducible refine (instr_has.calls ((rd_T52 l0 (ji36)).f0) 64 false _ A39.out (UsesOk.below hU (by repeat (first | (with_reducible first | exact HB.out | apply below_alloc | apply pw_below_drewN | apply below_drew1) | exact HB.out)))).mono ?_); rintro e w' ⟨rfl, ⟨nd, rfl⟩⟩; refine ⟨_, rfl, ?_⟩))
                  go_ret2
                  exact ⟨by first | rfl | (simp [errW_none, errW_some] <;> rfl) | (simp only [← hji36]; first | rfl | (simp [errW_none, errW_some] <;> rfl)) | (simp [*, errW_none, errW_some] <;> rfl), by repeat (first | (with_reducible first | exact HB.out | apply below_alloc | apply pw_below_drewN | apply below_drew1) | exact HB.out)⟩
              · rw [if_neg c38] at H
                exact absurd H (by simp)
            · rw [if_neg c37] at H
              exact absurd H (by simp)

-- NOT PRINTED: function 71 (machine_choices)

-- NOT PRINTED: function 72 (machine_captures)

-- NOT PRINTED: function 45 (machine_table)

/-! ### machine_Run: function 37 -/

def machine_Run.f (k : Nat) (l0 : List (S52)) (a1 : ByteArray) (a2 : Int) (a3_0 : Int) (a3_1 : Int) (a3_2 : Int) : Option (Int × Int × (List (S57)) × Int × Int × Int × Int) := (instr_Check.f k l0).bind fun c => (run0E c.2 (a1.size : Int) a2 a3_0 a3_1 a3_2).bind fun e => some (0, 0, [], 0, 0, 0, e)
set_option maxHeartbeats 8000000 in
set_option maxRecDepth 100000 in
theorem machine_Run.calls (k : Nat) (A0 : Option Addr) (c0 : Nat) (l0 : List (S52)) (a1 : ByteArray) (a2 : Int) (a3_0 : Int) (a3_1 : Int) (a3_2 : Int) (r1 : Int) (r2 : Int) (r3 : List (S57)) (r4 : Int) (r5 : Int) (r6 : Int) (r7 : Int) (w : World) (hr0 : Kd.C k52 w A0 l0.length l0) (hc0 : l0.length ≤ c0) (h : machine_Run.f k l0 a1 a2 a3_0 a3_1 a3_2 = some (r1, r2, r3, r4, r5, r6, r7)) (hU : UsesOk w) :
    Calls Tryd.prog 37 #[.slice A0 l0.length c0, .string a1, .int .i64 a2, .agg #[.int .i64 a3_0, .int .i64 a3_1, .int .i64 a3_2]] w fun e w' => ∃ v2_ : Value, e = .returned (.tuple #[.agg #[.int .i64 r1, .int .i64 r2, v2_, .int .i64 r4, .int .i64 r5, .int .i64 r6], .int .i64 r7]) ∧ Kd.R k57 57 w' w.heap.size (fun _ => True) v2_ r3 ∧ Below w.heap.size w w' := by
  unfold machine_Run.f at h
  obtain ⟨⟨c1, c2⟩, hk, h⟩ := Option.bind_eq_some_iff.mp h
  have hC : ∀ w2, Below w.heap.size w w2 → Calls Tryd.prog 44 #[.slice A0 l0.length c0] w2 fun e w' => e = .returned (.tuple #[.int .i64 c1, .int .i64 c2]) ∧ Below w2.heap.size w2 w' := fun w2 hb => instr_Check.calls k A0 c0 l0 c1 c2 w2 (Kd.C_below hr0 hb) hc0 hk (UsesOk.below hU hb)
  obtain ⟨e0, he0, h⟩ := Option.bind_eq_some_iff.mp h
  simp only [Option.some.injEq, Prod.mk.injEq] at h
  obtain ⟨rfl, rfl, rfl, rfl, rfl, rfl, rfl⟩ := h
  refine (run0_any w A0 l0.length c0 c1 c2 a1 a2 a3_0 a3_1 a3_2 hC (fun w2 => table_any w2) _ he0).mono ?_
  rintro e w' ⟨rfl, hb⟩
  exact ⟨_, rfl, Kd.R_nil _ _ _ _ _, hb⟩
theorem machine_Run.mono : ∀ a0 a1 a2 a3 a4 a5 k, LeO (machine_Run.f k a0 a1 a2 a3 a4 a5) (machine_Run.f (k + 1) a0 a1 a2 a3 a4 a5) := fun a0 a1 a2 a3 a4 a5 k => LeO.bind (instr_Check.mono _ _) fun _ => LeO.refl _

/-! ### steps_looked: function 20 -/
def steps_looked.j0 : Nat → List (S52) → ByteArray → Int → Bool → Int → Int → Int → Option (Int)
  | 0, _, _, _, _, _, _, _ => none
  | k + 1, x0, x1, x2, x18, x158000, x158001, x158002 => if x18 = true then ((machine_Run.f k x0 x1 x2 x158000 x158001 0).bind fun bt158 => (if bt158.2.2.2.2.2.2 = 212 then (some 0) else (some bt158.2.2.2.2.2.2))) else ((machine_Run.f k x0 x1 x2 x158000 x158001 x158002).bind fun bt168 => (if bt168.2.2.2.2.2.2 = 212 then (some 0) else (some bt168.2.2.2.2.2.2)))
def steps_looked.f (k : Nat) (l0 : List (S52)) (a1 : ByteArray) (a2 : Int) (a3_0 : Int) (a3_1 : Int) (a3_2 : Int) : Option (Int) := if a3_2 > 0 then (steps_looked.j0 k l0 a1 a2 (decide (a3_2 ≤ 1073741824)) a3_0 a3_1 a3_2) else (steps_looked.j0 k l0 a1 a2 false a3_0 a3_1 a3_2)
theorem steps_looked.mono_l : ∀ k, (∀ y0 y1 y2 y3 y4 y5 y6, LeO (steps_looked.j0 k y0 y1 y2 y3 y4 y5 y6) (steps_looked.j0 (k + 1) y0 y1 y2 y3 y4 y5 y6))
  | 0 => fun _ _ _ _ _ _ _ r h => by simp [steps_looked.j0] at h
  | k + 1 => by
    have ih0 := steps_looked.mono_l k
    · intro y0 y1 y2 y3 y4 y5 y6
      unfold steps_looked.j0
      repeat' first
      | (with_reducible exact ih0 _ _ _ _ _ _ _)
      | (with_reducible exact machine_Run.mono _ _ _ _ _ _ _)
      | (with_reducible exact LeO.refl _)
      | (with_reducible exact LeO.none _)
      | (with_reducible refine LeO.ite ?_ ?_)
      | (with_reducible refine LeO.bind ?_ (fun _ => ?_))
      | exact ih0 _ _ _ _ _ _ _
      | exact machine_Run.mono _ _ _ _ _ _ _
      | exact LeO.none _
      | refine LeO.ite ?_ ?_
      | refine LeO.bind ?_ (fun _ => ?_)
theorem steps_looked.mono : ∀ a0 a1 a2 a3 a4 a5 k, LeO (steps_looked.f k a0 a1 a2 a3 a4 a5) (steps_looked.f (k + 1) a0 a1 a2 a3 a4 a5) := by
  intro a0 a1 a2 a3 a4 a5 k
  have ih0 := steps_looked.mono_l k
  unfold steps_looked.f
  repeat' first
      | (with_reducible exact ih0 _ _ _ _ _ _ _)
      | (with_reducible exact machine_Run.mono _ _ _ _ _ _ _)
      | (with_reducible exact LeO.refl _)
      | (with_reducible exact LeO.none _)
      | (with_reducible refine LeO.ite ?_ ?_)
      | (with_reducible refine LeO.bind ?_ (fun _ => ?_))
      | exact ih0 _ _ _ _ _ _ _
      | exact machine_Run.mono _ _ _ _ _ _ _
      | exact LeO.none _
      | refine LeO.ite ?_ ?_
      | refine LeO.bind ?_ (fun _ => ?_)
set_option maxHeartbeats 8000000 in
set_option maxRecDepth 100000 in
theorem steps_looked.calls (k : Nat) (A0 : Option Addr) (c0 : Nat) (l0 : List (S52)) (a1 : ByteArray) (a2 : Int) (a3_0 : Int) (a3_1 : Int) (a3_2 : Int) (r : Int) (w : World) (hr0 : Kd.C k52 w A0 l0.length l0) (hc0 : l0.length ≤ c0) (h : steps_looked.f k l0 a1 a2 a3_0 a3_1 a3_2 = some r) (hU : UsesOk w) :
    Calls Tryd.prog 20 #[.slice A0 l0.length c0, .string a1, .int .i64 a2, .agg #[.int .i64 a3_0, .int .i64 a3_1, .int .i64 a3_2]] w fun e w' => e = .returned (.int .i64 r) ∧ Below w.heap.size w w' := by
  have hu24 := Tryd.underlying24
  have hu80 := Tryd.underlying80
  have HR0 := Aside0.mk hr0
  have HC0 := Aside0.mk hc0
  clear hr0 hc0
  have HB := Aside0.mk (Below.refl w.heap.size w)
  have H : (if a3_2 > 0 then (steps_looked.j0 k l0 a1 a2 (decide (a3_2 ≤ 1073741824)) a3_0 a3_1 a3_2) else (steps_looked.j0 k l0 a1 a2 false a3_0 a3_1 a3_2)) = some r := h
  clear h
  have HC5 := Aside0.mk H
  clear H
  go_enter Tryd.func20, Tryd.ntmps20
  go_upto_region 1 with (first | ((with_reducible refine gate_dst (N := 7) rfl ?_); refine box_event ?hg (N := 7) ?hd (cs := #[.int .i64 a3_0, .int .i64 a3_1, .int .i64 a3_2]) (t := 24) ?hr ?_; (case hd => rfl); (case hg => rfl); (case hr => first | (go_simp; done) | (go_simp; rfl)); intro gb157 hg w6 hbox hb; have n0_ := Aside0.mk (below_step (by repeat (first | (with_reducible first | exact HB.out | apply below_alloc | apply pw_below_drewN | apply below_drew1) | exact HB.out)) hb); have n1_ := Aside0.mk (hbox); have n2_ := Aside0.mk ((by rw [hg]; exact (below_size (by repeat (first | (with_reducible first | exact HB.out | apply below_alloc | apply pw_below_drewN | apply below_drew1) | exact HB.out))) : w.heap.size ≤ gb157)); have n3_ := Aside0.mk ((by rw [hg]; exact (below_size (by repeat (first | (with_reducible first | exact HB.out | apply below_alloc | apply pw_below_drewN | apply below_drew1) | exact HB.out))) : w.heap.size ≤ gb157)); clear HB; have HB := n0_; have BK157 := n1_; have GW157 := n2_; have GE157 := n3_; clear n0_ n1_ n2_ n3_; clear hb hbox hg))
  (try simp only [Act.put, List.setIfInBounds_toArray, List.set_cons_zero, List.set_cons_succ])
  go_cut [18] (fun v18 wc => ∃ (kq : Nat) (x18_4 : Bool), v18 = .bool x18_4 ∧ Aside0 (steps_looked.j0 kq l0 a1 a2 x18_4 a3_0 a3_1 a3_2 = some r) ∧ Aside0 (kq ≤ k) ∧ Aside0 (wc.heap[gb157]? = some (.cells #[.int .i64 a3_0, .int .i64 a3_1, .int .i64 a3_2] 24 (0, 0))) ∧ Aside0 (Below w.heap.size w wc))
  case first =>
    have H := HC5.out
    clear HC5
    by_cases c7 : a3_2 > 0
    · rw [if_pos c7] at H
      have c7b0 : decide (0 < a3_2) = true := decide_eq_true c7
      clear c7
      (first | rw [c7b0] | (simp only [i64_w, i32_w]; rw [c7b0]) | skip)
      have H' := Aside0.mk H
      clear H
      have hcz8_0 : w6.cell? ⟨gb157, 0, none⟩ = some (.int .i64 a3_0) := (blk_cell BK157.out 0).trans rfl
      have hcz8_1 : w6.cell? ⟨gb157, 1, none⟩ = some (.int .i64 a3_1) := (blk_cell BK157.out 1).trans rfl
      have hcz8_2 : w6.cell? ⟨gb157, 2, none⟩ = some (.int .i64 a3_2) := (blk_cell BK157.out 2).trans rfl
      have hfz8_0 := blk_frozen BK157.out 0
      have hfz8_1 := blk_frozen BK157.out 1
      have hfz8_2 := blk_frozen BK157.out 2
      go_wp2
      go_meet
      case rel => exact ⟨_, (decide (a3_2 ≤ 1073741824)), (by first | rfl | (simp; done) | (simp [*]; done)), H', ⟨by first | omega | exact Nat.le_refl _⟩, ⟨by (with_reducible repeat (first | refine blk_drewN ?_ _ | refine blk_drew ?_ | refine blk_alloc ?_ _)); exact BK157.out⟩, ⟨by repeat (first | (with_reducible first | exact HB.out | apply below_alloc | apply pw_below_drewN | apply below_drew1 | refine below_set ?_ GE157.out) | exact HB.out)⟩⟩
    · rw [if_neg c7] at H
      have c7b0 : decide (0 < a3_2) = false := decide_eq_false c7
      clear c7
      (first | rw [c7b0] | (simp only [i64_w, i32_w]; rw [c7b0]) | skip)
      have H' := Aside0.mk H
      clear H
      have hcz9_0 : w6.cell? ⟨gb157, 0, none⟩ = some (.int .i64 a3_0) := (blk_cell BK157.out 0).trans rfl
      have hcz9_1 : w6.cell? ⟨gb157, 1, none⟩ = some (.int .i64 a3_1) := (blk_cell BK157.out 1).trans rfl
      have hcz9_2 : w6.cell? ⟨gb157, 2, none⟩ = some (.int .i64 a3_2) := (blk_cell BK157.out 2).trans rfl
      have hfz9_0 := blk_frozen BK157.out 0
      have hfz9_1 := blk_frozen BK157.out 1
      have hfz9_2 := blk_frozen BK157.out 2
      go_wp2
      go_meet
      case rel => exact ⟨_, (false), (by first | rfl | (simp; done) | (simp [*]; done)), H', ⟨by first | omega | exact Nat.le_refl _⟩, ⟨by (with_reducible repeat (first | refine blk_drewN ?_ _ | refine blk_drew ?_ | refine blk_alloc ?_ _)); exact BK157.out⟩, ⟨by repeat (first | (with_reducible first | exact HB.out | apply below_alloc | apply pw_below_drewN | apply below_drew1 | refine below_set ?_ GE157.out) | exact HB.out)⟩⟩
  case rest =>
    clear HC5
    try clear c2
    try clear p2
    try clear c7
    try clear c7b0
    try clear hcz8_0
    try clear hcz8_1
    try clear hcz8_2
    try clear hcz9_0
    try clear hcz9_1
    try clear hcz9_2
    try clear hfz8_0
    try clear hfz8_1
    try clear hfz8_2
    try clear hfz9_0
    try clear hfz9_1
    try clear hfz9_2
    obtain ⟨kq, x18_4, rfl, HA, HJ4, BK157, HB⟩ := hcut
    cases kq with
    | zero => exact absurd HA.out (by simp [steps_looked.j0])
    | succ kj4 =>
      have H := HA.out
      clear HA
      simp only [steps_looked.j0] at H
      by_cases c10 : x18_4 = true
      · subst c10
        have H1 : ((machine_Run.f kj4 l0 a1 a2 a3_0 a3_1 0).bind fun bt158 => (if bt158.2.2.2.2.2.2 = 212 then (some 0) else (some bt158.2.2.2.2.2.2))) = some r := by rw [if_pos rfl] at H; exact H
        clear H
        have H := H1
        clear H1
        replace H := Option.bind_eq_some_iff.mp H
        obtain ⟨⟨t158, t159, t160, t163, t164, t165, t166⟩, A110, H⟩ := H
        replace H : (if t166 = 212 then (some 0) else (some t166)) = some r := H
        have A11 := Aside0.mk A110
        clear A110
        by_cases c12 : t166 = 212
        · rw [if_pos c12] at H
          have c12b0 : (t166 == 212) = true := beq_iff_eq.mpr c12
          have c12b1 : (t166 != 212) = false := bne_eq_false_iff_eq.mpr c12
          clear c12
          obtain rfl := Option.some.inj H
          have hcz13_0 : wc.cell? ⟨gb157, 0, none⟩ = some (.int .i64 a3_0) := (blk_cell BK157.out 0).trans rfl
          have hcz13_1 : wc.cell? ⟨gb157, 1, none⟩ = some (.int .i64 a3_1) := (blk_cell BK157.out 1).trans rfl
          have hcz13_2 : wc.cell? ⟨gb157, 2, none⟩ = some (.int .i64 a3_2) := (blk_cell BK157.out 2).trans rfl
          have hfz13_0 := blk_frozen BK157.out 0
          have hfz13_1 := blk_frozen BK157.out 1
          have hfz13_2 := blk_frozen BK157.out 2
          go_wp2_with (first | ((with_reducible refine gate_callee (f := 37) rfl ?_); refine goesL_ (some 25) rfl rfl Tryd.func37 (by kernel_rfl) rfl #[.slice A0 l0.length c0, .string a1, .int .i64 a2, .agg #[.int .i64 a3_0, .int .i64 a3_1, .int .i64 0]] rfl (by (try simp only [List.map_toArray, List.map_cons, List.map_nil]); first | done | rfl | (simp only [List.length_drop, List.length_take]; rfl)) ?_; (with_reducible refine (machine_Run.calls kj4 _ _ l0 a1 a2 a3_0 a3_1 0 t158 t159 t160 t163 t164 t165 t166 _ ?side1 ?side2 A11.out (UsesOk.below hU (by repeat (first | (with_reducible first | exact HB.out | apply below_alloc | apply pw_below_drewN | apply below_drew1 | refine below_set ?_ GE157.out) | exact HB.out)))).mono ?_); (case side1 => exact Kd.C_below HR0.out (by repeat (first | (with_reducible first | exact HB.out | apply below_alloc | apply pw_below_drewN | apply below_drew1 | refine below_set ?_ GE157.out) | exact HB.out))); (case side2 => exact HC0.out); rintro e w14 ⟨v161, rfl, ho0, hb⟩; refine ⟨_, rfl, ?_⟩; have n0_ := Aside0.mk (Kd.R_lower ho0 (below_size (by repeat (first | (with_reducible first | exact HB.out | apply below_alloc | apply pw_below_drewN | apply below_drew1 | refine below_set ?_ GE157.out) | exact HB.out)))); have n1_ := Aside0.mk (blk_below (g := gb157) (o := .cells #[.int .i64 a3_0, .int .i64 a3_1, .int .i64 0] 24 (0, 0)) (by (with_reducible repeat (first | refine blk_drewN ?_ _ | refine blk_drew ?_ | refine blk_alloc ?_ _)); refine blk_put (cs := #[.int .i64 a3_0, .int .i64 a3_1, .int .i64 a3_2]) ?_ 2 _ rfl; (with_reducible repeat (first | refine blk_drewN ?_ _ | refine blk_drew ?_ | refine blk_alloc ?_ _)); exact BK157.out) hb); have n2_ := Aside0.mk (below_step (by repeat (first | (with_reducible first | exact HB.out | apply below_alloc | apply pw_below_drewN | apply below_drew1 | refine below_set ?_ GE157.out) | exact HB.out)) hb); clear BK157; clear HB; have HO162 := n0_; have BK157 := n1_; have HB := n2_; clear n0_ n1_ n2_; (try clear hb); (try clear hb2); (try clear hk); (try clear hi); (try clear ho0)) | ((with_reducible refine gate_dst (N := 9) rfl ?_); refine box_event ?hg (N := 9) ?hd (cs := #[.int .i64 0, .int .i64 0, .slice none 0 0, .int .i64 0, .int .i64 0, .int .i64 0]) (t := 80) ?hr ?_; (case hd => rfl); (case hg => rfl); (case hr => first | (go_simp; done) | (go_simp; rfl)); intro gb167 hg w15 hbox hb; have n0_ := Aside0.mk (Kd.R_below (by (with_reducible repeat (first | apply Kd.R_alloc | apply Kd.R_drewN | apply Kd.R_drew)); exact HO162.out) hb); have n1_ := Aside0.mk (blk_below (g := gb157) (o := .cells #[.int .i64 a3_0, .int .i64 a3_1, .int .i64 0] 24 (0, 0)) (by (with_reducible repeat (first | refine blk_drewN ?_ _ | refine blk_drew ?_ | refine blk_alloc ?_ _)); exact BK157.out) hb); have n2_ := Aside0.mk (below_step (by repeat (first | (with_reducible first | exact HB.out | apply below_alloc | apply pw_below_drewN | apply below_drew1 | refine below_set ?_ GE157.out) | exact HB.out)) hb); have n3_ := Aside0.mk (hbox); have n4_ := Aside0.mk ((by rw [hg]; exact (below_size (by repeat (first | (with_reducible first | exact HB.out | apply below_alloc | apply pw_below_drewN | apply below_drew1 | refine below_set ?_ GE157.out) | exact HB.out))) : w.heap.size ≤ gb167)); have n5_ := Aside0.mk ((by rw [hg]; exact (below_size (by repeat (first | (with_reducible first | exact HB.out | apply below_alloc | apply pw_below_drewN | apply below_drew1 | refine below_set ?_ GE157.out) | exact HB.out))) : w.heap.size ≤ gb167)); have n6_ := Aside0.mk ((by rw [hg]; exact Nat.ne_of_lt (blk_lt (g := gb157) (o := .cells #[.int .i64 a3_0, .int .i64 a3_1, .int .i64 0] 24 (0, 0)) (by (with_reducible repeat (first | refine blk_drewN ?_ _ | refine blk_drew ?_ | refine blk_alloc ?_ _)); exact BK157.out)) : gb157 ≠ gb167)); have n7_ := Aside0.mk ((by rw [hg]; exact Nat.ne_of_gt (blk_lt (g := gb157) (o := .cells #[.int .i64 a3_0, .int .i64 a3_1, .int .i64 0] 24 (0, 0)) (by (with_reducible repeat (first | refine blk_drewN ?_ _ | refine blk_drew ?_ | refine blk_alloc ?_ _)); exact BK157.out)) : gb167 ≠ gb157)); clear HO162; clear BK157; clear HB; have HO162 := n0_; have BK157 := n1_; have HB := n2_; have BK167 := n3_; have GW167 := n4_; have GE167 := n5_; have NB157_167 := n6_; have NB167_157 := n7_; clear n0_ n1_ n2_ n3_ n4_ n5_ n6_ n7_; clear hb hbox hg; have hnb16 := NB167_157.out; have hnc16 := NB157_167.out; have hcz17_0 : w15.cell? ⟨gb167, 0, none⟩ = some (.int .i64 0) := (blk_cell BK167.out 0).trans rfl; have hcz17_1 : w15.cell? ⟨gb167, 1, none⟩ = some (.int .i64 0) := (blk_cell BK167.out 1).trans rfl; have hcz17_2 : w15.cell? ⟨gb167, 2, none⟩ = some (.slice none 0 0) := (blk_cell BK167.out 2).trans rfl; have hcz17_3 : w15.cell? ⟨gb167, 3, none⟩ = some (.int .i64 0) := (blk_cell BK167.out 3).trans rfl; have hcz17_4 : w15.cell? ⟨gb167, 4, none⟩ = some (.int .i64 0) := (blk_cell BK167.out 4).trans rfl; have hcz17_5 : w15.cell? ⟨gb167, 5, none⟩ = some (.int .i64 0) := (blk_cell BK167.out 5).trans rfl; have hfz17_0 := blk_frozen BK167.out 0; have hfz17_1 := blk_frozen BK167.out 1; have hfz17_2 := blk_frozen BK167.out 2; have hfz17_3 := blk_frozen BK167.out 3; have hfz17_4 := blk_frozen BK167.out 4; have hfz17_5 := blk_frozen BK167.out 5; obtain ⟨Ao18, co18, eo18⟩ := Kd.R_slice HO162.out; subst eo18))
          go_ret
          exact ⟨by first | rfl | (simp [errW_none, errW_some] <;> rfl) | (simp [*, errW_none, errW_some] <;> rfl), by repeat (first | (with_reducible first | exact HB.out | apply below_alloc | apply pw_below_drewN | apply below_drew1 | refine below_set ?_ GE157.out | refine below_set ?_ GE167.out) | exact HB.out)⟩
        · rw [if_neg c12] at H
          have c12b0 : (t166 == 212) = false := beq_eq_false_iff_ne.mpr c12
          have c12b1 : (t166 != 212) = true := bne_iff_ne.mpr c12
          obtain rfl := Option.some.inj H
          have hcz19_0 : wc.cell? ⟨gb157, 0, none⟩ = some (.int .i64 a3_0) := (blk_cell BK157.out 0).trans rfl
          have hcz19_1 : wc.cell? ⟨gb157, 1, none⟩ = some (.int .i64 a3_1) := (blk_cell BK157.out 1).trans rfl
          have hcz19_2 : wc.cell? ⟨gb157, 2, none⟩ = some (.int .i64 a3_2) := (blk_cell BK157.out 2).trans rfl
          have hfz19_0 := blk_frozen BK157.out 0
          have hfz19_1 := blk_frozen BK157.out 1
          have hfz19_2 := blk_frozen BK157.out 2
          go_wp2_with (first | ((with_reducible refine gate_callee (f := 37) rfl ?_); refine goesL_ (some 25) rfl rfl Tryd.func37 (by kernel_rfl) rfl #[.slice A0 l0.length c0, .string a1, .int .i64 a2, .agg #[.int .i64 a3_0, .int .i64 a3_1, .int .i64 0]] rfl (by (try simp only [List.map_toArray, List.map_cons, List.map_nil]); first | done | rfl | (simp only [List.length_drop, List.length_take]; rfl)) ?_; (with_reducible refine (machine_Run.calls kj4 _ _ l0 a1 a2 a3_0 a3_1 0 t158 t159 t160 t163 t164 t165 t166 _ ?side1 ?side2 A11.out (UsesOk.below hU (by repeat (first | (with_reducible first | exact HB.out | apply below_alloc | apply pw_below_drewN | apply below_drew1 | refine below_set ?_ GE157.out) | exact HB.out)))).mono ?_); (case side1 => exact Kd.C_below HR0.out (by repeat (first | (with_reducible first | exact HB.out | apply below_alloc | apply pw_below_drewN | apply below_drew1 | refine below_set ?_ GE157.out) | exact HB.out))); (case side2 => exact HC0.out); rintro e w20 ⟨v161, rfl, ho0, hb⟩; refine ⟨_, rfl, ?_⟩; have n0_ := Aside0.mk (Kd.R_lower ho0 (below_size (by repeat (first | (with_reducible first | exact HB.out | apply below_alloc | apply pw_below_drewN | apply below_drew1 | refine below_set ?_ GE157.out) | exact HB.out)))); have n1_ := Aside0.mk (blk_below (g := gb157) (o := .cells #[.int .i64 a3_0, .int .i64 a3_1, .int .i64 0] 24 (0, 0)) (by (with_reducible repeat (first | refine blk_drewN ?_ _ | refine blk_drew ?_ | refine blk_alloc ?_ _)); refine blk_put (cs := #[.int .i64 a3_0, .int .i64 a3_1, .int .i64 a3_2]) ?_ 2 _ rfl; (with_reducible repeat (first | refine blk_drewN ?_ _ | refine blk_drew ?_ | refine blk_alloc ?_ _)); exact BK157.out) hb); have n2_ := Aside0.mk (below_step (by repeat (first | (with_reducible first | exact HB.out | apply below_alloc | apply pw_below_drewN | apply below_drew1 | refine below_set ?_ GE157.out) | exact HB.out)) hb); clear BK157; clear HB; have HO162 := n0_; have BK157 := n1_; have HB := n2_; clear n0_ n1_ n2_; (try clear hb); (try clear hb2); (try clear hk); (try clear hi); (try clear ho0)) | ((with_reducible refine gate_dst (N := 9) rfl ?_); refine box_event ?hg (N := 9) ?hd (cs := #[.int .i64 0, .int .i64 0, .slice none 0 0, .int .i64 0, .int .i64 0, .int .i64 0]) (t := 80) ?hr ?_; (case hd => rfl); (case hg => rfl); (case hr => first | (go_simp; done) | (go_simp; rfl)); intro gb167 hg w21 hbox hb; have n0_ := Aside0.mk (Kd.R_below (by (with_reducible repeat (first | apply Kd.R_alloc | apply Kd.R_drewN | apply Kd.R_drew)); exact HO162.out) hb); have n1_ := Aside0.mk (blk_below (g := gb157) (o := .cells #[.int .i64 a3_0, .int .i64 a3_1, .int .i64 0] 24 (0, 0)) (by (with_reducible repeat (first | refine blk_drewN ?_ _ | refine blk_drew ?_ | refine blk_alloc ?_ _)); exact BK157.out) hb); have n2_ := Aside0.mk (below_step (by repeat (first | (with_reducible first | exact HB.out | apply below_alloc | apply pw_below_drewN | apply below_drew1 | refine below_set ?_ GE157.out) | exact HB.out)) hb); have n3_ := Aside0.mk (hbox); have n4_ := Aside0.mk ((by rw [hg]; exact (below_size (by repeat (first | (with_reducible first | exact HB.out | apply below_alloc | apply pw_below_drewN | apply below_drew1 | refine below_set ?_ GE157.out) | exact HB.out))) : w.heap.size ≤ gb167)); have n5_ := Aside0.mk ((by rw [hg]; exact (below_size (by repeat (first | (with_reducible first | exact HB.out | apply below_alloc | apply pw_below_drewN | apply below_drew1 | refine below_set ?_ GE157.out) | exact HB.out))) : w.heap.size ≤ gb167)); have n6_ := Aside0.mk ((by rw [hg]; exact Nat.ne_of_lt (blk_lt (g := gb157) (o := .cells #[.int .i64 a3_0, .int .i64 a3_1, .int .i64 0] 24 (0, 0)) (by (with_reducible repeat (first | refine blk_drewN ?_ _ | refine blk_drew ?_ | refine blk_alloc ?_ _)); exact BK157.out)) : gb157 ≠ gb167)); have n7_ := Aside0.mk ((by rw [hg]; exact Nat.ne_of_gt (blk_lt (g := gb157) (o := .cells #[.int .i64 a3_0, .int .i64 a3_1, .int .i64 0] 24 (0, 0)) (by (with_reducible repeat (first | refine blk_drewN ?_ _ | refine blk_drew ?_ | refine blk_alloc ?_ _)); exact BK157.out)) : gb167 ≠ gb157)); clear HO162; clear BK157; clear HB; have HO162 := n0_; have BK157 := n1_; have HB := n2_; have BK167 := n3_; have GW167 := n4_; have GE167 := n5_; have NB157_167 := n6_; have NB167_157 := n7_; clear n0_ n1_ n2_ n3_ n4_ n5_ n6_ n7_; clear hb hbox hg; have hnb22 := NB167_157.out; have hnc22 := NB157_167.out; have hcz23_0 : w21.cell? ⟨gb167, 0, none⟩ = some (.int .i64 0) := (blk_cell BK167.out 0).trans rfl; have hcz23_1 : w21.cell? ⟨gb167, 1, none⟩ = some (.int .i64 0) := (blk_cell BK167.out 1).trans rfl; have hcz23_2 : w21.cell? ⟨gb167, 2, none⟩ = some (.slice none 0 0) := (blk_cell BK167.out 2).trans rfl; have hcz23_3 : w21.cell? ⟨gb167, 3, none⟩ = some (.int .i64 0) := (blk_cell BK167.out 3).trans rfl; have hcz23_4 : w21.cell? ⟨gb167, 4, none⟩ = some (.int .i64 0) := (blk_cell BK167.out 4).trans rfl; have hcz23_5 : w21.cell? ⟨gb167, 5, none⟩ = some (.int .i64 0) := (blk_cell BK167.out 5).trans rfl; have hfz23_0 := blk_frozen BK167.out 0; have hfz23_1 := blk_frozen BK167.out 1; have hfz23_2 := blk_frozen BK167.out 2; have hfz23_3 := blk_frozen BK167.out 3; have hfz23_4 := blk_frozen BK167.out 4; have hfz23_5 := blk_frozen BK167.out 5; obtain ⟨Ao24, co24, eo24⟩ := Kd.R_slice HO162.out; subst eo24))
          go_ret
          exact ⟨by first | rfl | (simp [errW_none, errW_some] <;> rfl) | (simp [*, errW_none, errW_some] <;> rfl), by repeat (first | (with_reducible first | exact HB.out | apply below_alloc | apply pw_below_drewN | apply below_drew1 | refine below_set ?_ GE157.out | refine below_set ?_ GE167.out) | exact HB.out)⟩
      · replace c10 := Bool.eq_false_iff.mpr c10
        subst c10
        have H1 : ((machine_Run.f kj4 l0 a1 a2 a3_0 a3_1 a3_2).bind fun bt168 => (if bt168.2.2.2.2.2.2 = 212 then (some 0) else (some bt168.2.2.2.2.2.2))) = some r := by rw [if_neg (show ¬ (false = true) by decide)] at H; exact H
        clear H
        have H := H1
        clear H1
        replace H := Option.bind_eq_some_iff.mp H
        obtain ⟨⟨t168, t169, t170, t173, t174, t175, t176⟩, A250, H⟩ := H
        replace H : (if t176 = 212 then (some 0) else (some t176)) = some r := H
        have A25 := Aside0.mk A250
        clear A250
        by_cases c26 : t176 = 212
        · rw [if_pos c26] at H
          have c26b0 : (t176 == 212) = true := beq_iff_eq.mpr c26
          have c26b1 : (t176 != 212) = false := bne_eq_false_iff_eq.mpr c26
          clear c26
          obtain rfl := Option.some.inj H
          have hcz27_0 : wc.cell? ⟨gb157, 0, none⟩ = some (.int .i64 a3_0) := (blk_cell BK157.out 0).trans rfl
          have hcz27_1 : wc.cell? ⟨gb157, 1, none⟩ = some (.int .i64 a3_1) := (blk_cell BK157.out 1).trans rfl
          have hcz27_2 : wc.cell? ⟨gb157, 2, none⟩ = some (.int .i64 a3_2) := (blk_cell BK157.out 2).trans rfl
          have hfz27_0 := blk_frozen BK157.out 0
          have hfz27_1 := blk_frozen BK157.out 1
          have hfz27_2 := blk_frozen BK157.out 2
          go_wp2_with (first | ((with_reducible refine gate_callee (f := 37) rfl ?_); refine goesL_ (some 25) rfl rfl Tryd.func37 (by kernel_rfl) rfl #[.slice A0 l0.length c0, .string a1, .int .i64 a2, .agg #[.int .i64 a3_0, .int .i64 a3_1, .int .i64 a3_2]] rfl (by (try simp only [List.map_toArray, List.map_cons, List.map_nil]); first | done | rfl | (simp only [List.length_drop, List.length_take]; rfl)) ?_; (with_reducible refine (machine_Run.calls kj4 _ _ l0 a1 a2 a3_0 a3_1 a3_2 t168 t169 t170 t173 t174 t175 t176 _ ?side1 ?side2 A25.out (UsesOk.below hU (by repeat (first | (with_reducible first | exact HB.out | apply below_alloc | apply pw_below_drewN | apply below_drew1 | refine below_set ?_ GE157.out) | exact HB.out)))).mono ?_); (case side1 => repeat (first | exact (Kd.C_below HR0.out HB.out) | (with_reducible refine Kd.C_alloc ?_ _) | (with_reducible refine Kd.C_drewN ?_ _) | (with_reducible refine Kd.C_drew ?_))); (case side2 => exact HC0.out); rintro e w28 ⟨v171, rfl, ho0, hb⟩; refine ⟨_, rfl, ?_⟩; have n0_ := Aside0.mk (Kd.R_lower ho0 (below_size (by repeat (first | (with_reducible first | exact HB.out | apply below_alloc | apply pw_below_drewN | apply below_drew1 | refine below_set ?_ GE157.out) | exact HB.out)))); have n1_ := Aside0.mk (blk_below (g := gb157) (o := .cells #[.int .i64 a3_0, .int .i64 a3_1, .int .i64 a3_2] 24 (0, 0)) (by (with_reducible repeat (first | refine blk_drewN ?_ _ | refine blk_drew ?_ | refine blk_alloc ?_ _)); exact BK157.out) hb); have n2_ := Aside0.mk (below_step (by repeat (first | (with_reducible first | exact HB.out | apply below_alloc | apply pw_below_drewN | apply below_drew1 | refine below_set ?_ GE157.out) | exact HB.out)) hb); clear BK157; clear HB; have HO172 := n0_; have BK157 := n1_; have HB := n2_; clear n0_ n1_ n2_; (try clear hb); (try clear hb2); (try clear hk); (try clear hi); (try clear ho0)) | ((with_reducible refine gate_dst (N := 9) rfl ?_); refine box_event ?hg (N := 9) ?hd (cs := #[.int .i64 0, .int .i64 0, .slice none 0 0, .int .i64 0, .int .i64 0, .int .i64 0]) (t := 80) ?hr ?_; (case hd => rfl); (case hg => rfl); (case hr => first | (go_simp; done) | (go_simp; rfl)); intro gb177 hg w29 hbox hb; have n0_ := Aside0.mk (Kd.R_below (by (with_reducible repeat (first | apply Kd.R_alloc | apply Kd.R_drewN | apply Kd.R_drew)); exact HO172.out) hb); have n1_ := Aside0.mk (blk_below (g := gb157) (o := .cells #[.int .i64 a3_0, .int .i64 a3_1, .int .i64 a3_2] 24 (0, 0)) (by (with_reducible repeat (first | refine blk_drewN ?_ _ | refine blk_drew ?_ | refine blk_alloc ?_ _)); exact BK157.out) hb); have n2_ := Aside0.mk (below_step (by repeat (first | (with_reducible first | exact HB.out | apply below_alloc | apply pw_below_drewN | apply below_drew1 | refine below_set ?_ GE157.out) | exact HB.out)) hb); have n3_ := Aside0.mk (hbox); have n4_ := Aside0.mk ((by rw [hg]; exact (below_size (by repeat (first | (with_reducible first | exact HB.out | apply below_alloc | apply pw_below_drewN | apply below_drew1 | refine below_set ?_ GE157.out) | exact HB.out))) : w.heap.size ≤ gb177)); have n5_ := Aside0.mk ((by rw [hg]; exact (below_size (by repeat (first | (with_reducible first | exact HB.out | apply below_alloc | apply pw_below_drewN | apply below_drew1 | refine below_set ?_ GE157.out) | exact HB.out))) : w.heap.size ≤ gb177)); have n6_ := Aside0.mk ((by rw [hg]; exact Nat.ne_of_lt (blk_lt (g := gb157) (o := .cells #[.int .i64 a3_0, .int .i64 a3_1, .int .i64 a3_2] 24 (0, 0)) (by (with_reducible repeat (first | refine blk_drewN ?_ _ | refine blk_drew ?_ | refine blk_alloc ?_ _)); exact BK157.out)) : gb157 ≠ gb177)); have n7_ := Aside0.mk ((by rw [hg]; exact Nat.ne_of_gt (blk_lt (g := gb157) (o := .cells #[.int .i64 a3_0, .int .i64 a3_1, .int .i64 a3_2] 24 (0, 0)) (by (with_reducible repeat (first | refine blk_drewN ?_ _ | refine blk_drew ?_ | refine blk_alloc ?_ _)); exact BK157.out)) : gb177 ≠ gb157)); clear HO172; clear BK157; clear HB; have HO172 := n0_; have BK157 := n1_; have HB := n2_; have BK177 := n3_; have GW177 := n4_; have GE177 := n5_; have NB157_177 := n6_; have NB177_157 := n7_; clear n0_ n1_ n2_ n3_ n4_ n5_ n6_ n7_; clear hb hbox hg; have hnb30 := NB177_157.out; have hnc30 := NB157_177.out; have hcz31_0 : w29.cell? ⟨gb177, 0, none⟩ = some (.int .i64 0) := (blk_cell BK177.out 0).trans rfl; have hcz31_1 : w29.cell? ⟨gb177, 1, none⟩ = some (.int .i64 0) := (blk_cell BK177.out 1).trans rfl; have hcz31_2 : w29.cell? ⟨gb177, 2, none⟩ = some (.slice none 0 0) := (blk_cell BK177.out 2).trans rfl; have hcz31_3 : w29.cell? ⟨gb177, 3, none⟩ = some (.int .i64 0) := (blk_cell BK177.out 3).trans rfl; have hcz31_4 : w29.cell? ⟨gb177, 4, none⟩ = some (.int .i64 0) := (blk_cell BK177.out 4).trans rfl; have hcz31_5 : w29.cell? ⟨gb177, 5, none⟩ = some (.int .i64 0) := (blk_cell BK177.out 5).trans rfl; have hfz31_0 := blk_frozen BK177.out 0; have hfz31_1 := blk_frozen BK177.out 1; have hfz31_2 := blk_frozen BK177.out 2; have hfz31_3 := blk_frozen BK177.out 3; have hfz31_4 := blk_frozen BK177.out 4; have hfz31_5 := blk_frozen BK177.out 5; obtain ⟨Ao32, co32, eo32⟩ := Kd.R_slice HO172.out; subst eo32))
          go_ret
          exact ⟨by first | rfl | (simp [errW_none, errW_some] <;> rfl) | (simp [*, errW_none, errW_some] <;> rfl), by repeat (first | (with_reducible first | exact HB.out | apply below_alloc | apply pw_below_drewN | apply below_drew1 | refine below_set ?_ GE157.out | refine below_set ?_ GE177.out) | exact HB.out)⟩
        · rw [if_neg c26] at H
          have c26b0 : (t176 == 212) = false := beq_eq_false_iff_ne.mpr c26
          have c26b1 : (t176 != 212) = true := bne_iff_ne.mpr c26
          obtain rfl := Option.some.inj H
          have hcz33_0 : wc.cell? ⟨gb157, 0, none⟩ = some (.int .i64 a3_0) := (blk_cell BK157.out 0).trans rfl
          have hcz33_1 : wc.cell? ⟨gb157, 1, none⟩ = some (.int .i64 a3_1) := (blk_cell BK157.out 1).trans rfl
          have hcz33_2 : wc.cell? ⟨gb157, 2, none⟩ = some (.int .i64 a3_2) := (blk_cell BK157.out 2).trans rfl
          have hfz33_0 := blk_frozen BK157.out 0
          have hfz33_1 := blk_frozen BK157.out 1
          have hfz33_2 := blk_frozen BK157.out 2
          go_wp2_with (first | ((with_reducible refine gate_callee (f := 37) rfl ?_); refine goesL_ (some 25) rfl rfl Tryd.func37 (by kernel_rfl) rfl #[.slice A0 l0.length c0, .string a1, .int .i64 a2, .agg #[.int .i64 a3_0, .int .i64 a3_1, .int .i64 a3_2]] rfl (by (try simp only [List.map_toArray, List.map_cons, List.map_nil]); first | done | rfl | (simp only [List.length_drop, List.length_take]; rfl)) ?_; (with_reducible refine (machine_Run.calls kj4 _ _ l0 a1 a2 a3_0 a3_1 a3_2 t168 t169 t170 t173 t174 t175 t176 _ ?side1 ?side2 A25.out (UsesOk.below hU (by repeat (first | (with_reducible first | exact HB.out | apply below_alloc | apply pw_below_drewN | apply below_drew1 | refine below_set ?_ GE157.out) | exact HB.out)))).mono ?_); (case side1 => repeat (first | exact (Kd.C_below HR0.out HB.out) | (with_reducible refine Kd.C_alloc ?_ _) | (with_reducible refine Kd.C_drewN ?_ _) | (with_reducible refine Kd.C_drew ?_))); (case side2 => exact HC0.out); rintro e w34 ⟨v171, rfl, ho0, hb⟩; refine ⟨_, rfl, ?_⟩; have n0_ := Aside0.mk (Kd.R_lower ho0 (below_size (by repeat (first | (with_reducible first | exact HB.out | apply below_alloc | apply pw_below_drewN | apply below_drew1 | refine below_set ?_ GE157.out) | exact HB.out)))); have n1_ := Aside0.mk (blk_below (g := gb157) (o := .cells #[.int .i64 a3_0, .int .i64 a3_1, .int .i64 a3_2] 24 (0, 0)) (by (with_reducible repeat (first | refine blk_drewN ?_ _ | refine blk_drew ?_ | refine blk_alloc ?_ _)); exact BK157.out) hb); have n2_ := Aside0.mk (below_step (by repeat (first | (with_reducible first | exact HB.out | apply below_alloc | apply pw_below_drewN | apply below_drew1 | refine below_set ?_ GE157.out) | exact HB.out)) hb); clear BK157; clear HB; have HO172 := n0_; have BK157 := n1_; have HB := n2_; clear n0_ n1_ n2_; (try clear hb); (try clear hb2); (try clear hk); (try clear hi); (try clear ho0)) | ((with_reducible refine gate_dst (N := 9) rfl ?_); refine box_event ?hg (N := 9) ?hd (cs := #[.int .i64 0, .int .i64 0, .slice none 0 0, .int .i64 0, .int .i64 0, .int .i64 0]) (t := 80) ?hr ?_; (case hd => rfl); (case hg => rfl); (case hr => first | (go_simp; done) | (go_simp; rfl)); intro gb177 hg w35 hbox hb; have n0_ := Aside0.mk (Kd.R_below (by (with_reducible repeat (first | apply Kd.R_alloc | apply Kd.R_drewN | apply Kd.R_drew)); exact HO172.out) hb); have n1_ := Aside0.mk (blk_below (g := gb157) (o := .cells #[.int .i64 a3_0, .int .i64 a3_1, .int .i64 a3_2] 24 (0, 0)) (by (with_reducible repeat (first | refine blk_drewN ?_ _ | refine blk_drew ?_ | refine blk_alloc ?_ _)); exact BK157.out) hb); have n2_ := Aside0.mk (below_step (by repeat (first | (with_reducible first | exact HB.out | apply below_alloc | apply pw_below_drewN | apply below_drew1 | refine below_set ?_ GE157.out) | exact HB.out)) hb); have n3_ := Aside0.mk (hbox); have n4_ := Aside0.mk ((by rw [hg]; exact (below_size (by repeat (first | (with_reducible first | exact HB.out | apply below_alloc | apply pw_below_drewN | apply below_drew1 | refine below_set ?_ GE157.out) | exact HB.out))) : w.heap.size ≤ gb177)); have n5_ := Aside0.mk ((by rw [hg]; exact (below_size (by repeat (first | (with_reducible first | exact HB.out | apply below_alloc | apply pw_below_drewN | apply below_drew1 | refine below_set ?_ GE157.out) | exact HB.out))) : w.heap.size ≤ gb177)); have n6_ := Aside0.mk ((by rw [hg]; exact Nat.ne_of_lt (blk_lt (g := gb157) (o := .cells #[.int .i64 a3_0, .int .i64 a3_1, .int .i64 a3_2] 24 (0, 0)) (by (with_reducible repeat (first | refine blk_drewN ?_ _ | refine blk_drew ?_ | refine blk_alloc ?_ _)); exact BK157.out)) : gb157 ≠ gb177)); have n7_ := Aside0.mk ((by rw [hg]; exact Nat.ne_of_gt (blk_lt (g := gb157) (o := .cells #[.int .i64 a3_0, .int .i64 a3_1, .int .i64 a3_2] 24 (0, 0)) (by (with_reducible repeat (first | refine blk_drewN ?_ _ | refine blk_drew ?_ | refine blk_alloc ?_ _)); exact BK157.out)) : gb177 ≠ gb157)); clear HO172; clear BK157; clear HB; have HO172 := n0_; have BK157 := n1_; have HB := n2_; have BK177 := n3_; have GW177 := n4_; have GE177 := n5_; have NB157_177 := n6_; have NB177_157 := n7_; clear n0_ n1_ n2_ n3_ n4_ n5_ n6_ n7_; clear hb hbox hg; have hnb36 := NB177_157.out; have hnc36 := NB157_177.out; have hcz37_0 : w35.cell? ⟨gb177, 0, none⟩ = some (.int .i64 0) := (blk_cell BK177.out 0).trans rfl; have hcz37_1 : w35.cell? ⟨gb177, 1, none⟩ = some (.int .i64 0) := (blk_cell BK177.out 1).trans rfl; have hcz37_2 : w35.cell? ⟨gb177, 2, none⟩ = some (.slice none 0 0) := (blk_cell BK177.out 2).trans rfl; have hcz37_3 : w35.cell? ⟨gb177, 3, none⟩ = some (.int .i64 0) := (blk_cell BK177.out 3).trans rfl; have hcz37_4 : w35.cell? ⟨gb177, 4, none⟩ = some (.int .i64 0) := (blk_cell BK177.out 4).trans rfl; have hcz37_5 : w35.cell? ⟨gb177, 5, none⟩ = some (.int .i64 0) := (blk_cell BK177.out 5).trans rfl; have hfz37_0 := blk_frozen BK177.out 0; have hfz37_1 := blk_frozen BK177.out 1; have hfz37_2 := blk_frozen BK177.out 2; have hfz37_3 := blk_frozen BK177.out 3; have hfz37_4 := blk_frozen BK177.out 4; have hfz37_5 := blk_frozen BK177.out 5; obtain ⟨Ao38, co38, eo38⟩ := Kd.R_slice HO172.out; subst eo38))
          go_ret
          exact ⟨by first | rfl | (simp [errW_none, errW_some] <;> rfl) | (simp [*, errW_none, errW_some] <;> rfl), by repeat (first | (with_reducible first | exact HB.out | apply below_alloc | apply pw_below_drewN | apply below_drew1 | refine below_set ?_ GE157.out | refine below_set ?_ GE177.out) | exact HB.out)⟩

/-! ### harrowref16_Uses: function 46 -/
def harrowref16_Uses.f (a0 : Int) : Option (Int × ByteArray × Bool) := if a0 = 1 then (some (0, (⟨#[97, 110, 121]⟩ : ByteArray), true)) else (if a0 = 2 then (some (4, (⟨#[99, 104, 97, 114]⟩ : ByteArray), true)) else (if a0 = 3 then (some (16, (⟨#[115, 101, 116]⟩ : ByteArray), true)) else (if a0 = 4 then (some (1, (⟨#[116, 101, 115, 116, 97, 110, 121]⟩ : ByteArray), true)) else (if a0 = 5 then (some (5, (⟨#[116, 101, 115, 116, 99, 104, 97, 114]⟩ : ByteArray), true)) else (if a0 = 6 then (some (17, (⟨#[116, 101, 115, 116, 115, 101, 116]⟩ : ByteArray), true)) else (if a0 = 7 then (some (16, (⟨#[115, 112, 97, 110]⟩ : ByteArray), true)) else (if a0 = 8 then (some (1, (⟨#[99, 104, 111, 105, 99, 101]⟩ : ByteArray), true)) else (if a0 = 9 then (some (1, (⟨#[99, 111, 109, 109, 105, 116]⟩ : ByteArray), false)) else (if a0 = 10 then (some (1, (⟨#[112, 97, 114, 116, 105, 97, 108]⟩ : ByteArray), false)) else (if a0 = 11 then (some (1, (⟨#[98, 97, 99, 107]⟩ : ByteArray), false)) else (if a0 = 12 then (some (0, (⟨#[116, 119, 105, 99, 101]⟩ : ByteArray), false)) else (if a0 = 13 then (some (0, (⟨#[102, 97, 105, 108]⟩ : ByteArray), false)) else (if a0 = 14 then (some (1, (⟨#[106, 117, 109, 112]⟩ : ByteArray), false)) else (if a0 = 15 then (some (1, (⟨#[99, 97, 108, 108]⟩ : ByteArray), true)) else (if a0 = 16 then (some (0, (⟨#[114, 101, 116]⟩ : ByteArray), false)) else (if a0 = 17 then (some (0, (⟨#[101, 110, 100]⟩ : ByteArray), false)) else (if a0 = 18 then (some (8, (⟨#[111, 112, 101, 110]⟩ : ByteArray), true)) else (if a0 = 19 then (some (0, (⟨#[99, 108, 111, 115, 101]⟩ : ByteArray), true)) else (if a0 = 20 then (some (10, (⟨#[102, 117, 108, 108]⟩ : ByteArray), true)) else (some (0, (⟨#[]⟩ : ByteArray), false)))))))))))))))))))))
set_option maxHeartbeats 8000000 in
set_option maxRecDepth 100000 in
theorem harrowref16_Uses.calls (a0 : Int) (r1 : Int) (r2 : ByteArray) (r3 : Bool) (w : World) (h : harrowref16_Uses.f a0 = some (r1, r2, r3)) :
    Calls Tryd.prog 46 #[.int .i64 a0] w fun e w' => e = .returned (.tuple #[.int .i64 r1, .string r2, .bool r3]) ∧ Drawn0 w w' := by
  have H : (if a0 = 1 then (some (0, (⟨#[97, 110, 121]⟩ : ByteArray), true)) else (if a0 = 2 then (some (4, (⟨#[99, 104, 97, 114]⟩ : ByteArray), true)) else (if a0 = 3 then (some (16, (⟨#[115, 101, 116]⟩ : ByteArray), true)) else (if a0 = 4 then (some (1, (⟨#[116, 101, 115, 116, 97, 110, 121]⟩ : ByteArray), true)) else (if a0 = 5 then (some (5, (⟨#[116, 101, 115, 116, 99, 104, 97, 114]⟩ : ByteArray), true)) else (if a0 = 6 then (some (17, (⟨#[116, 101, 115, 116, 115, 101, 116]⟩ : ByteArray), true)) else (if a0 = 7 then (some (16, (⟨#[115, 112, 97, 110]⟩ : ByteArray), true)) else (if a0 = 8 then (some (1, (⟨#[99, 104, 111, 105, 99, 101]⟩ : ByteArray), true)) else (if a0 = 9 then (some (1, (⟨#[99, 111, 109, 109, 105, 116]⟩ : ByteArray), false)) else (if a0 = 10 then (some (1, (⟨#[112, 97, 114, 116, 105, 97, 108]⟩ : ByteArray), false)) else (if a0 = 11 then (some (1, (⟨#[98, 97, 99, 107]⟩ : ByteArray), false)) else (if a0 = 12 then (some (0, (⟨#[116, 119, 105, 99, 101]⟩ : ByteArray), false)) else (if a0 = 13 then (some (0, (⟨#[102, 97, 105, 108]⟩ : ByteArray), false)) else (if a0 = 14 then (some (1, (⟨#[106, 117, 109, 112]⟩ : ByteArray), false)) else (if a0 = 15 then (some (1, (⟨#[99, 97, 108, 108]⟩ : ByteArray), true)) else (if a0 = 16 then (some (0, (⟨#[114, 101, 116]⟩ : ByteArray), false)) else (if a0 = 17 then (some (0, (⟨#[101, 110, 100]⟩ : ByteArray), false)) else (if a0 = 18 then (some (8, (⟨#[111, 112, 101, 110]⟩ : ByteArray), true)) else (if a0 = 19 then (some (0, (⟨#[99, 108, 111, 115, 101]⟩ : ByteArray), true)) else (if a0 = 20 then (some (10, (⟨#[102, 117, 108, 108]⟩ : ByteArray), true)) else (some (0, (⟨#[]⟩ : ByteArray), false)))))))))))))))))))))) = some (r1, r2, r3) := h
  clear h
  by_cases c2 : a0 = 1
  · rw [if_pos c2] at H
    have c2b0 : (a0 == 1) = true := beq_iff_eq.mpr c2
    have c2b1 : (a0 != 1) = false := bne_eq_false_iff_eq.mpr c2
    clear c2
    simp only [Option.some.injEq, Prod.mk.injEq] at H
    obtain ⟨rfl, rfl, rfl⟩ := H
    go_enter Tryd.func46, Tryd.ntmps46
    go_wp2
    go_ret3
    exact ⟨by first | rfl | (simp; done) | (simp [*]; done), by repeat (first | exact Drawn0.refl _ | apply Drawn0.step)⟩
  · rw [if_neg c2] at H
    have c2b0 : (a0 == 1) = false := beq_eq_false_iff_ne.mpr c2
    have c2b1 : (a0 != 1) = true := bne_iff_ne.mpr c2
    by_cases c3 : a0 = 2
    · rw [if_pos c3] at H
      have c3b0 : (a0 == 2) = true := beq_iff_eq.mpr c3
      have c3b1 : (a0 != 2) = false := bne_eq_false_iff_eq.mpr c3
      clear c3
      simp only [Option.some.injEq, Prod.mk.injEq] at H
      obtain ⟨rfl, rfl, rfl⟩ := H
      go_enter Tryd.func46, Tryd.ntmps46
      go_wp2
      go_ret3
      exact ⟨by first | rfl | (simp; done) | (simp [*]; done), by repeat (first | exact Drawn0.refl _ | apply Drawn0.step)⟩
    · rw [if_neg c3] at H
      have c3b0 : (a0 == 2) = false := beq_eq_false_iff_ne.mpr c3
      have c3b1 : (a0 != 2) = true := bne_iff_ne.mpr c3
      by_cases c4 : a0 = 3
      · rw [if_pos c4] at H
        have c4b0 : (a0 == 3) = true := beq_iff_eq.mpr c4
        have c4b1 : (a0 != 3) = false := bne_eq_false_iff_eq.mpr c4
        clear c4
        simp only [Option.some.injEq, Prod.mk.injEq] at H
        obtain ⟨rfl, rfl, rfl⟩ := H
        go_enter Tryd.func46, Tryd.ntmps46
        go_wp2
        go_ret3
        exact ⟨by first | rfl | (simp; done) | (simp [*]; done), by repeat (first | exact Drawn0.refl _ | apply Drawn0.step)⟩
      · rw [if_neg c4] at H
        have c4b0 : (a0 == 3) = false := beq_eq_false_iff_ne.mpr c4
        have c4b1 : (a0 != 3) = true := bne_iff_ne.mpr c4
        by_cases c5 : a0 = 4
        · rw [if_pos c5] at H
          have c5b0 : (a0 == 4) = true := beq_iff_eq.mpr c5
          have c5b1 : (a0 != 4) = false := bne_eq_false_iff_eq.mpr c5
          clear c5
          simp only [Option.some.injEq, Prod.mk.injEq] at H
          obtain ⟨rfl, rfl, rfl⟩ := H
          go_enter Tryd.func46, Tryd.ntmps46
          go_wp2
          go_ret3
          exact ⟨by first | rfl | (simp; done) | (simp [*]; done), by repeat (first | exact Drawn0.refl _ | apply Drawn0.step)⟩
        · rw [if_neg c5] at H
          have c5b0 : (a0 == 4) = false := beq_eq_false_iff_ne.mpr c5
          have c5b1 : (a0 != 4) = true := bne_iff_ne.mpr c5
          by_cases c6 : a0 = 5
          · rw [if_pos c6] at H
            have c6b0 : (a0 == 5) = true := beq_iff_eq.mpr c6
            have c6b1 : (a0 != 5) = false := bne_eq_false_iff_eq.mpr c6
            clear c6
            simp only [Option.some.injEq, Prod.mk.injEq] at H
            obtain ⟨rfl, rfl, rfl⟩ := H
            go_enter Tryd.func46, Tryd.ntmps46
            go_wp2
            go_ret3
            exact ⟨by first | rfl | (simp; done) | (simp [*]; done), by repeat (first | exact Drawn0.refl _ | apply Drawn0.step)⟩
          · rw [if_neg c6] at H
            have c6b0 : (a0 == 5) = false := beq_eq_false_iff_ne.mpr c6
            have c6b1 : (a0 != 5) = true := bne_iff_ne.mpr c6
            by_cases c7 : a0 = 6
            · rw [if_pos c7] at H
              have c7b0 : (a0 == 6) = true := beq_iff_eq.mpr c7
              have c7b1 : (a0 != 6) = false := bne_eq_false_iff_eq.mpr c7
              clear c7
              simp only [Option.some.injEq, Prod.mk.injEq] at H
              obtain ⟨rfl, rfl, rfl⟩ := H
              go_enter Tryd.func46, Tryd.ntmps46
              go_wp2
              go_ret3
              exact ⟨by first | rfl | (simp; done) | (simp [*]; done), by repeat (first | exact Drawn0.refl _ | apply Drawn0.step)⟩
            · rw [if_neg c7] at H
              have c7b0 : (a0 == 6) = false := beq_eq_false_iff_ne.mpr c7
              have c7b1 : (a0 != 6) = true := bne_iff_ne.mpr c7
              by_cases c8 : a0 = 7
              · rw [if_pos c8] at H
                have c8b0 : (a0 == 7) = true := beq_iff_eq.mpr c8
                have c8b1 : (a0 != 7) = false := bne_eq_false_iff_eq.mpr c8
                clear c8
                simp only [Option.some.injEq, Prod.mk.injEq] at H
                obtain ⟨rfl, rfl, rfl⟩ := H
                go_enter Tryd.func46, Tryd.ntmps46
                go_wp2
                go_ret3
                exact ⟨by first | rfl | (simp; done) | (simp [*]; done), by repeat (first | exact Drawn0.refl _ | apply Drawn0.step)⟩
              · rw [if_neg c8] at H
                have c8b0 : (a0 == 7) = false := beq_eq_false_iff_ne.mpr c8
                have c8b1 : (a0 != 7) = true := bne_iff_ne.mpr c8
                by_cases c9 : a0 = 8
                · rw [if_pos c9] at H
                  have c9b0 : (a0 == 8) = true := beq_iff_eq.mpr c9
                  have c9b1 : (a0 != 8) = false := bne_eq_false_iff_eq.mpr c9
                  clear c9
                  simp only [Option.some.injEq, Prod.mk.injEq] at H
                  obtain ⟨rfl, rfl, rfl⟩ := H
                  go_enter Tryd.func46, Tryd.ntmps46
                  go_wp2
                  go_ret3
                  exact ⟨by first | rfl | (simp; done) | (simp [*]; done), by repeat (first | exact Drawn0.refl _ | apply Drawn0.step)⟩
                · rw [if_neg c9] at H
                  have c9b0 : (a0 == 8) = false := beq_eq_false_iff_ne.mpr c9
                  have c9b1 : (a0 != 8) = true := bne_iff_ne.mpr c9
                  by_cases c10 : a0 = 9
                  · rw [if_pos c10] at H
                    have c10b0 : (a0 == 9) = true := beq_iff_eq.mpr c10
                    have c10b1 : (a0 != 9) = false := bne_eq_false_iff_eq.mpr c10
                    clear c10
                    simp only [Option.some.injEq, Prod.mk.injEq] at H
                    obtain ⟨rfl, rfl, rfl⟩ := H
                    go_enter Tryd.func46, Tryd.ntmps46
                    go_wp2
                    go_ret3
                    exact ⟨by first | rfl | (simp; done) | (simp [*]; done), by repeat (first | exact Drawn0.refl _ | apply Drawn0.step)⟩
                  · rw [if_neg c10] at H
                    have c10b0 : (a0 == 9) = false := beq_eq_false_iff_ne.mpr c10
                    have c10b1 : (a0 != 9) = true := bne_iff_ne.mpr c10
                    by_cases c11 : a0 = 10
                    · rw [if_pos c11] at H
                      have c11b0 : (a0 == 10) = true := beq_iff_eq.mpr c11
                      have c11b1 : (a0 != 10) = false := bne_eq_false_iff_eq.mpr c11
                      clear c11
                      simp only [Option.some.injEq, Prod.mk.injEq] at H
                      obtain ⟨rfl, rfl, rfl⟩ := H
                      go_enter Tryd.func46, Tryd.ntmps46
                      go_wp2
                      go_ret3
                      exact ⟨by first | rfl | (simp; done) | (simp [*]; done), by repeat (first | exact Drawn0.refl _ | apply Drawn0.step)⟩
                    · rw [if_neg c11] at H
                      have c11b0 : (a0 == 10) = false := beq_eq_false_iff_ne.mpr c11
                      have c11b1 : (a0 != 10) = true := bne_iff_ne.mpr c11
                      by_cases c12 : a0 = 11
                      · rw [if_pos c12] at H
                        have c12b0 : (a0 == 11) = true := beq_iff_eq.mpr c12
                        have c12b1 : (a0 != 11) = false := bne_eq_false_iff_eq.mpr c12
                        clear c12
                        simp only [Option.some.injEq, Prod.mk.injEq] at H
                        obtain ⟨rfl, rfl, rfl⟩ := H
                        go_enter Tryd.func46, Tryd.ntmps46
                        go_wp2
                        go_ret3
                        exact ⟨by first | rfl | (simp; done) | (simp [*]; done), by repeat (first | exact Drawn0.refl _ | apply Drawn0.step)⟩
                      · rw [if_neg c12] at H
                        have c12b0 : (a0 == 11) = false := beq_eq_false_iff_ne.mpr c12
                        have c12b1 : (a0 != 11) = true := bne_iff_ne.mpr c12
                        by_cases c13 : a0 = 12
                        · rw [if_pos c13] at H
                          have c13b0 : (a0 == 12) = true := beq_iff_eq.mpr c13
                          have c13b1 : (a0 != 12) = false := bne_eq_false_iff_eq.mpr c13
                          clear c13
                          simp only [Option.some.injEq, Prod.mk.injEq] at H
                          obtain ⟨rfl, rfl, rfl⟩ := H
                          go_enter Tryd.func46, Tryd.ntmps46
                          go_wp2
                          go_ret3
                          exact ⟨by first | rfl | (simp; done) | (simp [*]; done), by repeat (first | exact Drawn0.refl _ | apply Drawn0.step)⟩
                        · rw [if_neg c13] at H
                          have c13b0 : (a0 == 12) = false := beq_eq_false_iff_ne.mpr c13
                          have c13b1 : (a0 != 12) = true := bne_iff_ne.mpr c13
                          by_cases c14 : a0 = 13
                          · rw [if_pos c14] at H
                            have c14b0 : (a0 == 13) = true := beq_iff_eq.mpr c14
                            have c14b1 : (a0 != 13) = false := bne_eq_false_iff_eq.mpr c14
                            clear c14
                            simp only [Option.some.injEq, Prod.mk.injEq] at H
                            obtain ⟨rfl, rfl, rfl⟩ := H
                            go_enter Tryd.func46, Tryd.ntmps46
                            go_wp2
                            go_ret3
                            exact ⟨by first | rfl | (simp; done) | (simp [*]; done), by repeat (first | exact Drawn0.refl _ | apply Drawn0.step)⟩
                          · rw [if_neg c14] at H
                            have c14b0 : (a0 == 13) = false := beq_eq_false_iff_ne.mpr c14
                            have c14b1 : (a0 != 13) = true := bne_iff_ne.mpr c14
                            by_cases c15 : a0 = 14
                            · rw [if_pos c15] at H
                              have c15b0 : (a0 == 14) = true := beq_iff_eq.mpr c15
                              have c15b1 : (a0 != 14) = false := bne_eq_false_iff_eq.mpr c15
                              clear c15
                              simp only [Option.some.injEq, Prod.mk.injEq] at H
                              obtain ⟨rfl, rfl, rfl⟩ := H
                              go_enter Tryd.func46, Tryd.ntmps46
                              go_wp2
                              go_ret3
                              exact ⟨by first | rfl | (simp; done) | (simp [*]; done), by repeat (first | exact Drawn0.refl _ | apply Drawn0.step)⟩
                            · rw [if_neg c15] at H
                              have c15b0 : (a0 == 14) = false := beq_eq_false_iff_ne.mpr c15
                              have c15b1 : (a0 != 14) = true := bne_iff_ne.mpr c15
                              by_cases c16 : a0 = 15
                              · rw [if_pos c16] at H
                                have c16b0 : (a0 == 15) = true := beq_iff_eq.mpr c16
                                have c16b1 : (a0 != 15) = false := bne_eq_false_iff_eq.mpr c16
                                clear c16
                                simp only [Option.some.injEq, Prod.mk.injEq] at H
                                obtain ⟨rfl, rfl, rfl⟩ := H
                                go_enter Tryd.func46, Tryd.ntmps46
                                go_wp2
                                go_ret3
                                exact ⟨by first | rfl | (simp; done) | (simp [*]; done), by repeat (first | exact Drawn0.refl _ | apply Drawn0.step)⟩
                              · rw [if_neg c16] at H
                                have c16b0 : (a0 == 15) = false := beq_eq_false_iff_ne.mpr c16
                                have c16b1 : (a0 != 15) = true := bne_iff_ne.mpr c16
                                by_cases c17 : a0 = 16
                                · rw [if_pos c17] at H
                                  have c17b0 : (a0 == 16) = true := beq_iff_eq.mpr c17
                                  have c17b1 : (a0 != 16) = false := bne_eq_false_iff_eq.mpr c17
                                  clear c17
                                  simp only [Option.some.injEq, Prod.mk.injEq] at H
                                  obtain ⟨rfl, rfl, rfl⟩ := H
                                  go_enter Tryd.func46, Tryd.ntmps46
                                  go_wp2
                                  go_ret3
                                  exact ⟨by first | rfl | (simp; done) | (simp [*]; done), by repeat (first | exact Drawn0.refl _ | apply Drawn0.step)⟩
                                · rw [if_neg c17] at H
                                  have c17b0 : (a0 == 16) = false := beq_eq_false_iff_ne.mpr c17
                                  have c17b1 : (a0 != 16) = true := bne_iff_ne.mpr c17
                                  by_cases c18 : a0 = 17
                                  · rw [if_pos c18] at H
                                    have c18b0 : (a0 == 17) = true := beq_iff_eq.mpr c18
                                    have c18b1 : (a0 != 17) = false := bne_eq_false_iff_eq.mpr c18
                                    clear c18
                                    simp only [Option.some.injEq, Prod.mk.injEq] at H
                                    obtain ⟨rfl, rfl, rfl⟩ := H
                                    go_enter Tryd.func46, Tryd.ntmps46
                                    go_wp2
                                    go_ret3
                                    exact ⟨by first | rfl | (simp; done) | (simp [*]; done), by repeat (first | exact Drawn0.refl _ | apply Drawn0.step)⟩
                                  · rw [if_neg c18] at H
                                    have c18b0 : (a0 == 17) = false := beq_eq_false_iff_ne.mpr c18
                                    have c18b1 : (a0 != 17) = true := bne_iff_ne.mpr c18
                                    by_cases c19 : a0 = 18
                                    · rw [if_pos c19] at H
                                      have c19b0 : (a0 == 18) = true := beq_iff_eq.mpr c19
                                      have c19b1 : (a0 != 18) = false := bne_eq_false_iff_eq.mpr c19
                                      clear c19
                                      simp only [Option.some.injEq, Prod.mk.injEq] at H
                                      obtain ⟨rfl, rfl, rfl⟩ := H
                                      go_enter Tryd.func46, Tryd.ntmps46
                                      go_wp2
                                      go_ret3
                                      exact ⟨by first | rfl | (simp; done) | (simp [*]; done), by repeat (first | exact Drawn0.refl _ | apply Drawn0.step)⟩
                                    · rw [if_neg c19] at H
                                      have c19b0 : (a0 == 18) = false := beq_eq_false_iff_ne.mpr c19
                                      have c19b1 : (a0 != 18) = true := bne_iff_ne.mpr c19
                                      by_cases c20 : a0 = 19
                                      · rw [if_pos c20] at H
                                        have c20b0 : (a0 == 19) = true := beq_iff_eq.mpr c20
                                        have c20b1 : (a0 != 19) = false := bne_eq_false_iff_eq.mpr c20
                                        clear c20
                                        simp only [Option.some.injEq, Prod.mk.injEq] at H
                                        obtain ⟨rfl, rfl, rfl⟩ := H
                                        go_enter Tryd.func46, Tryd.ntmps46
                                        go_wp2
                                        go_ret3
                                        exact ⟨by first | rfl | (simp; done) | (simp [*]; done), by repeat (first | exact Drawn0.refl _ | apply Drawn0.step)⟩
                                      · rw [if_neg c20] at H
                                        have c20b0 : (a0 == 19) = false := beq_eq_false_iff_ne.mpr c20
                                        have c20b1 : (a0 != 19) = true := bne_iff_ne.mpr c20
                                        by_cases c21 : a0 = 20
                                        · rw [if_pos c21] at H
                                          have c21b0 : (a0 == 20) = true := beq_iff_eq.mpr c21
                                          have c21b1 : (a0 != 20) = false := bne_eq_false_iff_eq.mpr c21
                                          clear c21
                                          simp only [Option.some.injEq, Prod.mk.injEq] at H
                                          obtain ⟨rfl, rfl, rfl⟩ := H
                                          go_enter Tryd.func46, Tryd.ntmps46
                                          go_wp2
                                          go_ret3
                                          exact ⟨by first | rfl | (simp; done) | (simp [*]; done), by repeat (first | exact Drawn0.refl _ | apply Drawn0.step)⟩
                                        · rw [if_neg c21] at H
                                          have c21b0 : (a0 == 20) = false := beq_eq_false_iff_ne.mpr c21
                                          have c21b1 : (a0 != 20) = true := bne_iff_ne.mpr c21
                                          simp only [Option.some.injEq, Prod.mk.injEq] at H
                                          obtain ⟨rfl, rfl, rfl⟩ := H
                                          go_enter Tryd.func46, Tryd.ntmps46
                                          go_wp2
                                          go_ret3
                                          exact ⟨by first | rfl | (simp; done) | (simp [*]; done), by repeat (first | exact Drawn0.refl _ | apply Drawn0.step)⟩

end Go.Proofs.YthjlpcecfkboiaaDoor.Z
