-- PRINTED by print.py (a twelfth state) out of the translation. Not trusted: Lean checks it.
import Derived.Test.YtebebognifiinaaQx0
import Derived.Test.YtebebognifiinaaQx3
namespace Go.Proofs.Ytebebognifiinaa.Q
open Go.RowKit Go.Proofs.YtebebognifiinaaW.PrintWords Go.Proofs.YtebebognifiinaaW.PrintLast Go.Proofs.YtebebognifiinaaW.PrintMore
attribute [local go_sem] max2_int min2_int max_two min_two max_three min_three max_four min_four   -- for this text's walks alone
set_option linter.unusedVariables false
set_option linter.unusedSimpArgs false

/-! ### harrowref23_Forest: function 9 -/
mutual
def harrowref23_Forest.l0 : Nat → List (S68) → List (S39) → List Int → Int → Int → Option ((List (S39)) × Int)
  | 0, _, _, _, _, _ => none
  | k + 1, x0, x4, x5, x6, x7 => if x7 < (x0.length : Int) then (if 0 ≤ x7 then ((harrowref23_note.f k ((rd_T68 x0 x7).f0) ((rd_T68 x0 x7).f1) ((rd_T68 x0 x7).f2) ((rd_T68 x0 x7).f3) ((rd_T68 x0 x7).f4) ((rd_T68 x0 x7).f5) x6).bind fun bt117 => (if bt117.2 = true then (if ((rd_T68 x0 x7).f0) = 19 then (harrowref23_Forest.j1 k x0 x4 x5 x7 bt117.1 ((x5.length : Int) == 0) ((rd_T68 x0 x7).f0) ((rd_T68 x0 x7).f1) ((rd_T68 x0 x7).f2) ((rd_T68 x0 x7).f3) ((rd_T68 x0 x7).f4) ((rd_T68 x0 x7).f5)) else (harrowref23_Forest.j1 k x0 x4 x5 x7 bt117.1 false ((rd_T68 x0 x7).f0) ((rd_T68 x0 x7).f1) ((rd_T68 x0 x7).f2) ((rd_T68 x0 x7).f3) ((rd_T68 x0 x7).f4) ((rd_T68 x0 x7).f5))) else (harrowref23_Forest.j1 k x0 x4 x5 x7 bt117.1 true ((rd_T68 x0 x7).f0) ((rd_T68 x0 x7).f1) ((rd_T68 x0 x7).f2) ((rd_T68 x0 x7).f3) ((rd_T68 x0 x7).f4) ((rd_T68 x0 x7).f5)))) else (none)) else (if (x5.length : Int) > 0 then (some (([] : List (S39)), 230)) else (some (x4, 0)))
def harrowref23_Forest.j1 : Nat → List (S68) → List (S39) → List Int → Int → Int → Bool → Int → Int → Int → Int → Int → ByteArray → Option ((List (S39)) × Int)
  | 0, _, _, _, _, _, _, _, _, _, _, _, _ => none
  | k + 1, x0, x4, x5, x7, x9, x41, x117000, x117001, x117002, x117003, x117004, x117005 => if x41 = true then (some (([] : List (S39)), 230)) else (if x117000 = 19 then (if 0 ≤ (wrap64 ((x5.length : Int) - 1)) then (if (wrap64 ((x5.length : Int) - 1)) < (x5.length : Int) then (if 0 ≤ (rd x5 (wrap64 ((x5.length : Int) - 1))) then (if (rd x5 (wrap64 ((x5.length : Int) - 1))) < (x4.length : Int) then (if (wrap64 ((x5.length : Int) - 1)) ≤ (x5.length : Int) then (harrowref23_Forest.l0 k x0 (x4.set ((rd x5 (wrap64 ((x5.length : Int) - 1))) : Int).toNat (⟨(rd_T39 x4 (rd x5 (wrap64 ((x5.length : Int) - 1)))).f0, (rd_T39 x4 (rd x5 (wrap64 ((x5.length : Int) - 1)))).f1, x117002, (rd_T39 x4 (rd x5 (wrap64 ((x5.length : Int) - 1)))).f3, (rd_T39 x4 (rd x5 (wrap64 ((x5.length : Int) - 1)))).f4, (rd_T39 x4 (rd x5 (wrap64 ((x5.length : Int) - 1)))).f5⟩ : S39)) (x5.take ((wrap64 ((x5.length : Int) - 1)) : Int).toNat) x9 (wrap64 (x7 + 1))) else (none)) else (none)) else (none)) else (none)) else (none)) else (if (x5.length : Int) > 0 then (if 0 ≤ (wrap64 ((x5.length : Int) - 1)) then (if (wrap64 ((x5.length : Int) - 1)) < (x5.length : Int) then (if 0 ≤ (rd x5 (wrap64 ((x5.length : Int) - 1))) then (if (rd x5 (wrap64 ((x5.length : Int) - 1))) < (x4.length : Int) then ((some (x4.set ((rd x5 (wrap64 ((x5.length : Int) - 1))) : Int).toNat (⟨(rd_T39 x4 (rd x5 (wrap64 ((x5.length : Int) - 1)))).f0, (rd_T39 x4 (rd x5 (wrap64 ((x5.length : Int) - 1)))).f1, (rd_T39 x4 (rd x5 (wrap64 ((x5.length : Int) - 1)))).f2, wrap64 (((rd_T39 x4 (rd x5 (wrap64 ((x5.length : Int) - 1)))).f3) + 1), (rd_T39 x4 (rd x5 (wrap64 ((x5.length : Int) - 1)))).f4, (rd_T39 x4 (rd x5 (wrap64 ((x5.length : Int) - 1)))).f5⟩ : S39) : List (S39))).bind fun y126 => (if y126.length < 2513169434916 then ((some (y126 ++ [(⟨x117001, x117002, wrap64 (x117002 + x117003), 0, x117004, x117005⟩ : S39)] : List (S39))).bind fun y127 => (if x117000 = 18 then (if x5.length < 17592186044416 then (harrowref23_Forest.l0 k x0 y127 (x5 ++ [wrap64 ((y127.length : Int) - 1)]) x9 (wrap64 (x7 + 1))) else (none)) else (harrowref23_Forest.l0 k x0 y127 x5 x9 (wrap64 (x7 + 1))))) else (none))) else (none)) else (none)) else (none)) else (none)) else (if x4.length < 2513169434916 then ((some (x4 ++ [(⟨x117001, x117002, wrap64 (x117002 + x117003), 0, x117004, x117005⟩ : S39)] : List (S39))).bind fun y133 => (if x117000 = 18 then (if x5.length < 17592186044416 then (harrowref23_Forest.l0 k x0 y133 (x5 ++ [wrap64 ((y133.length : Int) - 1)]) x9 (wrap64 (x7 + 1))) else (none)) else (harrowref23_Forest.l0 k x0 y133 x5 x9 (wrap64 (x7 + 1))))) else (none))))
end
def harrowref23_Forest.f (k : Nat) (l0 : List (S68)) : Option ((List (S39)) × Int) := if (l0.length : Int) > 1048576 then (some (([] : List (S39)), 2)) else (harrowref23_Forest.l0 k l0 ([] : List (S39)) ([] : List Int) 0 0)
theorem harrowref23_Forest.mono_l : ∀ k, (∀ y0 y1 y2 y3 y4, LeO (harrowref23_Forest.l0 k y0 y1 y2 y3 y4) (harrowref23_Forest.l0 (k + 1) y0 y1 y2 y3 y4)) ∧ (∀ y0 y1 y2 y3 y4 y5 y6 y7 y8 y9 y10 y11, LeO (harrowref23_Forest.j1 k y0 y1 y2 y3 y4 y5 y6 y7 y8 y9 y10 y11) (harrowref23_Forest.j1 (k + 1) y0 y1 y2 y3 y4 y5 y6 y7 y8 y9 y10 y11))
  | 0 => ⟨fun _ _ _ _ _ r h => by simp [harrowref23_Forest.l0] at h, fun _ _ _ _ _ _ _ _ _ _ _ _ r h => by simp [harrowref23_Forest.j1] at h⟩
  | k + 1 => by
    obtain ⟨ih0, ih1⟩ := harrowref23_Forest.mono_l k
    refine ⟨?_, ?_⟩
    · intro y0 y1 y2 y3 y4
      unfold harrowref23_Forest.l0
      repeat' first
      | (with_reducible exact ih0 _ _ _ _ _)
      | (with_reducible exact ih1 _ _ _ _ _ _ _ _ _ _ _ _)
      | (with_reducible exact harrowref23_note.mono _ _ _ _ _ _ _ _)
      | (with_reducible exact LeO.refl _)
      | (with_reducible exact LeO.none _)
      | (with_reducible refine LeO.ite ?_ ?_)
      | (with_reducible refine LeO.bind ?_ (fun _ => ?_))
      | exact ih0 _ _ _ _ _
      | exact ih1 _ _ _ _ _ _ _ _ _ _ _ _
      | exact harrowref23_note.mono _ _ _ _ _ _ _ _
      | exact LeO.none _
      | refine LeO.ite ?_ ?_
      | refine LeO.bind ?_ (fun _ => ?_)
    · intro y0 y1 y2 y3 y4 y5 y6 y7 y8 y9 y10 y11
      unfold harrowref23_Forest.j1
      repeat' first
      | (with_reducible exact ih0 _ _ _ _ _)
      | (with_reducible exact ih1 _ _ _ _ _ _ _ _ _ _ _ _)
      | (with_reducible exact harrowref23_note.mono _ _ _ _ _ _ _ _)
      | (with_reducible exact LeO.refl _)
      | (with_reducible exact LeO.none _)
      | (with_reducible refine LeO.ite ?_ ?_)
      | (with_reducible refine LeO.bind ?_ (fun _ => ?_))
      | exact ih0 _ _ _ _ _
      | exact ih1 _ _ _ _ _ _ _ _ _ _ _ _
      | exact harrowref23_note.mono _ _ _ _ _ _ _ _
      | exact LeO.none _
      | refine LeO.ite ?_ ?_
      | refine LeO.bind ?_ (fun _ => ?_)
theorem harrowref23_Forest.mono : ∀ a0 k, LeO (harrowref23_Forest.f k a0) (harrowref23_Forest.f (k + 1) a0) := by
  intro a0 k
  obtain ⟨ih0, ih1⟩ := harrowref23_Forest.mono_l k
  unfold harrowref23_Forest.f
  repeat' first
      | (with_reducible exact ih0 _ _ _ _ _)
      | (with_reducible exact ih1 _ _ _ _ _ _ _ _ _ _ _ _)
      | (with_reducible exact harrowref23_note.mono _ _ _ _ _ _ _ _)
      | (with_reducible exact LeO.refl _)
      | (with_reducible exact LeO.none _)
      | (with_reducible refine LeO.ite ?_ ?_)
      | (with_reducible refine LeO.bind ?_ (fun _ => ?_))
      | exact ih0 _ _ _ _ _
      | exact ih1 _ _ _ _ _ _ _ _ _ _ _ _
      | exact harrowref23_note.mono _ _ _ _ _ _ _ _
      | exact LeO.none _
      | refine LeO.ite ?_ ?_
      | refine LeO.bind ?_ (fun _ => ?_)
def harrowref23_Forest.T15 : Bool × List (List Nat × List Nat) := (true, [([], []), ([], []), ([], []), ([2], [2]), ([3], [3]), ([1, 4], [1, 4]), ([5], [5]), ([], []), ([7], [7]), ([0, 6, 0, 1, 2, 3, 4, 5, 6, 7, 8], [0, 6]), ([9, 0, 1, 2, 3, 4, 5, 6, 7, 8], [9]), ([10, 8, 0, 1, 2, 3, 4, 5, 6, 7, 8], [8, 10])])
def harrowref23_Forest.B15 : List Nat := [0, 0, 0, 4, 12, 30, 62, 0, 128, 511, 1023, 2047]
theorem harrowref23_Forest.tab15 : rtab .any (opsOf Try.f9 15) = harrowref23_Forest.T15 := by kernel_rfl
theorem harrowref23_Forest.bits15 : waitsOk harrowref23_Forest.T15.2 harrowref23_Forest.B15 = true := by kernel_rfl
set_option maxHeartbeats 8000000 in
set_option maxRecDepth 100000 in
theorem harrowref23_Forest.calls (k : Nat) (A0 : Option Addr) (c0 : Nat) (l0 : List (S68)) (r1 : List (S39)) (r2 : Int) (w : World) (hr0 : Kd.C k68 w A0 l0.length l0) (hc0 : l0.length ≤ c0) (h : harrowref23_Forest.f k l0 = some (r1, r2)) :
    Calls Try.prog 9 #[.slice A0 l0.length c0] w fun e w' => ∃ v0_ : Value, e = .returned (.tuple #[v0_, .int .i64 r2]) ∧ Kd.R k39 39 w' w.heap.size (fun _ => True) v0_ r1 ∧ Below w.heap.size w w' := by
  have hu68 := Try.underlying68
  have hu39 := Try.underlying39
  have HR0 := Aside0.mk hr0
  have HC0 := Aside0.mk hc0
  clear hr0 hc0
  have HB := Aside0.mk (Below.refl w.heap.size w)
  have H : (if (l0.length : Int) > 1048576 then (some (([] : List (S39)), 2)) else (harrowref23_Forest.l0 k l0 ([] : List (S39)) ([] : List Int) 0 0)) = some (r1, r2) := h
  clear h
  by_cases c2 : (l0.length : Int) > 1048576
  · rw [if_pos c2] at H
    have c2b0 : decide (1048576 < (l0.length : Int)) = true := decide_eq_true c2
    have c2b1 : decide (1048576 < l0.length) = true := decide_eq_true (by omega)
    clear c2
    simp only [Option.some.injEq, Prod.mk.injEq] at H
    obtain ⟨rfl, rfl⟩ := H
    go_enter Try.func9, Try.ntmps9
    go_wp2
    go_ret2
    exact ⟨_, by first | rfl | (simp [errW_none, errW_some] <;> rfl) | (simp [*, errW_none, errW_some] <;> rfl), by first | exact Kd.R_nil _ _ _ _ _ | exact Kd.N_nil _ _ _ _ _ | exact Kd.V_nil _ _ _ _ _ | exact Kd.Q_nil _ _ _ _ _ | exact Kd.S_nil _ _ _ _ _, by repeat (first | (with_reducible first | exact HB.out | apply below_alloc | apply pw_below_drewN | apply below_drew1) | exact HB.out)⟩
  · rw [if_neg c2] at H
    have c2b0 : decide (1048576 < (l0.length : Int)) = false := decide_eq_false c2
    have c2b1 : decide (1048576 < l0.length) = false := decide_eq_false (by omega)
    clear c2
    have H' := Aside0.mk H
    clear H
    go_enter Try.func9, Try.ntmps9
    go_wp2
    go_loopg [4, 5, 6, 7] k (fun kq v4 v5 v6 v7 w' => ∃ (x4_1 : List (S39)) (x5_1 : List Int) (x6_1 : Int) (x7_1 : Int), v6 = .int .i64 x6_1 ∧ v7 = .int .i64 x7_1 ∧ Aside0 (harrowref23_Forest.l0 kq l0 x4_1 x5_1 x6_1 x7_1 = some (r1, r2)) ∧ Aside0 (kq ≤ k) ∧ Aside0 (Kd.R k39 39 w' w.heap.size (fun _ => True) v4 x4_1) ∧ Aside0 (Kd.R (Kd.int .i64) 3 w' w.heap.size (fun _ => True) v5 x5_1) ∧ Aside0 (Below w.heap.size w w'))
    case atStart => exact ⟨(([] : List (S39))), (([] : List Int)), (0), (0), (by first | rfl | (simp; done) | (simp [*]; done)), (by first | rfl | (simp; done) | (simp [*]; done)), H', ⟨Nat.le_refl _⟩, ⟨by first | exact Kd.R_nil _ _ _ _ _ | exact Kd.N_nil _ _ _ _ _ | exact Kd.V_nil _ _ _ _ _ | exact Kd.Q_nil _ _ _ _ _ | exact Kd.S_nil _ _ _ _ _⟩, ⟨by first | exact Kd.R_nil _ _ _ _ _ | exact Kd.N_nil _ _ _ _ _ | exact Kd.V_nil _ _ _ _ _ | exact Kd.Q_nil _ _ _ _ _ | exact Kd.S_nil _ _ _ _ _⟩, ⟨by repeat (first | (with_reducible first | exact HB.out | apply below_alloc | apply pw_below_drewN | apply below_drew1) | exact HB.out)⟩⟩
    case round =>
      clear H'
      try clear c2
      try clear c2b0
      try clear c2b1
      try clear p2
      obtain ⟨x4_1, x5_1, x6_1, x7_1, rfl, rfl, HA, HK1, HO_4, HO_5, HB⟩ := hrel
      cases gk with
      | zero => exact absurd HA.out (by simp [harrowref23_Forest.l0])
      | succ k1 =>
        have H := HA.out
        clear HA
        simp only [harrowref23_Forest.l0] at H
        by_cases c3 : x7_1 < (l0.length : Int)
        · rw [if_pos c3] at H
          have c3b0 : decide (x7_1 < (l0.length : Int)) = true := decide_eq_true c3
          clear c3
          by_cases c4 : 0 ≤ x7_1
          · rw [if_pos c4] at H
            have c4b0 : decide (0 ≤ x7_1) = true := decide_eq_true c4
            clear c4
            replace H := Option.bind_eq_some_iff.mp H
            obtain ⟨⟨t117, t118⟩, A50, H⟩ := H
            replace H : (if t118 = true then (if ((rd_T68 l0 x7_1).f0) = 19 then (harrowref23_Forest.j1 k1 l0 x4_1 x5_1 x7_1 t117 ((x5_1.length : Int) == 0) ((rd_T68 l0 x7_1).f0) ((rd_T68 l0 x7_1).f1) ((rd_T68 l0 x7_1).f2) ((rd_T68 l0 x7_1).f3) ((rd_T68 l0 x7_1).f4) ((rd_T68 l0 x7_1).f5)) else (harrowref23_Forest.j1 k1 l0 x4_1 x5_1 x7_1 t117 false ((rd_T68 l0 x7_1).f0) ((rd_T68 l0 x7_1).f1) ((rd_T68 l0 x7_1).f2) ((rd_T68 l0 x7_1).f3) ((rd_T68 l0 x7_1).f4) ((rd_T68 l0 x7_1).f5))) else (harrowref23_Forest.j1 k1 l0 x4_1 x5_1 x7_1 t117 true ((rd_T68 l0 x7_1).f0) ((rd_T68 l0 x7_1).f1) ((rd_T68 l0 x7_1).f2) ((rd_T68 l0 x7_1).f3) ((rd_T68 l0 x7_1).f4) ((rd_T68 l0 x7_1).f5))) = some (r1, r2) := H
            have A5 := Aside0.mk A50
            clear A50
            have HC6 := Aside0.mk H
            clear H
            have p115 : 0 ≤ (x7_1 : Int) := of_decide_eq_true (by first | (with_reducible assumption) | assumption)
            have q115 : x7_1 < (l0.length : Int) := of_decide_eq_true (by first | (with_reducible assumption) | assumption)
            obtain ⟨ad115, e115, hx115_0, hx115_1, hx115_2, hx115_3, hx115_4, hx115_5⟩ := at_T68 HR0.out x7_1 p115 q115
            cases e115
            replace hx115_0 := (HB.out.cell (World.block_lt_of_cell? w _ hx115_0)).trans hx115_0
            replace hx115_1 := (HB.out.cell (World.block_lt_of_cell? w _ hx115_1)).trans hx115_1
            replace hx115_2 := (HB.out.cell (World.block_lt_of_cell? w _ hx115_2)).trans hx115_2
            replace hx115_3 := (HB.out.cell (World.block_lt_of_cell? w _ hx115_3)).trans hx115_3
            replace hx115_4 := (HB.out.cell (World.block_lt_of_cell? w _ hx115_4)).trans hx115_4
            replace hx115_5 := (HB.out.cell (World.block_lt_of_cell? w _ hx115_5)).trans hx115_5
            replace p115 := eq_true p115
            replace q115 := eq_true q115
            go_upto_region 11 with (first | ((with_reducible refine gate_dst (N := 8) rfl ?_); (try (refine gate_guard (by rfl) ?_; dsimp only)); refine box_event ?hg (N := 8) ?hd (cs := #[.int .i64 0, .int .i64 0, .int .i64 0, .int .i64 0, .int .i64 0, .string (⟨#[]⟩ : ByteArray)]) (t := 68) ?hr ?_; (case hd => rfl); (case hg => rfl); (case hr => first | (go_simp; done) | (go_simp; rfl)); intro gb116 hg w7 hbox hb; have n0_ := Aside0.mk (Kd.R_below (by (with_reducible repeat (first | apply Kd.R_alloc | apply Kd.R_drewN | apply Kd.R_drew)); exact HO_4.out) hb); have n1_ := Aside0.mk (Kd.R_below (by (with_reducible repeat (first | apply Kd.R_alloc | apply Kd.R_drewN | apply Kd.R_drew)); exact HO_5.out) hb); have n2_ := Aside0.mk (below_step (by repeat (first | (with_reducible first | exact HB.out | apply below_alloc | apply pw_below_drewN | apply below_drew1) | exact HB.out)) hb); have n3_ := Aside0.mk (hbox); have n4_ := Aside0.mk ((by rw [hg]; exact (below_size (by repeat (first | (with_reducible first | exact HB.out | apply below_alloc | apply pw_below_drewN | apply below_drew1) | exact HB.out))) : w.heap.size ≤ gb116)); have n5_ := Aside0.mk ((by rw [hg]; exact (below_size (by repeat (first | (with_reducible first | exact HB.out | apply below_alloc | apply pw_below_drewN | apply below_drew1) | exact HB.out))) : w.heap.size ≤ gb116)); clear HO_4; clear HO_5; clear HB; have HO_4 := n0_; have HO_5 := n1_; have HB := n2_; have BK116 := n3_; have GW116 := n4_; have GE116 := n5_; clear n0_ n1_ n2_ n3_ n4_ n5_; clear hb hbox hg; have hcz8_0 : w7.cell? ⟨gb116, 0, none⟩ = some (.int .i64 0) := (blk_cell BK116.out 0).trans rfl; have hcz8_1 : w7.cell? ⟨gb116, 1, none⟩ = some (.int .i64 0) := (blk_cell BK116.out 1).trans rfl; have hcz8_2 : w7.cell? ⟨gb116, 2, none⟩ = some (.int .i64 0) := (blk_cell BK116.out 2).trans rfl; have hcz8_3 : w7.cell? ⟨gb116, 3, none⟩ = some (.int .i64 0) := (blk_cell BK116.out 3).trans rfl; have hcz8_4 : w7.cell? ⟨gb116, 4, none⟩ = some (.int .i64 0) := (blk_cell BK116.out 4).trans rfl; have hcz8_5 : w7.cell? ⟨gb116, 5, none⟩ = some (.string (⟨#[]⟩ : ByteArray)) := (blk_cell BK116.out 5).trans rfl; have hfz8_0 := blk_frozen BK116.out 0; have hfz8_1 := blk_frozen BK116.out 1; have hfz8_2 := blk_frozen BK116.out 2; have hfz8_3 := blk_frozen BK116.out 3; have hfz8_4 := blk_frozen BK116.out 4; have hfz8_5 := blk_frozen BK116.out 5) | ((with_reducible refine gate_callee (f := 32) rfl ?_); refine goesL_ (some 27) rfl rfl Try.func32 (by kernel_rfl) rfl #[.agg #[.int .i64 ((rd_T68 l0 x7_1).f0), .int .i64 ((rd_T68 l0 x7_1).f1), .int .i64 ((rd_T68 l0 x7_1).f2), .int .i64 ((rd_T68 l0 x7_1).f3), .int .i64 ((rd_T68 l0 x7_1).f4), .string ((rd_T68 l0 x7_1).f5)], .int .i64 x6_1] rfl (by (try simp only [List.map_toArray, List.map_cons, List.map_nil]); first | done | rfl | (simp only [List.length_drop, List.length_take]; rfl)) ?_; (with_reducible refine (harrowref23_note.calls k1 ((rd_T68 l0 x7_1).f0) ((rd_T68 l0 x7_1).f1) ((rd_T68 l0 x7_1).f2) ((rd_T68 l0 x7_1).f3) ((rd_T68 l0 x7_1).f4) ((rd_T68 l0 x7_1).f5) x6_1 t117 t118 _ A5.out).mono ?_); rintro e w9 ⟨rfl, hb⟩; refine ⟨_, rfl, ?_⟩; have n0_ := Aside0.mk (Kd.R_below (by (with_reducible repeat (first | apply Kd.R_alloc | apply Kd.R_drewN | apply Kd.R_drew)); exact (Kd.R_mono (Kd.R_far (p := ⟨gb116, 5, none⟩) (Kd.R_far (p := ⟨gb116, 4, none⟩) (Kd.R_far (p := ⟨gb116, 3, none⟩) (Kd.R_far (p := ⟨gb116, 2, none⟩) (Kd.R_far (p := ⟨gb116, 1, none⟩) (Kd.R_far (p := ⟨gb116, 0, none⟩) (Kd.R_types HO_4.out BK116.out (by decide)) (fun _ hk => hk.2) (.int .i64 ((rd_T68 l0 x7_1).f0))) (fun _ hk => hk.2) (.int .i64 ((rd_T68 l0 x7_1).f1))) (fun _ hk => hk.2) (.int .i64 ((rd_T68 l0 x7_1).f2))) (fun _ hk => hk.2) (.int .i64 ((rd_T68 l0 x7_1).f3))) (fun _ hk => hk.2) (.int .i64 ((rd_T68 l0 x7_1).f4))) (fun _ hk => hk.2) (.string ((rd_T68 l0 x7_1).f5))) (fun _ h_ => h_.1))) hb); have n1_ := Aside0.mk (Kd.R_below (by (with_reducible repeat (first | apply Kd.R_alloc | apply Kd.R_drewN | apply Kd.R_drew)); exact (Kd.R_mono (Kd.R_far (p := ⟨gb116, 5, none⟩) (Kd.R_far (p := ⟨gb116, 4, none⟩) (Kd.R_far (p := ⟨gb116, 3, none⟩) (Kd.R_far (p := ⟨gb116, 2, none⟩) (Kd.R_far (p := ⟨gb116, 1, none⟩) (Kd.R_far (p := ⟨gb116, 0, none⟩) (Kd.R_types HO_5.out BK116.out (by decide)) (fun _ hk => hk.2) (.int .i64 ((rd_T68 l0 x7_1).f0))) (fun _ hk => hk.2) (.int .i64 ((rd_T68 l0 x7_1).f1))) (fun _ hk => hk.2) (.int .i64 ((rd_T68 l0 x7_1).f2))) (fun _ hk => hk.2) (.int .i64 ((rd_T68 l0 x7_1).f3))) (fun _ hk => hk.2) (.int .i64 ((rd_T68 l0 x7_1).f4))) (fun _ hk => hk.2) (.string ((rd_T68 l0 x7_1).f5))) (fun _ h_ => h_.1))) hb); have n2_ := Aside0.mk (blk_below (g := gb116) (o := .cells #[.int .i64 ((rd_T68 l0 x7_1).f0), .int .i64 ((rd_T68 l0 x7_1).f1), .int .i64 ((rd_T68 l0 x7_1).f2), .int .i64 ((rd_T68 l0 x7_1).f3), .int .i64 ((rd_T68 l0 x7_1).f4), .string ((rd_T68 l0 x7_1).f5)] 68 (0, 0)) (by (with_reducible repeat (first | refine blk_drewN ?_ _ | refine blk_drew ?_ | refine blk_alloc ?_ _)); refine blk_put (cs := #[.int .i64 ((rd_T68 l0 x7_1).f0), .int .i64 ((rd_T68 l0 x7_1).f1), .int .i64 ((rd_T68 l0 x7_1).f2), .int .i64 ((rd_T68 l0 x7_1).f3), .int .i64 ((rd_T68 l0 x7_1).f4), .string (⟨#[]⟩ : ByteArray)]) ?_ 5 _ rfl; (with_reducible repeat (first | refine blk_drewN ?_ _ | refine blk_drew ?_ | refine blk_alloc ?_ _)); refine blk_put (cs := #[.int .i64 ((rd_T68 l0 x7_1).f0), .int .i64 ((rd_T68 l0 x7_1).f1), .int .i64 ((rd_T68 l0 x7_1).f2), .int .i64 ((rd_T68 l0 x7_1).f3), .int .i64 0, .string (⟨#[]⟩ : ByteArray)]) ?_ 4 _ rfl; (with_reducible repeat (first | refine blk_drewN ?_ _ | refine blk_drew ?_ | refine blk_alloc ?_ _)); refine blk_put (cs := #[.int .i64 ((rd_T68 l0 x7_1).f0), .int .i64 ((rd_T68 l0 x7_1).f1), .int .i64 ((rd_T68 l0 x7_1).f2), .int .i64 0, .int .i64 0, .string (⟨#[]⟩ : ByteArray)]) ?_ 3 _ rfl; (with_reducible repeat (first | refine blk_drewN ?_ _ | refine blk_drew ?_ | refine blk_alloc ?_ _)); refine blk_put (cs := #[.int .i64 ((rd_T68 l0 x7_1).f0), .int .i64 ((rd_T68 l0 x7_1).f1), .int .i64 0, .int .i64 0, .int .i64 0, .string (⟨#[]⟩ : ByteArray)]) ?_ 2 _ rfl; (with_reducible repeat (first | refine blk_drewN ?_ _ | refine blk_drew ?_ | refine blk_alloc ?_ _)); refine blk_put (cs := #[.int .i64 ((rd_T68 l0 x7_1).f0), .int .i64 0, .int .i64 0, .int .i64 0, .int .i64 0, .string (⟨#[]⟩ : ByteArray)]) ?_ 1 _ rfl; (with_reducible repeat (first | refine blk_drewN ?_ _ | refine blk_drew ?_ | refine blk_alloc ?_ _)); refine blk_put (cs := #[.int .i64 0, .int .i64 0, .int .i64 0, .int .i64 0, .int .i64 0, .string (⟨#[]⟩ : ByteArray)]) ?_ 0 _ rfl; (with_reducible repeat (first | refine blk_drewN ?_ _ | refine blk_drew ?_ | refine blk_alloc ?_ _)); exact BK116.out) hb); have n3_ := Aside0.mk (below_step (by repeat (first | (with_reducible first | exact HB.out | apply below_alloc | apply pw_below_drewN | apply below_drew1 | refine below_set ?_ GE116.out) | exact HB.out)) hb); clear HO_4; clear HO_5; clear BK116; clear HB; have HO_4 := n0_; have HO_5 := n1_; have BK116 := n2_; have HB := n3_; clear n0_ n1_ n2_ n3_; (try clear hb); (try clear hb2); (try clear hk); (try clear hi)))
            (try simp only [Act.put, List.setIfInBounds_toArray, List.set_cons_zero, List.set_cons_succ])
            go_cut [41] (fun v41 wc => ∃ (kq : Nat) (x41_5 : Bool), v41 = .bool x41_5 ∧ Aside0 (harrowref23_Forest.j1 kq l0 x4_1 x5_1 x7_1 t117 x41_5 ((rd_T68 l0 x7_1).f0) ((rd_T68 l0 x7_1).f1) ((rd_T68 l0 x7_1).f2) ((rd_T68 l0 x7_1).f3) ((rd_T68 l0 x7_1).f4) ((rd_T68 l0 x7_1).f5) = some (r1, r2)) ∧ Aside0 (kq ≤ k1) ∧ Aside0 (Kd.R k39 39 wc w.heap.size (fun _ => True) u4 x4_1) ∧ Aside0 (Kd.R (Kd.int .i64) 3 wc w.heap.size (fun _ => True) u5 x5_1) ∧ Aside0 (wc.heap[gb116]? = some (.cells #[.int .i64 ((rd_T68 l0 x7_1).f0), .int .i64 ((rd_T68 l0 x7_1).f1), .int .i64 ((rd_T68 l0 x7_1).f2), .int .i64 ((rd_T68 l0 x7_1).f3), .int .i64 ((rd_T68 l0 x7_1).f4), .string ((rd_T68 l0 x7_1).f5)] 68 (0, 0))) ∧ Aside0 (Below w.heap.size w wc))
            case first =>
              have H := HC6.out
              clear HC6
              by_cases c10 : t118 = true
              · subst c10
                have H1 : (if ((rd_T68 l0 x7_1).f0) = 19 then (harrowref23_Forest.j1 k1 l0 x4_1 x5_1 x7_1 t117 ((x5_1.length : Int) == 0) ((rd_T68 l0 x7_1).f0) ((rd_T68 l0 x7_1).f1) ((rd_T68 l0 x7_1).f2) ((rd_T68 l0 x7_1).f3) ((rd_T68 l0 x7_1).f4) ((rd_T68 l0 x7_1).f5)) else (harrowref23_Forest.j1 k1 l0 x4_1 x5_1 x7_1 t117 false ((rd_T68 l0 x7_1).f0) ((rd_T68 l0 x7_1).f1) ((rd_T68 l0 x7_1).f2) ((rd_T68 l0 x7_1).f3) ((rd_T68 l0 x7_1).f4) ((rd_T68 l0 x7_1).f5))) = some (r1, r2) := by rw [if_pos rfl] at H; exact H
                clear H
                have H := H1
                clear H1
                by_cases c11 : ((rd_T68 l0 x7_1).f0) = 19
                · rw [if_pos c11] at H
                  have c11b0 : (((rd_T68 l0 x7_1).f0) == 19) = true := beq_iff_eq.mpr c11
                  have c11b1 : (((rd_T68 l0 x7_1).f0) != 19) = false := bne_eq_false_iff_eq.mpr c11
                  clear c11
                  (first | rw [c11b0] | (simp only [i64_w, i32_w]; rw [c11b0]) | skip)
                  have H' := Aside0.mk H
                  clear H
                  have hcz12_0 : w9.cell? ⟨gb116, 0, none⟩ = some (.int .i64 ((rd_T68 l0 x7_1).f0)) := (blk_cell BK116.out 0).trans rfl
                  have hcz12_1 : w9.cell? ⟨gb116, 1, none⟩ = some (.int .i64 ((rd_T68 l0 x7_1).f1)) := (blk_cell BK116.out 1).trans rfl
                  have hcz12_2 : w9.cell? ⟨gb116, 2, none⟩ = some (.int .i64 ((rd_T68 l0 x7_1).f2)) := (blk_cell BK116.out 2).trans rfl
                  have hcz12_3 : w9.cell? ⟨gb116, 3, none⟩ = some (.int .i64 ((rd_T68 l0 x7_1).f3)) := (blk_cell BK116.out 3).trans rfl
                  have hcz12_4 : w9.cell? ⟨gb116, 4, none⟩ = some (.int .i64 ((rd_T68 l0 x7_1).f4)) := (blk_cell BK116.out 4).trans rfl
                  have hcz12_5 : w9.cell? ⟨gb116, 5, none⟩ = some (.string ((rd_T68 l0 x7_1).f5)) := (blk_cell BK116.out 5).trans rfl
                  have hfz12_0 := blk_frozen BK116.out 0
                  have hfz12_1 := blk_frozen BK116.out 1
                  have hfz12_2 := blk_frozen BK116.out 2
                  have hfz12_3 := blk_frozen BK116.out 3
                  have hfz12_4 := blk_frozen BK116.out 4
                  have hfz12_5 := blk_frozen BK116.out 5
                  obtain ⟨Ao13, co13, eo13⟩ := Kd.R_slice HO_5.out
                  subst eo13
                  go_wp2
                  go_meet
                  case rel => exact ⟨_, (((x5_1.length : Int) == 0)), (by first | rfl | (simp; done) | (simp [*]; done)), H', ⟨by have := HK1.out; first | omega | exact Nat.le_refl _⟩, ⟨by (with_reducible repeat (first | apply Kd.R_alloc | apply Kd.R_drewN | apply Kd.R_drew)); exact HO_4.out⟩, ⟨by (with_reducible repeat (first | apply Kd.R_alloc | apply Kd.R_drewN | apply Kd.R_drew)); exact HO_5.out⟩, ⟨by (with_reducible repeat (first | refine blk_drewN ?_ _ | refine blk_drew ?_ | refine blk_alloc ?_ _)); exact BK116.out⟩, ⟨by repeat (first | (with_reducible first | exact HB.out | apply below_alloc | apply pw_below_drewN | apply below_drew1 | refine below_set ?_ GE116.out) | exact HB.out)⟩⟩
                · rw [if_neg c11] at H
                  have c11b0 : (((rd_T68 l0 x7_1).f0) == 19) = false := beq_eq_false_iff_ne.mpr c11
                  have c11b1 : (((rd_T68 l0 x7_1).f0) != 19) = true := bne_iff_ne.mpr c11
                  (first | rw [c11b0] | (simp only [i64_w, i32_w]; rw [c11b0]) | skip)
                  have H' := Aside0.mk H
                  clear H
                  have hcz14_0 : w9.cell? ⟨gb116, 0, none⟩ = some (.int .i64 ((rd_T68 l0 x7_1).f0)) := (blk_cell BK116.out 0).trans rfl
                  have hcz14_1 : w9.cell? ⟨gb116, 1, none⟩ = some (.int .i64 ((rd_T68 l0 x7_1).f1)) := (blk_cell BK116.out 1).trans rfl
                  have hcz14_2 : w9.cell? ⟨gb116, 2, none⟩ = some (.int .i64 ((rd_T68 l0 x7_1).f2)) := (blk_cell BK116.out 2).trans rfl
                  have hcz14_3 : w9.cell? ⟨gb116, 3, none⟩ = some (.int .i64 ((rd_T68 l0 x7_1).f3)) := (blk_cell BK116.out 3).trans rfl
                  have hcz14_4 : w9.cell? ⟨gb116, 4, none⟩ = some (.int .i64 ((rd_T68 l0 x7_1).f4)) := (blk_cell BK116.out 4).trans rfl
                  have hcz14_5 : w9.cell? ⟨gb116, 5, none⟩ = some (.string ((rd_T68 l0 x7_1).f5)) := (blk_cell BK116.out 5).trans rfl
                  have hfz14_0 := blk_frozen BK116.out 0
                  have hfz14_1 := blk_frozen BK116.out 1
                  have hfz14_2 := blk_frozen BK116.out 2
                  have hfz14_3 := blk_frozen BK116.out 3
                  have hfz14_4 := blk_frozen BK116.out 4
                  have hfz14_5 := blk_frozen BK116.out 5
                  go_wp2
                  go_meet
                  case rel => exact ⟨_, (false), (by first | rfl | (simp; done) | (simp [*]; done)), H', ⟨by have := HK1.out; first | omega | exact Nat.le_refl _⟩, ⟨by (with_reducible repeat (first | apply Kd.R_alloc | apply Kd.R_drewN | apply Kd.R_drew)); exact HO_4.out⟩, ⟨by (with_reducible repeat (first | apply Kd.R_alloc | apply Kd.R_drewN | apply Kd.R_drew)); exact HO_5.out⟩, ⟨by (with_reducible repeat (first | refine blk_drewN ?_ _ | refine blk_drew ?_ | refine blk_alloc ?_ _)); exact BK116.out⟩, ⟨by repeat (first | (with_reducible first | exact HB.out | apply below_alloc | apply pw_below_drewN | apply below_drew1 | refine below_set ?_ GE116.out) | exact HB.out)⟩⟩
              · replace c10 := Bool.eq_false_iff.mpr c10
                subst c10
                have H1 : (harrowref23_Forest.j1 k1 l0 x4_1 x5_1 x7_1 t117 true ((rd_T68 l0 x7_1).f0) ((rd_T68 l0 x7_1).f1) ((rd_T68 l0 x7_1).f2) ((rd_T68 l0 x7_1).f3) ((rd_T68 l0 x7_1).f4) ((rd_T68 l0 x7_1).f5)) = some (r1, r2) := by rw [if_neg (show ¬ (false = true) by decide)] at H; exact H
                clear H
                have H := H1
                clear H1
                have H' := Aside0.mk H
                clear H
                go_wp2
                go_meet
                case rel => exact ⟨_, (true), (by first | rfl | (simp; done) | (simp [*]; done)), H', ⟨by have := HK1.out; first | omega | exact Nat.le_refl _⟩, ⟨by (with_reducible repeat (first | apply Kd.R_alloc | apply Kd.R_drewN | apply Kd.R_drew)); exact HO_4.out⟩, ⟨by (with_reducible repeat (first | apply Kd.R_alloc | apply Kd.R_drewN | apply Kd.R_drew)); exact HO_5.out⟩, ⟨by (with_reducible repeat (first | refine blk_drewN ?_ _ | refine blk_drew ?_ | refine blk_alloc ?_ _)); exact BK116.out⟩, ⟨by repeat (first | (with_reducible first | exact HB.out | apply below_alloc | apply pw_below_drewN | apply below_drew1 | refine below_set ?_ GE116.out) | exact HB.out)⟩⟩
            case rest =>
              clear HC6
              try clear c1
              try clear p1
              try clear q1
              try clear hx1
              try clear c2
              try clear c2b0
              try clear c2b1
              try clear p2
              try clear c3
              try clear c3b0
              try clear c4
              try clear c4b0
              try clear c9
              try clear c10
              try clear c11
              try clear c11b0
              try clear c11b1
              try clear p11
              try clear q11
              try clear hx11
              try clear hcz12_0
              try clear hcz12_1
              try clear hcz12_2
              try clear hcz12_3
              try clear hcz12_4
              try clear hcz12_5
              try clear hcz14_0
              try clear hcz14_1
              try clear hcz14_2
              try clear hcz14_3
              try clear hcz14_4
              try clear hcz14_5
              try clear hcz8_0
              try clear hcz8_1
              try clear hcz8_2
              try clear hcz8_3
              try clear hcz8_4
              try clear hcz8_5
              try clear hfz12_0
              try clear hfz12_1
              try clear hfz12_2
              try clear hfz12_3
              try clear hfz12_4
              try clear hfz12_5
              try clear hfz14_0
              try clear hfz14_1
              try clear hfz14_2
              try clear hfz14_3
              try clear hfz14_4
              try clear hfz14_5
              try clear hfz8_0
              try clear hfz8_1
              try clear hfz8_2
              try clear hfz8_3
              try clear hfz8_4
              try clear hfz8_5
              try clear hx115_0
              try clear hx115_1
              try clear hx115_2
              try clear hx115_3
              try clear hx115_4
              try clear hx115_5
              try clear p115
              try clear p2
              try clear q115
              obtain ⟨kq, x41_5, rfl, HA, HJ5, HO_4, HO_5, BK116, HB⟩ := hcut
              cases kq with
              | zero => exact absurd HA.out (by simp [harrowref23_Forest.j1])
              | succ kj5 =>
                have H := HA.out
                clear HA
                simp only [harrowref23_Forest.j1] at H
                by_cases c15 : x41_5 = true
                · subst c15
                  have H1 : (some (([] : List (S39)), 230)) = some (r1, r2) := by rw [if_pos rfl] at H; exact H
                  clear H
                  have H := H1
                  clear H1
                  simp only [Option.some.injEq, Prod.mk.injEq] at H
                  obtain ⟨rfl, rfl⟩ := H
                  go_wp2
                  go_ret2
                  exact ⟨_, by first | rfl | (simp [errW_none, errW_some] <;> rfl) | (simp [*, errW_none, errW_some] <;> rfl), by first | exact Kd.R_nil _ _ _ _ _ | exact Kd.N_nil _ _ _ _ _ | exact Kd.V_nil _ _ _ _ _ | exact Kd.Q_nil _ _ _ _ _ | exact Kd.S_nil _ _ _ _ _, by repeat (first | (with_reducible first | exact HB.out | apply below_alloc | apply pw_below_drewN | apply below_drew1 | refine below_set ?_ GE116.out) | exact HB.out)⟩
                · replace c15 := Bool.eq_false_iff.mpr c15
                  subst c15
                  have H1 : (if ((rd_T68 l0 x7_1).f0) = 19 then (if 0 ≤ (wrap64 ((x5_1.length : Int) - 1)) then (if (wrap64 ((x5_1.length : Int) - 1)) < (x5_1.length : Int) then (if 0 ≤ (rd x5_1 (wrap64 ((x5_1.length : Int) - 1))) then (if (rd x5_1 (wrap64 ((x5_1.length : Int) - 1))) < (x4_1.length : Int) then (if (wrap64 ((x5_1.length : Int) - 1)) ≤ (x5_1.length : Int) then (harrowref23_Forest.l0 kj5 l0 (x4_1.set ((rd x5_1 (wrap64 ((x5_1.length : Int) - 1))) : Int).toNat (⟨(rd_T39 x4_1 (rd x5_1 (wrap64 ((x5_1.length : Int) - 1)))).f0, (rd_T39 x4_1 (rd x5_1 (wrap64 ((x5_1.length : Int) - 1)))).f1, ((rd_T68 l0 x7_1).f2), (rd_T39 x4_1 (rd x5_1 (wrap64 ((x5_1.length : Int) - 1)))).f3, (rd_T39 x4_1 (rd x5_1 (wrap64 ((x5_1.length : Int) - 1)))).f4, (rd_T39 x4_1 (rd x5_1 (wrap64 ((x5_1.length : Int) - 1)))).f5⟩ : S39)) (x5_1.take ((wrap64 ((x5_1.length : Int) - 1)) : Int).toNat) t117 (wrap64 (x7_1 + 1))) else (none)) else (none)) else (none)) else (none)) else (none)) else (if (x5_1.length : Int) > 0 then (if 0 ≤ (wrap64 ((x5_1.length : Int) - 1)) then (if (wrap64 ((x5_1.length : Int) - 1)) < (x5_1.length : Int) then (if 0 ≤ (rd x5_1 (wrap64 ((x5_1.length : Int) - 1))) then (if (rd x5_1 (wrap64 ((x5_1.length : Int) - 1))) < (x4_1.length : Int) then ((some (x4_1.set ((rd x5_1 (wrap64 ((x5_1.length : Int) - 1))) : Int).toNat (⟨(rd_T39 x4_1 (rd x5_1 (wrap64 ((x5_1.length : Int) - 1)))).f0, (rd_T39 x4_1 (rd x5_1 (wrap64 ((x5_1.length : Int) - 1)))).f1, (rd_T39 x4_1 (rd x5_1 (wrap64 ((x5_1.length : Int) - 1)))).f2, wrap64 (((rd_T39 x4_1 (rd x5_1 (wrap64 ((x5_1.length : Int) - 1)))).f3) + 1), (rd_T39 x4_1 (rd x5_1 (wrap64 ((x5_1.length : Int) - 1)))).f4, (rd_T39 x4_1 (rd x5_1 (wrap64 ((x5_1.length : Int) - 1)))).f5⟩ : S39) : List (S39))).bind fun y126 => (if y126.length < 2513169434916 then ((some (y126 ++ [(⟨((rd_T68 l0 x7_1).f1), ((rd_T68 l0 x7_1).f2), wrap64 (((rd_T68 l0 x7_1).f2) + ((rd_T68 l0 x7_1).f3)), 0, ((rd_T68 l0 x7_1).f4), ((rd_T68 l0 x7_1).f5)⟩ : S39)] : List (S39))).bind fun y127 => (if ((rd_T68 l0 x7_1).f0) = 18 then (if x5_1.length < 17592186044416 then (harrowref23_Forest.l0 kj5 l0 y127 (x5_1 ++ [wrap64 ((y127.length : Int) - 1)]) t117 (wrap64 (x7_1 + 1))) else (none)) else (harrowref23_Forest.l0 kj5 l0 y127 x5_1 t117 (wrap64 (x7_1 + 1))))) else (none))) else (none)) else (none)) else (none)) else (none)) else (if x4_1.length < 2513169434916 then ((some (x4_1 ++ [(⟨((rd_T68 l0 x7_1).f1), ((rd_T68 l0 x7_1).f2), wrap64 (((rd_T68 l0 x7_1).f2) + ((rd_T68 l0 x7_1).f3)), 0, ((rd_T68 l0 x7_1).f4), ((rd_T68 l0 x7_1).f5)⟩ : S39)] : List (S39))).bind fun y133 => (if ((rd_T68 l0 x7_1).f0) = 18 then (if x5_1.length < 17592186044416 then (harrowref23_Forest.l0 kj5 l0 y133 (x5_1 ++ [wrap64 ((y133.length : Int) - 1)]) t117 (wrap64 (x7_1 + 1))) else (none)) else (harrowref23_Forest.l0 kj5 l0 y133 x5_1 t117 (wrap64 (x7_1 + 1))))) else (none)))) = some (r1, r2) := by rw [if_neg (show ¬ (false = true) by decide)] at H; exact H
                  clear H
                  have H := H1
                  clear H1
                  by_cases c16 : ((rd_T68 l0 x7_1).f0) = 19
                  · rw [if_pos c16] at H
                    have c16b0 : (((rd_T68 l0 x7_1).f0) == 19) = true := beq_iff_eq.mpr c16
                    have c16b1 : (((rd_T68 l0 x7_1).f0) != 19) = false := bne_eq_false_iff_eq.mpr c16
                    clear c16
                    obtain ⟨ji17, hji17⟩ : ∃ j_ : Int, (wrap64 ((x5_1.length : Int) - 1)) = j_ := ⟨_, rfl⟩
                    replace H : (if 0 ≤ (ji17) then (if (ji17) < (x5_1.length : Int) then (if 0 ≤ (rd x5_1 (ji17)) then (if (rd x5_1 (ji17)) < (x4_1.length : Int) then (if (ji17) ≤ (x5_1.length : Int) then (harrowref23_Forest.l0 kj5 l0 (x4_1.set ((rd x5_1 (ji17)) : Int).toNat (⟨(rd_T39 x4_1 (rd x5_1 (ji17))).f0, (rd_T39 x4_1 (rd x5_1 (ji17))).f1, ((rd_T68 l0 x7_1).f2), (rd_T39 x4_1 (rd x5_1 (ji17))).f3, (rd_T39 x4_1 (rd x5_1 (ji17))).f4, (rd_T39 x4_1 (rd x5_1 (ji17))).f5⟩ : S39)) (x5_1.take ((ji17) : Int).toNat) t117 (wrap64 (x7_1 + 1))) else (none)) else (none)) else (none)) else (none)) else (none)) = some (r1, r2) := by first | (rw [hji17] at H; exact H) | (simp only [hji17] at H ⊢; exact H)
                    have hji17w : (IntKind.i64.wrap ((x5_1.length : Int) - 1)) = ji17 := (i64_w _).trans hji17
                    by_cases c18 : 0 ≤ (ji17)
                    · rw [if_pos c18] at H
                      have c18b0 : decide (0 ≤ (ji17)) = true := decide_eq_true c18
                      clear c18
                      by_cases c19 : (ji17) < (x5_1.length : Int)
                      · rw [if_pos c19] at H
                        have c19b0 : decide ((ji17) < (x5_1.length : Int)) = true := decide_eq_true c19
                        clear c19
                        by_cases c20 : 0 ≤ (rd x5_1 (ji17))
                        · rw [if_pos c20] at H
                          have c20b0 : decide (0 ≤ (rd x5_1 (ji17))) = true := decide_eq_true c20
                          clear c20
                          by_cases c21 : (rd x5_1 (ji17)) < (x4_1.length : Int)
                          · rw [if_pos c21] at H
                            have c21b0 : decide ((rd x5_1 (ji17)) < (x4_1.length : Int)) = true := decide_eq_true c21
                            clear c21
                            obtain ⟨y120, hy120⟩ : ∃ y_ : List (S39), y_ = (x4_1.set ((rd x5_1 (ji17)) : Int).toNat (⟨(rd_T39 x4_1 (rd x5_1 (ji17))).f0, (rd_T39 x4_1 (rd x5_1 (ji17))).f1, ((rd_T68 l0 x7_1).f2), (rd_T39 x4_1 (rd x5_1 (ji17))).f3, (rd_T39 x4_1 (rd x5_1 (ji17))).f4, (rd_T39 x4_1 (rd x5_1 (ji17))).f5⟩ : S39)) := ⟨_, rfl⟩
                            replace H : (if (ji17) ≤ (x5_1.length : Int) then (harrowref23_Forest.l0 kj5 l0 y120 (x5_1.take ((ji17) : Int).toNat) t117 (wrap64 (x7_1 + 1))) else (none)) = some (r1, r2) := by first | (rw [hy120]; with_reducible exact H) | (have H2_ := (Option.bind_some _ _).symm.trans H; rw [hy120]; with_reducible exact H2_) | (have H2_ := (Option.bind_some _ _).symm.trans H; with_reducible exact H2_) | with_reducible exact H | (rw [hy120]; exact H) | exact H
                            have Ny120 := Aside0.mk hy120
                            clear hy120
                            by_cases c23 : (ji17) ≤ (x5_1.length : Int)
                            · rw [if_pos c23] at H
                              have c23b0 := eq_true c23
                              have c23b1 : decide ((ji17) ≤ (x5_1.length : Int)) = true := decide_eq_true c23
                              clear c23
                              obtain ⟨y121, hy121⟩ : ∃ y_ : List Int, y_ = (x5_1.take ((ji17) : Int).toNat) := ⟨_, rfl⟩
                              replace H : (harrowref23_Forest.l0 kj5 l0 y120 y121 t117 (wrap64 (x7_1 + 1))) = some (r1, r2) := by first | (rw [hy121]; with_reducible exact H) | (have H2_ := (Option.bind_some _ _).symm.trans H; rw [hy121]; with_reducible exact H2_) | (have H2_ := (Option.bind_some _ _).symm.trans H; with_reducible exact H2_) | with_reducible exact H | (rw [hy121]; exact H) | exact H
                              have Ny121 := Aside0.mk hy121
                              clear hy121
                              have H' := Aside0.mk H
                              clear H
                              have hcz24_0 : wc.cell? ⟨gb116, 0, none⟩ = some (.int .i64 ((rd_T68 l0 x7_1).f0)) := (blk_cell BK116.out 0).trans rfl
                              have hcz24_1 : wc.cell? ⟨gb116, 1, none⟩ = some (.int .i64 ((rd_T68 l0 x7_1).f1)) := (blk_cell BK116.out 1).trans rfl
                              have hcz24_2 : wc.cell? ⟨gb116, 2, none⟩ = some (.int .i64 ((rd_T68 l0 x7_1).f2)) := (blk_cell BK116.out 2).trans rfl
                              have hcz24_3 : wc.cell? ⟨gb116, 3, none⟩ = some (.int .i64 ((rd_T68 l0 x7_1).f3)) := (blk_cell BK116.out 3).trans rfl
                              have hcz24_4 : wc.cell? ⟨gb116, 4, none⟩ = some (.int .i64 ((rd_T68 l0 x7_1).f4)) := (blk_cell BK116.out 4).trans rfl
                              have hcz24_5 : wc.cell? ⟨gb116, 5, none⟩ = some (.string ((rd_T68 l0 x7_1).f5)) := (blk_cell BK116.out 5).trans rfl
                              have hfz24_0 := blk_frozen BK116.out 0
                              have hfz24_1 := blk_frozen BK116.out 1
                              have hfz24_2 := blk_frozen BK116.out 2
                              have hfz24_3 := blk_frozen BK116.out 3
                              have hfz24_4 := blk_frozen BK116.out 4
                              have hfz24_5 := blk_frozen BK116.out 5
                              try go_wp2
                              have n0_ := Aside0.mk (Kd.R_drew HO_4.out)
                              have n1_ := Aside0.mk (Kd.R_drew HO_5.out)
                              have n2_ := Aside0.mk (blk_drew BK116.out)
                              have n3_ := Aside0.mk (below_drew1 HB.out)
                              clear HO_4
                              clear HO_5
                              clear BK116
                              clear HB
                              have HO_4 := n0_
                              have HO_5 := n1_
                              have BK116 := n2_
                              have HB := n3_
                              clear n0_ n1_ n2_ n3_
                              obtain ⟨Ao26, co26, eo26⟩ := Kd.R_slice HO_5.out
                              (first | subst eo26 | (injection eo26 with f1_ f2_ f3_; have f4_ := f1_.symm; have f5_ := f3_.symm; clear f1_ f2_ f3_; subst f4_; subst f5_))
                              have p119 : 0 ≤ ((ji17) : Int) := of_decide_eq_true (by first | (with_reducible assumption) | assumption)
                              have q119 : (ji17) < (x5_1.length : Int) := of_decide_eq_true (by first | (with_reducible assumption) | assumption)
                              obtain ⟨ad119, e119, hx119_0⟩ := Kd.at_int (Kd.R_reads' HO_5.out).2.2 (ji17) p119 q119
                              cases e119
                              replace p119 := eq_true p119
                              replace q119 := eq_true q119
                              have p22 : 0 ≤ ((rd x5_1 (ji17)) : Int) := of_decide_eq_true (by first | (with_reducible assumption) | assumption)
                              have q22 : ((rd x5_1 (ji17)) : Int) < ((x4_1.length : Int) : Int) := of_decide_eq_true (by first | (with_reducible assumption) | assumption)
                              obtain ⟨go22, co22, eo22, gb22, gl22, cl22, HG22⟩ := Kd.R_form HO_4.out (by omega)
                              (first | cases eo22 | (injection eo22 with ea_ en_ ec_; (first | subst ea_ | (injection ea_ with ea_; subst ea_)); subst ec_; clear en_))
                              have GB22 := Aside0.mk gb22
                              have GG22 := Aside0.mk HG22
                              clear gb22 gl22 HG22
                              obtain ⟨ce22, hcl22, hM22, hcc22, hfr22⟩ := Kd.R_elem HO_4.out z39 ((rd x5_1 (ji17)) : Int) p22 q22
                              obtain rfl := k39_openM hM22
                              have hx22_0 : World.cell? _ ⟨go22, ((rd x5_1 (ji17)) : Int).toNat * 6, none⟩ = some (.int .i64 ((rd_T39 x4_1 (rd x5_1 (ji17))).f0)) := hcc22 0 _ rfl
                              have hx22_1 : World.cell? _ ⟨go22, ((rd x5_1 (ji17)) : Int).toNat * 6 + 1, none⟩ = some (.int .i64 ((rd_T39 x4_1 (rd x5_1 (ji17))).f1)) := hcc22 1 _ rfl
                              have hx22_2 : World.cell? _ ⟨go22, ((rd x5_1 (ji17)) : Int).toNat * 6 + 2, none⟩ = some (.int .i64 ((rd_T39 x4_1 (rd x5_1 (ji17))).f2)) := hcc22 2 _ rfl
                              have hx22_3 : World.cell? _ ⟨go22, ((rd x5_1 (ji17)) : Int).toNat * 6 + 3, none⟩ = some (.int .i64 ((rd_T39 x4_1 (rd x5_1 (ji17))).f3)) := hcc22 3 _ rfl
                              have hx22_4 : World.cell? _ ⟨go22, ((rd x5_1 (ji17)) : Int).toNat * 6 + 4, none⟩ = some (.int .i64 ((rd_T39 x4_1 (rd x5_1 (ji17))).f4)) := hcc22 4 _ rfl
                              have hx22_5 : World.cell? _ ⟨go22, ((rd x5_1 (ji17)) : Int).toNat * 6 + 5, none⟩ = some (.string ((rd_T39 x4_1 (rd x5_1 (ji17))).f5)) := hcc22 5 _ rfl
                              have hf22_0 : World.frozen? _ ⟨go22, ((rd x5_1 (ji17)) : Int).toNat * 6, none⟩ = false := hfr22 0
                              have hf22_1 : World.frozen? _ ⟨go22, ((rd x5_1 (ji17)) : Int).toNat * 6 + 1, none⟩ = false := hfr22 1
                              have hf22_2 : World.frozen? _ ⟨go22, ((rd x5_1 (ji17)) : Int).toNat * 6 + 2, none⟩ = false := hfr22 2
                              have hf22_3 : World.frozen? _ ⟨go22, ((rd x5_1 (ji17)) : Int).toNat * 6 + 3, none⟩ = false := hfr22 3
                              have hf22_4 : World.frozen? _ ⟨go22, ((rd x5_1 (ji17)) : Int).toNat * 6 + 4, none⟩ = false := hfr22 4
                              have hf22_5 : World.frozen? _ ⟨go22, ((rd x5_1 (ji17)) : Int).toNat * 6 + 5, none⟩ = false := hfr22 5
                              clear hcl22 hcc22 hfr22 hM22
                              replace p22 := eq_true p22
                              replace q22 := eq_true q22
                              obtain ⟨ce27, hcl27, hM27, hcc27, hfr27⟩ := Kd.R_elem HO_4.out z39 ((rd x5_1 (ji17)) : Int) (of_decide_eq_true (by first | (with_reducible assumption) | assumption)) (by have h_ : ((rd x5_1 (ji17)) : Int) < ((x4_1.length : Int) : Int) := of_decide_eq_true (by first | (with_reducible assumption) | assumption); first | exact h_ | (have e_ := (Kd.R_reads' HO_4.out).1; omega) | simpa using h_)
                              obtain rfl := k39_openM hM27
                              have HP27 := (Kd.R_seg HO_4.out ((rd x5_1 (ji17)) : Int) (of_decide_eq_true (by first | (with_reducible assumption) | assumption)) (by have h_ : ((rd x5_1 (ji17)) : Int) < ((x4_1.length : Int) : Int) := of_decide_eq_true (by first | (with_reducible assumption) | assumption); first | exact h_ | (have e_ := (Kd.R_reads' HO_4.out).1; omega) | simpa using h_) (seg := [.int .i64 ((rd_T68 l0 x7_1).f2)]) (j := 2) hcl27 hcc27 (show 3 ≤ 6 from by decide) (x' := (⟨(rd_T39 x4_1 (rd x5_1 (ji17))).f0, (rd_T39 x4_1 (rd x5_1 (ji17))).f1, ((rd_T68 l0 x7_1).f2), (rd_T39 x4_1 (rd x5_1 (ji17))).f3, (rd_T39 x4_1 (rd x5_1 (ji17))).f4, (rd_T39 x4_1 (rd x5_1 (ji17))).f5⟩ : S39)) (k39_mkM _ _ _ (⟨(rd_T39 x4_1 (rd x5_1 (ji17))).f0, (rd_T39 x4_1 (rd x5_1 (ji17))).f1, ((rd_T68 l0 x7_1).f2), (rd_T39 x4_1 (rd x5_1 (ji17))).f3, (rd_T39 x4_1 (rd x5_1 (ji17))).f4, (rd_T39 x4_1 (rd x5_1 (ji17))).f5⟩ : S39) ) (fun _ hk => hk)).1
                              rw [← Ny120.out] at HP27
                              have HQ27 := Aside0.mk HP27
                              clear hcl27 hcc27 hfr27 hM27 HP27
                              refine start_ (n := 12) (S := fun w' => w'.cell? ⟨gb116, 0, none⟩ = some (.int .i64 ((rd_T68 l0 x7_1).f0)) ∧ w'.cell? ⟨gb116, 1, none⟩ = some (.int .i64 ((rd_T68 l0 x7_1).f1)) ∧ w'.cell? ⟨gb116, 2, none⟩ = some (.int .i64 ((rd_T68 l0 x7_1).f2)) ∧ w'.cell? ⟨gb116, 3, none⟩ = some (.int .i64 ((rd_T68 l0 x7_1).f3)) ∧ w'.cell? ⟨gb116, 4, none⟩ = some (.int .i64 ((rd_T68 l0 x7_1).f4)) ∧ w'.cell? ⟨gb116, 5, none⟩ = some (.string ((rd_T68 l0 x7_1).f5)) ∧ w'.cell? (ad119.add ((ji17)).toNat) = some (.int .i64 (rd x5_1 (ji17)))) (ds := [11]) #[false, false, false, false, false, false, false, false, false, false, false, false] (by kernel_rfl) rfl rfl ⟨(blk_cell BK116.out 0).trans rfl, (blk_cell BK116.out 1).trans rfl, (blk_cell BK116.out 2).trans rfl, (blk_cell BK116.out 3).trans rfl, (blk_cell BK116.out 4).trans rfl, (blk_cell BK116.out 5).trans rfl, hx119_0⟩ (fun hHeld => ?_); refine with_tabW harrowref23_Forest.tab15 harrowref23_Forest.bits15 (fun HT_ HW_ => ?_)
                              generalize wc.drew = w25 at HO_4 HO_5 BK116 HB GG22 HQ27 hf22_0 hf22_1 hf22_2 hf22_3 hf22_4 hf22_5 hx119_0 hx22_0 hx22_1 hx22_2 hx22_3 hx22_4 hx22_5 hHeld ⊢
                              refine pure_ (i := 0) (N := some 46) (v := ?_) (a' := ?_) #[true, false, false, false, false, false, false, false, false, false, false, false] rfl rfl (any_of HT_.out (by kernel_rfl)) (fun _ _ _ h => h) (Or.inl ⟨by rfl, ?_⟩) ?_ ?_
                              rotate_left
                              · intro w'
                                go_simp
                                with_reducible rfl
                              rotate_left
                              · simp only [Act.put, List.setIfInBounds_toArray, List.set_cons_zero, List.set_cons_succ, i64_w, i32_w]
                                rfl
                              refine pure_ (i := 1) (N := some 47) (v := ?_) (a' := ?_) #[true, true, false, false, false, false, false, false, false, false, false, false] rfl rfl (any_of HT_.out (by kernel_rfl)) (fun _ _ _ h => h) (Or.inl ⟨by rfl, ?_⟩) ?_ ?_
                              rotate_left
                              · intro w'
                                go_simp
                                with_reducible rfl
                              rotate_left
                              · simp only [Act.put, List.setIfInBounds_toArray, List.set_cons_zero, List.set_cons_succ, i64_w, i32_w]
                                rfl
                              refine pure_ (i := 2) (N := some 48) (v := ?_) (a' := ?_) #[true, true, true, false, false, false, false, false, false, false, false, false] rfl rfl (any_of HT_.out (by kernel_rfl)) (fun _ _ _ h => h) (Or.inl ⟨by rfl, ?_⟩) ?_ ?_
                              rotate_left
                              · intro w'
                                go_simp
                                with_reducible rfl
                              rotate_left
                              · simp only [Act.put, List.setIfInBounds_toArray, List.set_cons_zero, List.set_cons_succ, i64_w, i32_w]
                                rfl
                              refine pure_ (i := 3) (N := some 49) (v := ?_) (a' := ?_) #[true, true, true, true, false, false, false, false, false, false, false, false] rfl rfl (any_of HT_.out (by kernel_rfl)) (fun _ _ _ h => h) (Or.inl ⟨by rfl, ?_⟩) ?_ ?_
                              rotate_left
                              · intro w'
                                go_simp
                                with_reducible rfl
                              rotate_left
                              · simp only [Act.put, List.setIfInBounds_toArray, List.set_cons_zero, List.set_cons_succ, i64_w, i32_w]
                                rfl
                              refine pure_ (i := 4) (N := some 50) (v := ?_) (a' := ?_) #[true, true, true, true, true, false, false, false, false, false, false, false] rfl rfl (any_of HT_.out (by kernel_rfl)) (fun _ _ _ h => h) (Or.inl ⟨by rfl, ?_⟩) ?_ ?_
                              rotate_left
                              · intro w'
                                go_simp
                                with_reducible rfl
                              rotate_left
                              · simp only [Act.put, List.setIfInBounds_toArray, List.set_cons_zero, List.set_cons_succ, i64_w, i32_w]
                                rfl
                              refine pure_ (i := 5) (N := some 51) (v := ?_) (a' := ?_) #[true, true, true, true, true, true, false, false, false, false, false, false] rfl rfl (any_of HT_.out (by kernel_rfl)) (fun _ _ _ h => h) (Or.inl ⟨by rfl, ?_⟩) ?_ ?_
                              rotate_left
                              · intro w'
                                go_simp
                                with_reducible rfl
                              rotate_left
                              · simp only [Act.put, List.setIfInBounds_toArray, List.set_cons_zero, List.set_cons_succ, i64_w, i32_w]
                                rfl
                              refine pure_ (i := 7) (N := some 53) (v := ?_) (a' := ?_) #[true, true, true, true, true, true, false, true, false, false, false, false] rfl rfl (any_of HT_.out (by kernel_rfl)) (fun _ _ _ h => h) (Or.inl ⟨by rfl, ?_⟩) ?_ ?_
                              rotate_left
                              · intro w'
                                go_simp
                                with_reducible rfl
                              rotate_left
                              · simp only [Act.put, List.setIfInBounds_toArray, List.set_cons_zero, List.set_cons_succ, i64_w, i32_w]
                                rfl
                              refine take_ (i := 6) (N := some 52) (v := ?_) (a' := ?_) #[true, true, true, true, true, true, true, true, false, false, false, false] rfl rfl (take_ofW HT_.out HW_.out (by kernel_rfl)) (fun _ _ _ h => h) (Or.inl ⟨by rfl, ?_⟩) hHeld ?_ ?_
                              rotate_left
                              · rintro w' ⟨s0, s1, s2, s3, s4, s5, s6⟩
                                go_simp
                                with_reducible rfl
                              rotate_left
                              · simp only [Act.put, List.setIfInBounds_toArray, List.set_cons_zero, List.set_cons_succ, i64_w, i32_w]
                                rfl
                              refine take_ (i := 8) (N := some 54) (v := ?_) (a' := ?_) #[true, true, true, true, true, true, true, true, true, false, false, false] rfl rfl (take_ofW HT_.out HW_.out (by kernel_rfl)) (fun _ _ _ h => h) (Or.inl ⟨by rfl, ?_⟩) hHeld ?_ ?_
                              rotate_left
                              · rintro w' ⟨s0, s1, s2, s3, s4, s5, s6⟩
                                go_simp
                                with_reducible rfl
                              rotate_left
                              · simp only [Act.put, List.setIfInBounds_toArray, List.set_cons_zero, List.set_cons_succ, i64_w, i32_w]
                                rfl
                              refine pure_ (i := 9) (N := some 55) (v := ?_) (a' := ?_) #[true, true, true, true, true, true, true, true, true, true, false, false] rfl rfl (any_of HT_.out (by kernel_rfl)) (fun _ _ _ h => h) (Or.inl ⟨by rfl, ?_⟩) ?_ ?_
                              rotate_left
                              · intro w'
                                go_simp
                                with_reducible rfl
                              rotate_left
                              · simp only [Act.put, List.setIfInBounds_toArray, List.set_cons_zero, List.set_cons_succ, i64_w, i32_w]
                                rfl
                              refine pure_ (i := 10) (N := some 56) (v := ?_) (a' := ?_) #[true, true, true, true, true, true, true, true, true, true, true, false] rfl rfl (any_of HT_.out (by kernel_rfl)) (fun _ _ _ h => h) (Or.inl ⟨by rfl, ?_⟩) ?_ ?_
                              rotate_left
                              · intro w'
                                go_simp
                                with_reducible rfl
                              rotate_left
                              · simp only [Act.put, List.setIfInBounds_toArray, List.set_cons_zero, List.set_cons_succ, i64_w, i32_w]
                                rfl
                              refine last_ (i := 11) (N := none) #[true, true, true, true, true, true, true, true, true, true, true, true] rfl rfl (one_of HT_.out (by kernel_rfl)) (by decide) (fun K hK => ?_)
                              refine skip_ (w1 := ?_) (by rfl) rfl ?_ ?_
                              rotate_left
                              · go_simp
                                rfl
                              refine hK.out _ _ ?_
                              clear hK K
                              refine done_ (done_of HT_.out (by kernel_rfl)) ?_
                              have n0_ : Aside0 (Kd.R k39 39 (w25.setCell ⟨go22, ((rd x5_1 (ji17)) : Int).toNat * 6 + 2, none⟩ (.int .i64 ((rd_T68 l0 x7_1).f2))) w.heap.size (fun _ => True) (.slice (some ⟨go22, 0, none⟩) x4_1.length co22) y120) := ⟨by (with_reducible repeat (first | apply Kd.R_alloc | apply Kd.R_drewN | apply Kd.R_drew)); exact HQ27.out⟩
                              have n1_ : Aside0 (Kd.R (Kd.int .i64) 3 (w25.setCell ⟨go22, ((rd x5_1 (ji17)) : Int).toNat * 6 + 2, none⟩ (.int .i64 ((rd_T68 l0 x7_1).f2))) w.heap.size (fun _ => True) (.slice (some ad119) x5_1.length co26) x5_1) := ⟨by (with_reducible repeat (first | apply Kd.R_alloc | apply Kd.R_drewN | apply Kd.R_drew)); exact Kd.R_mono (Kd.R_far (p := ⟨go22, ((rd x5_1 (ji17)) : Int).toNat * 6 + 2, none⟩) (Kd.R_types HO_5.out GG22.out (by decide)) (fun _ hk => hk.2) (.int .i64 ((rd_T68 l0 x7_1).f2))) (fun _ hk => trivial)⟩
                              have n2_ : Aside0 ((w25.setCell ⟨go22, ((rd x5_1 (ji17)) : Int).toNat * 6 + 2, none⟩ (.int .i64 ((rd_T68 l0 x7_1).f2))).heap[gb116]? = some (.cells #[.int .i64 ((rd_T68 l0 x7_1).f0), .int .i64 ((rd_T68 l0 x7_1).f1), .int .i64 ((rd_T68 l0 x7_1).f2), .int .i64 ((rd_T68 l0 x7_1).f3), .int .i64 ((rd_T68 l0 x7_1).f4), .string ((rd_T68 l0 x7_1).f5)] 68 (0, 0))) := ⟨by (with_reducible repeat (first | refine blk_drewN ?_ _ | refine blk_drew ?_ | refine blk_alloc ?_ _)); refine blk_far ?_ (by have h_ := Kd.R_ne HO_4.out BK116.out (by decide); intro e_; exact h_ (by rw [e_]; rfl)) _; (with_reducible repeat (first | refine blk_drewN ?_ _ | refine blk_drew ?_ | refine blk_alloc ?_ _)); exact BK116.out⟩
                              have n3_ : Aside0 (Below w.heap.size w (w25.setCell ⟨go22, ((rd x5_1 (ji17)) : Int).toNat * 6 + 2, none⟩ (.int .i64 ((rd_T68 l0 x7_1).f2)))) := ⟨by repeat (first | (with_reducible first | exact HB.out | apply below_alloc | apply pw_below_drewN | apply below_drew1 | refine below_set ?_ GB22.out | refine below_set ?_ GE116.out) | exact HB.out)⟩
                              (try clear HO_4)
                              (try clear HO_5)
                              (try clear BK116)
                              (try clear HB)
                              generalize (w25.setCell ⟨go22, ((rd x5_1 (ji17)) : Int).toNat * 6 + 2, none⟩ (.int .i64 ((rd_T68 l0 x7_1).f2))) = w28 at n0_ n1_ n2_ n3_ ⊢
                              have HO_4 := n0_
                              have HO_5 := n1_
                              have BK116 := n2_
                              have HB := n3_
                              clear n0_ n1_ n2_ n3_
                              have q29 : ((ji17) : Int) ≤ ((x5_1.length : Int) : Int) := of_decide_eq_true (by first | (with_reducible assumption) | assumption)
                              obtain ⟨i029, hi029, _, hsz29, _⟩ := info_parts info3
                              have hcut29 := cut_to (P := Try.prog) 35 3 .i64 Try.underlying35 hi029 (some ad119) x5_1.length co26 (ji17) (of_decide_eq_true (by first | (with_reducible assumption) | assumption)) q29 (Kd.R_reads' HO_5.out).2.1
                              have hr29 := Kd.R_take (m := ((ji17) : Int).toNat) HO_5.out (by omega)
                              have hy29 : y121.length = ((ji17) : Int).toNat := (by rw [Ny121.out, List.length_take]; omega)
                              rw [← Ny121.out] at hr29
                              rw [← hy29] at hr29 hcut29
                              clear hy29 hi029 hsz29 HO_5
                              have HO123 := Aside0.mk hr29
                              clear hr29
                              replace q29 := eq_true q29
                              try go_wp2
                              go_roundg kj5
                              case measure => have := HK1.out; have := HJ5.out; omega
                              case rel => exact ⟨(y120), (y121), (t117), (wrap64 (x7_1 + 1)), (by first | rfl | (simp; done) | (simp [*]; done)), (by first | rfl | (simp; done) | (simp [*]; done)), H', ⟨by have := HK1.out; have := HJ5.out; omega⟩, ⟨by (with_reducible repeat (first | apply Kd.R_alloc | apply Kd.R_drewN | apply Kd.R_drew)); exact HO_4.out⟩, ⟨by (with_reducible repeat (first | apply Kd.R_alloc | apply Kd.R_drewN | apply Kd.R_drew)); exact HO123.out⟩, ⟨by repeat (first | (with_reducible first | exact HB.out | apply below_alloc | apply pw_below_drewN | apply below_drew1 | refine below_set ?_ GE116.out) | exact HB.out)⟩⟩
                            · rw [if_neg c23] at H
                              exact absurd H (by simp)
                          · rw [if_neg c21] at H
                            exact absurd H (by simp)
                        · rw [if_neg c20] at H
                          exact absurd H (by simp)
                      · rw [if_neg c19] at H
                        exact absurd H (by simp)
                    · rw [if_neg c18] at H
                      exact absurd H (by simp)
                  · rw [if_neg c16] at H
                    have c16b0 : (((rd_T68 l0 x7_1).f0) == 19) = false := beq_eq_false_iff_ne.mpr c16
                    have c16b1 : (((rd_T68 l0 x7_1).f0) != 19) = true := bne_iff_ne.mpr c16
                    by_cases c30 : (x5_1.length : Int) > 0
                    · rw [if_pos c30] at H
                      have c30b0 : decide (0 < (x5_1.length : Int)) = true := decide_eq_true c30
                      have c30b1 : decide (0 < x5_1.length) = true := decide_eq_true (by omega)
                      clear c30
                      obtain ⟨ji31, hji31⟩ : ∃ j_ : Int, (wrap64 ((x5_1.length : Int) - 1)) = j_ := ⟨_, rfl⟩
                      replace H : (if 0 ≤ (ji31) then (if (ji31) < (x5_1.length : Int) then (if 0 ≤ (rd x5_1 (ji31)) then (if (rd x5_1 (ji31)) < (x4_1.length : Int) then ((some (x4_1.set ((rd x5_1 (ji31)) : Int).toNat (⟨(rd_T39 x4_1 (rd x5_1 (ji31))).f0, (rd_T39 x4_1 (rd x5_1 (ji31))).f1, (rd_T39 x4_1 (rd x5_1 (ji31))).f2, wrap64 (((rd_T39 x4_1 (rd x5_1 (ji31))).f3) + 1), (rd_T39 x4_1 (rd x5_1 (ji31))).f4, (rd_T39 x4_1 (rd x5_1 (ji31))).f5⟩ : S39) : List (S39))).bind fun y126 => (if y126.length < 2513169434916 then ((some (y126 ++ [(⟨((rd_T68 l0 x7_1).f1), ((rd_T68 l0 x7_1).f2), wrap64 (((rd_T68 l0 x7_1).f2) + ((rd_T68 l0 x7_1).f3)), 0, ((rd_T68 l0 x7_1).f4), ((rd_T68 l0 x7_1).f5)⟩ : S39)] : List (S39))).bind fun y127 => (if ((rd_T68 l0 x7_1).f0) = 18 then (if x5_1.length < 17592186044416 then (harrowref23_Forest.l0 kj5 l0 y127 (x5_1 ++ [wrap64 ((y127.length : Int) - 1)]) t117 (wrap64 (x7_1 + 1))) else (none)) else (harrowref23_Forest.l0 kj5 l0 y127 x5_1 t117 (wrap64 (x7_1 + 1))))) else (none))) else (none)) else (none)) else (none)) else (none)) = some (r1, r2) := by first | (rw [hji31] at H; exact H) | (simp only [hji31] at H ⊢; exact H)
                      have hji31w : (IntKind.i64.wrap ((x5_1.length : Int) - 1)) = ji31 := (i64_w _).trans hji31
                      by_cases c32 : 0 ≤ (ji31)
                      · rw [if_pos c32] at H
                        have c32b0 : decide (0 ≤ (ji31)) = true := decide_eq_true c32
                        clear c32
                        by_cases c33 : (ji31) < (x5_1.length : Int)
                        · rw [if_pos c33] at H
                          have c33b0 : decide ((ji31) < (x5_1.length : Int)) = true := decide_eq_true c33
                          clear c33
                          by_cases c34 : 0 ≤ (rd x5_1 (ji31))
                          · rw [if_pos c34] at H
                            have c34b0 : decide (0 ≤ (rd x5_1 (ji31))) = true := decide_eq_true c34
                            clear c34
                            by_cases c35 : (rd x5_1 (ji31)) < (x4_1.length : Int)
                            · rw [if_pos c35] at H
                              have c35b0 : decide ((rd x5_1 (ji31)) < (x4_1.length : Int)) = true := decide_eq_true c35
                              clear c35
                              obtain ⟨y126, hy126⟩ : ∃ y_ : List (S39), y_ = (x4_1.set ((rd x5_1 (ji31)) : Int).toNat (⟨(rd_T39 x4_1 (rd x5_1 (ji31))).f0, (rd_T39 x4_1 (rd x5_1 (ji31))).f1, (rd_T39 x4_1 (rd x5_1 (ji31))).f2, wrap64 (((rd_T39 x4_1 (rd x5_1 (ji31))).f3) + 1), (rd_T39 x4_1 (rd x5_1 (ji31))).f4, (rd_T39 x4_1 (rd x5_1 (ji31))).f5⟩ : S39)) := ⟨_, rfl⟩
                              replace H : (if y126.length < 2513169434916 then ((some (y126 ++ [(⟨((rd_T68 l0 x7_1).f1), ((rd_T68 l0 x7_1).f2), wrap64 (((rd_T68 l0 x7_1).f2) + ((rd_T68 l0 x7_1).f3)), 0, ((rd_T68 l0 x7_1).f4), ((rd_T68 l0 x7_1).f5)⟩ : S39)] : List (S39))).bind fun y127 => (if ((rd_T68 l0 x7_1).f0) = 18 then (if x5_1.length < 17592186044416 then (harrowref23_Forest.l0 kj5 l0 y127 (x5_1 ++ [wrap64 ((y127.length : Int) - 1)]) t117 (wrap64 (x7_1 + 1))) else (none)) else (harrowref23_Forest.l0 kj5 l0 y127 x5_1 t117 (wrap64 (x7_1 + 1))))) else (none)) = some (r1, r2) := by first | (rw [hy126]; with_reducible exact H) | (have H2_ := (Option.bind_some _ _).symm.trans H; rw [hy126]; with_reducible exact H2_) | (have H2_ := (Option.bind_some _ _).symm.trans H; with_reducible exact H2_) | with_reducible exact H | (rw [hy126]; exact H) | exact H
                              have Ny126 := Aside0.mk hy126
                              clear hy126
                              by_cases c37 : y126.length < 2513169434916
                              · rw [if_pos c37] at H
                                have LMc37 := Aside0.mk c37
                                clear c37
                                obtain ⟨y127, hy127⟩ : ∃ y_ : List (S39), y_ = (y126 ++ [(⟨((rd_T68 l0 x7_1).f1), ((rd_T68 l0 x7_1).f2), wrap64 (((rd_T68 l0 x7_1).f2) + ((rd_T68 l0 x7_1).f3)), 0, ((rd_T68 l0 x7_1).f4), ((rd_T68 l0 x7_1).f5)⟩ : S39)]) := ⟨_, rfl⟩
                                replace H : (if ((rd_T68 l0 x7_1).f0) = 18 then (if x5_1.length < 17592186044416 then (harrowref23_Forest.l0 kj5 l0 y127 (x5_1 ++ [wrap64 ((y127.length : Int) - 1)]) t117 (wrap64 (x7_1 + 1))) else (none)) else (harrowref23_Forest.l0 kj5 l0 y127 x5_1 t117 (wrap64 (x7_1 + 1)))) = some (r1, r2) := by first | (rw [hy127]; with_reducible exact H) | (have H2_ := (Option.bind_some _ _).symm.trans H; rw [hy127]; with_reducible exact H2_) | (have H2_ := (Option.bind_some _ _).symm.trans H; with_reducible exact H2_) | with_reducible exact H | (rw [hy127]; exact H) | exact H
                                have Ny127 := Aside0.mk hy127
                                clear hy127
                                by_cases c38 : ((rd_T68 l0 x7_1).f0) = 18
                                · rw [if_pos c38] at H
                                  have c38b0 : (((rd_T68 l0 x7_1).f0) == 18) = true := beq_iff_eq.mpr c38
                                  have c38b1 : (((rd_T68 l0 x7_1).f0) != 18) = false := bne_eq_false_iff_eq.mpr c38
                                  clear c38
                                  by_cases c39 : x5_1.length < 17592186044416
                                  · rw [if_pos c39] at H
                                    have LMc39 := Aside0.mk c39
                                    clear c39
                                    obtain ⟨y130, hy130⟩ : ∃ y_ : List Int, y_ = (x5_1 ++ [wrap64 ((y127.length : Int) - 1)]) := ⟨_, rfl⟩
                                    replace H : (harrowref23_Forest.l0 kj5 l0 y127 y130 t117 (wrap64 (x7_1 + 1))) = some (r1, r2) := by first | (rw [hy130]; with_reducible exact H) | (have H2_ := (Option.bind_some _ _).symm.trans H; rw [hy130]; with_reducible exact H2_) | (have H2_ := (Option.bind_some _ _).symm.trans H; with_reducible exact H2_) | with_reducible exact H | (rw [hy130]; exact H) | exact H
                                    have Ny130 := Aside0.mk hy130
                                    clear hy130
                                    have H' := Aside0.mk H
                                    clear H
                                    have hcz40_0 : wc.cell? ⟨gb116, 0, none⟩ = some (.int .i64 ((rd_T68 l0 x7_1).f0)) := (blk_cell BK116.out 0).trans rfl
                                    have hcz40_1 : wc.cell? ⟨gb116, 1, none⟩ = some (.int .i64 ((rd_T68 l0 x7_1).f1)) := (blk_cell BK116.out 1).trans rfl
                                    have hcz40_2 : wc.cell? ⟨gb116, 2, none⟩ = some (.int .i64 ((rd_T68 l0 x7_1).f2)) := (blk_cell BK116.out 2).trans rfl
                                    have hcz40_3 : wc.cell? ⟨gb116, 3, none⟩ = some (.int .i64 ((rd_T68 l0 x7_1).f3)) := (blk_cell BK116.out 3).trans rfl
                                    have hcz40_4 : wc.cell? ⟨gb116, 4, none⟩ = some (.int .i64 ((rd_T68 l0 x7_1).f4)) := (blk_cell BK116.out 4).trans rfl
                                    have hcz40_5 : wc.cell? ⟨gb116, 5, none⟩ = some (.string ((rd_T68 l0 x7_1).f5)) := (blk_cell BK116.out 5).trans rfl
                                    have hfz40_0 := blk_frozen BK116.out 0
                                    have hfz40_1 := blk_frozen BK116.out 1
                                    have hfz40_2 := blk_frozen BK116.out 2
                                    have hfz40_3 := blk_frozen BK116.out 3
                                    have hfz40_4 := blk_frozen BK116.out 4
                                    have hfz40_5 := blk_frozen BK116.out 5
                                    obtain ⟨Ao41, co41, eo41⟩ := Kd.R_slice HO_5.out
                                    subst eo41
                                    have p124 : 0 ≤ ((ji31) : Int) := of_decide_eq_true (by first | (with_reducible assumption) | assumption)
                                    have q124 : (ji31) < (x5_1.length : Int) := of_decide_eq_true (by first | (with_reducible assumption) | assumption)
                                    obtain ⟨ad124, e124, hx124_0⟩ := Kd.at_int (Kd.R_reads' HO_5.out).2.2 (ji31) p124 q124
                                    cases e124
                                    replace p124 := eq_true p124
                                    replace q124 := eq_true q124
                                    obtain ⟨Ao42, co42, eo42⟩ := Kd.R_slice HO_4.out
                                    subst eo42
                                    have p125 : 0 ≤ ((rd x5_1 (ji31)) : Int) := of_decide_eq_true (by first | (with_reducible assumption) | assumption)
                                    have q125 : (rd x5_1 (ji31)) < (x4_1.length : Int) := of_decide_eq_true (by first | (with_reducible assumption) | assumption)
                                    obtain ⟨ad125, e125, hx125_0, hx125_1, hx125_2, hx125_3, hx125_4, hx125_5⟩ := at_T39 (Kd.R_reads' HO_4.out).2.2 (rd x5_1 (ji31)) p125 q125
                                    cases e125
                                    replace p125 := eq_true p125
                                    replace q125 := eq_true q125
                                    have p36 : 0 ≤ ((rd x5_1 (ji31)) : Int) := of_decide_eq_true (by first | (with_reducible assumption) | assumption)
                                    have q36 : ((rd x5_1 (ji31)) : Int) < ((x4_1.length : Int) : Int) := of_decide_eq_true (by first | (with_reducible assumption) | assumption)
                                    obtain ⟨go36, co36, eo36, gb36, gl36, cl36, HG36⟩ := Kd.R_form HO_4.out (by omega)
                                    (first | cases eo36 | (injection eo36 with ea_ en_ ec_; (first | subst ea_ | (injection ea_ with ea_; subst ea_)); subst ec_; clear en_))
                                    have GB36 := Aside0.mk gb36
                                    have GG36 := Aside0.mk HG36
                                    clear gb36 gl36 HG36
                                    (first | simp only [add_plain] at hx125_0 | skip)
                                    (first | simp only [add_plain] at hx125_1 | skip)
                                    (first | simp only [add_plain] at hx125_2 | skip)
                                    (first | simp only [add_plain] at hx125_3 | skip)
                                    (first | simp only [add_plain] at hx125_4 | skip)
                                    (first | simp only [add_plain] at hx125_5 | skip)
                                    obtain ⟨ce36, hcl36, hM36, hcc36, hfr36⟩ := Kd.R_elem HO_4.out z39 ((rd x5_1 (ji31)) : Int) p36 q36
                                    obtain rfl := k39_openM hM36
                                    have hx36_0 : wc.cell? ⟨go36, ((rd x5_1 (ji31)) : Int).toNat * 6, none⟩ = some (.int .i64 ((rd_T39 x4_1 (rd x5_1 (ji31))).f0)) := hcc36 0 _ rfl
                                    have hx36_1 : wc.cell? ⟨go36, ((rd x5_1 (ji31)) : Int).toNat * 6 + 1, none⟩ = some (.int .i64 ((rd_T39 x4_1 (rd x5_1 (ji31))).f1)) := hcc36 1 _ rfl
                                    have hx36_2 : wc.cell? ⟨go36, ((rd x5_1 (ji31)) : Int).toNat * 6 + 2, none⟩ = some (.int .i64 ((rd_T39 x4_1 (rd x5_1 (ji31))).f2)) := hcc36 2 _ rfl
                                    have hx36_3 : wc.cell? ⟨go36, ((rd x5_1 (ji31)) : Int).toNat * 6 + 3, none⟩ = some (.int .i64 ((rd_T39 x4_1 (rd x5_1 (ji31))).f3)) := hcc36 3 _ rfl
                                    have hx36_4 : wc.cell? ⟨go36, ((rd x5_1 (ji31)) : Int).toNat * 6 + 4, none⟩ = some (.int .i64 ((rd_T39 x4_1 (rd x5_1 (ji31))).f4)) := hcc36 4 _ rfl
                                    have hx36_5 : wc.cell? ⟨go36, ((rd x5_1 (ji31)) : Int).toNat * 6 + 5, none⟩ = some (.string ((rd_T39 x4_1 (rd x5_1 (ji31))).f5)) := hcc36 5 _ rfl
                                    have hf36_0 : wc.frozen? ⟨go36, ((rd x5_1 (ji31)) : Int).toNat * 6, none⟩ = false := hfr36 0
                                    have hf36_1 : wc.frozen? ⟨go36, ((rd x5_1 (ji31)) : Int).toNat * 6 + 1, none⟩ = false := hfr36 1
                                    have hf36_2 : wc.frozen? ⟨go36, ((rd x5_1 (ji31)) : Int).toNat * 6 + 2, none⟩ = false := hfr36 2
                                    have hf36_3 : wc.frozen? ⟨go36, ((rd x5_1 (ji31)) : Int).toNat * 6 + 3, none⟩ = false := hfr36 3
                                    have hf36_4 : wc.frozen? ⟨go36, ((rd x5_1 (ji31)) : Int).toNat * 6 + 4, none⟩ = false := hfr36 4
                                    have hf36_5 : wc.frozen? ⟨go36, ((rd x5_1 (ji31)) : Int).toNat * 6 + 5, none⟩ = false := hfr36 5
                                    clear hcl36 hcc36 hfr36 hM36
                                    replace p36 := eq_true p36
                                    replace q36 := eq_true q36
                                    have HX43 := Aside0.mk (show Kd.R k39 39 wc w.heap.size (fun _ => True) (.slice (some ⟨go36, 0, none⟩) x4_1.length co42) x4_1 from (by (with_reducible repeat (first | apply Kd.R_alloc | apply Kd.R_drewN | apply Kd.R_drew)); exact HO_4.out))
                                    obtain ⟨ce43, hcl43, hM43, hcc43, hfr43⟩ := Kd.R_elem HX43.out z39 ((rd x5_1 (ji31)) : Int) (of_decide_eq_true (by first | (with_reducible assumption) | assumption)) (by have h_ : ((rd x5_1 (ji31)) : Int) < ((x4_1.length : Int) : Int) := of_decide_eq_true (by first | (with_reducible assumption) | assumption); first | exact h_ | (have e_ := (Kd.R_reads' HO_4.out).1; omega) | simpa using h_)
                                    obtain rfl := k39_openM hM43
                                    have HP43 := Kd.R_seg HX43.out ((rd x5_1 (ji31)) : Int) (of_decide_eq_true (by first | (with_reducible assumption) | assumption)) (by have h_ : ((rd x5_1 (ji31)) : Int) < ((x4_1.length : Int) : Int) := of_decide_eq_true (by first | (with_reducible assumption) | assumption); first | exact h_ | (have e_ := (Kd.R_reads' HO_4.out).1; omega) | simpa using h_) (seg := [.int .i64 (wrap64 (((rd_T39 x4_1 (rd x5_1 (ji31))).f3) + 1))]) (j := 3) hcl43 hcc43 (show 4 ≤ 6 from by decide) (x' := (⟨(rd_T39 x4_1 (rd x5_1 (ji31))).f0, (rd_T39 x4_1 (rd x5_1 (ji31))).f1, (rd_T39 x4_1 (rd x5_1 (ji31))).f2, wrap64 (((rd_T39 x4_1 (rd x5_1 (ji31))).f3) + 1), (rd_T39 x4_1 (rd x5_1 (ji31))).f4, (rd_T39 x4_1 (rd x5_1 (ji31))).f5⟩ : S39)) (k39_mkM _ _ _ (⟨(rd_T39 x4_1 (rd x5_1 (ji31))).f0, (rd_T39 x4_1 (rd x5_1 (ji31))).f1, (rd_T39 x4_1 (rd x5_1 (ji31))).f2, wrap64 (((rd_T39 x4_1 (rd x5_1 (ji31))).f3) + 1), (rd_T39 x4_1 (rd x5_1 (ji31))).f4, (rd_T39 x4_1 (rd x5_1 (ji31))).f5⟩ : S39) ) (fun _ hk => hk)
                                    have hx43_3 := hcc43 3 _ rfl
                                    (try simp only [show (k39).sz = 6 from rfl, Nat.mul_one, Nat.add_zero] at hx43_3)
                                    have hf43_3 := hfr43 3
                                    (try simp only [show (k39).sz = 6 from rfl, Nat.mul_one, Nat.add_zero] at hf43_3)
                                    clear hcl43 hcc43 hfr43 hM43
                                    go_wp2_with (first | ((with_reducible refine gate_store (t := 3) (p := 77) rfl ?_); refine store_event (t := 3) (p := 77) (v := ?vo_w44) (w1 := (wc.setCell ⟨go36, ((rd x5_1 (ji31)) : Int).toNat * 6 + 3, none⟩ (.int .i64 (wrap64 (((rd_T39 x4_1 (rd x5_1 (ji31))).f3) + 1))))) ?hg ?ho ?hn ?hr ?_; (case ho => rfl); (case hg => rfl); (case hn => rfl); (case hr => first | (go_simp; done) | (go_simp; rfl)); intro w44 hw; have hg : wc.grownBy w44 (some go36) := (by rw [hw]; exact HP43.2); have hp_ : Kd.R k39 39 w44 w.heap.size (fun _ => True) (.slice (some ⟨go36, 0, none⟩) x4_1.length co42) y126 := (by rw [hw, Ny126.out]; exact HP43.1); clear HP43; have n0_ := Aside0.mk (hp_); have n1_ := Aside0.mk (Kd.R_over' (v := (.slice (some ⟨go36, 0, none⟩) x4_1.length co42)) (by (with_reducible repeat (first | apply Kd.R_alloc | apply Kd.R_drewN | apply Kd.R_drew)); exact HO_5.out) (Kd.R_typed HO_4.out) (by decide) hg); have n2_ := Aside0.mk (blk_grown (g := gb116) (o := .cells #[.int .i64 ((rd_T68 l0 x7_1).f0), .int .i64 ((rd_T68 l0 x7_1).f1), .int .i64 ((rd_T68 l0 x7_1).f2), .int .i64 ((rd_T68 l0 x7_1).f3), .int .i64 ((rd_T68 l0 x7_1).f4), .string ((rd_T68 l0 x7_1).f5)] 68 (0, 0)) (by (with_reducible repeat (first | refine blk_drewN ?_ _ | refine blk_drew ?_ | refine blk_alloc ?_ _)); exact BK116.out) hg (Kd.R_ne HO_4.out BK116.out (by decide))); have n3_ := Aside0.mk ((by rw [hw]; exact below_set (HB.out) GB36.out : Below w.heap.size w w44)); clear HO_4; clear HO_5; clear BK116; clear HB; have HO_4 := n0_; have HO_5 := n1_; have BK116 := n2_; have HB := n3_; clear n0_ n1_ n2_ n3_; clear hg hw hp_; have hcz45_0 : w44.cell? ⟨gb116, 0, none⟩ = some (.int .i64 ((rd_T68 l0 x7_1).f0)) := (blk_cell BK116.out 0).trans rfl; have hcz45_1 : w44.cell? ⟨gb116, 1, none⟩ = some (.int .i64 ((rd_T68 l0 x7_1).f1)) := (blk_cell BK116.out 1).trans rfl; have hcz45_2 : w44.cell? ⟨gb116, 2, none⟩ = some (.int .i64 ((rd_T68 l0 x7_1).f2)) := (blk_cell BK116.out 2).trans rfl; have hcz45_3 : w44.cell? ⟨gb116, 3, none⟩ = some (.int .i64 ((rd_T68 l0 x7_1).f3)) := (blk_cell BK116.out 3).trans rfl; have hcz45_4 : w44.cell? ⟨gb116, 4, none⟩ = some (.int .i64 ((rd_T68 l0 x7_1).f4)) := (blk_cell BK116.out 4).trans rfl; have hcz45_5 : w44.cell? ⟨gb116, 5, none⟩ = some (.string ((rd_T68 l0 x7_1).f5)) := (blk_cell BK116.out 5).trans rfl; have hfz45_0 := blk_frozen BK116.out 0; have hfz45_1 := blk_frozen BK116.out 1; have hfz45_2 := blk_frozen BK116.out 2; have hfz45_3 := blk_frozen BK116.out 3; have hfz45_4 := blk_frozen BK116.out 4; have hfz45_5 := blk_frozen BK116.out 5) | ((with_reducible refine gate_builtin (b := .append) (xs := #[.tmp 78, .tmp 93]) rfl ?_); (try (refine gate_guard (by rfl) ?_; dsimp only)); at_builtin; refine Kd.R_append k39 (w0 := w) w.heap.size rfl (.tmp 78) (.tmp 93) 24 39 (.agg #[(.int .i64 0), (.int .i64 0), (.int .i64 0), (.int .i64 0), (.int .i64 0), (.string ⟨#[]⟩)]) 56 rfl Try.underlying24 info39 rfl (by decide) (by omega) (.slice (some ⟨go36, 0, none⟩) x4_1.length co42) y126 (⟨((rd_T68 l0 x7_1).f1), ((rd_T68 l0 x7_1).f2), wrap64 (((rd_T68 l0 x7_1).f2) + ((rd_T68 l0 x7_1).f3)), 0, ((rd_T68 l0 x7_1).f4), ((rd_T68 l0 x7_1).f5)⟩ : S39) [.int .i64 ((rd_T68 l0 x7_1).f1), .int .i64 ((rd_T68 l0 x7_1).f2), .int .i64 (wrap64 (((rd_T68 l0 x7_1).f2) + ((rd_T68 l0 x7_1).f3))), .int .i64 0, .int .i64 ((rd_T68 l0 x7_1).f4), .string ((rd_T68 l0 x7_1).f5)] (fun _ => True) (fun _ => False) rfl rfl ?aP (fun _ hk => hk.elim) ?aF ?aO ?aB ?aS ?aL ?_; (case aP => exact k39_mkM _ _ _ (⟨((rd_T68 l0 x7_1).f1), ((rd_T68 l0 x7_1).f2), wrap64 (((rd_T68 l0 x7_1).f2) + ((rd_T68 l0 x7_1).f3)), 0, ((rd_T68 l0 x7_1).f4), ((rd_T68 l0 x7_1).f5)⟩ : S39)); (case aB => exact (by repeat (first | (with_reducible first | exact HB.out | apply below_alloc | apply pw_below_drewN | apply below_drew1 | refine below_set ?_ GE116.out) | exact HB.out))); (case aF => exact (fun _ _ => trivial)); (case aO => exact (by (with_reducible repeat (first | apply Kd.R_alloc | apply Kd.R_drewN | apply Kd.R_drew)); exact HO_4.out)); (case aS => exact (below_size (by repeat (first | (with_reducible first | exact HB.out | apply below_alloc | apply pw_below_drewN | apply below_drew1 | refine below_set ?_ GE116.out) | exact HB.out)))); (case aL => have := LMc37.out; omega); intro v128 w46 ho hb hg hat; rw [← Ny127.out] at ho; have n0_ := Aside0.mk (Kd.R_over' (by (with_reducible repeat (first | apply Kd.R_alloc | apply Kd.R_drewN | apply Kd.R_drew)); exact HO_5.out) (Kd.R_typed (by (with_reducible repeat (first | apply Kd.R_alloc | apply Kd.R_drewN | apply Kd.R_drew)); exact HO_4.out)) (by decide) hg); have n1_ := Aside0.mk (blk_grown (g := gb116) (o := .cells #[.int .i64 ((rd_T68 l0 x7_1).f0), .int .i64 ((rd_T68 l0 x7_1).f1), .int .i64 ((rd_T68 l0 x7_1).f2), .int .i64 ((rd_T68 l0 x7_1).f3), .int .i64 ((rd_T68 l0 x7_1).f4), .string ((rd_T68 l0 x7_1).f5)] 68 (0, 0)) (by (with_reducible repeat (first | refine blk_drewN ?_ _ | refine blk_drew ?_ | refine blk_alloc ?_ _)); exact BK116.out) hg (Kd.R_ne HO_4.out BK116.out (by decide))); have n2_ := Aside0.mk (hb); have n3_ := Aside0.mk (ho); clear HO_5; clear BK116; clear HB; clear HO_4; have HO_5 := n0_; have BK116 := n1_; have HB := n2_; have HO129 := n3_; clear n0_ n1_ n2_ n3_; clear ho hb hg hat; have hcz47_0 : w46.cell? ⟨gb116, 0, none⟩ = some (.int .i64 ((rd_T68 l0 x7_1).f0)) := (blk_cell BK116.out 0).trans rfl; have hcz47_1 : w46.cell? ⟨gb116, 1, none⟩ = some (.int .i64 ((rd_T68 l0 x7_1).f1)) := (blk_cell BK116.out 1).trans rfl; have hcz47_2 : w46.cell? ⟨gb116, 2, none⟩ = some (.int .i64 ((rd_T68 l0 x7_1).f2)) := (blk_cell BK116.out 2).trans rfl; have hcz47_3 : w46.cell? ⟨gb116, 3, none⟩ = some (.int .i64 ((rd_T68 l0 x7_1).f3)) := (blk_cell BK116.out 3).trans rfl; have hcz47_4 : w46.cell? ⟨gb116, 4, none⟩ = some (.int .i64 ((rd_T68 l0 x7_1).f4)) := (blk_cell BK116.out 4).trans rfl; have hcz47_5 : w46.cell? ⟨gb116, 5, none⟩ = some (.string ((rd_T68 l0 x7_1).f5)) := (blk_cell BK116.out 5).trans rfl; have hfz47_0 := blk_frozen BK116.out 0; have hfz47_1 := blk_frozen BK116.out 1; have hfz47_2 := blk_frozen BK116.out 2; have hfz47_3 := blk_frozen BK116.out 3; have hfz47_4 := blk_frozen BK116.out 4; have hfz47_5 := blk_frozen BK116.out 5; obtain ⟨Ao48, co48, eo48⟩ := Kd.R_slice HO129.out; subst eo48) | ((with_reducible refine gate_builtin (b := .append) (xs := #[.tmp 98, .tmp 102]) rfl ?_); (try (refine gate_guard (by rfl) ?_; dsimp only)); at_builtin; refine Kd.R_append (Kd.int .i64) (w0 := w) w.heap.size rfl (.tmp 98) (.tmp 102) 35 3 (.int .i64 0) 8 rfl Try.underlying35 info3 rfl (by decide) (by omega) (.slice (some ad124) x5_1.length co41) x5_1 (wrap64 ((y127.length : Int) - 1)) [.int .i64 (wrap64 ((y127.length : Int) - 1))] (fun _ => True) (fun _ => False) rfl rfl ?aP (fun _ hk => hk.elim) ?aF ?aO ?aB ?aS ?aL ?_; (case aP => exact rfl); (case aB => exact (by repeat (first | (with_reducible first | exact HB.out | apply below_alloc | apply pw_below_drewN | apply below_drew1 | refine below_set ?_ GE116.out) | exact HB.out))); (case aF => exact (fun _ _ => trivial)); (case aO => exact (by (with_reducible repeat (first | apply Kd.R_alloc | apply Kd.R_drewN | apply Kd.R_drew)); exact HO_5.out)); (case aS => exact (below_size (by repeat (first | (with_reducible first | exact HB.out | apply below_alloc | apply pw_below_drewN | apply below_drew1 | refine below_set ?_ GE116.out) | exact HB.out)))); (case aL => have := LMc39.out; omega); intro v131 w49 ho hb hg hat; rw [← Ny130.out] at ho; have n0_ := Aside0.mk (blk_grown (g := gb116) (o := .cells #[.int .i64 ((rd_T68 l0 x7_1).f0), .int .i64 ((rd_T68 l0 x7_1).f1), .int .i64 ((rd_T68 l0 x7_1).f2), .int .i64 ((rd_T68 l0 x7_1).f3), .int .i64 ((rd_T68 l0 x7_1).f4), .string ((rd_T68 l0 x7_1).f5)] 68 (0, 0)) (by (with_reducible repeat (first | refine blk_drewN ?_ _ | refine blk_drew ?_ | refine blk_alloc ?_ _)); exact BK116.out) hg (Kd.R_ne HO_5.out BK116.out (by decide))); have n1_ := Aside0.mk (Kd.R_over' (by (with_reducible repeat (first | apply Kd.R_alloc | apply Kd.R_drewN | apply Kd.R_drew)); exact HO129.out) (Kd.R_typed (by (with_reducible repeat (first | apply Kd.R_alloc | apply Kd.R_drewN | apply Kd.R_drew)); exact HO_5.out)) (by decide) hg); have n2_ := Aside0.mk (hb); have n3_ := Aside0.mk (ho); clear BK116; clear HO129; clear HB; clear HO_5; have BK116 := n0_; have HO129 := n1_; have HB := n2_; have HO132 := n3_; clear n0_ n1_ n2_ n3_; clear ho hb hg hat))
                                    go_roundg kj5
                                    case measure => have := HK1.out; have := HJ5.out; omega
                                    case rel => exact ⟨(y127), (y130), (t117), (wrap64 (x7_1 + 1)), (by first | rfl | (simp; done) | (simp [*]; done)), (by first | rfl | (simp; done) | (simp [*]; done)), H', ⟨by have := HK1.out; have := HJ5.out; omega⟩, ⟨by (with_reducible repeat (first | apply Kd.R_alloc | apply Kd.R_drewN | apply Kd.R_drew)); exact HO129.out⟩, ⟨by (with_reducible repeat (first | apply Kd.R_alloc | apply Kd.R_drewN | apply Kd.R_drew)); exact HO132.out⟩, ⟨by repeat (first | (with_reducible first | exact HB.out | apply below_alloc | apply pw_below_drewN | apply below_drew1 | refine below_set ?_ GE116.out) | exact HB.out)⟩⟩
                                  · rw [if_neg c39] at H
                                    exact absurd H (by simp)
                                · rw [if_neg c38] at H
                                  have c38b0 : (((rd_T68 l0 x7_1).f0) == 18) = false := beq_eq_false_iff_ne.mpr c38
                                  have c38b1 : (((rd_T68 l0 x7_1).f0) != 18) = true := bne_iff_ne.mpr c38
                                  have H' := Aside0.mk H
                                  clear H
                                  have hcz50_0 : wc.cell? ⟨gb116, 0, none⟩ = some (.int .i64 ((rd_T68 l0 x7_1).f0)) := (blk_cell BK116.out 0).trans rfl
                                  have hcz50_1 : wc.cell? ⟨gb116, 1, none⟩ = some (.int .i64 ((rd_T68 l0 x7_1).f1)) := (blk_cell BK116.out 1).trans rfl
                                  have hcz50_2 : wc.cell? ⟨gb116, 2, none⟩ = some (.int .i64 ((rd_T68 l0 x7_1).f2)) := (blk_cell BK116.out 2).trans rfl
                                  have hcz50_3 : wc.cell? ⟨gb116, 3, none⟩ = some (.int .i64 ((rd_T68 l0 x7_1).f3)) := (blk_cell BK116.out 3).trans rfl
                                  have hcz50_4 : wc.cell? ⟨gb116, 4, none⟩ = some (.int .i64 ((rd_T68 l0 x7_1).f4)) := (blk_cell BK116.out 4).trans rfl
                                  have hcz50_5 : wc.cell? ⟨gb116, 5, none⟩ = some (.string ((rd_T68 l0 x7_1).f5)) := (blk_cell BK116.out 5).trans rfl
                                  have hfz50_0 := blk_frozen BK116.out 0
                                  have hfz50_1 := blk_frozen BK116.out 1
                                  have hfz50_2 := blk_frozen BK116.out 2
                                  have hfz50_3 := blk_frozen BK116.out 3
                                  have hfz50_4 := blk_frozen BK116.out 4
                                  have hfz50_5 := blk_frozen BK116.out 5
                                  obtain ⟨Ao51, co51, eo51⟩ := Kd.R_slice HO_5.out
                                  subst eo51
                                  have p124 : 0 ≤ ((ji31) : Int) := of_decide_eq_true (by first | (with_reducible assumption) | assumption)
                                  have q124 : (ji31) < (x5_1.length : Int) := of_decide_eq_true (by first | (with_reducible assumption) | assumption)
                                  obtain ⟨ad124, e124, hx124_0⟩ := Kd.at_int (Kd.R_reads' HO_5.out).2.2 (ji31) p124 q124
                                  cases e124
                                  replace p124 := eq_true p124
                                  replace q124 := eq_true q124
                                  obtain ⟨Ao52, co52, eo52⟩ := Kd.R_slice HO_4.out
                                  subst eo52
                                  have p125 : 0 ≤ ((rd x5_1 (ji31)) : Int) := of_decide_eq_true (by first | (with_reducible assumption) | assumption)
                                  have q125 : (rd x5_1 (ji31)) < (x4_1.length : Int) := of_decide_eq_true (by first | (with_reducible assumption) | assumption)
                                  obtain ⟨ad125, e125, hx125_0, hx125_1, hx125_2, hx125_3, hx125_4, hx125_5⟩ := at_T39 (Kd.R_reads' HO_4.out).2.2 (rd x5_1 (ji31)) p125 q125
                                  cases e125
                                  replace p125 := eq_true p125
                                  replace q125 := eq_true q125
                                  have p36 : 0 ≤ ((rd x5_1 (ji31)) : Int) := of_decide_eq_true (by first | (with_reducible assumption) | assumption)
                                  have q36 : ((rd x5_1 (ji31)) : Int) < ((x4_1.length : Int) : Int) := of_decide_eq_true (by first | (with_reducible assumption) | assumption)
                                  obtain ⟨go36, co36, eo36, gb36, gl36, cl36, HG36⟩ := Kd.R_form HO_4.out (by omega)
                                  (first | cases eo36 | (injection eo36 with ea_ en_ ec_; (first | subst ea_ | (injection ea_ with ea_; subst ea_)); subst ec_; clear en_))
                                  have GB36 := Aside0.mk gb36
                                  have GG36 := Aside0.mk HG36
                                  clear gb36 gl36 HG36
                                  (first | simp only [add_plain] at hx125_0 | skip)
                                  (first | simp only [add_plain] at hx125_1 | skip)
                                  (first | simp only [add_plain] at hx125_2 | skip)
                                  (first | simp only [add_plain] at hx125_3 | skip)
                                  (first | simp only [add_plain] at hx125_4 | skip)
                                  (first | simp only [add_plain] at hx125_5 | skip)
                                  obtain ⟨ce36, hcl36, hM36, hcc36, hfr36⟩ := Kd.R_elem HO_4.out z39 ((rd x5_1 (ji31)) : Int) p36 q36
                                  obtain rfl := k39_openM hM36
                                  have hx36_0 : wc.cell? ⟨go36, ((rd x5_1 (ji31)) : Int).toNat * 6, none⟩ = some (.int .i64 ((rd_T39 x4_1 (rd x5_1 (ji31))).f0)) := hcc36 0 _ rfl
                                  have hx36_1 : wc.cell? ⟨go36, ((rd x5_1 (ji31)) : Int).toNat * 6 + 1, none⟩ = some (.int .i64 ((rd_T39 x4_1 (rd x5_1 (ji31))).f1)) := hcc36 1 _ rfl
                                  have hx36_2 : wc.cell? ⟨go36, ((rd x5_1 (ji31)) : Int).toNat * 6 + 2, none⟩ = some (.int .i64 ((rd_T39 x4_1 (rd x5_1 (ji31))).f2)) := hcc36 2 _ rfl
                                  have hx36_3 : wc.cell? ⟨go36, ((rd x5_1 (ji31)) : Int).toNat * 6 + 3, none⟩ = some (.int .i64 ((rd_T39 x4_1 (rd x5_1 (ji31))).f3)) := hcc36 3 _ rfl
                                  have hx36_4 : wc.cell? ⟨go36, ((rd x5_1 (ji31)) : Int).toNat * 6 + 4, none⟩ = some (.int .i64 ((rd_T39 x4_1 (rd x5_1 (ji31))).f4)) := hcc36 4 _ rfl
                                  have hx36_5 : wc.cell? ⟨go36, ((rd x5_1 (ji31)) : Int).toNat * 6 + 5, none⟩ = some (.string ((rd_T39 x4_1 (rd x5_1 (ji31))).f5)) := hcc36 5 _ rfl
                                  have hf36_0 : wc.frozen? ⟨go36, ((rd x5_1 (ji31)) : Int).toNat * 6, none⟩ = false := hfr36 0
                                  have hf36_1 : wc.frozen? ⟨go36, ((rd x5_1 (ji31)) : Int).toNat * 6 + 1, none⟩ = false := hfr36 1
                                  have hf36_2 : wc.frozen? ⟨go36, ((rd x5_1 (ji31)) : Int).toNat * 6 + 2, none⟩ = false := hfr36 2
                                  have hf36_3 : wc.frozen? ⟨go36, ((rd x5_1 (ji31)) : Int).toNat * 6 + 3, none⟩ = false := hfr36 3
                                  have hf36_4 : wc.frozen? ⟨go36, ((rd x5_1 (ji31)) : Int).toNat * 6 + 4, none⟩ = false := hfr36 4
                                  have hf36_5 : wc.frozen? ⟨go36, ((rd x5_1 (ji31)) : Int).toNat * 6 + 5, none⟩ = false := hfr36 5
                                  clear hcl36 hcc36 hfr36 hM36
                                  replace p36 := eq_true p36
                                  replace q36 := eq_true q36
                                  have HX53 := Aside0.mk (show Kd.R k39 39 wc w.heap.size (fun _ => True) (.slice (some ⟨go36, 0, none⟩) x4_1.length co52) x4_1 from (by (with_reducible repeat (first | apply Kd.R_alloc | apply Kd.R_drewN | apply Kd.R_drew)); exact HO_4.out))
                                  obtain ⟨ce53, hcl53, hM53, hcc53, hfr53⟩ := Kd.R_elem HX53.out z39 ((rd x5_1 (ji31)) : Int) (of_decide_eq_true (by first | (with_reducible assumption) | assumption)) (by have h_ : ((rd x5_1 (ji31)) : Int) < ((x4_1.length : Int) : Int) := of_decide_eq_true (by first | (with_reducible assumption) | assumption); first | exact h_ | (have e_ := (Kd.R_reads' HO_4.out).1; omega) | simpa using h_)
                                  obtain rfl := k39_openM hM53
                                  have HP53 := Kd.R_seg HX53.out ((rd x5_1 (ji31)) : Int) (of_decide_eq_true (by first | (with_reducible assumption) | assumption)) (by have h_ : ((rd x5_1 (ji31)) : Int) < ((x4_1.length : Int) : Int) := of_decide_eq_true (by first | (with_reducible assumption) | assumption); first | exact h_ | (have e_ := (Kd.R_reads' HO_4.out).1; omega) | simpa using h_) (seg := [.int .i64 (wrap64 (((rd_T39 x4_1 (rd x5_1 (ji31))).f3) + 1))]) (j := 3) hcl53 hcc53 (show 4 ≤ 6 from by decide) (x' := (⟨(rd_T39 x4_1 (rd x5_1 (ji31))).f0, (rd_T39 x4_1 (rd x5_1 (ji31))).f1, (rd_T39 x4_1 (rd x5_1 (ji31))).f2, wrap64 (((rd_T39 x4_1 (rd x5_1 (ji31))).f3) + 1), (rd_T39 x4_1 (rd x5_1 (ji31))).f4, (rd_T39 x4_1 (rd x5_1 (ji31))).f5⟩ : S39)) (k39_mkM _ _ _ (⟨(rd_T39 x4_1 (rd x5_1 (ji31))).f0, (rd_T39 x4_1 (rd x5_1 (ji31))).f1, (rd_T39 x4_1 (rd x5_1 (ji31))).f2, wrap64 (((rd_T39 x4_1 (rd x5_1 (ji31))).f3) + 1), (rd_T39 x4_1 (rd x5_1 (ji31))).f4, (rd_T39 x4_1 (rd x5_1 (ji31))).f5⟩ : S39) ) (fun _ hk => hk)
                                  have hx53_3 := hcc53 3 _ rfl
                                  (try simp only [show (k39).sz = 6 from rfl, Nat.mul_one, Nat.add_zero] at hx53_3)
                                  have hf53_3 := hfr53 3
                                  (try simp only [show (k39).sz = 6 from rfl, Nat.mul_one, Nat.add_zero] at hf53_3)
                                  clear hcl53 hcc53 hfr53 hM53
                                  go_wp2_with (first | ((with_reducible refine gate_store (t := 3) (p := 77) rfl ?_); refine store_event (t := 3) (p := 77) (v := ?vo_w54) (w1 := (wc.setCell ⟨go36, ((rd x5_1 (ji31)) : Int).toNat * 6 + 3, none⟩ (.int .i64 (wrap64 (((rd_T39 x4_1 (rd x5_1 (ji31))).f3) + 1))))) ?hg ?ho ?hn ?hr ?_; (case ho => rfl); (case hg => rfl); (case hn => rfl); (case hr => first | (go_simp; done) | (go_simp; rfl)); intro w54 hw; have hg : wc.grownBy w54 (some go36) := (by rw [hw]; exact HP53.2); have hp_ : Kd.R k39 39 w54 w.heap.size (fun _ => True) (.slice (some ⟨go36, 0, none⟩) x4_1.length co52) y126 := (by rw [hw, Ny126.out]; exact HP53.1); clear HP53; have n0_ := Aside0.mk (hp_); have n1_ := Aside0.mk (Kd.R_over' (v := (.slice (some ⟨go36, 0, none⟩) x4_1.length co52)) (by (with_reducible repeat (first | apply Kd.R_alloc | apply Kd.R_drewN | apply Kd.R_drew)); exact HO_5.out) (Kd.R_typed HO_4.out) (by decide) hg); have n2_ := Aside0.mk (blk_grown (g := gb116) (o := .cells #[.int .i64 ((rd_T68 l0 x7_1).f0), .int .i64 ((rd_T68 l0 x7_1).f1), .int .i64 ((rd_T68 l0 x7_1).f2), .int .i64 ((rd_T68 l0 x7_1).f3), .int .i64 ((rd_T68 l0 x7_1).f4), .string ((rd_T68 l0 x7_1).f5)] 68 (0, 0)) (by (with_reducible repeat (first | refine blk_drewN ?_ _ | refine blk_drew ?_ | refine blk_alloc ?_ _)); exact BK116.out) hg (Kd.R_ne HO_4.out BK116.out (by decide))); have n3_ := Aside0.mk ((by rw [hw]; exact below_set (HB.out) GB36.out : Below w.heap.size w w54)); clear HO_4; clear HO_5; clear BK116; clear HB; have HO_4 := n0_; have HO_5 := n1_; have BK116 := n2_; have HB := n3_; clear n0_ n1_ n2_ n3_; clear hg hw hp_; have hcz55_0 : w54.cell? ⟨gb116, 0, none⟩ = some (.int .i64 ((rd_T68 l0 x7_1).f0)) := (blk_cell BK116.out 0).trans rfl; have hcz55_1 : w54.cell? ⟨gb116, 1, none⟩ = some (.int .i64 ((rd_T68 l0 x7_1).f1)) := (blk_cell BK116.out 1).trans rfl; have hcz55_2 : w54.cell? ⟨gb116, 2, none⟩ = some (.int .i64 ((rd_T68 l0 x7_1).f2)) := (blk_cell BK116.out 2).trans rfl; have hcz55_3 : w54.cell? ⟨gb116, 3, none⟩ = some (.int .i64 ((rd_T68 l0 x7_1).f3)) := (blk_cell BK116.out 3).trans rfl; have hcz55_4 : w54.cell? ⟨gb116, 4, none⟩ = some (.int .i64 ((rd_T68 l0 x7_1).f4)) := (blk_cell BK116.out 4).trans rfl; have hcz55_5 : w54.cell? ⟨gb116, 5, none⟩ = some (.string ((rd_T68 l0 x7_1).f5)) := (blk_cell BK116.out 5).trans rfl; have hfz55_0 := blk_frozen BK116.out 0; have hfz55_1 := blk_frozen BK116.out 1; have hfz55_2 := blk_frozen BK116.out 2; have hfz55_3 := blk_frozen BK116.out 3; have hfz55_4 := blk_frozen BK116.out 4; have hfz55_5 := blk_frozen BK116.out 5) | ((with_reducible refine gate_builtin (b := .append) (xs := #[.tmp 78, .tmp 93]) rfl ?_); (try (refine gate_guard (by rfl) ?_; dsimp only)); at_builtin; refine Kd.R_append k39 (w0 := w) w.heap.size rfl (.tmp 78) (.tmp 93) 24 39 (.agg #[(.int .i64 0), (.int .i64 0), (.int .i64 0), (.int .i64 0), (.int .i64 0), (.string ⟨#[]⟩)]) 56 rfl Try.underlying24 info39 rfl (by decide) (by omega) (.slice (some ⟨go36, 0, none⟩) x4_1.length co52) y126 (⟨((rd_T68 l0 x7_1).f1), ((rd_T68 l0 x7_1).f2), wrap64 (((rd_T68 l0 x7_1).f2) + ((rd_T68 l0 x7_1).f3)), 0, ((rd_T68 l0 x7_1).f4), ((rd_T68 l0 x7_1).f5)⟩ : S39) [.int .i64 ((rd_T68 l0 x7_1).f1), .int .i64 ((rd_T68 l0 x7_1).f2), .int .i64 (wrap64 (((rd_T68 l0 x7_1).f2) + ((rd_T68 l0 x7_1).f3))), .int .i64 0, .int .i64 ((rd_T68 l0 x7_1).f4), .string ((rd_T68 l0 x7_1).f5)] (fun _ => True) (fun _ => False) rfl rfl ?aP (fun _ hk => hk.elim) ?aF ?aO ?aB ?aS ?aL ?_; (case aP => exact k39_mkM _ _ _ (⟨((rd_T68 l0 x7_1).f1), ((rd_T68 l0 x7_1).f2), wrap64 (((rd_T68 l0 x7_1).f2) + ((rd_T68 l0 x7_1).f3)), 0, ((rd_T68 l0 x7_1).f4), ((rd_T68 l0 x7_1).f5)⟩ : S39)); (case aB => exact (by repeat (first | (with_reducible first | exact HB.out | apply below_alloc | apply pw_below_drewN | apply below_drew1 | refine below_set ?_ GE116.out) | exact HB.out))); (case aF => exact (fun _ _ => trivial)); (case aO => exact (by (with_reducible repeat (first | apply Kd.R_alloc | apply Kd.R_drewN | apply Kd.R_drew)); exact HO_4.out)); (case aS => exact (below_size (by repeat (first | (with_reducible first | exact HB.out | apply below_alloc | apply pw_below_drewN | apply below_drew1 | refine below_set ?_ GE116.out) | exact HB.out)))); (case aL => have := LMc37.out; omega); intro v128 w56 ho hb hg hat; rw [← Ny127.out] at ho; have n0_ := Aside0.mk (Kd.R_over' (by (with_reducible repeat (first | apply Kd.R_alloc | apply Kd.R_drewN | apply Kd.R_drew)); exact HO_5.out) (Kd.R_typed (by (with_reducible repeat (first | apply Kd.R_alloc | apply Kd.R_drewN | apply Kd.R_drew)); exact HO_4.out)) (by decide) hg); have n1_ := Aside0.mk (blk_grown (g := gb116) (o := .cells #[.int .i64 ((rd_T68 l0 x7_1).f0), .int .i64 ((rd_T68 l0 x7_1).f1), .int .i64 ((rd_T68 l0 x7_1).f2), .int .i64 ((rd_T68 l0 x7_1).f3), .int .i64 ((rd_T68 l0 x7_1).f4), .string ((rd_T68 l0 x7_1).f5)] 68 (0, 0)) (by (with_reducible repeat (first | refine blk_drewN ?_ _ | refine blk_drew ?_ | refine blk_alloc ?_ _)); exact BK116.out) hg (Kd.R_ne HO_4.out BK116.out (by decide))); have n2_ := Aside0.mk (hb); have n3_ := Aside0.mk (ho); clear HO_5; clear BK116; clear HB; clear HO_4; have HO_5 := n0_; have BK116 := n1_; have HB := n2_; have HO129 := n3_; clear n0_ n1_ n2_ n3_; clear ho hb hg hat; have hcz57_0 : w56.cell? ⟨gb116, 0, none⟩ = some (.int .i64 ((rd_T68 l0 x7_1).f0)) := (blk_cell BK116.out 0).trans rfl; have hcz57_1 : w56.cell? ⟨gb116, 1, none⟩ = some (.int .i64 ((rd_T68 l0 x7_1).f1)) := (blk_cell BK116.out 1).trans rfl; have hcz57_2 : w56.cell? ⟨gb116, 2, none⟩ = some (.int .i64 ((rd_T68 l0 x7_1).f2)) := (blk_cell BK116.out 2).trans rfl; have hcz57_3 : w56.cell? ⟨gb116, 3, none⟩ = some (.int .i64 ((rd_T68 l0 x7_1).f3)) := (blk_cell BK116.out 3).trans rfl; have hcz57_4 : w56.cell? ⟨gb116, 4, none⟩ = some (.int .i64 ((rd_T68 l0 x7_1).f4)) := (blk_cell BK116.out 4).trans rfl; have hcz57_5 : w56.cell? ⟨gb116, 5, none⟩ = some (.string ((rd_T68 l0 x7_1).f5)) := (blk_cell BK116.out 5).trans rfl; have hfz57_0 := blk_frozen BK116.out 0; have hfz57_1 := blk_frozen BK116.out 1; have hfz57_2 := blk_frozen BK116.out 2; have hfz57_3 := blk_frozen BK116.out 3; have hfz57_4 := blk_frozen BK116.out 4; have hfz57_5 := blk_frozen BK116.out 5))
                                  go_roundg kj5
                                  case measure => have := HK1.out; have := HJ5.out; omega
                                  case rel => exact ⟨(y127), (x5_1), (t117), (wrap64 (x7_1 + 1)), (by first | rfl | (simp; done) | (simp [*]; done)), (by first | rfl | (simp; done) | (simp [*]; done)), H', ⟨by have := HK1.out; have := HJ5.out; omega⟩, ⟨by (with_reducible repeat (first | apply Kd.R_alloc | apply Kd.R_drewN | apply Kd.R_drew)); exact HO129.out⟩, ⟨by (with_reducible repeat (first | apply Kd.R_alloc | apply Kd.R_drewN | apply Kd.R_drew)); exact HO_5.out⟩, ⟨by repeat (first | (with_reducible first | exact HB.out | apply below_alloc | apply pw_below_drewN | apply below_drew1 | refine below_set ?_ GE116.out) | exact HB.out)⟩⟩
                              · rw [if_neg c37] at H
                                exact absurd H (by simp)
                            · rw [if_neg c35] at H
                              exact absurd H (by simp)
                          · rw [if_neg c34] at H
                            exact absurd H (by simp)
                        · rw [if_neg c33] at H
                          exact absurd H (by simp)
                      · rw [if_neg c32] at H
                        exact absurd H (by simp)
                    · rw [if_neg c30] at H
                      have c30b0 : decide (0 < (x5_1.length : Int)) = false := decide_eq_false c30
                      have c30b1 : decide (0 < x5_1.length) = false := decide_eq_false (by omega)
                      clear c30
                      by_cases c58 : x4_1.length < 2513169434916
                      · rw [if_pos c58] at H
                        have LMc58 := Aside0.mk c58
                        clear c58
                        obtain ⟨y133, hy133⟩ : ∃ y_ : List (S39), y_ = (x4_1 ++ [(⟨((rd_T68 l0 x7_1).f1), ((rd_T68 l0 x7_1).f2), wrap64 (((rd_T68 l0 x7_1).f2) + ((rd_T68 l0 x7_1).f3)), 0, ((rd_T68 l0 x7_1).f4), ((rd_T68 l0 x7_1).f5)⟩ : S39)]) := ⟨_, rfl⟩
                        replace H : (if ((rd_T68 l0 x7_1).f0) = 18 then (if x5_1.length < 17592186044416 then (harrowref23_Forest.l0 kj5 l0 y133 (x5_1 ++ [wrap64 ((y133.length : Int) - 1)]) t117 (wrap64 (x7_1 + 1))) else (none)) else (harrowref23_Forest.l0 kj5 l0 y133 x5_1 t117 (wrap64 (x7_1 + 1)))) = some (r1, r2) := by first | (rw [hy133]; with_reducible exact H) | (have H2_ := (Option.bind_some _ _).symm.trans H; rw [hy133]; with_reducible exact H2_) | (have H2_ := (Option.bind_some _ _).symm.trans H; with_reducible exact H2_) | with_reducible exact H | (rw [hy133]; exact H) | exact H
                        have Ny133 := Aside0.mk hy133
                        clear hy133
                        by_cases c59 : ((rd_T68 l0 x7_1).f0) = 18
                        · rw [if_pos c59] at H
                          have c59b0 : (((rd_T68 l0 x7_1).f0) == 18) = true := beq_iff_eq.mpr c59
                          have c59b1 : (((rd_T68 l0 x7_1).f0) != 18) = false := bne_eq_false_iff_eq.mpr c59
                          clear c59
                          by_cases c60 : x5_1.length < 17592186044416
                          · rw [if_pos c60] at H
                            have LMc60 := Aside0.mk c60
                            clear c60
                            obtain ⟨y136, hy136⟩ : ∃ y_ : List Int, y_ = (x5_1 ++ [wrap64 ((y133.length : Int) - 1)]) := ⟨_, rfl⟩
                            replace H : (harrowref23_Forest.l0 kj5 l0 y133 y136 t117 (wrap64 (x7_1 + 1))) = some (r1, r2) := by first | (rw [hy136]; with_reducible exact H) | (have H2_ := (Option.bind_some _ _).symm.trans H; rw [hy136]; with_reducible exact H2_) | (have H2_ := (Option.bind_some _ _).symm.trans H; with_reducible exact H2_) | with_reducible exact H | (rw [hy136]; exact H) | exact H
                            have Ny136 := Aside0.mk hy136
                            clear hy136
                            have H' := Aside0.mk H
                            clear H
                            have hcz61_0 : wc.cell? ⟨gb116, 0, none⟩ = some (.int .i64 ((rd_T68 l0 x7_1).f0)) := (blk_cell BK116.out 0).trans rfl
                            have hcz61_1 : wc.cell? ⟨gb116, 1, none⟩ = some (.int .i64 ((rd_T68 l0 x7_1).f1)) := (blk_cell BK116.out 1).trans rfl
                            have hcz61_2 : wc.cell? ⟨gb116, 2, none⟩ = some (.int .i64 ((rd_T68 l0 x7_1).f2)) := (blk_cell BK116.out 2).trans rfl
                            have hcz61_3 : wc.cell? ⟨gb116, 3, none⟩ = some (.int .i64 ((rd_T68 l0 x7_1).f3)) := (blk_cell BK116.out 3).trans rfl
                            have hcz61_4 : wc.cell? ⟨gb116, 4, none⟩ = some (.int .i64 ((rd_T68 l0 x7_1).f4)) := (blk_cell BK116.out 4).trans rfl
                            have hcz61_5 : wc.cell? ⟨gb116, 5, none⟩ = some (.string ((rd_T68 l0 x7_1).f5)) := (blk_cell BK116.out 5).trans rfl
                            have hfz61_0 := blk_frozen BK116.out 0
                            have hfz61_1 := blk_frozen BK116.out 1
                            have hfz61_2 := blk_frozen BK116.out 2
                            have hfz61_3 := blk_frozen BK116.out 3
                            have hfz61_4 := blk_frozen BK116.out 4
                            have hfz61_5 := blk_frozen BK116.out 5
                            obtain ⟨Ao62, co62, eo62⟩ := Kd.R_slice HO_5.out
                            subst eo62
                            go_wp2_with (first | ((with_reducible refine gate_builtin (b := .append) (xs := #[.tmp 78, .tmp 93]) rfl ?_); (try (refine gate_guard (by rfl) ?_; dsimp only)); at_builtin; refine Kd.R_append k39 (w0 := w) w.heap.size rfl (.tmp 78) (.tmp 93) 24 39 (.agg #[(.int .i64 0), (.int .i64 0), (.int .i64 0), (.int .i64 0), (.int .i64 0), (.string ⟨#[]⟩)]) 56 rfl Try.underlying24 info39 rfl (by decide) (by omega) u4 x4_1 (⟨((rd_T68 l0 x7_1).f1), ((rd_T68 l0 x7_1).f2), wrap64 (((rd_T68 l0 x7_1).f2) + ((rd_T68 l0 x7_1).f3)), 0, ((rd_T68 l0 x7_1).f4), ((rd_T68 l0 x7_1).f5)⟩ : S39) [.int .i64 ((rd_T68 l0 x7_1).f1), .int .i64 ((rd_T68 l0 x7_1).f2), .int .i64 (wrap64 (((rd_T68 l0 x7_1).f2) + ((rd_T68 l0 x7_1).f3))), .int .i64 0, .int .i64 ((rd_T68 l0 x7_1).f4), .string ((rd_T68 l0 x7_1).f5)] (fun _ => True) (fun _ => False) rfl rfl ?aP (fun _ hk => hk.elim) ?aF ?aO ?aB ?aS ?aL ?_; (case aP => exact k39_mkM _ _ _ (⟨((rd_T68 l0 x7_1).f1), ((rd_T68 l0 x7_1).f2), wrap64 (((rd_T68 l0 x7_1).f2) + ((rd_T68 l0 x7_1).f3)), 0, ((rd_T68 l0 x7_1).f4), ((rd_T68 l0 x7_1).f5)⟩ : S39)); (case aB => exact (by repeat (first | (with_reducible first | exact HB.out | apply below_alloc | apply pw_below_drewN | apply below_drew1 | refine below_set ?_ GE116.out) | exact HB.out))); (case aF => exact (fun _ _ => trivial)); (case aO => exact (by (with_reducible repeat (first | apply Kd.R_alloc | apply Kd.R_drewN | apply Kd.R_drew)); exact HO_4.out)); (case aS => exact (below_size (by repeat (first | (with_reducible first | exact HB.out | apply below_alloc | apply pw_below_drewN | apply below_drew1 | refine below_set ?_ GE116.out) | exact HB.out)))); (case aL => have := LMc58.out; omega); intro v134 w63 ho hb hg hat; rw [← Ny133.out] at ho; have n0_ := Aside0.mk (Kd.R_over' (by (with_reducible repeat (first | apply Kd.R_alloc | apply Kd.R_drewN | apply Kd.R_drew)); exact HO_5.out) (Kd.R_typed (by (with_reducible repeat (first | apply Kd.R_alloc | apply Kd.R_drewN | apply Kd.R_drew)); exact HO_4.out)) (by decide) hg); have n1_ := Aside0.mk (blk_grown (g := gb116) (o := .cells #[.int .i64 ((rd_T68 l0 x7_1).f0), .int .i64 ((rd_T68 l0 x7_1).f1), .int .i64 ((rd_T68 l0 x7_1).f2), .int .i64 ((rd_T68 l0 x7_1).f3), .int .i64 ((rd_T68 l0 x7_1).f4), .string ((rd_T68 l0 x7_1).f5)] 68 (0, 0)) (by (with_reducible repeat (first | refine blk_drewN ?_ _ | refine blk_drew ?_ | refine blk_alloc ?_ _)); exact BK116.out) hg (Kd.R_ne HO_4.out BK116.out (by decide))); have n2_ := Aside0.mk (hb); have n3_ := Aside0.mk (ho); clear HO_5; clear BK116; clear HB; clear HO_4; have HO_5 := n0_; have BK116 := n1_; have HB := n2_; have HO135 := n3_; clear n0_ n1_ n2_ n3_; clear ho hb hg hat; have hcz64_0 : w63.cell? ⟨gb116, 0, none⟩ = some (.int .i64 ((rd_T68 l0 x7_1).f0)) := (blk_cell BK116.out 0).trans rfl; have hcz64_1 : w63.cell? ⟨gb116, 1, none⟩ = some (.int .i64 ((rd_T68 l0 x7_1).f1)) := (blk_cell BK116.out 1).trans rfl; have hcz64_2 : w63.cell? ⟨gb116, 2, none⟩ = some (.int .i64 ((rd_T68 l0 x7_1).f2)) := (blk_cell BK116.out 2).trans rfl; have hcz64_3 : w63.cell? ⟨gb116, 3, none⟩ = some (.int .i64 ((rd_T68 l0 x7_1).f3)) := (blk_cell BK116.out 3).trans rfl; have hcz64_4 : w63.cell? ⟨gb116, 4, none⟩ = some (.int .i64 ((rd_T68 l0 x7_1).f4)) := (blk_cell BK116.out 4).trans rfl; have hcz64_5 : w63.cell? ⟨gb116, 5, none⟩ = some (.string ((rd_T68 l0 x7_1).f5)) := (blk_cell BK116.out 5).trans rfl; have hfz64_0 := blk_frozen BK116.out 0; have hfz64_1 := blk_frozen BK116.out 1; have hfz64_2 := blk_frozen BK116.out 2; have hfz64_3 := blk_frozen BK116.out 3; have hfz64_4 := blk_frozen BK116.out 4; have hfz64_5 := blk_frozen BK116.out 5; obtain ⟨Ao65, co65, eo65⟩ := Kd.R_slice HO135.out; subst eo65) | ((with_reducible refine gate_builtin (b := .append) (xs := #[.tmp 98, .tmp 102]) rfl ?_); (try (refine gate_guard (by rfl) ?_; dsimp only)); at_builtin; refine Kd.R_append (Kd.int .i64) (w0 := w) w.heap.size rfl (.tmp 98) (.tmp 102) 35 3 (.int .i64 0) 8 rfl Try.underlying35 info3 rfl (by decide) (by omega) (.slice Ao62 x5_1.length co62) x5_1 (wrap64 ((y133.length : Int) - 1)) [.int .i64 (wrap64 ((y133.length : Int) - 1))] (fun _ => True) (fun _ => False) rfl rfl ?aP (fun _ hk => hk.elim) ?aF ?aO ?aB ?aS ?aL ?_; (case aP => exact rfl); (case aB => exact (by repeat (first | (with_reducible first | exact HB.out | apply below_alloc | apply pw_below_drewN | apply below_drew1 | refine below_set ?_ GE116.out) | exact HB.out))); (case aF => exact (fun _ _ => trivial)); (case aO => exact (by (with_reducible repeat (first | apply Kd.R_alloc | apply Kd.R_drewN | apply Kd.R_drew)); exact HO_5.out)); (case aS => exact (below_size (by repeat (first | (with_reducible first | exact HB.out | apply below_alloc | apply pw_below_drewN | apply below_drew1 | refine below_set ?_ GE116.out) | exact HB.out)))); (case aL => have := LMc60.out; omega); intro v137 w66 ho hb hg hat; rw [← Ny136.out] at ho; have n0_ := Aside0.mk (blk_grown (g := gb116) (o := .cells #[.int .i64 ((rd_T68 l0 x7_1).f0), .int .i64 ((rd_T68 l0 x7_1).f1), .int .i64 ((rd_T68 l0 x7_1).f2), .int .i64 ((rd_T68 l0 x7_1).f3), .int .i64 ((rd_T68 l0 x7_1).f4), .string ((rd_T68 l0 x7_1).f5)] 68 (0, 0)) (by (with_reducible repeat (first | refine blk_drewN ?_ _ | refine blk_drew ?_ | refine blk_alloc ?_ _)); exact BK116.out) hg (Kd.R_ne HO_5.out BK116.out (by decide))); have n1_ := Aside0.mk (Kd.R_over' (by (with_reducible repeat (first | apply Kd.R_alloc | apply Kd.R_drewN | apply Kd.R_drew)); exact HO135.out) (Kd.R_typed (by (with_reducible repeat (first | apply Kd.R_alloc | apply Kd.R_drewN | apply Kd.R_drew)); exact HO_5.out)) (by decide) hg); have n2_ := Aside0.mk (hb); have n3_ := Aside0.mk (ho); clear BK116; clear HO135; clear HB; clear HO_5; have BK116 := n0_; have HO135 := n1_; have HB := n2_; have HO138 := n3_; clear n0_ n1_ n2_ n3_; clear ho hb hg hat))
                            go_roundg kj5
                            case measure => have := HK1.out; have := HJ5.out; omega
                            case rel => exact ⟨(y133), (y136), (t117), (wrap64 (x7_1 + 1)), (by first | rfl | (simp; done) | (simp [*]; done)), (by first | rfl | (simp; done) | (simp [*]; done)), H', ⟨by have := HK1.out; have := HJ5.out; omega⟩, ⟨by (with_reducible repeat (first | apply Kd.R_alloc | apply Kd.R_drewN | apply Kd.R_drew)); exact HO135.out⟩, ⟨by (with_reducible repeat (first | apply Kd.R_alloc | apply Kd.R_drewN | apply Kd.R_drew)); exact HO138.out⟩, ⟨by repeat (first | (with_reducible first | exact HB.out | apply below_alloc | apply pw_below_drewN | apply below_drew1 | refine below_set ?_ GE116.out) | exact HB.out)⟩⟩
                          · rw [if_neg c60] at H
                            exact absurd H (by simp)
                        · rw [if_neg c59] at H
                          have c59b0 : (((rd_T68 l0 x7_1).f0) == 18) = false := beq_eq_false_iff_ne.mpr c59
                          have c59b1 : (((rd_T68 l0 x7_1).f0) != 18) = true := bne_iff_ne.mpr c59
                          have H' := Aside0.mk H
                          clear H
                          have hcz67_0 : wc.cell? ⟨gb116, 0, none⟩ = some (.int .i64 ((rd_T68 l0 x7_1).f0)) := (blk_cell BK116.out 0).trans rfl
                          have hcz67_1 : wc.cell? ⟨gb116, 1, none⟩ = some (.int .i64 ((rd_T68 l0 x7_1).f1)) := (blk_cell BK116.out 1).trans rfl
                          have hcz67_2 : wc.cell? ⟨gb116, 2, none⟩ = some (.int .i64 ((rd_T68 l0 x7_1).f2)) := (blk_cell BK116.out 2).trans rfl
                          have hcz67_3 : wc.cell? ⟨gb116, 3, none⟩ = some (.int .i64 ((rd_T68 l0 x7_1).f3)) := (blk_cell BK116.out 3).trans rfl
                          have hcz67_4 : wc.cell? ⟨gb116, 4, none⟩ = some (.int .i64 ((rd_T68 l0 x7_1).f4)) := (blk_cell BK116.out 4).trans rfl
                          have hcz67_5 : wc.cell? ⟨gb116, 5, none⟩ = some (.string ((rd_T68 l0 x7_1).f5)) := (blk_cell BK116.out 5).trans rfl
                          have hfz67_0 := blk_frozen BK116.out 0
                          have hfz67_1 := blk_frozen BK116.out 1
                          have hfz67_2 := blk_frozen BK116.out 2
                          have hfz67_3 := blk_frozen BK116.out 3
                          have hfz67_4 := blk_frozen BK116.out 4
                          have hfz67_5 := blk_frozen BK116.out 5
                          obtain ⟨Ao68, co68, eo68⟩ := Kd.R_slice HO_5.out
                          subst eo68
                          go_wp2_with (first | ((with_reducible refine gate_builtin (b := .append) (xs := #[.tmp 78, .tmp 93]) rfl ?_); (try (refine gate_guard (by rfl) ?_; dsimp only)); at_builtin; refine Kd.R_append k39 (w0 := w) w.heap.size rfl (.tmp 78) (.tmp 93) 24 39 (.agg #[(.int .i64 0), (.int .i64 0), (.int .i64 0), (.int .i64 0), (.int .i64 0), (.string ⟨#[]⟩)]) 56 rfl Try.underlying24 info39 rfl (by decide) (by omega) u4 x4_1 (⟨((rd_T68 l0 x7_1).f1), ((rd_T68 l0 x7_1).f2), wrap64 (((rd_T68 l0 x7_1).f2) + ((rd_T68 l0 x7_1).f3)), 0, ((rd_T68 l0 x7_1).f4), ((rd_T68 l0 x7_1).f5)⟩ : S39) [.int .i64 ((rd_T68 l0 x7_1).f1), .int .i64 ((rd_T68 l0 x7_1).f2), .int .i64 (wrap64 (((rd_T68 l0 x7_1).f2) + ((rd_T68 l0 x7_1).f3))), .int .i64 0, .int .i64 ((rd_T68 l0 x7_1).f4), .string ((rd_T68 l0 x7_1).f5)] (fun _ => True) (fun _ => False) rfl rfl ?aP (fun _ hk => hk.elim) ?aF ?aO ?aB ?aS ?aL ?_; (case aP => exact k39_mkM _ _ _ (⟨((rd_T68 l0 x7_1).f1), ((rd_T68 l0 x7_1).f2), wrap64 (((rd_T68 l0 x7_1).f2) + ((rd_T68 l0 x7_1).f3)), 0, ((rd_T68 l0 x7_1).f4), ((rd_T68 l0 x7_1).f5)⟩ : S39)); (case aB => exact (by repeat (first | (with_reducible first | exact HB.out | apply below_alloc | apply pw_below_drewN | apply below_drew1 | refine below_set ?_ GE116.out) | exact HB.out))); (case aF => exact (fun _ _ => trivial)); (case aO => exact (by (with_reducible repeat (first | apply Kd.R_alloc | apply Kd.R_drewN | apply Kd.R_drew)); exact HO_4.out)); (case aS => exact (below_size (by repeat (first | (with_reducible first | exact HB.out | apply below_alloc | apply pw_below_drewN | apply below_drew1 | refine below_set ?_ GE116.out) | exact HB.out)))); (case aL => have := LMc58.out; omega); intro v134 w69 ho hb hg hat; rw [← Ny133.out] at ho; have n0_ := Aside0.mk (Kd.R_over' (by (with_reducible repeat (first | apply Kd.R_alloc | apply Kd.R_drewN | apply Kd.R_drew)); exact HO_5.out) (Kd.R_typed (by (with_reducible repeat (first | apply Kd.R_alloc | apply Kd.R_drewN | apply Kd.R_drew)); exact HO_4.out)) (by decide) hg); have n1_ := Aside0.mk (blk_grown (g := gb116) (o := .cells #[.int .i64 ((rd_T68 l0 x7_1).f0), .int .i64 ((rd_T68 l0 x7_1).f1), .int .i64 ((rd_T68 l0 x7_1).f2), .int .i64 ((rd_T68 l0 x7_1).f3), .int .i64 ((rd_T68 l0 x7_1).f4), .string ((rd_T68 l0 x7_1).f5)] 68 (0, 0)) (by (with_reducible repeat (first | refine blk_drewN ?_ _ | refine blk_drew ?_ | refine blk_alloc ?_ _)); exact BK116.out) hg (Kd.R_ne HO_4.out BK116.out (by decide))); have n2_ := Aside0.mk (hb); have n3_ := Aside0.mk (ho); clear HO_5; clear BK116; clear HB; clear HO_4; have HO_5 := n0_; have BK116 := n1_; have HB := n2_; have HO135 := n3_; clear n0_ n1_ n2_ n3_; clear ho hb hg hat; have hcz70_0 : w69.cell? ⟨gb116, 0, none⟩ = some (.int .i64 ((rd_T68 l0 x7_1).f0)) := (blk_cell BK116.out 0).trans rfl; have hcz70_1 : w69.cell? ⟨gb116, 1, none⟩ = some (.int .i64 ((rd_T68 l0 x7_1).f1)) := (blk_cell BK116.out 1).trans rfl; have hcz70_2 : w69.cell? ⟨gb116, 2, none⟩ = some (.int .i64 ((rd_T68 l0 x7_1).f2)) := (blk_cell BK116.out 2).trans rfl; have hcz70_3 : w69.cell? ⟨gb116, 3, none⟩ = some (.int .i64 ((rd_T68 l0 x7_1).f3)) := (blk_cell BK116.out 3).trans rfl; have hcz70_4 : w69.cell? ⟨gb116, 4, none⟩ = some (.int .i64 ((rd_T68 l0 x7_1).f4)) := (blk_cell BK116.out 4).trans rfl; have hcz70_5 : w69.cell? ⟨gb116, 5, none⟩ = some (.string ((rd_T68 l0 x7_1).f5)) := (blk_cell BK116.out 5).trans rfl; have hfz70_0 := blk_frozen BK116.out 0; have hfz70_1 := blk_frozen BK116.out 1; have hfz70_2 := blk_frozen BK116.out 2; have hfz70_3 := blk_frozen BK116.out 3; have hfz70_4 := blk_frozen BK116.out 4; have hfz70_5 := blk_frozen BK116.out 5))
                          go_roundg kj5
                          case measure => have := HK1.out; have := HJ5.out; omega
                          case rel => exact ⟨(y133), (x5_1), (t117), (wrap64 (x7_1 + 1)), (by first | rfl | (simp; done) | (simp [*]; done)), (by first | rfl | (simp; done) | (simp [*]; done)), H', ⟨by have := HK1.out; have := HJ5.out; omega⟩, ⟨by (with_reducible repeat (first | apply Kd.R_alloc | apply Kd.R_drewN | apply Kd.R_drew)); exact HO135.out⟩, ⟨by (with_reducible repeat (first | apply Kd.R_alloc | apply Kd.R_drewN | apply Kd.R_drew)); exact HO_5.out⟩, ⟨by repeat (first | (with_reducible first | exact HB.out | apply below_alloc | apply pw_below_drewN | apply below_drew1 | refine below_set ?_ GE116.out) | exact HB.out)⟩⟩
                      · rw [if_neg c58] at H
                        exact absurd H (by simp)
          · rw [if_neg c4] at H
            exact absurd H (by simp)
        · rw [if_neg c3] at H
          have c3b0 : decide (x7_1 < (l0.length : Int)) = false := decide_eq_false c3
          clear c3
          by_cases c71 : (x5_1.length : Int) > 0
          · rw [if_pos c71] at H
            have c71b0 : decide (0 < (x5_1.length : Int)) = true := decide_eq_true c71
            have c71b1 : decide (0 < x5_1.length) = true := decide_eq_true (by omega)
            clear c71
            simp only [Option.some.injEq, Prod.mk.injEq] at H
            obtain ⟨rfl, rfl⟩ := H
            obtain ⟨Ao72, co72, eo72⟩ := Kd.R_slice HO_5.out
            subst eo72
            go_wp2
            go_ret2
            exact ⟨_, by first | rfl | (simp [errW_none, errW_some] <;> rfl) | (simp [*, errW_none, errW_some] <;> rfl), by first | exact Kd.R_nil _ _ _ _ _ | exact Kd.N_nil _ _ _ _ _ | exact Kd.V_nil _ _ _ _ _ | exact Kd.Q_nil _ _ _ _ _ | exact Kd.S_nil _ _ _ _ _, by repeat (first | (with_reducible first | exact HB.out | apply below_alloc | apply pw_below_drewN | apply below_drew1) | exact HB.out)⟩
          · rw [if_neg c71] at H
            have c71b0 : decide (0 < (x5_1.length : Int)) = false := decide_eq_false c71
            have c71b1 : decide (0 < x5_1.length) = false := decide_eq_false (by omega)
            clear c71
            simp only [Option.some.injEq, Prod.mk.injEq] at H
            obtain ⟨rfl, rfl⟩ := H
            obtain ⟨Ao73, co73, eo73⟩ := Kd.R_slice HO_5.out
            subst eo73
            go_wp2
            go_ret2
            exact ⟨_, by first | rfl | (simp [errW_none, errW_some] <;> rfl) | (simp [*, errW_none, errW_some] <;> rfl), by (with_reducible repeat (first | apply Kd.R_alloc | apply Kd.R_drewN | apply Kd.R_drew)); exact HO_4.out, by repeat (first | (with_reducible first | exact HB.out | apply below_alloc | apply pw_below_drewN | apply below_drew1) | exact HB.out)⟩

end Go.Proofs.Ytebebognifiinaa.Q
