import Derived.Test.YthjlpcecfkboiaaDoorZx0
import Derived.Test.YthjlpcecfkboiaaDoorZx9
-- PRINTED by print.py (a twelfth state) out of the translation. Not trusted: Lean checks it.
namespace Go.Proofs.YthjlpcecfkboiaaDoor.Z
open Go.RowKit Go.Proofs.YthjlpcecfkboiaaDoorW.PrintWords Go.Proofs.YthjlpcecfkboiaaDoorW.PrintLast Go.Proofs.YthjlpcecfkboiaaDoorW.PrintMore
attribute [local go_sem] eqset_a eqset_b max2_int min2_int max_two min_two max_three min_three max_four min_four   -- for this text's walks alone
set_option linter.unusedVariables false
set_option linter.unusedSimpArgs false

/-! ### steps_may: function 23 -/
mutual
def steps_may.j0 : Nat → List (S52) → ByteArray → Bool → Int → Int → Int → Int → List (S55) → List (S57) → Option (Bool)
 | 0, _, _, _, _, _, _, _, _, _ => none
 | k + 1, x0, x1, x28, x226000, x226001, x226002, x226003, x226004, x226005 => if x28 = true then (some false) else (if x226003 = 2 then (if x226000 = 0 then (if x226001 = 0 then (if (x226004.length : Int) = 0 then (some ((x226005.length : Int) == 0)) else (some false)) else (some false)) else (some false)) else (if x226003 = 0 then (steps_may.j1 k x0 x1 x226000 x226001 x226002 x226003 x226004 x226005) else (if x226003 = 1 then (steps_may.j1 k x0 x1 x226000 x226001 x226002 x226003 x226004 x226005) else (some false))))
def steps_may.j1 : Nat → List (S52) → ByteArray → Int → Int → Int → Int → List (S55) → List (S57) → Option (Bool)
 | 0, _, _, _, _, _, _, _, _ => none
 | k + 1, x0, x1, x226000, x226001, x226002, x226003, x226004, x226005 => if x226000 < 0 then (steps_may.j2 k x0 x1 true x226000 x226001 x226002 x226003 x226004 x226005) else (if x226000 ≥ (x0.length : Int) then (steps_may.j2 k x0 x1 true x226000 x226001 x226002 x226003 x226004 x226005) else (if x226003 = 1 then (if 0 ≤ x226000 then (if x226000 < (x0.length : Int) then (if ((rd_T52 x0 x226000).f0) = 17 then (if x226001 < 0 then (steps_may.j2 k x0 x1 true x226000 x226001 x226002 x226003 x226004 x226005) else (steps_may.j2 k x0 x1 (decide (x226001 > (x1.size : Int))) x226000 x226001 x226002 x226003 x226004 x226005)) else (steps_may.j2 k x0 x1 true x226000 x226001 x226002 x226003 x226004 x226005)) else (none)) else (none)) else (if x226001 < 0 then (steps_may.j2 k x0 x1 true x226000 x226001 x226002 x226003 x226004 x226005) else (steps_may.j2 k x0 x1 (decide (x226001 > (x1.size : Int))) x226000 x226001 x226002 x226003 x226004 x226005))))
def steps_may.j2 : Nat → List (S52) → ByteArray → Bool → Int → Int → Int → Int → List (S55) → List (S57) → Option (Bool)
 | 0, _, _, _, _, _, _, _, _, _ => none
 | k + 1, x0, x1, x91, x226000, x226001, x226002, x226003, x226004, x226005 => if x91 = true then (some false) else (steps_may.l0 k x0 x1 x226005 (x226005.length : Int) 0 x226000 x226001 x226002 x226003 x226004 x226005)
def steps_may.l0 : Nat → List (S52) → ByteArray → List (S57) → Int → Int → Int → Int → Int → Int → List (S55) → List (S57) → Option (Bool)
 | 0, _, _, _, _, _, _, _, _, _, _, _ => none
 | k + 1, x0, x1, x93, x94, x95, x226000, x226001, x226002, x226003, x226004, x226005 => if x95 < x94 then (if 0 ≤ x95 then (if x95 < (x93.length : Int) then ((steps_mayNote.f k ((rd_T57 x93 x95).f0) ((rd_T57 x93 x95).f1) ((rd_T57 x93 x95).f2) ((rd_T57 x93 x95).f3) ((rd_T57 x93 x95).f4) ((rd_T57 x93 x95).f5) (x1.size : Int)).bind fun t229 => (if t229 = true then (steps_may.l0 k x0 x1 x93 x94 (wrap64 (x95 + 1)) x226000 x226001 x226002 x226003 x226004 x226005) else (some false))) else (none)) else (none)) else ((steps_mayStack.f k x226004 (x0.length : Int) (x1.size : Int) (x226005.length : Int)).bind fun t230 => (some t230))
end
def steps_may.f (k : Nat) (l0 : List (S52)) (a1 : ByteArray) (a2_0 : Int) (a2_1 : Int) (a2_2 : Int) (a2_3 : Int) (l2_4 : List (S55)) (l2_5 : List (S57)) : Option (Bool) := if a2_2 < 0 then (steps_may.j0 k l0 a1 true a2_0 a2_1 a2_2 a2_3 l2_4 l2_5) else (if a2_2 > 1073741824 then (steps_may.j0 k l0 a1 true a2_0 a2_1 a2_2 a2_3 l2_4 l2_5) else (if (l2_4.length : Int) > 1048576 then (steps_may.j0 k l0 a1 true a2_0 a2_1 a2_2 a2_3 l2_4 l2_5) else (steps_may.j0 k l0 a1 (decide ((l2_5.length : Int) > 1048576)) a2_0 a2_1 a2_2 a2_3 l2_4 l2_5)))
set_option maxHeartbeats 8000000 in
set_option maxRecDepth 100000 in
theorem steps_may.calls (k : Nat) (A0 : Option Addr) (c0 : Nat) (l0 : List (S52)) (a1 : ByteArray) (a2_0 : Int) (a2_1 : Int) (a2_2 : Int) (a2_3 : Int) (A2_4 : Option Addr) (c2_4 : Nat) (l2_4 : List (S55)) (A2_5 : Option Addr) (c2_5 : Nat) (l2_5 : List (S57)) (r : Bool) (w : World) (hr0 : Kd.C k52 w A0 l0.length l0) (hc0 : l0.length ≤ c0) (hr2_4 : Kd.C k55 w A2_4 l2_4.length l2_4) (hc2_4 : l2_4.length ≤ c2_4) (hr2_5 : Kd.C k57 w A2_5 l2_5.length l2_5) (hc2_5 : l2_5.length ≤ c2_5) (h : steps_may.f k l0 a1 a2_0 a2_1 a2_2 a2_3 l2_4 l2_5 = some r) (hU : UsesOk w) :
  Calls Tryd.prog 23 #[.slice A0 l0.length c0, .string a1, .agg #[.int .i64 a2_0, .int .i64 a2_1, .int .i64 a2_2, .int .i64 a2_3, .slice A2_4 l2_4.length c2_4, .slice A2_5 l2_5.length c2_5]] w fun e w' => e = .returned (.bool r) ∧ Below w.heap.size w w' := by
 have hu31 := Tryd.underlying31
 have hu57 := Tryd.underlying57
 have HR0 := Aside0.mk hr0
 have HC0 := Aside0.mk hc0
 clear hr0 hc0
 have HR2_4 := Aside0.mk hr2_4
 have HC2_4 := Aside0.mk hc2_4
 clear hr2_4 hc2_4
 have HR2_5 := Aside0.mk hr2_5
 have HC2_5 := Aside0.mk hc2_5
 clear hr2_5 hc2_5
 have HB := Aside0.mk (Below.refl w.heap.size w)
 have H : (if a2_2 < 0 then (steps_may.j0 k l0 a1 true a2_0 a2_1 a2_2 a2_3 l2_4 l2_5) else (if a2_2 > 1073741824 then (steps_may.j0 k l0 a1 true a2_0 a2_1 a2_2 a2_3 l2_4 l2_5) else (if (l2_4.length : Int) > 1048576 then (steps_may.j0 k l0 a1 true a2_0 a2_1 a2_2 a2_3 l2_4 l2_5) else (steps_may.j0 k l0 a1 (decide ((l2_5.length : Int) > 1048576)) a2_0 a2_1 a2_2 a2_3 l2_4 l2_5)))) = some r := h
 clear h
 have HC4 := Aside0.mk H
 clear H
 go_enter Tryd.func23, Tryd.ntmps23
 go_upto_region 1 with (first | ((with_reducible refine gate_dst (N := 5) rfl ?_); (try (refine gate_guard (by rfl) ?_; dsimp only)); refine box_event ?hg (N := 5) ?hd (cs := #[.int .i64 a2_0, .int .i64 a2_1, .int .i64 a2_2, .int .i64 a2_3, .slice A2_4 l2_4.length c2_4, .slice A2_5 l2_5.length c2_5]) (t := 31) ?hr ?_; (case hd => rfl); (case hg => rfl); (case hr => first | (go_simp; done) | (go_simp; rfl)); intro gb225 hg w5 hbox hb; have n0_ := Aside0.mk (below_step (by repeat (first | (with_reducible first | exact HB.out | apply below_alloc | apply pw_below_drewN | apply below_drew1) | exact HB.out)) hb); have n1_ := Aside0.mk (hbox); have n2_ := Aside0.mk ((by rw [hg]; exact (below_size (by repeat (first | (with_reducible first | exact HB.out | apply below_alloc | apply pw_below_drewN | apply below_drew1) | exact HB.out))) : w.heap.size ≤ gb225)); have n3_ := Aside0.mk ((by rw [hg]; exact (below_size (by repeat (first | (with_reducible first | exact HB.out | apply below_alloc | apply pw_below_drewN | apply below_drew1) | exact HB.out))) : w.heap.size ≤ gb225)); clear HB; have HB := n0_; have BK225 := n1_; have GW225 := n2_; have GE225 := n3_; clear n0_ n1_ n2_ n3_; clear hb hbox hg))
 (try simp only [Act.put, List.setIfInBounds_toArray, List.set_cons_zero, List.set_cons_succ])
 go_cut [28] (fun v28 wc => ∃ (kq : Nat) (x28_3 : Bool), v28 = .bool x28_3 ∧ Aside0 (steps_may.j0 kq l0 a1 x28_3 a2_0 a2_1 a2_2 a2_3 l2_4 l2_5 = some r) ∧ Aside0 (kq ≤ k) ∧ Aside0 (wc.heap[gb225]? = some (.cells #[.int .i64 a2_0, .int .i64 a2_1, .int .i64 a2_2, .int .i64 a2_3, (.slice A2_4 l2_4.length c2_4), (.slice A2_5 l2_5.length c2_5)] 31 (0, 0))) ∧ Aside0 (Below w.heap.size w wc))
 case first =>
  have H := HC4.out
  clear HC4
  by_cases c6 : a2_2 < 0
  ·rw [if_pos c6] at H
   have c6b0 : decide (a2_2 < 0) = true := decide_eq_true c6
   clear c6
   (first | rw [c6b0] | (simp only [i64_w, i32_w]; rw [c6b0]) | skip)
   have H' := Aside0.mk H
   clear H
   have hcz7_0 : w5.cell? ⟨gb225, 0, none⟩ = some (.int .i64 a2_0) := (blk_cell BK225.out 0).trans rfl
   have hcz7_1 : w5.cell? ⟨gb225, 1, none⟩ = some (.int .i64 a2_1) := (blk_cell BK225.out 1).trans rfl
   have hcz7_2 : w5.cell? ⟨gb225, 2, none⟩ = some (.int .i64 a2_2) := (blk_cell BK225.out 2).trans rfl
   have hcz7_3 : w5.cell? ⟨gb225, 3, none⟩ = some (.int .i64 a2_3) := (blk_cell BK225.out 3).trans rfl
   have hcz7_4 : w5.cell? ⟨gb225, 4, none⟩ = some (.slice A2_4 l2_4.length c2_4) := (blk_cell BK225.out 4).trans rfl
   have hcz7_5 : w5.cell? ⟨gb225, 5, none⟩ = some (.slice A2_5 l2_5.length c2_5) := (blk_cell BK225.out 5).trans rfl
   have hfz7_0 := blk_frozen BK225.out 0
   have hfz7_1 := blk_frozen BK225.out 1
   have hfz7_2 := blk_frozen BK225.out 2
   have hfz7_3 := blk_frozen BK225.out 3
   have hfz7_4 := blk_frozen BK225.out 4
   have hfz7_5 := blk_frozen BK225.out 5
   go_wp2
   go_meet
   case rel => exact ⟨_, (true), (by first | rfl | (simp; done) | (simp [*]; done)), H', ⟨by first | omega | exact Nat.le_refl _⟩, ⟨by (with_reducible repeat (first | refine blk_drewN ?_ _ | refine blk_drew ?_ | refine blk_alloc ?_ _)); exact BK225.out⟩, ⟨by repeat (first | (with_reducible first | exact HB.out | apply below_alloc | apply pw_below_drewN | apply below_drew1 | refine below_set ?_ GE225.out) | exact HB.out)⟩⟩
  ·rw [if_neg c6] at H
   have c6b0 : decide (a2_2 < 0) = false := decide_eq_false c6
   clear c6
   (first | rw [c6b0] | (simp only [i64_w, i32_w]; rw [c6b0]) | skip)
   by_cases c8 : a2_2 > 1073741824
   ·rw [if_pos c8] at H
    have c8b0 : decide (1073741824 < a2_2) = true := decide_eq_true c8
    clear c8
    have H' := Aside0.mk H
    clear H
    have hcz9_0 : w5.cell? ⟨gb225, 0, none⟩ = some (.int .i64 a2_0) := (blk_cell BK225.out 0).trans rfl
    have hcz9_1 : w5.cell? ⟨gb225, 1, none⟩ = some (.int .i64 a2_1) := (blk_cell BK225.out 1).trans rfl
    have hcz9_2 : w5.cell? ⟨gb225, 2, none⟩ = some (.int .i64 a2_2) := (blk_cell BK225.out 2).trans rfl
    have hcz9_3 : w5.cell? ⟨gb225, 3, none⟩ = some (.int .i64 a2_3) := (blk_cell BK225.out 3).trans rfl
    have hcz9_4 : w5.cell? ⟨gb225, 4, none⟩ = some (.slice A2_4 l2_4.length c2_4) := (blk_cell BK225.out 4).trans rfl
    have hcz9_5 : w5.cell? ⟨gb225, 5, none⟩ = some (.slice A2_5 l2_5.length c2_5) := (blk_cell BK225.out 5).trans rfl
    have hfz9_0 := blk_frozen BK225.out 0
    have hfz9_1 := blk_frozen BK225.out 1
    have hfz9_2 := blk_frozen BK225.out 2
    have hfz9_3 := blk_frozen BK225.out 3
    have hfz9_4 := blk_frozen BK225.out 4
    have hfz9_5 := blk_frozen BK225.out 5
    go_wp2
    go_meet
    case rel => exact ⟨_, (true), (by first | rfl | (simp; done) | (simp [*]; done)), H', ⟨by first | omega | exact Nat.le_refl _⟩, ⟨by (with_reducible repeat (first | refine blk_drewN ?_ _ | refine blk_drew ?_ | refine blk_alloc ?_ _)); exact BK225.out⟩, ⟨by repeat (first | (with_reducible first | exact HB.out | apply below_alloc | apply pw_below_drewN | apply below_drew1 | refine below_set ?_ GE225.out) | exact HB.out)⟩⟩
   ·rw [if_neg c8] at H
    have c8b0 : decide (1073741824 < a2_2) = false := decide_eq_false c8
    clear c8
    by_cases c10 : (l2_4.length : Int) > 1048576
    ·rw [if_pos c10] at H
     have c10b0 : decide (1048576 < (l2_4.length : Int)) = true := decide_eq_true c10
     have c10b1 : decide (1048576 < l2_4.length) = true := decide_eq_true (by omega)
     clear c10
     have H' := Aside0.mk H
     clear H
     have hcz11_0 : w5.cell? ⟨gb225, 0, none⟩ = some (.int .i64 a2_0) := (blk_cell BK225.out 0).trans rfl
     have hcz11_1 : w5.cell? ⟨gb225, 1, none⟩ = some (.int .i64 a2_1) := (blk_cell BK225.out 1).trans rfl
     have hcz11_2 : w5.cell? ⟨gb225, 2, none⟩ = some (.int .i64 a2_2) := (blk_cell BK225.out 2).trans rfl
     have hcz11_3 : w5.cell? ⟨gb225, 3, none⟩ = some (.int .i64 a2_3) := (blk_cell BK225.out 3).trans rfl
     have hcz11_4 : w5.cell? ⟨gb225, 4, none⟩ = some (.slice A2_4 l2_4.length c2_4) := (blk_cell BK225.out 4).trans rfl
     have hcz11_5 : w5.cell? ⟨gb225, 5, none⟩ = some (.slice A2_5 l2_5.length c2_5) := (blk_cell BK225.out 5).trans rfl
     have hfz11_0 := blk_frozen BK225.out 0
     have hfz11_1 := blk_frozen BK225.out 1
     have hfz11_2 := blk_frozen BK225.out 2
     have hfz11_3 := blk_frozen BK225.out 3
     have hfz11_4 := blk_frozen BK225.out 4
     have hfz11_5 := blk_frozen BK225.out 5
     go_wp2
     go_meet
     case rel => exact ⟨_, (true), (by first | rfl | (simp; done) | (simp [*]; done)), H', ⟨by first | omega | exact Nat.le_refl _⟩, ⟨by (with_reducible repeat (first | refine blk_drewN ?_ _ | refine blk_drew ?_ | refine blk_alloc ?_ _)); exact BK225.out⟩, ⟨by repeat (first | (with_reducible first | exact HB.out | apply below_alloc | apply pw_below_drewN | apply below_drew1 | refine below_set ?_ GE225.out) | exact HB.out)⟩⟩
    ·rw [if_neg c10] at H
     have c10b0 : decide (1048576 < (l2_4.length : Int)) = false := decide_eq_false c10
     have c10b1 : decide (1048576 < l2_4.length) = false := decide_eq_false (by omega)
     clear c10
     have H' := Aside0.mk H
     clear H
     have hcz12_0 : w5.cell? ⟨gb225, 0, none⟩ = some (.int .i64 a2_0) := (blk_cell BK225.out 0).trans rfl
     have hcz12_1 : w5.cell? ⟨gb225, 1, none⟩ = some (.int .i64 a2_1) := (blk_cell BK225.out 1).trans rfl
     have hcz12_2 : w5.cell? ⟨gb225, 2, none⟩ = some (.int .i64 a2_2) := (blk_cell BK225.out 2).trans rfl
     have hcz12_3 : w5.cell? ⟨gb225, 3, none⟩ = some (.int .i64 a2_3) := (blk_cell BK225.out 3).trans rfl
     have hcz12_4 : w5.cell? ⟨gb225, 4, none⟩ = some (.slice A2_4 l2_4.length c2_4) := (blk_cell BK225.out 4).trans rfl
     have hcz12_5 : w5.cell? ⟨gb225, 5, none⟩ = some (.slice A2_5 l2_5.length c2_5) := (blk_cell BK225.out 5).trans rfl
     have hfz12_0 := blk_frozen BK225.out 0
     have hfz12_1 := blk_frozen BK225.out 1
     have hfz12_2 := blk_frozen BK225.out 2
     have hfz12_3 := blk_frozen BK225.out 3
     have hfz12_4 := blk_frozen BK225.out 4
     have hfz12_5 := blk_frozen BK225.out 5
     go_wp2
     go_meet
     case rel => exact ⟨_, (decide ((l2_5.length : Int) > 1048576)), (by first | rfl | (simp; done) | (simp [*]; done)), H', ⟨by first | omega | exact Nat.le_refl _⟩, ⟨by (with_reducible repeat (first | refine blk_drewN ?_ _ | refine blk_drew ?_ | refine blk_alloc ?_ _)); exact BK225.out⟩, ⟨by repeat (first | (with_reducible first | exact HB.out | apply below_alloc | apply pw_below_drewN | apply below_drew1 | refine below_set ?_ GE225.out) | exact HB.out)⟩⟩
 case rest =>
  clear HC4
  try clear c1
  try clear c2
  try clear p2
  try clear c6
  try clear c6b0
  try clear c8
  try clear c8b0
  try clear c10
  try clear c10b0
  try clear c10b1
  try clear hcz11_0
  try clear hcz11_1
  try clear hcz11_2
  try clear hcz11_3
  try clear hcz11_4
  try clear hcz11_5
  try clear hcz12_0
  try clear hcz12_1
  try clear hcz12_2
  try clear hcz12_3
  try clear hcz12_4
  try clear hcz12_5
  try clear hcz7_0
  try clear hcz7_1
  try clear hcz7_2
  try clear hcz7_3
  try clear hcz7_4
  try clear hcz7_5
  try clear hcz9_0
  try clear hcz9_1
  try clear hcz9_2
  try clear hcz9_3
  try clear hcz9_4
  try clear hcz9_5
  try clear hfz11_0
  try clear hfz11_1
  try clear hfz11_2
  try clear hfz11_3
  try clear hfz11_4
  try clear hfz11_5
  try clear hfz12_0
  try clear hfz12_1
  try clear hfz12_2
  try clear hfz12_3
  try clear hfz12_4
  try clear hfz12_5
  try clear hfz7_0
  try clear hfz7_1
  try clear hfz7_2
  try clear hfz7_3
  try clear hfz7_4
  try clear hfz7_5
  try clear hfz9_0
  try clear hfz9_1
  try clear hfz9_2
  try clear hfz9_3
  try clear hfz9_4
  try clear hfz9_5
  obtain ⟨kq, x28_3, rfl, HA, HJ3, BK225, HB⟩ := hcut
  cases kq with
  | zero => exact absurd HA.out (by simp [steps_may.j0])
  | succ kj3 =>
   have H := HA.out
   clear HA
   simp only [steps_may.j0] at H
   by_cases c13 : x28_3 = true
   ·subst c13
    have H1 : (some false) = some r := by rw [if_pos rfl] at H; exact H
    clear H
    have H := H1
    clear H1
    obtain rfl := Option.some.inj H
    go_wp2
    go_ret
    exact ⟨by first | rfl | (simp [errW_none, errW_some] <;> rfl) | (simp [*, errW_none, errW_some] <;> rfl), by repeat (first | (with_reducible first | exact HB.out | apply below_alloc | apply pw_below_drewN | apply below_drew1 | refine below_set ?_ GE225.out) | exact HB.out)⟩
   ·replace c13 := Bool.eq_false_iff.mpr c13
    subst c13
    have H1 : (if a2_3 = 2 then (if a2_0 = 0 then (if a2_1 = 0 then (if (l2_4.length : Int) = 0 then (some ((l2_5.length : Int) == 0)) else (some false)) else (some false)) else (some false)) else (if a2_3 = 0 then (steps_may.j1 kj3 l0 a1 a2_0 a2_1 a2_2 a2_3 l2_4 l2_5) else (if a2_3 = 1 then (steps_may.j1 kj3 l0 a1 a2_0 a2_1 a2_2 a2_3 l2_4 l2_5) else (some false)))) = some r := by rw [if_neg (show ¬ (false = true) by decide)] at H; exact H
    clear H
    have H := H1
    clear H1
    have HC14 := Aside0.mk H
    clear H
    have hcz15_0 : wc.cell? ⟨gb225, 0, none⟩ = some (.int .i64 a2_0) := (blk_cell BK225.out 0).trans rfl
    have hcz15_1 : wc.cell? ⟨gb225, 1, none⟩ = some (.int .i64 a2_1) := (blk_cell BK225.out 1).trans rfl
    have hcz15_2 : wc.cell? ⟨gb225, 2, none⟩ = some (.int .i64 a2_2) := (blk_cell BK225.out 2).trans rfl
    have hcz15_3 : wc.cell? ⟨gb225, 3, none⟩ = some (.int .i64 a2_3) := (blk_cell BK225.out 3).trans rfl
    have hcz15_4 : wc.cell? ⟨gb225, 4, none⟩ = some (.slice A2_4 l2_4.length c2_4) := (blk_cell BK225.out 4).trans rfl
    have hcz15_5 : wc.cell? ⟨gb225, 5, none⟩ = some (.slice A2_5 l2_5.length c2_5) := (blk_cell BK225.out 5).trans rfl
    have hfz15_0 := blk_frozen BK225.out 0
    have hfz15_1 := blk_frozen BK225.out 1
    have hfz15_2 := blk_frozen BK225.out 2
    have hfz15_3 := blk_frozen BK225.out 3
    have hfz15_4 := blk_frozen BK225.out 4
    have hfz15_5 := blk_frozen BK225.out 5
    go_upto_block 0 with (fail)
    go_cut [] (fun wc => ∃ (kq : Nat), Aside0 (steps_may.j1 kq l0 a1 a2_0 a2_1 a2_2 a2_3 l2_4 l2_5 = some r) ∧ Aside0 (kq ≤ kj3) ∧ Aside0 (wc.heap[gb225]? = some (.cells #[.int .i64 a2_0, .int .i64 a2_1, .int .i64 a2_2, .int .i64 a2_3, (.slice A2_4 l2_4.length c2_4), (.slice A2_5 l2_5.length c2_5)] 31 (0, 0))) ∧ Aside0 (Below w.heap.size w wc))
    case first =>
     have H := HC14.out
     clear HC14
     by_cases c16 : a2_3 = 2
     ·rw [if_pos c16] at H
      have c16b0 : (a2_3 == 2) = true := beq_iff_eq.mpr c16
      have c16b1 : (a2_3 != 2) = false := bne_eq_false_iff_eq.mpr c16
      clear c16
      (first | rw [c16b0] | (simp only [i64_w, i32_w]; rw [c16b0]) | skip)
      by_cases c17 : a2_0 = 0
      ·rw [if_pos c17] at H
       have c17b0 : (a2_0 == 0) = true := beq_iff_eq.mpr c17
       have c17b1 : (a2_0 != 0) = false := bne_eq_false_iff_eq.mpr c17
       clear c17
       by_cases c18 : a2_1 = 0
       ·rw [if_pos c18] at H
        have c18b0 : (a2_1 == 0) = true := beq_iff_eq.mpr c18
        have c18b1 : (a2_1 != 0) = false := bne_eq_false_iff_eq.mpr c18
        clear c18
        by_cases c19 : (l2_4.length : Int) = 0
        ·rw [if_pos c19] at H
         have c19b0 : ((l2_4.length : Int) == 0) = true := beq_iff_eq.mpr c19
         have c19b1 : ((l2_4.length : Int) != 0) = false := bne_eq_false_iff_eq.mpr c19
         clear c19
         obtain rfl := Option.some.inj H
         have hcz20_0 : wc.cell? ⟨gb225, 0, none⟩ = some (.int .i64 a2_0) := (blk_cell BK225.out 0).trans rfl
         have hcz20_1 : wc.cell? ⟨gb225, 1, none⟩ = some (.int .i64 a2_1) := (blk_cell BK225.out 1).trans rfl
         have hcz20_2 : wc.cell? ⟨gb225, 2, none⟩ = some (.int .i64 a2_2) := (blk_cell BK225.out 2).trans rfl
         have hcz20_3 : wc.cell? ⟨gb225, 3, none⟩ = some (.int .i64 a2_3) := (blk_cell BK225.out 3).trans rfl
         have hcz20_4 : wc.cell? ⟨gb225, 4, none⟩ = some (.slice A2_4 l2_4.length c2_4) := (blk_cell BK225.out 4).trans rfl
         have hcz20_5 : wc.cell? ⟨gb225, 5, none⟩ = some (.slice A2_5 l2_5.length c2_5) := (blk_cell BK225.out 5).trans rfl
         have hfz20_0 := blk_frozen BK225.out 0
         have hfz20_1 := blk_frozen BK225.out 1
         have hfz20_2 := blk_frozen BK225.out 2
         have hfz20_3 := blk_frozen BK225.out 3
         have hfz20_4 := blk_frozen BK225.out 4
         have hfz20_5 := blk_frozen BK225.out 5
         go_wp2
         go_ret
         exact ⟨by first | rfl | (simp [errW_none, errW_some] <;> rfl) | (simp [*, errW_none, errW_some] <;> rfl), by repeat (first | (with_reducible first | exact HB.out | apply below_alloc | apply pw_below_drewN | apply below_drew1 | refine below_set ?_ GE225.out) | exact HB.out)⟩
        ·rw [if_neg c19] at H
         have c19b0 : ((l2_4.length : Int) == 0) = false := beq_eq_false_iff_ne.mpr c19
         have c19b1 : ((l2_4.length : Int) != 0) = true := bne_iff_ne.mpr c19
         have c19b2 : ¬ (l2_4 = []) := fun h_ => c19 (by rw [h_]; rfl)
         obtain rfl := Option.some.inj H
         have hcz21_0 : wc.cell? ⟨gb225, 0, none⟩ = some (.int .i64 a2_0) := (blk_cell BK225.out 0).trans rfl
         have hcz21_1 : wc.cell? ⟨gb225, 1, none⟩ = some (.int .i64 a2_1) := (blk_cell BK225.out 1).trans rfl
         have hcz21_2 : wc.cell? ⟨gb225, 2, none⟩ = some (.int .i64 a2_2) := (blk_cell BK225.out 2).trans rfl
         have hcz21_3 : wc.cell? ⟨gb225, 3, none⟩ = some (.int .i64 a2_3) := (blk_cell BK225.out 3).trans rfl
         have hcz21_4 : wc.cell? ⟨gb225, 4, none⟩ = some (.slice A2_4 l2_4.length c2_4) := (blk_cell BK225.out 4).trans rfl
         have hcz21_5 : wc.cell? ⟨gb225, 5, none⟩ = some (.slice A2_5 l2_5.length c2_5) := (blk_cell BK225.out 5).trans rfl
         have hfz21_0 := blk_frozen BK225.out 0
         have hfz21_1 := blk_frozen BK225.out 1
         have hfz21_2 := blk_frozen BK225.out 2
         have hfz21_3 := blk_frozen BK225.out 3
         have hfz21_4 := blk_frozen BK225.out 4
         have hfz21_5 := blk_frozen BK225.out 5
         go_wp2
         go_ret
         exact ⟨by first | rfl | (simp [errW_none, errW_some] <;> rfl) | (simp [*, errW_none, errW_some] <;> rfl), by repeat (first | (with_reducible first | exact HB.out | apply below_alloc | apply pw_below_drewN | apply below_drew1 | refine below_set ?_ GE225.out) | exact HB.out)⟩
       ·rw [if_neg c18] at H
        have c18b0 : (a2_1 == 0) = false := beq_eq_false_iff_ne.mpr c18
        have c18b1 : (a2_1 != 0) = true := bne_iff_ne.mpr c18
        obtain rfl := Option.some.inj H
        have hcz22_0 : wc.cell? ⟨gb225, 0, none⟩ = some (.int .i64 a2_0) := (blk_cell BK225.out 0).trans rfl
        have hcz22_1 : wc.cell? ⟨gb225, 1, none⟩ = some (.int .i64 a2_1) := (blk_cell BK225.out 1).trans rfl
        have hcz22_2 : wc.cell? ⟨gb225, 2, none⟩ = some (.int .i64 a2_2) := (blk_cell BK225.out 2).trans rfl
        have hcz22_3 : wc.cell? ⟨gb225, 3, none⟩ = some (.int .i64 a2_3) := (blk_cell BK225.out 3).trans rfl
        have hcz22_4 : wc.cell? ⟨gb225, 4, none⟩ = some (.slice A2_4 l2_4.length c2_4) := (blk_cell BK225.out 4).trans rfl
        have hcz22_5 : wc.cell? ⟨gb225, 5, none⟩ = some (.slice A2_5 l2_5.length c2_5) := (blk_cell BK225.out 5).trans rfl
        have hfz22_0 := blk_frozen BK225.out 0
        have hfz22_1 := blk_frozen BK225.out 1
        have hfz22_2 := blk_frozen BK225.out 2
        have hfz22_3 := blk_frozen BK225.out 3
        have hfz22_4 := blk_frozen BK225.out 4
        have hfz22_5 := blk_frozen BK225.out 5
        go_wp2
        go_ret
        exact ⟨by first | rfl | (simp [errW_none, errW_some] <;> rfl) | (simp [*, errW_none, errW_some] <;> rfl), by repeat (first | (with_reducible first | exact HB.out | apply below_alloc | apply pw_below_drewN | apply below_drew1 | refine below_set ?_ GE225.out) | exact HB.out)⟩
      ·rw [if_neg c17] at H
       have c17b0 : (a2_0 == 0) = false := beq_eq_false_iff_ne.mpr c17
       have c17b1 : (a2_0 != 0) = true := bne_iff_ne.mpr c17
       obtain rfl := Option.some.inj H
       have hcz23_0 : wc.cell? ⟨gb225, 0, none⟩ = some (.int .i64 a2_0) := (blk_cell BK225.out 0).trans rfl
       have hcz23_1 : wc.cell? ⟨gb225, 1, none⟩ = some (.int .i64 a2_1) := (blk_cell BK225.out 1).trans rfl
       have hcz23_2 : wc.cell? ⟨gb225, 2, none⟩ = some (.int .i64 a2_2) := (blk_cell BK225.out 2).trans rfl
       have hcz23_3 : wc.cell? ⟨gb225, 3, none⟩ = some (.int .i64 a2_3) := (blk_cell BK225.out 3).trans rfl
       have hcz23_4 : wc.cell? ⟨gb225, 4, none⟩ = some (.slice A2_4 l2_4.length c2_4) := (blk_cell BK225.out 4).trans rfl
       have hcz23_5 : wc.cell? ⟨gb225, 5, none⟩ = some (.slice A2_5 l2_5.length c2_5) := (blk_cell BK225.out 5).trans rfl
       have hfz23_0 := blk_frozen BK225.out 0
       have hfz23_1 := blk_frozen BK225.out 1
       have hfz23_2 := blk_frozen BK225.out 2
       have hfz23_3 := blk_frozen BK225.out 3
       have hfz23_4 := blk_frozen BK225.out 4
       have hfz23_5 := blk_frozen BK225.out 5
       go_wp2
       go_ret
       exact ⟨by first | rfl | (simp [errW_none, errW_some] <;> rfl) | (simp [*, errW_none, errW_some] <;> rfl), by repeat (first | (with_reducible first | exact HB.out | apply below_alloc | apply pw_below_drewN | apply below_drew1 | refine below_set ?_ GE225.out) | exact HB.out)⟩
     ·rw [if_neg c16] at H
      have c16b0 : (a2_3 == 2) = false := beq_eq_false_iff_ne.mpr c16
      have c16b1 : (a2_3 != 2) = true := bne_iff_ne.mpr c16
      (first | rw [c16b0] | (simp only [i64_w, i32_w]; rw [c16b0]) | skip)
      by_cases c24 : a2_3 = 0
      ·rw [if_pos c24] at H
       have c24b0 : (a2_3 == 0) = true := beq_iff_eq.mpr c24
       have c24b1 : (a2_3 != 0) = false := bne_eq_false_iff_eq.mpr c24
       clear c24
       have H' := Aside0.mk H
       clear H
       go_wp2
       go_meet
       case rel => exact ⟨_, H', ⟨by have := HJ3.out; first | omega | exact Nat.le_refl _⟩, ⟨by (with_reducible repeat (first | refine blk_drewN ?_ _ | refine blk_drew ?_ | refine blk_alloc ?_ _)); exact BK225.out⟩, ⟨by repeat (first | (with_reducible first | exact HB.out | apply below_alloc | apply pw_below_drewN | apply below_drew1 | refine below_set ?_ GE225.out) | exact HB.out)⟩⟩
      ·rw [if_neg c24] at H
       have c24b0 : (a2_3 == 0) = false := beq_eq_false_iff_ne.mpr c24
       have c24b1 : (a2_3 != 0) = true := bne_iff_ne.mpr c24
       by_cases c25 : a2_3 = 1
       ·rw [if_pos c25] at H
        have c25b0 : (a2_3 == 1) = true := beq_iff_eq.mpr c25
        have c25b1 : (a2_3 != 1) = false := bne_eq_false_iff_eq.mpr c25
        clear c25
        have H' := Aside0.mk H
        clear H
        go_wp2
        go_meet
        case rel => exact ⟨_, H', ⟨by have := HJ3.out; first | omega | exact Nat.le_refl _⟩, ⟨by (with_reducible repeat (first | refine blk_drewN ?_ _ | refine blk_drew ?_ | refine blk_alloc ?_ _)); exact BK225.out⟩, ⟨by repeat (first | (with_reducible first | exact HB.out | apply below_alloc | apply pw_below_drewN | apply below_drew1 | refine below_set ?_ GE225.out) | exact HB.out)⟩⟩
       ·rw [if_neg c25] at H
        have c25b0 : (a2_3 == 1) = false := beq_eq_false_iff_ne.mpr c25
        have c25b1 : (a2_3 != 1) = true := bne_iff_ne.mpr c25
        obtain rfl := Option.some.inj H
        go_wp2
        go_ret
        exact ⟨by first | rfl | (simp [errW_none, errW_some] <;> rfl) | (simp [*, errW_none, errW_some] <;> rfl), by repeat (first | (with_reducible first | exact HB.out | apply below_alloc | apply pw_below_drewN | apply below_drew1 | refine below_set ?_ GE225.out) | exact HB.out)⟩
    case rest =>
     clear HC14
     try clear c1
     try clear c2
     try clear p2
     try clear c6
     try clear c6b0
     try clear c8
     try clear c8b0
     try clear c10
     try clear c10b0
     try clear c10b1
     try clear c13
     try clear c16
     try clear c16b0
     try clear c16b1
     try clear c17
     try clear c17b0
     try clear c17b1
     try clear c18
     try clear c18b0
     try clear c18b1
     try clear c19
     try clear c19b0
     try clear c19b1
     try clear c19b2
     try clear c23
     try clear c24
     try clear c24b0
     try clear c24b1
     try clear c25
     try clear c25b0
     try clear c25b1
     try clear hcz11_0
     try clear hcz11_1
     try clear hcz11_2
     try clear hcz11_3
     try clear hcz11_4
     try clear hcz11_5
     try clear hcz12_0
     try clear hcz12_1
     try clear hcz12_2
     try clear hcz12_3
     try clear hcz12_4
     try clear hcz12_5
     try clear hcz15_0
     try clear hcz15_1
     try clear hcz15_2
     try clear hcz15_3
     try clear hcz15_4
     try clear hcz15_5
     try clear hcz20_0
     try clear hcz20_1
     try clear hcz20_2
     try clear hcz20_3
     try clear hcz20_4
     try clear hcz20_5
     try clear hcz21_0
     try clear hcz21_1
     try clear hcz21_2
     try clear hcz21_3
     try clear hcz21_4
     try clear hcz21_5
     try clear hcz22_0
     try clear hcz22_1
     try clear hcz22_2
     try clear hcz22_3
     try clear hcz22_4
     try clear hcz22_5
     try clear hcz23_0
     try clear hcz23_1
     try clear hcz23_2
     try clear hcz23_3
     try clear hcz23_4
     try clear hcz23_5
     try clear hcz7_0
     try clear hcz7_1
     try clear hcz7_2
     try clear hcz7_3
     try clear hcz7_4
     try clear hcz7_5
     try clear hcz9_0
     try clear hcz9_1
     try clear hcz9_2
     try clear hcz9_3
     try clear hcz9_4
     try clear hcz9_5
     try clear hfz11_0
     try clear hfz11_1
     try clear hfz11_2
     try clear hfz11_3
     try clear hfz11_4
     try clear hfz11_5
     try clear hfz12_0
     try clear hfz12_1
     try clear hfz12_2
     try clear hfz12_3
     try clear hfz12_4
     try clear hfz12_5
     try clear hfz15_0
     try clear hfz15_1
     try clear hfz15_2
     try clear hfz15_3
     try clear hfz15_4
     try clear hfz15_5
     try clear hfz20_0
     try clear hfz20_1
     try clear hfz20_2
     try clear hfz20_3
     try clear hfz20_4
     try clear hfz20_5
     try clear hfz21_0
     try clear hfz21_1
     try clear hfz21_2
     try clear hfz21_3
     try clear hfz21_4
     try clear hfz21_5
     try clear hfz22_0
     try clear hfz22_1
     try clear hfz22_2
     try clear hfz22_3
     try clear hfz22_4
     try clear hfz22_5
     try clear hfz23_0
     try clear hfz23_1
     try clear hfz23_2
     try clear hfz23_3
     try clear hfz23_4
     try clear hfz23_5
     try clear hfz7_0
     try clear hfz7_1
     try clear hfz7_2
     try clear hfz7_3
     try clear hfz7_4
     try clear hfz7_5
     try clear hfz9_0
     try clear hfz9_1
     try clear hfz9_2
     try clear hfz9_3
     try clear hfz9_4
     try clear hfz9_5
     try clear p2
     obtain ⟨kq, HA, HJ13, BK225, HB⟩ := hcut
     cases kq with
     | zero => exact absurd HA.out (by simp [steps_may.j1])
     | succ kj13 =>
      have H := HA.out
      clear HA
      simp only [steps_may.j1] at H
      have HC26 := Aside0.mk H
      clear H
      go_upto_region 9 with (fail)
      go_cut [91] (fun v91 wc => ∃ (kq : Nat) (x91_25 : Bool), v91 = .bool x91_25 ∧ Aside0 (steps_may.j2 kq l0 a1 x91_25 a2_0 a2_1 a2_2 a2_3 l2_4 l2_5 = some r) ∧ Aside0 (kq ≤ kj13) ∧ Aside0 (wc.heap[gb225]? = some (.cells #[.int .i64 a2_0, .int .i64 a2_1, .int .i64 a2_2, .int .i64 a2_3, (.slice A2_4 l2_4.length c2_4), (.slice A2_5 l2_5.length c2_5)] 31 (0, 0))) ∧ Aside0 (Below w.heap.size w wc))
      case first =>
       have H := HC26.out
       clear HC26
       by_cases c27 : a2_0 < 0
       ·rw [if_pos c27] at H
        have c27b0 : decide (a2_0 < 0) = true := decide_eq_true c27
        clear c27
        (first | rw [c27b0] | (simp only [i64_w, i32_w]; rw [c27b0]) | skip)
        have H' := Aside0.mk H
        clear H
        have hcz28_0 : wc.cell? ⟨gb225, 0, none⟩ = some (.int .i64 a2_0) := (blk_cell BK225.out 0).trans rfl
        have hcz28_1 : wc.cell? ⟨gb225, 1, none⟩ = some (.int .i64 a2_1) := (blk_cell BK225.out 1).trans rfl
        have hcz28_2 : wc.cell? ⟨gb225, 2, none⟩ = some (.int .i64 a2_2) := (blk_cell BK225.out 2).trans rfl
        have hcz28_3 : wc.cell? ⟨gb225, 3, none⟩ = some (.int .i64 a2_3) := (blk_cell BK225.out 3).trans rfl
        have hcz28_4 : wc.cell? ⟨gb225, 4, none⟩ = some (.slice A2_4 l2_4.length c2_4) := (blk_cell BK225.out 4).trans rfl
        have hcz28_5 : wc.cell? ⟨gb225, 5, none⟩ = some (.slice A2_5 l2_5.length c2_5) := (blk_cell BK225.out 5).trans rfl
        have hfz28_0 := blk_frozen BK225.out 0
        have hfz28_1 := blk_frozen BK225.out 1
        have hfz28_2 := blk_frozen BK225.out 2
        have hfz28_3 := blk_frozen BK225.out 3
        have hfz28_4 := blk_frozen BK225.out 4
        have hfz28_5 := blk_frozen BK225.out 5
        go_wp2
        go_meet
        case rel => exact ⟨_, (true), (by first | rfl | (simp; done) | (simp [*]; done)), H', ⟨by have := HJ3.out; have := HJ13.out; first | omega | exact Nat.le_refl _⟩, ⟨by (with_reducible repeat (first | refine blk_drewN ?_ _ | refine blk_drew ?_ | refine blk_alloc ?_ _)); exact BK225.out⟩, ⟨by repeat (first | (with_reducible first | exact HB.out | apply below_alloc | apply pw_below_drewN | apply below_drew1 | refine below_set ?_ GE225.out) | exact HB.out)⟩⟩
       ·rw [if_neg c27] at H
        have c27b0 : decide (a2_0 < 0) = false := decide_eq_false c27
        clear c27
        (first | rw [c27b0] | (simp only [i64_w, i32_w]; rw [c27b0]) | skip)
        by_cases c29 : a2_0 ≥ (l0.length : Int)
        ·rw [if_pos c29] at H
         have c29b0 : decide ((l0.length : Int) ≤ a2_0) = true := decide_eq_true c29
         clear c29
         have H' := Aside0.mk H
         clear H
         have hcz30_0 : wc.cell? ⟨gb225, 0, none⟩ = some (.int .i64 a2_0) := (blk_cell BK225.out 0).trans rfl
         have hcz30_1 : wc.cell? ⟨gb225, 1, none⟩ = some (.int .i64 a2_1) := (blk_cell BK225.out 1).trans rfl
         have hcz30_2 : wc.cell? ⟨gb225, 2, none⟩ = some (.int .i64 a2_2) := (blk_cell BK225.out 2).trans rfl
         have hcz30_3 : wc.cell? ⟨gb225, 3, none⟩ = some (.int .i64 a2_3) := (blk_cell BK225.out 3).trans rfl
         have hcz30_4 : wc.cell? ⟨gb225, 4, none⟩ = some (.slice A2_4 l2_4.length c2_4) := (blk_cell BK225.out 4).trans rfl
         have hcz30_5 : wc.cell? ⟨gb225, 5, none⟩ = some (.slice A2_5 l2_5.length c2_5) := (blk_cell BK225.out 5).trans rfl
         have hfz30_0 := blk_frozen BK225.out 0
         have hfz30_1 := blk_frozen BK225.out 1
         have hfz30_2 := blk_frozen BK225.out 2
         have hfz30_3 := blk_frozen BK225.out 3
         have hfz30_4 := blk_frozen BK225.out 4
         have hfz30_5 := blk_frozen BK225.out 5
         go_wp2
         go_meet
         case rel => exact ⟨_, (true), (by first | rfl | (simp; done) | (simp [*]; done)), H', ⟨by have := HJ3.out; have := HJ13.out; first | omega | exact Nat.le_refl _⟩, ⟨by (with_reducible repeat (first | refine blk_drewN ?_ _ | refine blk_drew ?_ | refine blk_alloc ?_ _)); exact BK225.out⟩, ⟨by repeat (first | (with_reducible first | exact HB.out | apply below_alloc | apply pw_below_drewN | apply below_drew1 | refine below_set ?_ GE225.out) | exact HB.out)⟩⟩
        ·rw [if_neg c29] at H
         have c29b0 : decide ((l0.length : Int) ≤ a2_0) = false := decide_eq_false c29
         clear c29
         by_cases c31 : a2_3 = 1
         ·rw [if_pos c31] at H
          have c31b0 : (a2_3 == 1) = true := beq_iff_eq.mpr c31
          have c31b1 : (a2_3 != 1) = false := bne_eq_false_iff_eq.mpr c31
          clear c31
          by_cases c32 : 0 ≤ a2_0
          ·rw [if_pos c32] at H
           have c32b0 : decide (0 ≤ a2_0) = true := decide_eq_true c32
           clear c32
           by_cases c33 : a2_0 < (l0.length : Int)
           ·rw [if_pos c33] at H
            have c33b0 : decide (a2_0 < (l0.length : Int)) = true := decide_eq_true c33
            clear c33
            by_cases c34 : ((rd_T52 l0 a2_0).f0) = 17
            ·rw [if_pos c34] at H
             have c34b0 : (((rd_T52 l0 a2_0).f0) == 17) = true := beq_iff_eq.mpr c34
             have c34b1 : (((rd_T52 l0 a2_0).f0) != 17) = false := bne_eq_false_iff_eq.mpr c34
             clear c34
             by_cases c35 : a2_1 < 0
             ·rw [if_pos c35] at H
              have c35b0 : decide (a2_1 < 0) = true := decide_eq_true c35
              clear c35
              have H' := Aside0.mk H
              clear H
              have hcz36_0 : wc.cell? ⟨gb225, 0, none⟩ = some (.int .i64 a2_0) := (blk_cell BK225.out 0).trans rfl
              have hcz36_1 : wc.cell? ⟨gb225, 1, none⟩ = some (.int .i64 a2_1) := (blk_cell BK225.out 1).trans rfl
              have hcz36_2 : wc.cell? ⟨gb225, 2, none⟩ = some (.int .i64 a2_2) := (blk_cell BK225.out 2).trans rfl
              have hcz36_3 : wc.cell? ⟨gb225, 3, none⟩ = some (.int .i64 a2_3) := (blk_cell BK225.out 3).trans rfl
              have hcz36_4 : wc.cell? ⟨gb225, 4, none⟩ = some (.slice A2_4 l2_4.length c2_4) := (blk_cell BK225.out 4).trans rfl
              have hcz36_5 : wc.cell? ⟨gb225, 5, none⟩ = some (.slice A2_5 l2_5.length c2_5) := (blk_cell BK225.out 5).trans rfl
              have hfz36_0 := blk_frozen BK225.out 0
              have hfz36_1 := blk_frozen BK225.out 1
              have hfz36_2 := blk_frozen BK225.out 2
              have hfz36_3 := blk_frozen BK225.out 3
              have hfz36_4 := blk_frozen BK225.out 4
              have hfz36_5 := blk_frozen BK225.out 5
              have p226 : 0 ≤ (a2_0 : Int) := of_decide_eq_true (by first | (with_reducible assumption) | assumption)
              have q226 : a2_0 < (l0.length : Int) := of_decide_eq_true (by first | (with_reducible assumption) | assumption)
              obtain ⟨ad226, e226, hx226_0, hx226_1, hx226_2, hx226_3, hx226_4, hx226_5, hx226_6, hx226_7, hx226_8⟩ := at_T52 HR0.out a2_0 p226 q226
              cases e226
              replace hx226_0 := (HB.out.cell (World.block_lt_of_cell? w _ hx226_0)).trans hx226_0
              replace hx226_1 := (HB.out.cell (World.block_lt_of_cell? w _ hx226_1)).trans hx226_1
              replace hx226_2 := (HB.out.cell (World.block_lt_of_cell? w _ hx226_2)).trans hx226_2
              replace hx226_3 := (HB.out.cell (World.block_lt_of_cell? w _ hx226_3)).trans hx226_3
              replace hx226_4 := (HB.out.cell (World.block_lt_of_cell? w _ hx226_4)).trans hx226_4
              replace hx226_5 := (HB.out.cell (World.block_lt_of_cell? w _ hx226_5)).trans hx226_5
              replace hx226_6 := (HB.out.cell (World.block_lt_of_cell? w _ hx226_6)).trans hx226_6
              replace hx226_7 := (HB.out.cell (World.block_lt_of_cell? w _ hx226_7)).trans hx226_7
              replace hx226_8 := (HB.out.cell (World.block_lt_of_cell? w _ hx226_8)).trans hx226_8
              replace p226 := eq_true p226
              replace q226 := eq_true q226
              go_wp2
              go_meet
              case rel => exact ⟨_, (true), (by first | rfl | (simp; done) | (simp [*]; done)), H', ⟨by have := HJ3.out; have := HJ13.out; first | omega | exact Nat.le_refl _⟩, ⟨by (with_reducible repeat (first | refine blk_drewN ?_ _ | refine blk_drew ?_ | refine blk_alloc ?_ _)); exact BK225.out⟩, ⟨by repeat (first | (with_reducible first | exact HB.out | apply below_alloc | apply pw_below_drewN | apply below_drew1 | refine below_set ?_ GE225.out) | exact HB.out)⟩⟩
             ·rw [if_neg c35] at H
              have c35b0 : decide (a2_1 < 0) = false := decide_eq_false c35
              clear c35
              have H' := Aside0.mk H
              clear H
              have hcz37_0 : wc.cell? ⟨gb225, 0, none⟩ = some (.int .i64 a2_0) := (blk_cell BK225.out 0).trans rfl
              have hcz37_1 : wc.cell? ⟨gb225, 1, none⟩ = some (.int .i64 a2_1) := (blk_cell BK225.out 1).trans rfl
              have hcz37_2 : wc.cell? ⟨gb225, 2, none⟩ = some (.int .i64 a2_2) := (blk_cell BK225.out 2).trans rfl
              have hcz37_3 : wc.cell? ⟨gb225, 3, none⟩ = some (.int .i64 a2_3) := (blk_cell BK225.out 3).trans rfl
              have hcz37_4 : wc.cell? ⟨gb225, 4, none⟩ = some (.slice A2_4 l2_4.length c2_4) := (blk_cell BK225.out 4).trans rfl
              have hcz37_5 : wc.cell? ⟨gb225, 5, none⟩ = some (.slice A2_5 l2_5.length c2_5) := (blk_cell BK225.out 5).trans rfl
              have hfz37_0 := blk_frozen BK225.out 0
              have hfz37_1 := blk_frozen BK225.out 1
              have hfz37_2 := blk_frozen BK225.out 2
              have hfz37_3 := blk_frozen BK225.out 3
              have hfz37_4 := blk_frozen BK225.out 4
              have hfz37_5 := blk_frozen BK225.out 5
              have p226 : 0 ≤ (a2_0 : Int) := of_decide_eq_true (by first | (with_reducible assumption) | assumption)
              have q226 : a2_0 < (l0.length : Int) := of_decide_eq_true (by first | (with_reducible assumption) | assumption)
              obtain ⟨ad226, e226, hx226_0, hx226_1, hx226_2, hx226_3, hx226_4, hx226_5, hx226_6, hx226_7, hx226_8⟩ := at_T52 HR0.out a2_0 p226 q226
              cases e226
              replace hx226_0 := (HB.out.cell (World.block_lt_of_cell? w _ hx226_0)).trans hx226_0
              replace hx226_1 := (HB.out.cell (World.block_lt_of_cell? w _ hx226_1)).trans hx226_1
              replace hx226_2 := (HB.out.cell (World.block_lt_of_cell? w _ hx226_2)).trans hx226_2
              replace hx226_3 := (HB.out.cell (World.block_lt_of_cell? w _ hx226_3)).trans hx226_3
              replace hx226_4 := (HB.out.cell (World.block_lt_of_cell? w _ hx226_4)).trans hx226_4
              replace hx226_5 := (HB.out.cell (World.block_lt_of_cell? w _ hx226_5)).trans hx226_5
              replace hx226_6 := (HB.out.cell (World.block_lt_of_cell? w _ hx226_6)).trans hx226_6
              replace hx226_7 := (HB.out.cell (World.block_lt_of_cell? w _ hx226_7)).trans hx226_7
              replace hx226_8 := (HB.out.cell (World.block_lt_of_cell? w _ hx226_8)).trans hx226_8
              replace p226 := eq_true p226
              replace q226 := eq_true q226
              go_wp2
              go_meet
              case rel => exact ⟨_, (decide (a2_1 > (a1.size : Int))), (by first | rfl | (simp; done) | (simp [*]; done)), H', ⟨by have := HJ3.out; have := HJ13.out; first | omega | exact Nat.le_refl _⟩, ⟨by (with_reducible repeat (first | refine blk_drewN ?_ _ | refine blk_drew ?_ | refine blk_alloc ?_ _)); exact BK225.out⟩, ⟨by repeat (first | (with_reducible first | exact HB.out | apply below_alloc | apply pw_below_drewN | apply below_drew1 | refine below_set ?_ GE225.out) | exact HB.out)⟩⟩
            ·rw [if_neg c34] at H
             have c34b0 : (((rd_T52 l0 a2_0).f0) == 17) = false := beq_eq_false_iff_ne.mpr c34
             have c34b1 : (((rd_T52 l0 a2_0).f0) != 17) = true := bne_iff_ne.mpr c34
             have H' := Aside0.mk H
             clear H
             have hcz38_0 : wc.cell? ⟨gb225, 0, none⟩ = some (.int .i64 a2_0) := (blk_cell BK225.out 0).trans rfl
             have hcz38_1 : wc.cell? ⟨gb225, 1, none⟩ = some (.int .i64 a2_1) := (blk_cell BK225.out 1).trans rfl
             have hcz38_2 : wc.cell? ⟨gb225, 2, none⟩ = some (.int .i64 a2_2) := (blk_cell BK225.out 2).trans rfl
             have hcz38_3 : wc.cell? ⟨gb225, 3, none⟩ = some (.int .i64 a2_3) := (blk_cell BK225.out 3).trans rfl
             have hcz38_4 : wc.cell? ⟨gb225, 4, none⟩ = some (.slice A2_4 l2_4.length c2_4) := (blk_cell BK225.out 4).trans rfl
             have hcz38_5 : wc.cell? ⟨gb225, 5, none⟩ = some (.slice A2_5 l2_5.length c2_5) := (blk_cell BK225.out 5).trans rfl
             have hfz38_0 := blk_frozen BK225.out 0
             have hfz38_1 := blk_frozen BK225.out 1
             have hfz38_2 := blk_frozen BK225.out 2
             have hfz38_3 := blk_frozen BK225.out 3
             have hfz38_4 := blk_frozen BK225.out 4
             have hfz38_5 := blk_frozen BK225.out 5
             have p226 : 0 ≤ (a2_0 : Int) := of_decide_eq_true (by first | (with_reducible assumption) | assumption)
             have q226 : a2_0 < (l0.length : Int) := of_decide_eq_true (by first | (with_reducible assumption) | assumption)
             obtain ⟨ad226, e226, hx226_0, hx226_1, hx226_2, hx226_3, hx226_4, hx226_5, hx226_6, hx226_7, hx226_8⟩ := at_T52 HR0.out a2_0 p226 q226
             cases e226
             replace hx226_0 := (HB.out.cell (World.block_lt_of_cell? w _ hx226_0)).trans hx226_0
             replace hx226_1 := (HB.out.cell (World.block_lt_of_cell? w _ hx226_1)).trans hx226_1
             replace hx226_2 := (HB.out.cell (World.block_lt_of_cell? w _ hx226_2)).trans hx226_2
             replace hx226_3 := (HB.out.cell (World.block_lt_of_cell? w _ hx226_3)).trans hx226_3
             replace hx226_4 := (HB.out.cell (World.block_lt_of_cell? w _ hx226_4)).trans hx226_4
             replace hx226_5 := (HB.out.cell (World.block_lt_of_cell? w _ hx226_5)).trans hx226_5
             replace hx226_6 := (HB.out.cell (World.block_lt_of_cell? w _ hx226_6)).trans hx226_6
             replace hx226_7 := (HB.out.cell (World.block_lt_of_cell? w _ hx226_7)).trans hx226_7
             replace hx226_8 := (HB.out.cell (World.block_lt_of_cell? w _ hx226_8)).trans hx226_8
             replace p226 := eq_true p226
             replace q226 := eq_true q226
             go_wp2
             go_meet
             case rel => exact ⟨_, (true), (by first | rfl | (simp; done) | (simp [*]; done)), H', ⟨by have := HJ3.out; have := HJ13.out; first | omega | exact Nat.le_refl _⟩, ⟨by (with_reducible repeat (first | refine blk_drewN ?_ _ | refine blk_drew ?_ | refine blk_alloc ?_ _)); exact BK225.out⟩, ⟨by repeat (first | (with_reducible first | exact HB.out | apply below_alloc | apply pw_below_drewN | apply below_drew1 | refine below_set ?_ GE225.out) | exact HB.out)⟩⟩
           ·rw [if_neg c33] at H
            exact absurd H (by simp)
          ·rw [if_neg c32] at H
           exact absurd H (by simp)
         ·rw [if_neg c31] at H
          have c31b0 : (a2_3 == 1) = false := beq_eq_false_iff_ne.mpr c31
          have c31b1 : (a2_3 != 1) = true := bne_iff_ne.mpr c31
          by_cases c39 : a2_1 < 0
          ·rw [if_pos c39] at H
           have c39b0 : decide (a2_1 < 0) = true := decide_eq_true c39
           clear c39
           have H' := Aside0.mk H
           clear H
           have hcz40_0 : wc.cell? ⟨gb225, 0, none⟩ = some (.int .i64 a2_0) := (blk_cell BK225.out 0).trans rfl
           have hcz40_1 : wc.cell? ⟨gb225, 1, none⟩ = some (.int .i64 a2_1) := (blk_cell BK225.out 1).trans rfl
           have hcz40_2 : wc.cell? ⟨gb225, 2, none⟩ = some (.int .i64 a2_2) := (blk_cell BK225.out 2).trans rfl
           have hcz40_3 : wc.cell? ⟨gb225, 3, none⟩ = some (.int .i64 a2_3) := (blk_cell BK225.out 3).trans rfl
           have hcz40_4 : wc.cell? ⟨gb225, 4, none⟩ = some (.slice A2_4 l2_4.length c2_4) := (blk_cell BK225.out 4).trans rfl
           have hcz40_5 : wc.cell? ⟨gb225, 5, none⟩ = some (.slice A2_5 l2_5.length c2_5) := (blk_cell BK225.out 5).trans rfl
           have hfz40_0 := blk_frozen BK225.out 0
           have hfz40_1 := blk_frozen BK225.out 1
           have hfz40_2 := blk_frozen BK225.out 2
           have hfz40_3 := blk_frozen BK225.out 3
           have hfz40_4 := blk_frozen BK225.out 4
           have hfz40_5 := blk_frozen BK225.out 5
           go_wp2
           go_meet
           case rel => exact ⟨_, (true), (by first | rfl | (simp; done) | (simp [*]; done)), H', ⟨by have := HJ3.out; have := HJ13.out; first | omega | exact Nat.le_refl _⟩, ⟨by (with_reducible repeat (first | refine blk_drewN ?_ _ | refine blk_drew ?_ | refine blk_alloc ?_ _)); exact BK225.out⟩, ⟨by repeat (first | (with_reducible first | exact HB.out | apply below_alloc | apply pw_below_drewN | apply below_drew1 | refine below_set ?_ GE225.out) | exact HB.out)⟩⟩
          ·rw [if_neg c39] at H
           have c39b0 : decide (a2_1 < 0) = false := decide_eq_false c39
           clear c39
           have H' := Aside0.mk H
           clear H
           have hcz41_0 : wc.cell? ⟨gb225, 0, none⟩ = some (.int .i64 a2_0) := (blk_cell BK225.out 0).trans rfl
           have hcz41_1 : wc.cell? ⟨gb225, 1, none⟩ = some (.int .i64 a2_1) := (blk_cell BK225.out 1).trans rfl
           have hcz41_2 : wc.cell? ⟨gb225, 2, none⟩ = some (.int .i64 a2_2) := (blk_cell BK225.out 2).trans rfl
           have hcz41_3 : wc.cell? ⟨gb225, 3, none⟩ = some (.int .i64 a2_3) := (blk_cell BK225.out 3).trans rfl
           have hcz41_4 : wc.cell? ⟨gb225, 4, none⟩ = some (.slice A2_4 l2_4.length c2_4) := (blk_cell BK225.out 4).trans rfl
           have hcz41_5 : wc.cell? ⟨gb225, 5, none⟩ = some (.slice A2_5 l2_5.length c2_5) := (blk_cell BK225.out 5).trans rfl
           have hfz41_0 := blk_frozen BK225.out 0
           have hfz41_1 := blk_frozen BK225.out 1
           have hfz41_2 := blk_frozen BK225.out 2
           have hfz41_3 := blk_frozen BK225.out 3
           have hfz41_4 := blk_frozen BK225.out 4
           have hfz41_5 := blk_frozen BK225.out 5
           go_wp2
           go_meet
           case rel => exact ⟨_, (decide (a2_1 > (a1.size : Int))), (by first | rfl | (simp; done) | (simp [*]; done)), H', ⟨by have := HJ3.out; have := HJ13.out; first | omega | exact Nat.le_refl _⟩, ⟨by (with_reducible repeat (first | refine blk_drewN ?_ _ | refine blk_drew ?_ | refine blk_alloc ?_ _)); exact BK225.out⟩, ⟨by repeat (first | (with_reducible first | exact HB.out | apply below_alloc | apply pw_below_drewN | apply below_drew1 | refine below_set ?_ GE225.out) | exact HB.out)⟩⟩
      case rest =>
       clear HC26
       try clear c1
       try clear c2
       try clear p2
       try clear q2
       try clear hx2
       try clear c3
       try clear c6
       try clear c6b0
       try clear c8
       try clear c8b0
       try clear c10
       try clear c10b0
       try clear c10b1
       try clear c13
       try clear c16
       try clear c16b0
       try clear c16b1
       try clear c17
       try clear c17b0
       try clear c17b1
       try clear c18
       try clear c18b0
       try clear c18b1
       try clear c19
       try clear c19b0
       try clear c19b1
       try clear c19b2
       try clear p22
       try clear q22
       try clear hx22
       try clear c23
       try clear c24
       try clear c24b0
       try clear c24b1
       try clear c25
       try clear c25b0
       try clear c25b1
       try clear c27
       try clear c27b0
       try clear c29
       try clear c29b0
       try clear c31
       try clear c31b0
       try clear c31b1
       try clear c32
       try clear c32b0
       try clear c33
       try clear c33b0
       try clear c34
       try clear c34b0
       try clear c34b1
       try clear c35
       try clear c35b0
       try clear c39
       try clear c39b0
       try clear hcz11_0
       try clear hcz11_1
       try clear hcz11_2
       try clear hcz11_3
       try clear hcz11_4
       try clear hcz11_5
       try clear hcz12_0
       try clear hcz12_1
       try clear hcz12_2
       try clear hcz12_3
       try clear hcz12_4
       try clear hcz12_5
       try clear hcz15_0
       try clear hcz15_1
       try clear hcz15_2
       try clear hcz15_3
       try clear hcz15_4
       try clear hcz15_5
       try clear hcz20_0
       try clear hcz20_1
       try clear hcz20_2
       try clear hcz20_3
       try clear hcz20_4
       try clear hcz20_5
       try clear hcz21_0
       try clear hcz21_1
       try clear hcz21_2
       try clear hcz21_3
       try clear hcz21_4
       try clear hcz21_5
       try clear hcz22_0
       try clear hcz22_1
       try clear hcz22_2
       try clear hcz22_3
       try clear hcz22_4
       try clear hcz22_5
       try clear hcz23_0
       try clear hcz23_1
       try clear hcz23_2
       try clear hcz23_3
       try clear hcz23_4
       try clear hcz23_5
       try clear hcz28_0
       try clear hcz28_1
       try clear hcz28_2
       try clear hcz28_3
       try clear hcz28_4
       try clear hcz28_5
       try clear hcz30_0
       try clear hcz30_1
       try clear hcz30_2
       try clear hcz30_3
       try clear hcz30_4
       try clear hcz30_5
       try clear hcz36_0
       try clear hcz36_1
       try clear hcz36_2
       try clear hcz36_3
       try clear hcz36_4
       try clear hcz36_5
       try clear hcz37_0
       try clear hcz37_1
       try clear hcz37_2
       try clear hcz37_3
       try clear hcz37_4
       try clear hcz37_5
       try clear hcz38_0
       try clear hcz38_1
       try clear hcz38_2
       try clear hcz38_3
       try clear hcz38_4
       try clear hcz38_5
       try clear hcz40_0
       try clear hcz40_1
       try clear hcz40_2
       try clear hcz40_3
       try clear hcz40_4
       try clear hcz40_5
       try clear hcz41_0
       try clear hcz41_1
       try clear hcz41_2
       try clear hcz41_3
       try clear hcz41_4
       try clear hcz41_5
       try clear hcz7_0
       try clear hcz7_1
       try clear hcz7_2
       try clear hcz7_3
       try clear hcz7_4
       try clear hcz7_5
       try clear hcz9_0
       try clear hcz9_1
       try clear hcz9_2
       try clear hcz9_3
       try clear hcz9_4
       try clear hcz9_5
       try clear hfz11_0
       try clear hfz11_1
       try clear hfz11_2
       try clear hfz11_3
       try clear hfz11_4
       try clear hfz11_5
       try clear hfz12_0
       try clear hfz12_1
       try clear hfz12_2
       try clear hfz12_3
       try clear hfz12_4
       try clear hfz12_5
       try clear hfz15_0
       try clear hfz15_1
       try clear hfz15_2
       try clear hfz15_3
       try clear hfz15_4
       try clear hfz15_5
       try clear hfz20_0
       try clear hfz20_1
       try clear hfz20_2
       try clear hfz20_3
       try clear hfz20_4
       try clear hfz20_5
       try clear hfz21_0
       try clear hfz21_1
       try clear hfz21_2
       try clear hfz21_3
       try clear hfz21_4
       try clear hfz21_5
       try clear hfz22_0
       try clear hfz22_1
       try clear hfz22_2
       try clear hfz22_3
       try clear hfz22_4
       try clear hfz22_5
       try clear hfz23_0
       try clear hfz23_1
       try clear hfz23_2
       try clear hfz23_3
       try clear hfz23_4
       try clear hfz23_5
       try clear hfz28_0
       try clear hfz28_1
       try clear hfz28_2
       try clear hfz28_3
       try clear hfz28_4
       try clear hfz28_5
       try clear hfz30_0
       try clear hfz30_1
       try clear hfz30_2
       try clear hfz30_3
       try clear hfz30_4
       try clear hfz30_5
       try clear hfz36_0
       try clear hfz36_1
       try clear hfz36_2
       try clear hfz36_3
       try clear hfz36_4
       try clear hfz36_5
       try clear hfz37_0
       try clear hfz37_1
       try clear hfz37_2
       try clear hfz37_3
       try clear hfz37_4
       try clear hfz37_5
       try clear hfz38_0
       try clear hfz38_1
       try clear hfz38_2
       try clear hfz38_3
       try clear hfz38_4
       try clear hfz38_5
       try clear hfz40_0
       try clear hfz40_1
       try clear hfz40_2
       try clear hfz40_3
       try clear hfz40_4
       try clear hfz40_5
       try clear hfz41_0
       try clear hfz41_1
       try clear hfz41_2
       try clear hfz41_3
       try clear hfz41_4
       try clear hfz41_5
       try clear hfz7_0
       try clear hfz7_1
       try clear hfz7_2
       try clear hfz7_3
       try clear hfz7_4
       try clear hfz7_5
       try clear hfz9_0
       try clear hfz9_1
       try clear hfz9_2
       try clear hfz9_3
       try clear hfz9_4
       try clear hfz9_5
       try clear hx226_0
       try clear hx226_1
       try clear hx226_2
       try clear hx226_3
       try clear hx226_4
       try clear hx226_5
       try clear hx226_6
       try clear hx226_7
       try clear hx226_8
       try clear p2
       try clear p226
       try clear q226
       obtain ⟨kq, x91_25, rfl, HA, HJ25, BK225, HB⟩ := hcut
       cases kq with
       | zero => exact absurd HA.out (by simp [steps_may.j2])
       | succ kj25 =>
        have H := HA.out
        clear HA
        simp only [steps_may.j2] at H
        by_cases c42 : x91_25 = true
        ·subst c42
         have H1 : (some false) = some r := by rw [if_pos rfl] at H; exact H
         clear H
         have H := H1
         clear H1
         obtain rfl := Option.some.inj H
         go_wp2
         go_ret
         exact ⟨by first | rfl | (simp [errW_none, errW_some] <;> rfl) | (simp [*, errW_none, errW_some] <;> rfl), by repeat (first | (with_reducible first | exact HB.out | apply below_alloc | apply pw_below_drewN | apply below_drew1 | refine below_set ?_ GE225.out) | exact HB.out)⟩
        ·replace c42 := Bool.eq_false_iff.mpr c42
         subst c42
         have H1 : (steps_may.l0 kj25 l0 a1 l2_5 (l2_5.length : Int) 0 a2_0 a2_1 a2_2 a2_3 l2_4 l2_5) = some r := by rw [if_neg (show ¬ (false = true) by decide)] at H; exact H
         clear H
         have H := H1
         clear H1
         have H' := Aside0.mk H
         clear H
         have hcz43_0 : wc.cell? ⟨gb225, 0, none⟩ = some (.int .i64 a2_0) := (blk_cell BK225.out 0).trans rfl
         have hcz43_1 : wc.cell? ⟨gb225, 1, none⟩ = some (.int .i64 a2_1) := (blk_cell BK225.out 1).trans rfl
         have hcz43_2 : wc.cell? ⟨gb225, 2, none⟩ = some (.int .i64 a2_2) := (blk_cell BK225.out 2).trans rfl
         have hcz43_3 : wc.cell? ⟨gb225, 3, none⟩ = some (.int .i64 a2_3) := (blk_cell BK225.out 3).trans rfl
         have hcz43_4 : wc.cell? ⟨gb225, 4, none⟩ = some (.slice A2_4 l2_4.length c2_4) := (blk_cell BK225.out 4).trans rfl
         have hcz43_5 : wc.cell? ⟨gb225, 5, none⟩ = some (.slice A2_5 l2_5.length c2_5) := (blk_cell BK225.out 5).trans rfl
         have hfz43_0 := blk_frozen BK225.out 0
         have hfz43_1 := blk_frozen BK225.out 1
         have hfz43_2 := blk_frozen BK225.out 2
         have hfz43_3 := blk_frozen BK225.out 3
         have hfz43_4 := blk_frozen BK225.out 4
         have hfz43_5 := blk_frozen BK225.out 5
         go_wp2
         go_loopg [95] kj25 (fun kq v95 w' => ∃ (x95_4 : Int), v95 = .int .i64 x95_4 ∧ Aside0 (steps_may.l0 kq l0 a1 l2_5 (l2_5.length : Int) x95_4 a2_0 a2_1 a2_2 a2_3 l2_4 l2_5 = some r) ∧ Aside0 (kq ≤ kj25) ∧ Aside0 (w'.heap[gb225]? = some (.cells #[.int .i64 a2_0, .int .i64 a2_1, .int .i64 a2_2, .int .i64 a2_3, (.slice A2_4 l2_4.length c2_4), (.slice A2_5 l2_5.length c2_5)] 31 (0, 0))) ∧ Aside0 (Below w.heap.size w w'))
         case atStart => exact ⟨(0), (by first | rfl | (simp; done) | (simp [*]; done)), H', ⟨Nat.le_refl _⟩, ⟨by (with_reducible repeat (first | refine blk_drewN ?_ _ | refine blk_drew ?_ | refine blk_alloc ?_ _)); exact BK225.out⟩, ⟨by repeat (first | (with_reducible first | exact HB.out | apply below_alloc | apply pw_below_drewN | apply below_drew1 | refine below_set ?_ GE225.out) | exact HB.out)⟩⟩
         case round =>
          clear H'
          try clear c1
          try clear c2
          try clear p2
          try clear q2
          try clear hx2
          try clear c3
          try clear c4
          try clear c6
          try clear c6b0
          try clear c8
          try clear c8b0
          try clear c10
          try clear c10b0
          try clear c10b1
          try clear c13
          try clear c16
          try clear c16b0
          try clear c16b1
          try clear c17
          try clear c17b0
          try clear c17b1
          try clear c18
          try clear c18b0
          try clear c18b1
          try clear c19
          try clear c19b0
          try clear c19b1
          try clear c19b2
          try clear p22
          try clear q22
          try clear hx22
          try clear c23
          try clear c24
          try clear c24b0
          try clear c24b1
          try clear c25
          try clear c25b0
          try clear c25b1
          try clear c27
          try clear c27b0
          try clear c29
          try clear c29b0
          try clear c31
          try clear c31b0
          try clear c31b1
          try clear c32
          try clear c32b0
          try clear c33
          try clear c33b0
          try clear c34
          try clear c34b0
          try clear c34b1
          try clear c35
          try clear c35b0
          try clear c39
          try clear c39b0
          try clear c42
          try clear hcz11_0
          try clear hcz11_1
          try clear hcz11_2
          try clear hcz11_3
          try clear hcz11_4
          try clear hcz11_5
          try clear hcz12_0
          try clear hcz12_1
          try clear hcz12_2
          try clear hcz12_3
          try clear hcz12_4
          try clear hcz12_5
          try clear hcz15_0
          try clear hcz15_1
          try clear hcz15_2
          try clear hcz15_3
          try clear hcz15_4
          try clear hcz15_5
          try clear hcz20_0
          try clear hcz20_1
          try clear hcz20_2
          try clear hcz20_3
          try clear hcz20_4
          try clear hcz20_5
          try clear hcz21_0
          try clear hcz21_1
          try clear hcz21_2
          try clear hcz21_3
          try clear hcz21_4
          try clear hcz21_5
          try clear hcz22_0
          try clear hcz22_1
          try clear hcz22_2
          try clear hcz22_3
          try clear hcz22_4
          try clear hcz22_5
          try clear hcz23_0
          try clear hcz23_1
          try clear hcz23_2
          try clear hcz23_3
          try clear hcz23_4
          try clear hcz23_5
          try clear hcz28_0
          try clear hcz28_1
          try clear hcz28_2
          try clear hcz28_3
          try clear hcz28_4
          try clear hcz28_5
          try clear hcz30_0
          try clear hcz30_1
          try clear hcz30_2
          try clear hcz30_3
          try clear hcz30_4
          try clear hcz30_5
          try clear hcz36_0
          try clear hcz36_1
          try clear hcz36_2
          try clear hcz36_3
          try clear hcz36_4
          try clear hcz36_5
          try clear hcz37_0
          try clear hcz37_1
          try clear hcz37_2
          try clear hcz37_3
          try clear hcz37_4
          try clear hcz37_5
          try clear hcz38_0
          try clear hcz38_1
          try clear hcz38_2
          try clear hcz38_3
          try clear hcz38_4
          try clear hcz38_5
          try clear hcz40_0
          try clear hcz40_1
          try clear hcz40_2
          try clear hcz40_3
          try clear hcz40_4
          try clear hcz40_5
          try clear hcz41_0
          try clear hcz41_1
          try clear hcz41_2
          try clear hcz41_3
          try clear hcz41_4
          try clear hcz41_5
          try clear hcz43_0
          try clear hcz43_1
          try clear hcz43_2
          try clear hcz43_3
          try clear hcz43_4
          try clear hcz43_5
          try clear hcz7_0
          try clear hcz7_1
          try clear hcz7_2
          try clear hcz7_3
          try clear hcz7_4
          try clear hcz7_5
          try clear hcz9_0
          try clear hcz9_1
          try clear hcz9_2
          try clear hcz9_3
          try clear hcz9_4
          try clear hcz9_5
          try clear hfz11_0
          try clear hfz11_1
          try clear hfz11_2
          try clear hfz11_3
          try clear hfz11_4
          try clear hfz11_5
          try clear hfz12_0
          try clear hfz12_1
          try clear hfz12_2
          try clear hfz12_3
          try clear hfz12_4
          try clear hfz12_5
          try clear hfz15_0
          try clear hfz15_1
          try clear hfz15_2
          try clear hfz15_3
          try clear hfz15_4
          try clear hfz15_5
          try clear hfz20_0
          try clear hfz20_1
          try clear hfz20_2
          try clear hfz20_3
          try clear hfz20_4
          try clear hfz20_5
          try clear hfz21_0
          try clear hfz21_1
          try clear hfz21_2
          try clear hfz21_3
          try clear hfz21_4
          try clear hfz21_5
          try clear hfz22_0
          try clear hfz22_1
          try clear hfz22_2
          try clear hfz22_3
          try clear hfz22_4
          try clear hfz22_5
          try clear hfz23_0
          try clear hfz23_1
          try clear hfz23_2
          try clear hfz23_3
          try clear hfz23_4
          try clear hfz23_5
          try clear hfz28_0
          try clear hfz28_1
          try clear hfz28_2
          try clear hfz28_3
          try clear hfz28_4
          try clear hfz28_5
          try clear hfz30_0
          try clear hfz30_1
          try clear hfz30_2
          try clear hfz30_3
          try clear hfz30_4
          try clear hfz30_5
          try clear hfz36_0
          try clear hfz36_1
          try clear hfz36_2
          try clear hfz36_3
          try clear hfz36_4
          try clear hfz36_5
          try clear hfz37_0
          try clear hfz37_1
          try clear hfz37_2
          try clear hfz37_3
          try clear hfz37_4
          try clear hfz37_5
          try clear hfz38_0
          try clear hfz38_1
          try clear hfz38_2
          try clear hfz38_3
          try clear hfz38_4
          try clear hfz38_5
          try clear hfz40_0
          try clear hfz40_1
          try clear hfz40_2
          try clear hfz40_3
          try clear hfz40_4
          try clear hfz40_5
          try clear hfz41_0
          try clear hfz41_1
          try clear hfz41_2
          try clear hfz41_3
          try clear hfz41_4
          try clear hfz41_5
          try clear hfz43_0
          try clear hfz43_1
          try clear hfz43_2
          try clear hfz43_3
          try clear hfz43_4
          try clear hfz43_5
          try clear hfz7_0
          try clear hfz7_1
          try clear hfz7_2
          try clear hfz7_3
          try clear hfz7_4
          try clear hfz7_5
          try clear hfz9_0
          try clear hfz9_1
          try clear hfz9_2
          try clear hfz9_3
          try clear hfz9_4
          try clear hfz9_5
          try clear hx226_0
          try clear hx226_1
          try clear hx226_2
          try clear hx226_3
          try clear hx226_4
          try clear hx226_5
          try clear hx226_6
          try clear hx226_7
          try clear hx226_8
          try clear p2
          try clear p22
          try clear p226
          try clear q2
          try clear q22
          try clear q226
          obtain ⟨x95_4, rfl, HA, HK4, BK225, HB⟩ := hrel
          cases gk with
          | zero => exact absurd HA.out (by simp [steps_may.l0])
          | succ k4 =>
           have H := HA.out
           clear HA
           simp only [steps_may.l0] at H
           by_cases c44 : x95_4 < (l2_5.length : Int)
           ·rw [if_pos c44] at H
            have c44b0 : decide (x95_4 < (l2_5.length : Int)) = true := decide_eq_true c44
            clear c44
            by_cases c45 : 0 ≤ x95_4
            ·rw [if_pos c45] at H
             have c45b0 : decide (0 ≤ x95_4) = true := decide_eq_true c45
             clear c45
             by_cases c46 : x95_4 < (l2_5.length : Int)
             ·rw [if_pos c46] at H
              have c46b0 : decide (x95_4 < (l2_5.length : Int)) = true := decide_eq_true c46
              clear c46
              replace H := Option.bind_eq_some_iff.mp H
              obtain ⟨t229, A470, H⟩ := H
              replace H : (if t229 = true then (steps_may.l0 k4 l0 a1 l2_5 (l2_5.length : Int) (wrap64 (x95_4 + 1)) a2_0 a2_1 a2_2 a2_3 l2_4 l2_5) else (some false)) = some r := H
              have A47 := Aside0.mk A470
              clear A470
              by_cases c48 : t229 = true
              ·subst c48
               have H1 : (steps_may.l0 k4 l0 a1 l2_5 (l2_5.length : Int) (wrap64 (x95_4 + 1)) a2_0 a2_1 a2_2 a2_3 l2_4 l2_5) = some r := by rw [if_pos rfl] at H; exact H
               clear H
               have H := H1
               clear H1
               have H' := Aside0.mk H
               clear H
               have p227 : 0 ≤ (x95_4 : Int) := of_decide_eq_true (by first | (with_reducible assumption) | assumption)
               have q227 : x95_4 < (l2_5.length : Int) := of_decide_eq_true (by first | (with_reducible assumption) | assumption)
               obtain ⟨ad227, e227, hx227_0, hx227_1, hx227_2, hx227_3, hx227_4, hx227_5⟩ := at_T57 HR2_5.out x95_4 p227 q227
               cases e227
               replace hx227_0 := (HB.out.cell (World.block_lt_of_cell? w _ hx227_0)).trans hx227_0
               replace hx227_1 := (HB.out.cell (World.block_lt_of_cell? w _ hx227_1)).trans hx227_1
               replace hx227_2 := (HB.out.cell (World.block_lt_of_cell? w _ hx227_2)).trans hx227_2
               replace hx227_3 := (HB.out.cell (World.block_lt_of_cell? w _ hx227_3)).trans hx227_3
               replace hx227_4 := (HB.out.cell (World.block_lt_of_cell? w _ hx227_4)).trans hx227_4
               replace hx227_5 := (HB.out.cell (World.block_lt_of_cell? w _ hx227_5)).trans hx227_5
               replace p227 := eq_true p227
               replace q227 := eq_true q227
               go_wp2_with (first | ((with_reducible refine gate_dst (N := 8) rfl ?_); (try (refine gate_guard (by rfl) ?_; dsimp only)); refine box_event ?hg (N := 8) ?hd (cs := #[.int .i64 0, .int .i64 0, .int .i64 0, .int .i64 0, .int .i64 0, .string (⟨#[]⟩ : ByteArray)]) (t := 57) ?hr ?_; (case hd => rfl); (case hg => rfl); (case hr => first | (go_simp; done) | (go_simp; rfl)); intro gb228 hg w49 hbox hb; have n0_ := Aside0.mk (blk_below (g := gb225) (o := .cells #[.int .i64 a2_0, .int .i64 a2_1, .int .i64 a2_2, .int .i64 a2_3, .slice A2_4 l2_4.length c2_4, .slice (some ad227) l2_5.length c2_5] 31 (0, 0)) (by (with_reducible repeat (first | refine blk_drewN ?_ _ | refine blk_drew ?_ | refine blk_alloc ?_ _)); exact BK225.out) hb); have n1_ := Aside0.mk (below_step (by repeat (first | (with_reducible first | exact HB.out | apply below_alloc | apply pw_below_drewN | apply below_drew1 | refine below_set ?_ GE225.out) | exact HB.out)) hb); have n2_ := Aside0.mk (hbox); have n3_ := Aside0.mk ((by rw [hg]; exact (below_size (by repeat (first | (with_reducible first | exact HB.out | apply below_alloc | apply pw_below_drewN | apply below_drew1 | refine below_set ?_ GE225.out) | exact HB.out))) : w.heap.size ≤ gb228)); have n4_ := Aside0.mk ((by rw [hg]; exact (below_size (by repeat (first | (with_reducible first | exact HB.out | apply below_alloc | apply pw_below_drewN | apply below_drew1 | refine below_set ?_ GE225.out) | exact HB.out))) : w.heap.size ≤ gb228)); have n5_ := Aside0.mk ((by rw [hg]; exact Nat.ne_of_lt (blk_lt (g := gb225) (o := .cells #[.int .i64 a2_0, .int .i64 a2_1, .int .i64 a2_2, .int .i64 a2_3, .slice A2_4 l2_4.length c2_4, .slice (some ad227) l2_5.length c2_5] 31 (0, 0)) (by (with_reducible repeat (first | refine blk_drewN ?_ _ | refine blk_drew ?_ | refine blk_alloc ?_ _)); exact BK225.out)) : gb225 ≠ gb228)); have n6_ := Aside0.mk ((by rw [hg]; exact Nat.ne_of_gt (blk_lt (g := gb225) (o := .cells #[.int .i64 a2_0, .int .i64 a2_1, .int .i64 a2_2, .int .i64 a2_3, .slice A2_4 l2_4.length c2_4, .slice (some ad227) l2_5.length c2_5] 31 (0, 0)) (by (with_reducible repeat (first | refine blk_drewN ?_ _ | refine blk_drew ?_ | refine blk_alloc ?_ _)); exact BK225.out)) : gb228 ≠ gb225)); clear BK225; clear HB; have BK225 := n0_; have HB := n1_; have BK228 := n2_; have GW228 := n3_; have GE228 := n4_; have NB225_228 := n5_; have NB228_225 := n6_; clear n0_ n1_ n2_ n3_ n4_ n5_ n6_; clear hb hbox hg; have hnb50 := NB228_225.out; have hnc50 := NB225_228.out; have hcz51_0 : w49.cell? ⟨gb228, 0, none⟩ = some (.int .i64 0) := (blk_cell BK228.out 0).trans rfl; have hcz51_1 : w49.cell? ⟨gb228, 1, none⟩ = some (.int .i64 0) := (blk_cell BK228.out 1).trans rfl; have hcz51_2 : w49.cell? ⟨gb228, 2, none⟩ = some (.int .i64 0) := (blk_cell BK228.out 2).trans rfl; have hcz51_3 : w49.cell? ⟨gb228, 3, none⟩ = some (.int .i64 0) := (blk_cell BK228.out 3).trans rfl; have hcz51_4 : w49.cell? ⟨gb228, 4, none⟩ = some (.int .i64 0) := (blk_cell BK228.out 4).trans rfl; have hcz51_5 : w49.cell? ⟨gb228, 5, none⟩ = some (.string (⟨#[]⟩ : ByteArray)) := (blk_cell BK228.out 5).trans rfl; have hfz51_0 := blk_frozen BK228.out 0; have hfz51_1 := blk_frozen BK228.out 1; have hfz51_2 := blk_frozen BK228.out 2; have hfz51_3 := blk_frozen BK228.out 3; have hfz51_4 := blk_frozen BK228.out 4; have hfz51_5 := blk_frozen BK228.out 5) | ((with_reducible refine gate_callee (f := 39) rfl ?_); refine goesL_ (some 102) rfl rfl Tryd.func39 (by kernel_rfl) rfl #[.agg #[.int .i64 ((rd_T57 l2_5 x95_4).f0), .int .i64 ((rd_T57 l2_5 x95_4).f1), .int .i64 ((rd_T57 l2_5 x95_4).f2), .int .i64 ((rd_T57 l2_5 x95_4).f3), .int .i64 ((rd_T57 l2_5 x95_4).f4), .string ((rd_T57 l2_5 x95_4).f5)], .int .i64 (a1.size : Int)] rfl (by (try simp only [List.map_toArray, List.map_cons, List.map_nil]); first | done | rfl | (simp only [List.length_drop, List.length_take]; rfl)) ?_; (with_reducible refine (steps_mayNote.calls k4 ((rd_T57 l2_5 x95_4).f0) ((rd_T57 l2_5 x95_4).f1) ((rd_T57 l2_5 x95_4).f2) ((rd_T57 l2_5 x95_4).f3) ((rd_T57 l2_5 x95_4).f4) ((rd_T57 l2_5 x95_4).f5) (a1.size : Int) true _ A47.out (UsesOk.below hU (by repeat (first | (with_reducible first | exact HB.out | apply below_alloc | apply pw_below_drewN | apply below_drew1 | refine below_set ?_ GE225.out | refine below_set ?_ GE228.out) | exact HB.out)))).mono ?_); rintro e w52 ⟨rfl, hb⟩; refine ⟨_, rfl, ?_⟩; have n0_ := Aside0.mk (blk_below (g := gb225) (o := .cells #[.int .i64 a2_0, .int .i64 a2_1, .int .i64 a2_2, .int .i64 a2_3, .slice A2_4 l2_4.length c2_4, .slice (some ad227) l2_5.length c2_5] 31 (0, 0)) (by (with_reducible repeat (first | refine blk_drewN ?_ _ | refine blk_drew ?_ | refine blk_alloc ?_ _)); refine blk_far ?_ NB225_228.out _; (with_reducible repeat (first | refine blk_drewN ?_ _ | refine blk_drew ?_ | refine blk_alloc ?_ _)); refine blk_far ?_ NB225_228.out _; (with_reducible repeat (first | refine blk_drewN ?_ _ | refine blk_drew ?_ | refine blk_alloc ?_ _)); refine blk_far ?_ NB225_228.out _; (with_reducible repeat (first | refine blk_drewN ?_ _ | refine blk_drew ?_ | refine blk_alloc ?_ _)); refine blk_far ?_ NB225_228.out _; (with_reducible repeat (first | refine blk_drewN ?_ _ | refine blk_drew ?_ | refine blk_alloc ?_ _)); refine blk_far ?_ NB225_228.out _; (with_reducible repeat (first | refine blk_drewN ?_ _ | refine blk_drew ?_ | refine blk_alloc ?_ _)); refine blk_far ?_ NB225_228.out _; (with_reducible repeat (first | refine blk_drewN ?_ _ | refine blk_drew ?_ | refine blk_alloc ?_ _)); exact BK225.out) hb); have n1_ := Aside0.mk (blk_below (g := gb228) (o := .cells #[.int .i64 ((rd_T57 l2_5 x95_4).f0), .int .i64 ((rd_T57 l2_5 x95_4).f1), .int .i64 ((rd_T57 l2_5 x95_4).f2), .int .i64 ((rd_T57 l2_5 x95_4).f3), .int .i64 ((rd_T57 l2_5 x95_4).f4), .string ((rd_T57 l2_5 x95_4).f5)] 57 (0, 0)) (by (with_reducible repeat (first | refine blk_drewN ?_ _ | refine blk_drew ?_ | refine blk_alloc ?_ _)); refine blk_put (cs := #[.int .i64 ((rd_T57 l2_5 x95_4).f0), .int .i64 ((rd_T57 l2_5 x95_4).f1), .int .i64 ((rd_T57 l2_5 x95_4).f2), .int .i64 ((rd_T57 l2_5 x95_4).f3), .int .i64 ((rd_T57 l2_5 x95_4).f4), .string (⟨#[]⟩ : ByteArray)]) ?_ 5 _ rfl; (with_reducible repeat (first | refine blk_drewN ?_ _ | refine blk_drew ?_ | refine blk_alloc ?_ _)); refine blk_put (cs := #[.int .i64 ((rd_T57 l2_5 x95_4).f0), .int .i64 ((rd_T57 l2_5 x95_4).f1), .int .i64 ((rd_T57 l2_5 x95_4).f2), .int .i64 ((rd_T57 l2_5 x95_4).f3), .int .i64 0, .string (⟨#[]⟩ : ByteArray)]) ?_ 4 _ rfl; (with_reducible repeat (first | refine blk_drewN ?_ _ | refine blk_drew ?_ | refine blk_alloc ?_ _)); refine blk_put (cs := #[.int .i64 ((rd_T57 l2_5 x95_4).f0), .int .i64 ((rd_T57 l2_5 x95_4).f1), .int .i64 ((rd_T57 l2_5 x95_4).f2), .int .i64 0, .int .i64 0, .string (⟨#[]⟩ : ByteArray)]) ?_ 3 _ rfl; (with_reducible repeat (first | refine blk_drewN ?_ _ | refine blk_drew ?_ | refine blk_alloc ?_ _)); refine blk_put (cs := #[.int .i64 ((rd_T57 l2_5 x95_4).f0), .int .i64 ((rd_T57 l2_5 x95_4).f1), .int .i64 0, .int .i64 0, .int .i64 0, .string (⟨#[]⟩ : ByteArray)]) ?_ 2 _ rfl; (with_reducible repeat (first | refine blk_drewN ?_ _ | refine blk_drew ?_ | refine blk_alloc ?_ _)); refine blk_put (cs := #[.int .i64 ((rd_T57 l2_5 x95_4).f0), .int .i64 0, .int .i64 0, .int .i64 0, .int .i64 0, .string (⟨#[]⟩ : ByteArray)]) ?_ 1 _ rfl; (with_reducible repeat (first | refine blk_drewN ?_ _ | refine blk_drew ?_ | refine blk_alloc ?_ _)); refine blk_put (cs := #[.int .i64 0, .int .i64 0, .int .i64 0, .int .i64 0, .int .i64 0, .string (⟨#[]⟩ : ByteArray)]) ?_ 0 _ rfl; (with_reducible repeat (first | refine blk_drewN ?_ _ | refine blk_drew ?_ | refine blk_alloc ?_ _)); exact BK228.out) hb); have n2_ := Aside0.mk (below_step (by repeat (first | (with_reducible first | exact HB.out | apply below_alloc | apply pw_below_drewN | apply below_drew1 | refine below_set ?_ GE225.out | refine below_set ?_ GE228.out) | exact HB.out)) hb); clear BK225; clear BK228; clear HB; have BK225 := n0_; have BK228 := n1_; have HB := n2_; clear n0_ n1_ n2_; (try clear hb); (try clear hb2); (try clear hk); (try clear hi)))
               go_roundg k4
               case measure => have := HJ3.out; have := HJ13.out; have := HJ25.out; have := HK4.out; omega
               case rel => exact ⟨(wrap64 (x95_4 + 1)), (by first | rfl | (simp; done) | (simp [*]; done)), H', ⟨by have := HJ3.out; have := HJ13.out; have := HJ25.out; have := HK4.out; omega⟩, ⟨by (with_reducible repeat (first | refine blk_drewN ?_ _ | refine blk_drew ?_ | refine blk_alloc ?_ _)); exact BK225.out⟩, ⟨by repeat (first | (with_reducible first | exact HB.out | apply below_alloc | apply pw_below_drewN | apply below_drew1 | refine below_set ?_ GE225.out | refine below_set ?_ GE228.out) | exact HB.out)⟩⟩
              ·replace c48 := Bool.eq_false_iff.mpr c48
               subst c48
               have H1 : (some false) = some r := by rw [if_neg (show ¬ (false = true) by decide)] at H; exact H
               clear H
               have H := H1
               clear H1
               obtain rfl := Option.some.inj H
               have p227 : 0 ≤ (x95_4 : Int) := of_decide_eq_true (by first | (with_reducible assumption) | assumption)
               have q227 : x95_4 < (l2_5.length : Int) := of_decide_eq_true (by first | (with_reducible assumption) | assumption)
               obtain ⟨ad227, e227, hx227_0, hx227_1, hx227_2, hx227_3, hx227_4, hx227_5⟩ := at_T57 HR2_5.out x95_4 p227 q227
               cases e227
               replace hx227_0 := (HB.out.cell (World.block_lt_of_cell? w _ hx227_0)).trans hx227_0
               replace hx227_1 := (HB.out.cell (World.block_lt_of_cell? w _ hx227_1)).trans hx227_1
               replace hx227_2 := (HB.out.cell (World.block_lt_of_cell? w _ hx227_2)).trans hx227_2
               replace hx227_3 := (HB.out.cell (World.block_lt_of_cell? w _ hx227_3)).trans hx227_3
               replace hx227_4 := (HB.out.cell (World.block_lt_of_cell? w _ hx227_4)).trans hx227_4
               replace hx227_5 := (HB.out.cell (World.block_lt_of_cell? w _ hx227_5)).trans hx227_5
               replace p227 := eq_true p227
               replace q227 := eq_true q227
               go_wp2_with (first | ((with_reducible refine gate_dst (N := 8) rfl ?_); (try (refine gate_guard (by rfl) ?_; dsimp only)); refine box_event ?hg (N := 8) ?hd (cs := #[.int .i64 0, .int .i64 0, .int .i64 0, .int .i64 0, .int .i64 0, .string (⟨#[]⟩ : ByteArray)]) (t := 57) ?hr ?_; (case hd => rfl); (case hg => rfl); (case hr => first | (go_simp; done) | (go_simp; rfl)); intro gb228 hg w53 hbox hb; have n0_ := Aside0.mk (blk_below (g := gb225) (o := .cells #[.int .i64 a2_0, .int .i64 a2_1, .int .i64 a2_2, .int .i64 a2_3, .slice A2_4 l2_4.length c2_4, .slice (some ad227) l2_5.length c2_5] 31 (0, 0)) (by (with_reducible repeat (first | refine blk_drewN ?_ _ | refine blk_drew ?_ | refine blk_alloc ?_ _)); exact BK225.out) hb); have n1_ := Aside0.mk (below_step (by repeat (first | (with_reducible first | exact HB.out | apply below_alloc | apply pw_below_drewN | apply below_drew1 | refine below_set ?_ GE225.out) | exact HB.out)) hb); have n2_ := Aside0.mk (hbox); have n3_ := Aside0.mk ((by rw [hg]; exact (below_size (by repeat (first | (with_reducible first | exact HB.out | apply below_alloc | apply pw_below_drewN | apply below_drew1 | refine below_set ?_ GE225.out) | exact HB.out))) : w.heap.size ≤ gb228)); have n4_ := Aside0.mk ((by rw [hg]; exact (below_size (by repeat (first | (with_reducible first | exact HB.out | apply below_alloc | apply pw_below_drewN | apply below_drew1 | refine below_set ?_ GE225.out) | exact HB.out))) : w.heap.size ≤ gb228)); have n5_ := Aside0.mk ((by rw [hg]; exact Nat.ne_of_lt (blk_lt (g := gb225) (o := .cells #[.int .i64 a2_0, .int .i64 a2_1, .int .i64 a2_2, .int .i64 a2_3, .slice A2_4 l2_4.length c2_4, .slice (some ad227) l2_5.length c2_5] 31 (0, 0)) (by (with_reducible repeat (first | refine blk_drewN ?_ _ | refine blk_drew ?_ | refine blk_alloc ?_ _)); exact BK225.out)) : gb225 ≠ gb228)); have n6_ := Aside0.mk ((by rw [hg]; exact Nat.ne_of_gt (blk_lt (g := gb225) (o := .cells #[.int .i64 a2_0, .int .i64 a2_1, .int .i64 a2_2, .int .i64 a2_3, .slice A2_4 l2_4.length c2_4, .slice (some ad227) l2_5.length c2_5] 31 (0, 0)) (by (with_reducible repeat (first | refine blk_drewN ?_ _ | refine blk_drew ?_ | refine blk_alloc ?_ _)); exact BK225.out)) : gb228 ≠ gb225)); clear BK225; clear HB; have BK225 := n0_; have HB := n1_; have BK228 := n2_; have GW228 := n3_; have GE228 := n4_; have NB225_228 := n5_; have NB228_225 := n6_; clear n0_ n1_ n2_ n3_ n4_ n5_ n6_; clear hb hbox hg; have hnb54 := NB228_225.out; have hnc54 := NB225_228.out; have hcz55_0 : w53.cell? ⟨gb228, 0, none⟩ = some (.int .i64 0) := (blk_cell BK228.out 0).trans rfl; have hcz55_1 : w53.cell? ⟨gb228, 1, none⟩ = some (.int .i64 0) := (blk_cell BK228.out 1).trans rfl; have hcz55_2 : w53.cell? ⟨gb228, 2, none⟩ = some (.int .i64 0) := (blk_cell BK228.out 2).trans rfl; have hcz55_3 : w53.cell? ⟨gb228, 3, none⟩ = some (.int .i64 0) := (blk_cell BK228.out 3).trans rfl; have hcz55_4 : w53.cell? ⟨gb228, 4, none⟩ = some (.int .i64 0) := (blk_cell BK228.out 4).trans rfl; have hcz55_5 : w53.cell? ⟨gb228, 5, none⟩ = some (.string (⟨#[]⟩ : ByteArray)) := (blk_cell BK228.out 5).trans rfl; have hfz55_0 := blk_frozen BK228.out 0; have hfz55_1 := blk_frozen BK228.out 1; have hfz55_2 := blk_frozen BK228.out 2; have hfz55_3 := blk_frozen BK228.out 3; have hfz55_4 := blk_frozen BK228.out 4; have hfz55_5 := blk_frozen BK228.out 5) | ((with_reducible refine gate_callee (f := 39) rfl ?_); refine goesL_ (some 102) rfl rfl Tryd.func39 (by kernel_rfl) rfl #[.agg #[.int .i64 ((rd_T57 l2_5 x95_4).f0), .int .i64 ((rd_T57 l2_5 x95_4).f1), .int .i64 ((rd_T57 l2_5 x95_4).f2), .int .i64 ((rd_T57 l2_5 x95_4).f3), .int .i64 ((rd_T57 l2_5 x95_4).f4), .string ((rd_T57 l2_5 x95_4).f5)], .int .i64 (a1.size : Int)] rfl (by (try simp only [List.map_toArray, List.map_cons, List.map_nil]); first | done | rfl | (simp only [List.length_drop, List.length_take]; rfl)) ?_; (with_reducible refine (steps_mayNote.calls k4 ((rd_T57 l2_5 x95_4).f0) ((rd_T57 l2_5 x95_4).f1) ((rd_T57 l2_5 x95_4).f2) ((rd_T57 l2_5 x95_4).f3) ((rd_T57 l2_5 x95_4).f4) ((rd_T57 l2_5 x95_4).f5) (a1.size : Int) false _ A47.out (UsesOk.below hU (by repeat (first | (with_reducible first | exact HB.out | apply below_alloc | apply pw_below_drewN | apply below_drew1 | refine below_set ?_ GE225.out | refine below_set ?_ GE228.out) | exact HB.out)))).mono ?_); rintro e w56 ⟨rfl, hb⟩; refine ⟨_, rfl, ?_⟩; have n0_ := Aside0.mk (blk_below (g := gb225) (o := .cells #[.int .i64 a2_0, .int .i64 a2_1, .int .i64 a2_2, .int .i64 a2_3, .slice A2_4 l2_4.length c2_4, .slice (some ad227) l2_5.length c2_5] 31 (0, 0)) (by (with_reducible repeat (first | refine blk_drewN ?_ _ | refine blk_drew ?_ | refine blk_alloc ?_ _)); refine blk_far ?_ NB225_228.out _; (with_reducible repeat (first | refine blk_drewN ?_ _ | refine blk_drew ?_ | refine blk_alloc ?_ _)); refine blk_far ?_ NB225_228.out _; (with_reducible repeat (first | refine blk_drewN ?_ _ | refine blk_drew ?_ | refine blk_alloc ?_ _)); refine blk_far ?_ NB225_228.out _; (with_reducible repeat (first | refine blk_drewN ?_ _ | refine blk_drew ?_ | refine blk_alloc ?_ _)); refine blk_far ?_ NB225_228.out _; (with_reducible repeat (first | refine blk_drewN ?_ _ | refine blk_drew ?_ | refine blk_alloc ?_ _)); refine blk_far ?_ NB225_228.out _; (with_reducible repeat (first | refine blk_drewN ?_ _ | refine blk_drew ?_ | refine blk_alloc ?_ _)); refine blk_far ?_ NB225_228.out _; (with_reducible repeat (first | refine blk_drewN ?_ _ | refine blk_drew ?_ | refine blk_alloc ?_ _)); exact BK225.out) hb); have n1_ := Aside0.mk (blk_below (g := gb228) (o := .cells #[.int .i64 ((rd_T57 l2_5 x95_4).f0), .int .i64 ((rd_T57 l2_5 x95_4).f1), .int .i64 ((rd_T57 l2_5 x95_4).f2), .int .i64 ((rd_T57 l2_5 x95_4).f3), .int .i64 ((rd_T57 l2_5 x95_4).f4), .string ((rd_T57 l2_5 x95_4).f5)] 57 (0, 0)) (by (with_reducible repeat (first | refine blk_drewN ?_ _ | refine blk_drew ?_ | refine blk_alloc ?_ _)); refine blk_put (cs := #[.int .i64 ((rd_T57 l2_5 x95_4).f0), .int .i64 ((rd_T57 l2_5 x95_4).f1), .int .i64 ((rd_T57 l2_5 x95_4).f2), .int .i64 ((rd_T57 l2_5 x95_4).f3), .int .i64 ((rd_T57 l2_5 x95_4).f4), .string (⟨#[]⟩ : ByteArray)]) ?_ 5 _ rfl; (with_reducible repeat (first | refine blk_drewN ?_ _ | refine blk_drew ?_ | refine blk_alloc ?_ _)); refine blk_put (cs := #[.int .i64 ((rd_T57 l2_5 x95_4).f0), .int .i64 ((rd_T57 l2_5 x95_4).f1), .int .i64 ((rd_T57 l2_5 x95_4).f2), .int .i64 ((rd_T57 l2_5 x95_4).f3), .int .i64 0, .string (⟨#[]⟩ : ByteArray)]) ?_ 4 _ rfl; (with_reducible repeat (first | refine blk_drewN ?_ _ | refine blk_drew ?_ | refine blk_alloc ?_ _)); refine blk_put (cs := #[.int .i64 ((rd_T57 l2_5 x95_4).f0), .int .i64 ((rd_T57 l2_5 x95_4).f1), .int .i64 ((rd_T57 l2_5 x95_4).f2), .int .i64 0, .int .i64 0, .string (⟨#[]⟩ : ByteArray)]) ?_ 3 _ rfl; (with_reducible repeat (first | refine blk_drewN ?_ _ | refine blk_drew ?_ | refine blk_alloc ?_ _)); refine blk_put (cs := #[.int .i64 ((rd_T57 l2_5 x95_4).f0), .int .i64 ((rd_T57 l2_5 x95_4).f1), .int .i64 0, .int .i64 0, .int .i64 0, .string (⟨#[]⟩ : ByteArray)]) ?_ 2 _ rfl; (with_reducible repeat (first | refine blk_drewN ?_ _ | refine blk_drew ?_ | refine blk_alloc ?_ _)); refine blk_put (cs := #[.int .i64 ((rd_T57 l2_5 x95_4).f0), .int .i64 0, .int .i64 0, .int .i64 0, .int .i64 0, .string (⟨#[]⟩ : ByteArray)]) ?_ 1 _ rfl; (with_reducible repeat (first | refine blk_drewN ?_ _ | refine blk_drew ?_ | refine blk_alloc ?_ _)); refine blk_put (cs := #[.int .i64 0, .int .i64 0, .int .i64 0, .int .i64 0, .int .i64 0, .string (⟨#[]⟩ : ByteArray)]) ?_ 0 _ rfl; (with_reducible repeat (first | refine blk_drewN ?_ _ | refine blk_drew ?_ | refine blk_alloc ?_ _)); exact BK228.out) hb); have n2_ := Aside0.mk (below_step (by repeat (first | (with_reducible first | exact HB.out | apply below_alloc | apply pw_below_drewN | apply below_drew1 | refine below_set ?_ GE225.out | refine below_set ?_ GE228.out) | exact HB.out)) hb); clear BK225; clear BK228; clear HB; have BK225 := n0_; have BK228 := n1_; have HB := n2_; clear n0_ n1_ n2_; (try clear hb); (try clear hb2); (try clear hk); (try clear hi)))
               go_ret
               exact ⟨by first | rfl | (simp [errW_none, errW_some] <;> rfl) | (simp [*, errW_none, errW_some] <;> rfl), by repeat (first | (with_reducible first | exact HB.out | apply below_alloc | apply pw_below_drewN | apply below_drew1 | refine below_set ?_ GE225.out | refine below_set ?_ GE228.out) | exact HB.out)⟩
             ·rw [if_neg c46] at H
              exact absurd H (by simp)
            ·rw [if_neg c45] at H
             exact absurd H (by simp)
           ·rw [if_neg c44] at H
            have c44b0 : decide (x95_4 < (l2_5.length : Int)) = false := decide_eq_false c44
            clear c44
            replace H := Option.bind_eq_some_iff.mp H
            obtain ⟨t230, A570, H⟩ := H
            replace H : (some t230) = some r := H
            have A57 := Aside0.mk A570
            clear A570
            obtain rfl := Option.some.inj H
            have hcz58_0 : wr.cell? ⟨gb225, 0, none⟩ = some (.int .i64 a2_0) := (blk_cell BK225.out 0).trans rfl
            have hcz58_1 : wr.cell? ⟨gb225, 1, none⟩ = some (.int .i64 a2_1) := (blk_cell BK225.out 1).trans rfl
            have hcz58_2 : wr.cell? ⟨gb225, 2, none⟩ = some (.int .i64 a2_2) := (blk_cell BK225.out 2).trans rfl
            have hcz58_3 : wr.cell? ⟨gb225, 3, none⟩ = some (.int .i64 a2_3) := (blk_cell BK225.out 3).trans rfl
            have hcz58_4 : wr.cell? ⟨gb225, 4, none⟩ = some (.slice A2_4 l2_4.length c2_4) := (blk_cell BK225.out 4).trans rfl
            have hcz58_5 : wr.cell? ⟨gb225, 5, none⟩ = some (.slice A2_5 l2_5.length c2_5) := (blk_cell BK225.out 5).trans rfl
            have hfz58_0 := blk_frozen BK225.out 0
            have hfz58_1 := blk_frozen BK225.out 1
            have hfz58_2 := blk_frozen BK225.out 2
            have hfz58_3 := blk_frozen BK225.out 3
            have hfz58_4 := blk_frozen BK225.out 4
            have hfz58_5 := blk_frozen BK225.out 5
            go_wp2_with (first | ((with_reducible refine gate_callee (f := 40) rfl ?_); refine goesL_ (some 114) rfl rfl Tryd.func40 (by kernel_rfl) rfl #[.slice A2_4 l2_4.length c2_4, .int .i64 (l0.length : Int), .int .i64 (a1.size : Int), .int .i64 (l2_5.length : Int)] rfl (by (try simp only [List.map_toArray, List.map_cons, List.map_nil]); first | done | rfl | (simp only [List.length_drop, List.length_take]; rfl)) ?_; (with_reducible refine (steps_mayStack.calls k4 _ _ l2_4 (l0.length : Int) (a1.size : Int) (l2_5.length : Int) t230 _ ?side1 ?side2 A57.out).mono ?_); (case side1 => repeat (first | exact (Kd.C_below HR2_4.out HB.out) | (with_reducible refine Kd.C_alloc ?_ _) | (with_reducible refine Kd.C_drewN ?_ _) | (with_reducible refine Kd.C_drew ?_))); (case side2 => exact HC2_4.out); rintro e w59 ⟨rfl, hb⟩; refine ⟨_, rfl, ?_⟩; have n0_ := Aside0.mk (blk_below (g := gb225) (o := .cells #[.int .i64 a2_0, .int .i64 a2_1, .int .i64 a2_2, .int .i64 a2_3, .slice A2_4 l2_4.length c2_4, .slice A2_5 l2_5.length c2_5] 31 (0, 0)) (by (with_reducible repeat (first | refine blk_drewN ?_ _ | refine blk_drew ?_ | refine blk_alloc ?_ _)); exact BK225.out) hb); have n1_ := Aside0.mk (below_step (by repeat (first | (with_reducible first | exact HB.out | apply below_alloc | apply pw_below_drewN | apply below_drew1 | refine below_set ?_ GE225.out) | exact HB.out)) hb); clear BK225; clear HB; have BK225 := n0_; have HB := n1_; clear n0_ n1_; (try clear hb); (try clear hb2); (try clear hk); (try clear hi)))
            go_ret
            exact ⟨by first | rfl | (simp [errW_none, errW_some] <;> rfl) | (simp [*, errW_none, errW_some] <;> rfl), by repeat (first | (with_reducible first | exact HB.out | apply below_alloc | apply pw_below_drewN | apply below_drew1 | refine below_set ?_ GE225.out) | exact HB.out)⟩

end Go.Proofs.YthjlpcecfkboiaaDoor.Z
