/-
  The runner of steps: an instruction that asks for the last choice.
-/
import Derived.Test.YthjlpcecfkboiaaDoorRunner4
import Derived.WalkKit
import Derived.BigQuiet
import Derived.BigRegion
namespace Go.Proofs.YthjlpcecfkboiaaDoor
open Go.RowKit
set_option linter.unusedVariables false
set_option linter.unusedSimpArgs false
/-- What an instruction that asks for the last choice does; none: there is no choice. -/
def choiceM (i : Ins) (x : MSt) : Option MSt :=
  match x.stack[x.stack.length - 1]? with
  | none => none
  | some e => if e.ret = true then none else
    if i.op = 10 then some { x with stack := x.stack.set (x.stack.length - 1) ⟨false, e.pc, x.at_, x.log.length⟩, pc := x.pc + i.a }
    else if i.op = 11 then some { x with stack := x.stack.take (x.stack.length - 1), at_ := e.at_, log := x.log.take e.notes.toNat, pc := x.pc + i.a }
    else if i.op = 12 then some (failM { x with stack := x.stack.take (x.stack.length - 1) })
    else some { x with stack := x.stack.take (x.stack.length - 1), pc := x.pc + i.a }
theorem wrap_in {n : Int} (h : -9223372036854775808 ≤ n ∧ n ≤ 9223372036854775807) : IntKind.i64.wrap n = n := IntWalk.i64_in _ h
set_option maxHeartbeats 8000000 in
set_option maxRecDepth 20000 in
theorem choice_none (w : World) (B r : Nat) (code : Value) (s : ByteArray) (l0 l1 l2 : Int) (x : MSt) (i : Ins) (h : RunW w B r code s l0 l1 l2 x) (hl : x.stack.length ≤ 1048577) (hc : choiceM i x = none) :
    Calls Tryd.prog 50 #[.pointer (some ⟨r, 0, none⟩), insA i] w fun en w' => en = .returned (.int .i64 213) ∧ Below B w w' := by
  obtain ⟨sv, lv, hR, hBr, hS, hL⟩ := h
  have hBw := Nat.le_of_lt (Nat.lt_of_le_of_lt hBr (block_lt hR))
  obtain ⟨pc, p, st, kd, stk, lg⟩ := x
  obtain ⟨op, a, b, n, tx, s0, s1, s2, s3⟩ := i
  have hb0 := (Below.refl w.heap.size w).alloc (Nat.le_refl _) (.cells #[.int .i64 op, .int .i64 a, .int .i64 b, .int .i64 n, .string tx, .int .u64 s0, .int .u64 s1, .int .u64 s2, .int .u64 s3] 52)
  have hT : Calls Tryd.prog 52 #[.pointer (some ⟨r, 0, none⟩), .bool false] (w.alloc (.cells #[.int .i64 op, .int .i64 a, .int .i64 b, .int .i64 n, .string tx, .int .u64 s0, .int .u64 s1, .int .u64 s2, .int .u64 s3] 52)) fun e w' => e = .returned (.tuple #[.pointer none, .int .i64 213]) ∧ w' = (w.alloc (.cells #[.int .i64 op, .int .i64 a, .int .i64 b, .int .i64 n, .string tx, .int .u64 s0, .int .u64 s1, .int .u64 s2, .int .u64 s3] 52)) := by
    by_cases hz : stk.length = 0
    · obtain rfl := List.eq_nil_of_length_eq_zero hz
      exact top_none _ B r code s l0 l1 l2 pc p st kd lg sv lv false (keep hb0 hR) (own_below hS hb0)
    · obtain ⟨g, c, rfl⟩ := owns_form hS (by simp only; omega)
      refine (top_some _ B r code s l0 l1 l2 pc p st kd stk lg g c lv false (by omega) hl (keep hb0 hR) (own_below hS hb0)).mono ?_
      rintro e w' ⟨rfl, rfl⟩
      refine ⟨?_, rfl⟩
      unfold choiceM at hc
      simp only [List.getElem?_eq_getElem (show stk.length - 1 < stk.length by omega)] at hc
      by_cases hr : (stk[stk.length - 1]'(by omega)).ret = true
      · rw [hr]; rfl
      · rw [if_neg hr] at hc
        split at hc
        · cases hc
        split at hc
        · cases hc
        split at hc <;> cases hc
  unfold insA
  have HB := hid hb0
  clear hb0 hc hR hS hL
  go_enter Tryd.func50, Tryd.ntmps50
  go_wp2_with (fail)
  with_reducible refine hT.mono ?_
  rintro e w' ⟨rfl, rfl⟩
  go_wp2_with (fail)
  go_ret
  exact ⟨rfl, HB.out.mono hBw⟩
theorem ent_set23 (a b : Int) : ∀ (l : List Ent) (k : Nat) (hk : k < l.length), ((l.flatMap entC).set (k * 4 + 2) (.int .i64 a)).set (k * 4 + 3) (.int .i64 b) = (l.set k ⟨l[k].ret, l[k].pc, a, b⟩).flatMap entC
  | x :: l, 0, _ => rfl
  | x :: l, k + 1, hk => by
    have ih := ent_set23 a b l k (by simpa using hk)
    rw [List.flatMap_cons, List.set_cons_succ, List.flatMap_cons, List.getElem_cons_succ, ← ih, show (k + 1) * 4 + 2 = k * 4 + 2 + 1 + 1 + 1 + 1 from by omega, show (k + 1) * 4 + 3 = k * 4 + 3 + 1 + 1 + 1 + 1 from by omega]
    rfl
set_option maxHeartbeats 8000000 in
set_option maxRecDepth 20000 in
theorem choice_ten (w : World) (B r : Nat) (code : Value) (s : ByteArray) (l0 l1 l2 : Int) (x : MSt) (a b n : Int) (tx : ByteArray) (s0 s1 s2 s3 : Int) (h : RunW w B r code s l0 l1 l2 x) (hN : NotesOk x) (hl : x.stack.length ≤ 1048577) (hg : x.log.length ≤ 1048577)
    (hpc : 0 ≤ x.pc ∧ x.pc ≤ 1048576) (ha : -1048576 ≤ a ∧ a ≤ 1048576) (y : MSt) (hc : choiceM ⟨10, a, b, n, tx, s0, s1, s2, s3⟩ x = some y) :
    Calls Tryd.prog 50 #[.pointer (some ⟨r, 0, none⟩), insA ⟨10, a, b, n, tx, s0, s1, s2, s3⟩] w fun en w' => en = .returned (.int .i64 0) ∧ Below B w w' ∧ RunW w' B r code s l0 l1 l2 y := by
  have h0 := h
  obtain ⟨sv, lv, hR, hBr, hS, hL⟩ := h
  have hBw := Nat.le_of_lt (Nat.lt_of_le_of_lt hBr (block_lt hR))
  obtain ⟨pc, p, st, kd, stk, lg⟩ := x
  unfold choiceM at hc
  simp only at hc hpc hR hS hL hl hg
  by_cases hz : stk.length = 0
  · rw [List.getElem?_eq_none (by omega)] at hc; cases hc
  have hk : stk.length - 1 < stk.length := by omega
  rw [List.getElem?_eq_getElem hk] at hc
  simp only at hc
  by_cases hr : stk[stk.length - 1].ret = true
  · rw [if_pos hr] at hc; cases hc
  rw [if_neg hr] at hc
  replace hr : stk[stk.length - 1].ret = false := by simpa using hr
  have hno := hN _ (List.getElem_mem hk) hr
  simp only at hno
  obtain ⟨g, c, rfl⟩ := owns_form hS (by omega)
  obtain ⟨A2, c2, rfl⟩ := (RowIs.of_owns hL).form
  have hb0 := (Below.refl w.heap.size w).alloc (Nat.le_refl _) (.cells #[.int .i64 10, .int .i64 a, .int .i64 b, .int .i64 n, .string tx, .int .u64 s0, .int .u64 s1, .int .u64 s2, .int .u64 s3] 52)
  have hx0 := alloc_new w (.cells #[.int .i64 10, .int .i64 a, .int .i64 b, .int .i64 n, .string tx, .int .u64 s0, .int .u64 s1, .int .u64 s2, .int .u64 s3] 52)
  have hT := top_some _ B r code s l0 l1 l2 pc p st kd stk lg g c (.slice A2 lg.length c2) false (by omega) hl (keep hb0 hR) (own_below hS hb0)
  rw [if_pos hr] at hT
  have hR1 := keep hb0 hR
  have hS1 := own_below hS hb0
  have hL1 := own_below hL hb0
  have hB1 := hb0.mono hBw
  obtain ⟨q0, q1, q2, q3⟩ := ent_cells hS1 hk
  have hst := hS1.stored
  have hgb := (hS1.lt g rfl).1
  unfold runC at hR1
  simp only at hR1
  have hw1 : IntKind.i64.wrap (pc + a) = pc + a := wrap_in (by omega)
  have hw3 : IntKind.i64.wrap ((stk.length : Int) - 1) = ((stk.length - 1 : Nat) : Int) := by rw [wrap_in (by omega)]; omega
  have hw4 : wrap64 ((stk.length : Int) - 1) = ((stk.length - 1 : Nat) : Int) := by unfold wrap64; omega
  have hk3 : ((stk.length - 1 : Nat) : Int) ≤ (c : Int) := by have := owns_cap hS; omega
  have hxr : w.heap.size ≠ r := fun e => by have := block_lt hR; omega
  obtain ⟨cg, hgc⟩ := own_typed' hS1 g rfl
  have hgr : g ≠ r := fun e => by subst e; rw [hR1] at hgc; injection hgc with hgc; injection hgc with _ hgc; cases hgc
  have hgx : g ≠ w.heap.size := fun e => by subst e; rw [hx0] at hgc; injection hgc with hgc; injection hgc with _ hgc; cases hgc
  have hfg := block_free hgc
  have hno' := hno
  unfold insA
  clear hR hS hL
  generalize hK : stk.length - 1 = k at *
  go_enter Tryd.func50, Tryd.ntmps50
  go_wp2_with (fail)
  with_reducible refine hT.mono ?_
  rintro e w' ⟨rfl, rfl⟩
  generalize hW : w.alloc (.cells #[.int .i64 10, .int .i64 a, .int .i64 b, .int .i64 n, .string tx, .int .u64 s0, .int .u64 s1, .int .u64 s2, .int .u64 s3] 52) = W at *
  have hcR := block_cell hR1
  have hfR := block_free hR1
  have hcX := block_cell hx0
  rw [if_pos trivial] at hc
  obtain rfl := Option.some.inj hc
  clear hc
  go_wp2_with (fail)
  go_region
  have hR2 := (heap_setCell_ne (w := W.setCell ⟨g, k * 4 + 2, none⟩ (.int .i64 p)) (b := g) (k * 4 + 3) _ (.int .i64 (lg.length : Int)) (Ne.symm hgr)).trans ((heap_setCell_ne (w := W) (b := g) (k * 4 + 2) _ (.int .i64 p) (Ne.symm hgr)).trans hR1)
  have hX2 := (heap_setCell_ne (w := W.setCell ⟨g, k * 4 + 2, none⟩ (.int .i64 p)) (b := g) (k * 4 + 3) _ (.int .i64 (lg.length : Int)) (Ne.symm hgx)).trans ((heap_setCell_ne (w := W) (b := g) (k * 4 + 2) _ (.int .i64 p) (Ne.symm hgx)).trans hx0)
  have hS2 := ((hst (k * 4 + 2) (.int .i64 p)).1.stored (k * 4 + 3) (.int .i64 (lg.length : Int))).1
  rw [ent_set23 _ _ stk k hk] at hS2
  have hL2 := own_set (own_set hL1 hgc (by decide) (k * 4 + 2) (.int .i64 p)) (heap_setCell_self hgc _ _) (by decide) (k * 4 + 3) (.int .i64 (lg.length : Int))
  have hB2 := (hB1.setCell (p := ⟨g, k * 4 + 2, none⟩) hgb (.int .i64 p)).setCell (p := ⟨g, k * 4 + 3, none⟩) hgb (.int .i64 (lg.length : Int))
  have hR3 : (((W.setCell ⟨g, k * 4 + 2, none⟩ (.int .i64 p)).setCell ⟨g, k * 4 + 3, none⟩ (.int .i64 (lg.length : Int))).drew).heap[r]? = _ := hR2
  have hX3 : (((W.setCell ⟨g, k * 4 + 2, none⟩ (.int .i64 p)).setCell ⟨g, k * 4 + 3, none⟩ (.int .i64 (lg.length : Int))).drew).heap[w.heap.size]? = _ := hX2
  have hS3 := own_below hS2 (Below.refl _ _).drew
  have hL3 := own_below hL2 (Below.refl _ _).drew
  have hB3 := hB2.drew
  clear hcR hfR hcX q0 q1 q2 q3 hR2 hX2 hS2 hL2 hB2 hst
  generalize ((W.setCell ⟨g, k * 4 + 2, none⟩ (.int .i64 p)).setCell ⟨g, k * 4 + 3, none⟩ (.int .i64 (lg.length : Int))).drew = W2 at *
  have hcR := block_cell hR3
  have hfR := block_free hR3
  have hcX := block_cell hX3
  go_wp2_with (fail)
  go_region
  have hR4 := heap_setCell_self hR3 5 (.int .i64 (pc + a))
  have hS4 := own_below (own_set hS3 hR3 (by decide) 5 (.int .i64 (pc + a))) (Below.refl _ _).drew
  have hL4 := own_below (own_set hL3 hR3 (by decide) 5 (.int .i64 (pc + a))) (Below.refl _ _).drew
  have hB4 := (hB3.setCell (p := ⟨r, 5, none⟩) hBr (.int .i64 (pc + a))).drew
  go_wp2_with (fail)
  go_ret
  refine ⟨rfl, hB4, _, _, hR4, hBr, ?_, hL4⟩
  rw [List.length_set]
  rw [hr] at hS4
  exact hS4
set_option maxHeartbeats 8000000 in
set_option maxRecDepth 20000 in
theorem choice_eleven (w : World) (B r : Nat) (code : Value) (s : ByteArray) (l0 l1 l2 : Int) (x : MSt) (a b n : Int) (tx : ByteArray) (s0 s1 s2 s3 : Int) (h : RunW w B r code s l0 l1 l2 x) (hN : NotesOk x) (hl : x.stack.length ≤ 1048577) (hg : x.log.length ≤ 1048577)
    (hpc : 0 ≤ x.pc ∧ x.pc ≤ 1048576) (ha : -1048576 ≤ a ∧ a ≤ 1048576) (y : MSt) (hc : choiceM ⟨11, a, b, n, tx, s0, s1, s2, s3⟩ x = some y) :
    Calls Tryd.prog 50 #[.pointer (some ⟨r, 0, none⟩), insA ⟨11, a, b, n, tx, s0, s1, s2, s3⟩] w fun en w' => en = .returned (.int .i64 0) ∧ Below B w w' ∧ RunW w' B r code s l0 l1 l2 y := by
  have h0 := h
  obtain ⟨sv, lv, hR, hBr, hS, hL⟩ := h
  have hBw := Nat.le_of_lt (Nat.lt_of_le_of_lt hBr (block_lt hR))
  obtain ⟨pc, p, st, kd, stk, lg⟩ := x
  unfold choiceM at hc
  simp only at hc hpc hR hS hL hl hg
  by_cases hz : stk.length = 0
  · rw [List.getElem?_eq_none (by omega)] at hc; cases hc
  have hk : stk.length - 1 < stk.length := by omega
  rw [List.getElem?_eq_getElem hk] at hc
  simp only at hc
  by_cases hr : stk[stk.length - 1].ret = true
  · rw [if_pos hr] at hc; cases hc
  rw [if_neg hr] at hc
  replace hr : stk[stk.length - 1].ret = false := by simpa using hr
  have hno := hN _ (List.getElem_mem hk) hr
  simp only at hno
  obtain ⟨g, c, rfl⟩ := owns_form hS (by omega)
  obtain ⟨A2, c2, rfl⟩ := (RowIs.of_owns hL).form
  have hb0 := (Below.refl w.heap.size w).alloc (Nat.le_refl _) (.cells #[.int .i64 11, .int .i64 a, .int .i64 b, .int .i64 n, .string tx, .int .u64 s0, .int .u64 s1, .int .u64 s2, .int .u64 s3] 52)
  have hx0 := alloc_new w (.cells #[.int .i64 11, .int .i64 a, .int .i64 b, .int .i64 n, .string tx, .int .u64 s0, .int .u64 s1, .int .u64 s2, .int .u64 s3] 52)
  have hT := top_some _ B r code s l0 l1 l2 pc p st kd stk lg g c (.slice A2 lg.length c2) false (by omega) hl (keep hb0 hR) (own_below hS hb0)
  rw [if_pos hr] at hT
  have hR1 := keep hb0 hR
  have hS1 := own_below hS hb0
  have hL1 := own_below hL hb0
  have hB1 := hb0.mono hBw
  obtain ⟨q0, q1, q2, q3⟩ := ent_cells hS1 hk
  have hst := hS1.stored
  have hgb := (hS1.lt g rfl).1
  unfold runC at hR1
  simp only at hR1
  have hw1 : IntKind.i64.wrap (pc + a) = pc + a := wrap_in (by omega)
  have hw3 : IntKind.i64.wrap ((stk.length : Int) - 1) = ((stk.length - 1 : Nat) : Int) := by rw [wrap_in (by omega)]; omega
  have hw4 : wrap64 ((stk.length : Int) - 1) = ((stk.length - 1 : Nat) : Int) := by unfold wrap64; omega
  have hk3 : ((stk.length - 1 : Nat) : Int) ≤ (c : Int) := by have := owns_cap hS; omega
  have hxr : w.heap.size ≠ r := fun e => by have := block_lt hR; omega
  obtain ⟨cg, hgc⟩ := own_typed' hS1 g rfl
  have hgr : g ≠ r := fun e => by subst e; rw [hR1] at hgc; injection hgc with hgc; injection hgc with _ hgc; cases hgc
  have hgx : g ≠ w.heap.size := fun e => by subst e; rw [hx0] at hgc; injection hgc with hgc; injection hgc with _ hgc; cases hgc
  have hfg := block_free hgc
  have hno' := hno
  unfold insA
  clear hR hS hL
  generalize hK : stk.length - 1 = k at *
  rw [if_neg (by decide), if_pos trivial] at hc
  obtain rfl := Option.some.inj hc
  clear hc
  obtain ⟨hn0, hn1⟩ := hno
  have hlast : stk[k].pc = stk[k].pc := rfl
  generalize hE : stk[k] = e at *
  obtain ⟨er, ep, ea, en⟩ := e
  simp only at q0 q1 q2 q3 hn0 hn1 hr ⊢
  obtain ⟨m, rfl⟩ := Int.eq_ofNat_of_zero_le hn0
  have hm1 : m ≤ lg.length := by omega
  have hm2 : (m : Int) ≤ (c2 : Int) := by have := owns_cap hL1; omega
  have hk1 : k ≤ stk.length := by omega
  clear hlast hno' hn0 hn1
  go_enter Tryd.func50, Tryd.ntmps50
  go_wp2_with (fail)
  with_reducible refine hT.mono ?_
  rintro e w' ⟨rfl, rfl⟩
  generalize hW : w.alloc (.cells #[.int .i64 11, .int .i64 a, .int .i64 b, .int .i64 n, .string tx, .int .u64 s0, .int .u64 s1, .int .u64 s2, .int .u64 s3] 52) = W at *
  have hcR := block_cell hR1
  have hfR := block_free hR1
  have hcX := block_cell hx0
  go_wp2_with (fail)
  go_region
  have hR2 := heap_setCell_self (heap_setCell_self hR1 6 (.int .i64 ea)) 10 (.slice A2 m c2)
  have hX2 := (heap_setCell_ne (w := W.setCell ⟨r, 6, none⟩ (.int .i64 ea)) (b := r) 10 _ (.slice A2 m c2) hxr).trans ((heap_setCell_ne (w := W) (b := r) 6 _ (.int .i64 ea) hxr).trans hx0)
  have hS2 := own_set (own_set hS1 hR1 (by decide) 6 (.int .i64 ea)) (heap_setCell_self hR1 6 (.int .i64 ea)) (by decide) 10 (.slice A2 m c2)
  have hL2 := own_set (own_set (owns_cut notC_len hL1 (m := m) hm1) hR1 (by decide) 6 (.int .i64 ea)) (heap_setCell_self hR1 6 (.int .i64 ea)) (by decide) 10 (.slice A2 m c2)
  have hB2 := (hB1.setCell (p := ⟨r, 6, none⟩) hBr (.int .i64 ea)).setCell (p := ⟨r, 10, none⟩) hBr (.slice A2 m c2)
  have hR3 : (((W.setCell ⟨r, 6, none⟩ (.int .i64 ea)).setCell ⟨r, 10, none⟩ (.slice A2 m c2)).drew).heap[r]? = _ := hR2
  have hX3 : (((W.setCell ⟨r, 6, none⟩ (.int .i64 ea)).setCell ⟨r, 10, none⟩ (.slice A2 m c2)).drew).heap[w.heap.size]? = _ := hX2
  have hS3 := own_below hS2 (Below.refl _ _).drew
  have hL3 := own_below hL2 (Below.refl _ _).drew
  have hB3 := hB2.drew
  clear hcR hfR hcX q0 q1 q2 q3 hR2 hX2 hS2 hL2 hB2 hst hR1 hS1 hL1 hB1 hx0 hgc hfg
  generalize ((W.setCell ⟨r, 6, none⟩ (.int .i64 ea)).setCell ⟨r, 10, none⟩ (.slice A2 m c2)).drew = W2 at *
  have hcR := block_cell hR3
  have hfR := block_free hR3
  have hcX := block_cell hX3
  go_wp2_with (fail)
  go_region
  have hR4 := heap_setCell_self hR3 9 (.slice (some ⟨g, 0, none⟩) k c)
  have hX4 := (heap_setCell_ne (w := W2) (b := r) 9 _ (.slice (some ⟨g, 0, none⟩) k c) hxr).trans hX3
  have hS4 := owns_cut entC_len (own_set hS3 hR3 (by decide) 9 (.slice (some ⟨g, 0, none⟩) k c)) (m := k) hk1
  have hL4 := own_set hL3 hR3 (by decide) 9 (.slice (some ⟨g, 0, none⟩) k c)
  have hB4 := hB3.setCell (p := ⟨r, 9, none⟩) hBr (.slice (some ⟨g, 0, none⟩) k c)
  have hR5 : (W2.setCell ⟨r, 9, none⟩ (.slice (some ⟨g, 0, none⟩) k c)).drew.heap[r]? = _ := hR4
  have hX5 : (W2.setCell ⟨r, 9, none⟩ (.slice (some ⟨g, 0, none⟩) k c)).drew.heap[w.heap.size]? = _ := hX4
  have hS5 := own_below hS4 (Below.refl _ _).drew
  have hL5 := own_below hL4 (Below.refl _ _).drew
  have hB5 := hB4.drew
  clear hcR hfR hcX hR3 hX3 hS3 hL3 hB3 hR4 hX4 hS4 hL4 hB4
  generalize (W2.setCell ⟨r, 9, none⟩ (.slice (some ⟨g, 0, none⟩) k c)).drew = W3 at *
  have hcR := block_cell hR5
  have hfR := block_free hR5
  have hcX := block_cell hX5
  go_wp2_with (fail)
  go_region
  have hR6 := heap_setCell_self hR5 5 (.int .i64 (pc + a))
  have hS6 := own_below (own_set hS5 hR5 (by decide) 5 (.int .i64 (pc + a))) (Below.refl _ _).drew
  have hL6 := own_below (own_set hL5 hR5 (by decide) 5 (.int .i64 (pc + a))) (Below.refl _ _).drew
  have hB6 := (hB5.setCell (p := ⟨r, 5, none⟩) hBr (.int .i64 (pc + a))).drew
  go_wp2_with (fail)
  go_ret
  refine ⟨rfl, hB6, _, _, hR6, hBr, ?_, by rw [List.length_take, Int.toNat_natCast, Nat.min_eq_left hm1]; exact hL6⟩
  rw [List.length_take, Nat.min_eq_left hk1]
  exact hS6
set_option maxHeartbeats 8000000 in
set_option maxRecDepth 20000 in
theorem choice_twelve (w : World) (B r : Nat) (code : Value) (s : ByteArray) (l0 l1 l2 : Int) (x : MSt) (a b n : Int) (tx : ByteArray) (s0 s1 s2 s3 : Int) (h : RunW w B r code s l0 l1 l2 x) (hN : NotesOk x) (hl : x.stack.length ≤ 1048577) (hg : x.log.length ≤ 1048577)
    (hpc : 0 ≤ x.pc ∧ x.pc ≤ 1048576) (ha : -1048576 ≤ a ∧ a ≤ 1048576) (y : MSt) (hc : choiceM ⟨12, a, b, n, tx, s0, s1, s2, s3⟩ x = some y) :
    Calls Tryd.prog 50 #[.pointer (some ⟨r, 0, none⟩), insA ⟨12, a, b, n, tx, s0, s1, s2, s3⟩] w fun en w' => en = .returned (.int .i64 0) ∧ Below B w w' ∧ RunW w' B r code s l0 l1 l2 y := by
  have h0 := h
  obtain ⟨sv, lv, hR, hBr, hS, hL⟩ := h
  have hBw := Nat.le_of_lt (Nat.lt_of_le_of_lt hBr (block_lt hR))
  obtain ⟨pc, p, st, kd, stk, lg⟩ := x
  unfold choiceM at hc
  simp only at hc hpc hR hS hL hl hg
  by_cases hz : stk.length = 0
  · rw [List.getElem?_eq_none (by omega)] at hc; cases hc
  have hk : stk.length - 1 < stk.length := by omega
  rw [List.getElem?_eq_getElem hk] at hc
  simp only at hc
  by_cases hr : stk[stk.length - 1].ret = true
  · rw [if_pos hr] at hc; cases hc
  rw [if_neg hr] at hc
  replace hr : stk[stk.length - 1].ret = false := by simpa using hr
  have hno := hN _ (List.getElem_mem hk) hr
  simp only at hno
  obtain ⟨g, c, rfl⟩ := owns_form hS (by omega)
  obtain ⟨A2, c2, rfl⟩ := (RowIs.of_owns hL).form
  have hb0 := (Below.refl w.heap.size w).alloc (Nat.le_refl _) (.cells #[.int .i64 12, .int .i64 a, .int .i64 b, .int .i64 n, .string tx, .int .u64 s0, .int .u64 s1, .int .u64 s2, .int .u64 s3] 52)
  have hx0 := alloc_new w (.cells #[.int .i64 12, .int .i64 a, .int .i64 b, .int .i64 n, .string tx, .int .u64 s0, .int .u64 s1, .int .u64 s2, .int .u64 s3] 52)
  have hT := top_some _ B r code s l0 l1 l2 pc p st kd stk lg g c (.slice A2 lg.length c2) false (by omega) hl (keep hb0 hR) (own_below hS hb0)
  rw [if_pos hr] at hT
  have hR1 := keep hb0 hR
  have hS1 := own_below hS hb0
  have hL1 := own_below hL hb0
  have hB1 := hb0.mono hBw
  obtain ⟨q0, q1, q2, q3⟩ := ent_cells hS1 hk
  have hst := hS1.stored
  have hgb := (hS1.lt g rfl).1
  unfold runC at hR1
  simp only at hR1
  have hw1 : IntKind.i64.wrap (pc + a) = pc + a := wrap_in (by omega)
  have hw3 : IntKind.i64.wrap ((stk.length : Int) - 1) = ((stk.length - 1 : Nat) : Int) := by rw [wrap_in (by omega)]; omega
  have hw4 : wrap64 ((stk.length : Int) - 1) = ((stk.length - 1 : Nat) : Int) := by unfold wrap64; omega
  have hk3 : ((stk.length - 1 : Nat) : Int) ≤ (c : Int) := by have := owns_cap hS; omega
  have hxr : w.heap.size ≠ r := fun e => by have := block_lt hR; omega
  obtain ⟨cg, hgc⟩ := own_typed' hS1 g rfl
  have hgr : g ≠ r := fun e => by subst e; rw [hR1] at hgc; injection hgc with hgc; injection hgc with _ hgc; cases hgc
  have hgx : g ≠ w.heap.size := fun e => by subst e; rw [hx0] at hgc; injection hgc with hgc; injection hgc with _ hgc; cases hgc
  have hfg := block_free hgc
  have hno' := hno
  unfold insA
  clear hR hS hL
  generalize hK : stk.length - 1 = k at *
  rw [if_neg (by decide), if_neg (by decide), if_pos trivial] at hc
  obtain rfl := Option.some.inj hc
  clear hc
  go_enter Tryd.func50, Tryd.ntmps50
  go_wp2_with (fail)
  with_reducible refine hT.mono ?_
  rintro e w' ⟨rfl, rfl⟩
  generalize hW2 : w.alloc (.cells #[.int .i64 12, .int .i64 a, .int .i64 b, .int .i64 n, .string tx, .int .u64 s0, .int .u64 s1, .int .u64 s2, .int .u64 s3] 52) = W2 at *
  have hR3 := hR1
  have hX3 := hx0
  have hS3 := hS1
  have hL3 := hL1
  have hB3 := hB1
  have hk1 : k ≤ stk.length := by omega
  clear q0 q1 q2 q3 hst hR1 hS1 hL1 hB1 hx0 hgc hfg hno hno'
  have hcR := block_cell hR3
  have hfR := block_free hR3
  have hcX := block_cell hX3
  go_wp2_with (fail)
  go_region
  have hR4 := heap_setCell_self hR3 9 (.slice (some ⟨g, 0, none⟩) k c)
  have hX4 := (heap_setCell_ne (w := W2) (b := r) 9 _ (.slice (some ⟨g, 0, none⟩) k c) hxr).trans hX3
  have hS4 := owns_cut entC_len (own_set hS3 hR3 (by decide) 9 (.slice (some ⟨g, 0, none⟩) k c)) (m := k) hk1
  have hL4 := own_set hL3 hR3 (by decide) 9 (.slice (some ⟨g, 0, none⟩) k c)
  have hB4 := hB3.setCell (p := ⟨r, 9, none⟩) hBr (.slice (some ⟨g, 0, none⟩) k c)
  have hR5 : (W2.setCell ⟨r, 9, none⟩ (.slice (some ⟨g, 0, none⟩) k c)).drew.heap[r]? = _ := hR4
  have hX5 : (W2.setCell ⟨r, 9, none⟩ (.slice (some ⟨g, 0, none⟩) k c)).drew.heap[w.heap.size]? = _ := hX4
  have hS5 := own_below hS4 (Below.refl _ _).drew
  have hL5 := own_below hL4 (Below.refl _ _).drew
  have hB5 := hB4.drew
  clear hcR hfR hcX hR3 hX3 hS3 hL3 hB3 hR4 hX4 hS4 hL4 hB4
  generalize (W2.setCell ⟨r, 9, none⟩ (.slice (some ⟨g, 0, none⟩) k c)).drew = W3 at *
  have hcR := block_cell hR5
  have hfR := block_free hR5
  have hcX := block_cell hX5
  go_wp2_with (fail)
  have hW0 : RunW W3 B r code s l0 l1 l2 ⟨pc, p, st, kd, stk.take k, lg⟩ := ⟨_, _, hR5, hBr, by rw [List.length_take, Nat.min_eq_left hk1]; exact hS5, hL5⟩
  have hN2 : NotesOk ⟨pc, p, st, kd, stk.take k, lg⟩ := fun e he => hN e (List.mem_of_mem_take he)
  have hl2 : (stk.take k).length ≤ 1048577 := Nat.le_trans (List.length_take_le _ _) (Nat.le_trans hk1 hl)
  with_reducible refine (fail_any W3 B r code s l0 l1 l2 ⟨pc, p, st, kd, stk.take k, lg⟩ hW0 hN2 hl2 hg).mono ?_
  rintro e w2 ⟨rfl, hb9, hW9⟩
  go_wp2_with (fail)
  go_ret
  exact ⟨rfl, hB5.trans hb9, hW9⟩
set_option maxHeartbeats 8000000 in
set_option maxRecDepth 20000 in
theorem choice_else (w : World) (B r : Nat) (code : Value) (s : ByteArray) (l0 l1 l2 : Int) (x : MSt) (o : Int) (o10 : ¬ o = 10) (o11 : ¬ o = 11) (o12 : ¬ o = 12) (a b n : Int) (tx : ByteArray) (s0 s1 s2 s3 : Int) (h : RunW w B r code s l0 l1 l2 x) (hN : NotesOk x) (hl : x.stack.length ≤ 1048577) (hg : x.log.length ≤ 1048577)
    (hpc : 0 ≤ x.pc ∧ x.pc ≤ 1048576) (ha : -1048576 ≤ a ∧ a ≤ 1048576) (y : MSt) (hc : choiceM ⟨o, a, b, n, tx, s0, s1, s2, s3⟩ x = some y) :
    Calls Tryd.prog 50 #[.pointer (some ⟨r, 0, none⟩), insA ⟨o, a, b, n, tx, s0, s1, s2, s3⟩] w fun en w' => en = .returned (.int .i64 0) ∧ Below B w w' ∧ RunW w' B r code s l0 l1 l2 y := by
  have h0 := h
  obtain ⟨sv, lv, hR, hBr, hS, hL⟩ := h
  have hBw := Nat.le_of_lt (Nat.lt_of_le_of_lt hBr (block_lt hR))
  obtain ⟨pc, p, st, kd, stk, lg⟩ := x
  unfold choiceM at hc
  simp only at hc hpc hR hS hL hl hg
  by_cases hz : stk.length = 0
  · rw [List.getElem?_eq_none (by omega)] at hc; cases hc
  have hk : stk.length - 1 < stk.length := by omega
  rw [List.getElem?_eq_getElem hk] at hc
  simp only at hc
  by_cases hr : stk[stk.length - 1].ret = true
  · rw [if_pos hr] at hc; cases hc
  rw [if_neg hr] at hc
  replace hr : stk[stk.length - 1].ret = false := by simpa using hr
  have hno := hN _ (List.getElem_mem hk) hr
  simp only at hno
  obtain ⟨g, c, rfl⟩ := owns_form hS (by omega)
  obtain ⟨A2, c2, rfl⟩ := (RowIs.of_owns hL).form
  have hb0 := (Below.refl w.heap.size w).alloc (Nat.le_refl _) (.cells #[.int .i64 o, .int .i64 a, .int .i64 b, .int .i64 n, .string tx, .int .u64 s0, .int .u64 s1, .int .u64 s2, .int .u64 s3] 52)
  have hx0 := alloc_new w (.cells #[.int .i64 o, .int .i64 a, .int .i64 b, .int .i64 n, .string tx, .int .u64 s0, .int .u64 s1, .int .u64 s2, .int .u64 s3] 52)
  have hT := top_some _ B r code s l0 l1 l2 pc p st kd stk lg g c (.slice A2 lg.length c2) false (by omega) hl (keep hb0 hR) (own_below hS hb0)
  rw [if_pos hr] at hT
  have hR1 := keep hb0 hR
  have hS1 := own_below hS hb0
  have hL1 := own_below hL hb0
  have hB1 := hb0.mono hBw
  obtain ⟨q0, q1, q2, q3⟩ := ent_cells hS1 hk
  have hst := hS1.stored
  have hgb := (hS1.lt g rfl).1
  unfold runC at hR1
  simp only at hR1
  have hw1 : IntKind.i64.wrap (pc + a) = pc + a := wrap_in (by omega)
  have hw3 : IntKind.i64.wrap ((stk.length : Int) - 1) = ((stk.length - 1 : Nat) : Int) := by rw [wrap_in (by omega)]; omega
  have hw4 : wrap64 ((stk.length : Int) - 1) = ((stk.length - 1 : Nat) : Int) := by unfold wrap64; omega
  have hk3 : ((stk.length - 1 : Nat) : Int) ≤ (c : Int) := by have := owns_cap hS; omega
  have hxr : w.heap.size ≠ r := fun e => by have := block_lt hR; omega
  obtain ⟨cg, hgc⟩ := own_typed' hS1 g rfl
  have hgr : g ≠ r := fun e => by subst e; rw [hR1] at hgc; injection hgc with hgc; injection hgc with _ hgc; cases hgc
  have hgx : g ≠ w.heap.size := fun e => by subst e; rw [hx0] at hgc; injection hgc with hgc; injection hgc with _ hgc; cases hgc
  have hfg := block_free hgc
  have hno' := hno
  unfold insA
  clear hR hS hL
  generalize hK : stk.length - 1 = k at *
  rw [if_neg o10, if_neg o11, if_neg o12] at hc
  obtain rfl := Option.some.inj hc
  clear hc
  have e10 : (o == 10) = false := beq_eq_false_iff_ne.2 o10
  have e11 : (o == 11) = false := beq_eq_false_iff_ne.2 o11
  have e12 : (o == 12) = false := beq_eq_false_iff_ne.2 o12
  go_enter Tryd.func50, Tryd.ntmps50
  go_wp2_with (fail)
  with_reducible refine hT.mono ?_
  rintro e w' ⟨rfl, rfl⟩
  generalize hW2 : w.alloc (.cells #[.int .i64 o, .int .i64 a, .int .i64 b, .int .i64 n, .string tx, .int .u64 s0, .int .u64 s1, .int .u64 s2, .int .u64 s3] 52) = W2 at *
  have hR3 := hR1
  have hX3 := hx0
  have hS3 := hS1
  have hL3 := hL1
  have hB3 := hB1
  have hk1 : k ≤ stk.length := by omega
  clear q0 q1 q2 q3 hst hR1 hS1 hL1 hB1 hx0 hgc hfg hno hno'
  have hcR := block_cell hR3
  have hfR := block_free hR3
  have hcX := block_cell hX3
  go_wp2_with (fail)
  go_region
  have hR4 := heap_setCell_self hR3 9 (.slice (some ⟨g, 0, none⟩) k c)
  have hX4 := (heap_setCell_ne (w := W2) (b := r) 9 _ (.slice (some ⟨g, 0, none⟩) k c) hxr).trans hX3
  have hS4 := owns_cut entC_len (own_set hS3 hR3 (by decide) 9 (.slice (some ⟨g, 0, none⟩) k c)) (m := k) hk1
  have hL4 := own_set hL3 hR3 (by decide) 9 (.slice (some ⟨g, 0, none⟩) k c)
  have hB4 := hB3.setCell (p := ⟨r, 9, none⟩) hBr (.slice (some ⟨g, 0, none⟩) k c)
  have hR5 : (W2.setCell ⟨r, 9, none⟩ (.slice (some ⟨g, 0, none⟩) k c)).drew.heap[r]? = _ := hR4
  have hX5 : (W2.setCell ⟨r, 9, none⟩ (.slice (some ⟨g, 0, none⟩) k c)).drew.heap[w.heap.size]? = _ := hX4
  have hS5 := own_below hS4 (Below.refl _ _).drew
  have hL5 := own_below hL4 (Below.refl _ _).drew
  have hB5 := hB4.drew
  clear hcR hfR hcX hR3 hX3 hS3 hL3 hB3 hR4 hX4 hS4 hL4 hB4
  generalize (W2.setCell ⟨r, 9, none⟩ (.slice (some ⟨g, 0, none⟩) k c)).drew = W3 at *
  have hcR := block_cell hR5
  have hfR := block_free hR5
  have hcX := block_cell hX5
  go_wp2_with (fail)
  go_region
  have hR6 := heap_setCell_self hR5 5 (.int .i64 (pc + a))
  have hS6 := own_below (own_set hS5 hR5 (by decide) 5 (.int .i64 (pc + a))) (Below.refl _ _).drew
  have hL6 := own_below (own_set hL5 hR5 (by decide) 5 (.int .i64 (pc + a))) (Below.refl _ _).drew
  have hB6 := (hB5.setCell (p := ⟨r, 5, none⟩) hBr (.int .i64 (pc + a))).drew
  go_wp2_with (fail)
  go_ret
  refine ⟨rfl, hB6, _, _, hR6, hBr, ?_, hL6⟩
  rw [List.length_take, Nat.min_eq_left hk1]
  exact hS6
theorem choice_any (w : World) (B r : Nat) (code : Value) (s : ByteArray) (l0 l1 l2 : Int) (x : MSt) (i : Ins) (h : RunW w B r code s l0 l1 l2 x) (hN : NotesOk x) (hl : x.stack.length ≤ 1048577) (hg : x.log.length ≤ 1048577)
    (hpc : 0 ≤ x.pc ∧ x.pc ≤ 1048576) (ha : -1048576 ≤ i.a ∧ i.a ≤ 1048576) (y : MSt) (hc : choiceM i x = some y) :
    Calls Tryd.prog 50 #[.pointer (some ⟨r, 0, none⟩), insA i] w fun en w' => en = .returned (.int .i64 0) ∧ Below B w w' ∧ RunW w' B r code s l0 l1 l2 y := by
  obtain ⟨op, a, b, n, tx, s0, s1, s2, s3⟩ := i
  by_cases c10 : op = 10
  · subst c10; exact choice_ten w B r code s l0 l1 l2 x a b n tx s0 s1 s2 s3 h hN hl hg hpc ha y hc
  by_cases c11 : op = 11
  · subst c11; exact choice_eleven w B r code s l0 l1 l2 x a b n tx s0 s1 s2 s3 h hN hl hg hpc ha y hc
  by_cases c12 : op = 12
  · subst c12; exact choice_twelve w B r code s l0 l1 l2 x a b n tx s0 s1 s2 s3 h hN hl hg hpc ha y hc
  exact choice_else w B r code s l0 l1 l2 x op c10 c11 c12 a b n tx s0 s1 s2 s3 h hN hl hg hpc ha y hc
end Go.Proofs.YthjlpcecfkboiaaDoor
