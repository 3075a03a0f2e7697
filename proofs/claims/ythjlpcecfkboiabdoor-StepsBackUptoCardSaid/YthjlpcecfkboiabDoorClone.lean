/-
  slices.Clone of entries and of notes: a row of the call's own, or nil.
-/
import Derived.Test.YthjlpcecfkboiabDoorRunner2
import Derived.WalkKit
namespace Go.Proofs.YthjlpcecfkboiabDoor
open Go.RowKit
set_option linter.unusedVariables false
set_option linter.unusedSimpArgs false
theorem eq_nil_Entry (ao : Option Addr) (n c : Nat) (w : World) : Sem.run Tryd.prog (binOp .eql 22 (.slice ao n c) (.slice none 0 0)) w = .ok (.bool ao.isNone) w := by
  have h : Sem.run Tryd.prog (Op.equalIn 10000 22 (.slice ao n c) (.slice none 0 0)) w = .ok ao.isNone w := by
    rw [show (10000 : Nat) = 9999 + 1 from rfl, Op.equalIn]
    simp only [Sem.run_bind, run_underlying Tryd.underlying22, Result.andThen_ok]
    cases ao <;> rfl
  simp only [binOp, Op.equal, Op.maxDepth, Sem.run_bind, h, Result.andThen_ok]
  rfl
theorem eq_nil_Note (ao : Option Addr) (n c : Nat) (w : World) : Sem.run Tryd.prog (binOp .eql 23 (.slice ao n c) (.slice none 0 0)) w = .ok (.bool ao.isNone) w := by
  have h : Sem.run Tryd.prog (Op.equalIn 10000 23 (.slice ao n c) (.slice none 0 0)) w = .ok ao.isNone w := by
    rw [show (10000 : Nat) = 9999 + 1 from rfl, Op.equalIn]
    simp only [Sem.run_bind, run_underlying Tryd.underlying23, Result.andThen_ok]
    cases ao <;> rfl
  simp only [binOp, Op.equal, Op.maxDepth, Sem.run_bind, h, Result.andThen_ok]
  rfl
set_option maxHeartbeats 8000000 in
set_option maxRecDepth 20000 in
theorem cloneE_any (w : World) (v : Value) (n : Nat) (xs : List Value) (h : RowIs w v 4 n xs) (hone : ∀ x ∈ xs, x.oneCell' = true) (hn : n * 32 ≤ 140737488355328) :
    Calls Tryd.prog 47 #[v] w fun e w' => ∃ v', e = .returned v' ∧ w'.ownsRow w.heap.size 56 4 v' n xs ∧ Below w.heap.size w w' := by
  obtain ⟨i0, hi, hz0, hz1, hz2⟩ := info_parts info_ent
  have h0 := h
  obtain ⟨hl, ao, c, rfl, hc⟩ := h
  have hq := eq_nil_Entry ao n c
  go_enter Tryd.func47, Tryd.ntmps47
  cases ao with
  | none =>
    replace hq : ∀ w, Sem.run Tryd.prog (binOp .eql 22 (.slice none n c) (.slice none 0 0)) w = .ok (.bool true) w := hq
    have hn0 : n = 0 := by
      cases n with
      | zero => rfl
      | succ m => obtain ⟨_, _, h, _⟩ := hc (by omega); cases h
    subst hn0
    obtain rfl : xs = [] := List.eq_nil_of_length_eq_zero (by simpa using hl)
    go_wp2_with (fail)
    go_ret
    exact ⟨_, rfl, World.ownsRow_nil _ _ _ _, Below.refl _ _⟩
  | some ad =>
    replace hq : ∀ w, Sem.run Tryd.prog (binOp .eql 22 (.slice (some ad) n c) (.slice none 0 0)) w = .ok (.bool false) w := hq
    have hb0 := (Below.refl w.heap.size w).alloc (Nat.le_refl _) (.cells #[] 56)
    have hE := owns_empty w w.heap.size 56 4 (Nat.le_refl _)
    have hr := h0.below hb0
    have h63 : 0 + n ≤ maxLen := by unfold maxLen; omega
    have h64 : (0 + n) * 32 ≤ 140737488355328 := by omega
    go_wp2_with (at_builtin; refine wpList_append_row rfl _ _ 22 rfl w.heap.size 56 i0 _ 4 32 Tryd.underlying22 hi hz0 hz1 hz2 rfl (by decide) _ 0 [] rfl hE _ n xs rfl hr hone h63 h64 hb0.size ?_)
    intro v2 w2 hown hg hb
    go_wp2_with (fail)
    go_ret
    refine ⟨_, rfl, ?_, hb0.grown hg hb0.size (fun b e => (hE.lt b e).1)⟩
    exact hown
set_option maxHeartbeats 8000000 in
set_option maxRecDepth 20000 in
theorem cloneN_any (w : World) (v : Value) (n : Nat) (xs : List Value) (h : RowIs w v 6 n xs) (hone : ∀ x ∈ xs, x.oneCell' = true) (hn : n * 56 ≤ 140737488355328) :
    Calls Tryd.prog 48 #[v] w fun e w' => ∃ v', e = .returned v' ∧ w'.ownsRow w.heap.size 59 6 v' n xs ∧ Below w.heap.size w w' := by
  obtain ⟨i0, hi, hz0, hz1, hz2⟩ := info_parts info_not
  have h0 := h
  obtain ⟨hl, ao, c, rfl, hc⟩ := h
  have hq := eq_nil_Note ao n c
  go_enter Tryd.func48, Tryd.ntmps48
  cases ao with
  | none =>
    replace hq : ∀ w, Sem.run Tryd.prog (binOp .eql 23 (.slice none n c) (.slice none 0 0)) w = .ok (.bool true) w := hq
    have hn0 : n = 0 := by
      cases n with
      | zero => rfl
      | succ m => obtain ⟨_, _, h, _⟩ := hc (by omega); cases h
    subst hn0
    obtain rfl : xs = [] := List.eq_nil_of_length_eq_zero (by simpa using hl)
    go_wp2_with (fail)
    go_ret
    exact ⟨_, rfl, World.ownsRow_nil _ _ _ _, Below.refl _ _⟩
  | some ad =>
    replace hq : ∀ w, Sem.run Tryd.prog (binOp .eql 23 (.slice (some ad) n c) (.slice none 0 0)) w = .ok (.bool false) w := hq
    have hb0 := (Below.refl w.heap.size w).alloc (Nat.le_refl _) (.cells #[] 59)
    have hE := owns_empty w w.heap.size 59 6 (Nat.le_refl _)
    have hr := h0.below hb0
    have h63 : 0 + n ≤ maxLen := by unfold maxLen; omega
    have h64 : (0 + n) * 56 ≤ 140737488355328 := by omega
    go_wp2_with (at_builtin; refine wpList_append_row rfl _ _ 23 rfl w.heap.size 59 i0 _ 6 56 Tryd.underlying23 hi hz0 hz1 hz2 rfl (by decide) _ 0 [] rfl hE _ n xs rfl hr hone h63 h64 hb0.size ?_)
    intro v2 w2 hown hg hb
    go_wp2_with (fail)
    go_ret
    refine ⟨_, rfl, ?_, hb0.grown hg hb0.size (fun b e => (hE.lt b e).1)⟩
    exact hown
/-- A state as a value: its lists are the values sv, lv. -/
def mstA (x : MSt) (sv lv : Value) : Value := .agg #[.int .i64 x.pc, .int .i64 x.at_, .int .i64 x.steps, .int .i64 x.kind, sv, lv]
/-- A state that came in: its lists read as rows. -/
def MstIn (w : World) (x : MSt) (v : Value) : Prop := ∃ sv lv, v = mstA x sv lv ∧ RowIs w sv 4 x.stack.length (x.stack.flatMap entC) ∧ RowIs w lv 6 x.log.length (x.log.flatMap notC)
theorem MstIn.below {w w' : World} {x : MSt} {v : Value} (h : MstIn w x v) (hb : Below w.heap.size w w') : MstIn w' x v := by
  obtain ⟨sv, lv, h1, h2, h3⟩ := h
  exact ⟨sv, lv, h1, h2.below hb, h3.below hb⟩
/-- A state whose lists are rows of the call's own. -/
def MstOwn (w : World) (B : Nat) (x : MSt) (v : Value) : Prop := ∃ sv lv, v = mstA x sv lv ∧ w.ownsRow B 56 4 sv x.stack.length (x.stack.flatMap entC) ∧ w.ownsRow B 59 6 lv x.log.length (x.log.flatMap notC)
theorem MstOwn.reads {w : World} {B : Nat} {x : MSt} {v : Value} (h : MstOwn w B x v) : MstIn w x v := by
  obtain ⟨sv, lv, h1, h2, h3⟩ := h
  exact ⟨sv, lv, h1, RowIs.of_owns h2, RowIs.of_owns h3⟩
theorem ent_one (l : List Ent) : ∀ x ∈ l.flatMap entC, x.oneCell' = true := by
  intro x hx
  obtain ⟨y, _, hy⟩ := List.mem_flatMap.1 hx
  simp [entC] at hy
  rcases hy with rfl | rfl | rfl | rfl <;> rfl
theorem not_one (l : List Not) : ∀ x ∈ l.flatMap notC, x.oneCell' = true := by
  intro x hx
  obtain ⟨y, _, hy⟩ := List.mem_flatMap.1 hx
  simp [notC] at hy
  rcases hy with rfl | rfl | rfl | rfl | rfl | rfl <;> rfl
theorem set_six {w : World} {base b T : Nat} {cs : Array Value} {e : TypeId} {size n : Nat} {v : Value} {xs : List Value} (h : w.ownsRow base e size v n xs) (hr : w.heap[b]? = some (.cells cs T)) (hT : T ≠ e) (y0 y1 y2 y3 y4 y5 : Value) : ((((((w.setCell ⟨b, 0, none⟩ y0).setCell ⟨b, 1, none⟩ y1).setCell ⟨b, 2, none⟩ y2).setCell ⟨b, 3, none⟩ y3).setCell ⟨b, 4, none⟩ y4).setCell ⟨b, 5, none⟩ y5).ownsRow base e size v n xs := (own_set (own_set (own_set (own_set (own_set (own_set h hr hT 0 y0) (heap_setCell_self hr 0 y0) hT 1 y1) (heap_setCell_self (heap_setCell_self hr 0 y0) 1 y1) hT 2 y2) (heap_setCell_self (heap_setCell_self (heap_setCell_self hr 0 y0) 1 y1) 2 y2) hT 3 y3) (heap_setCell_self (heap_setCell_self (heap_setCell_self (heap_setCell_self hr 0 y0) 1 y1) 2 y2) 3 y3) hT 4 y4) (heap_setCell_self (heap_setCell_self (heap_setCell_self (heap_setCell_self (heap_setCell_self hr 0 y0) 1 y1) 2 y2) 3 y3) 4 y4) hT 5 y5)
theorem below_six {B : Nat} {a w : World} {b : Nat} (h : Below B a w) (hb : B ≤ b) (y0 y1 y2 y3 y4 y5 : Value) : Below B a ((((((w.setCell ⟨b, 0, none⟩ y0).setCell ⟨b, 1, none⟩ y1).setCell ⟨b, 2, none⟩ y2).setCell ⟨b, 3, none⟩ y3).setCell ⟨b, 4, none⟩ y4).setCell ⟨b, 5, none⟩ y5) := ((((((h.setCell (p := ⟨b, 0, none⟩) hb y0).setCell (p := ⟨b, 1, none⟩) hb y1).setCell (p := ⟨b, 2, none⟩) hb y2).setCell (p := ⟨b, 3, none⟩) hb y3).setCell (p := ⟨b, 4, none⟩) hb y4).setCell (p := ⟨b, 5, none⟩) hb y5)
theorem own_weaken' {w : World} {b1 b2 : Nat} {e : TypeId} {size n : Nat} {v : Value} {xs : List Value} (h : w.ownsRow b2 e size v n xs) (hb : b1 ≤ b2) : w.ownsRow b1 e size v n xs := by
  obtain ⟨h1, h2⟩ := h
  refine ⟨h1, ?_⟩
  rcases h2 with h2 | ⟨g, cap, cur, rfl, hg, r⟩
  · exact .inl h2
  · exact .inr ⟨g, cap, cur, rfl, Nat.le_trans hb hg, r⟩
set_option maxHeartbeats 8000000 in
set_option maxRecDepth 20000 in
theorem copied_any (w : World) (x : MSt) (v : Value) (h : MstIn w x v) (hl : x.stack.length * 32 ≤ 140737488355328) (hg : x.log.length * 56 ≤ 140737488355328) :
    Calls Tryd.prog 25 #[v] w fun e w' => ∃ v', e = .returned v' ∧ MstOwn w' w.heap.size x v' ∧ Below w.heap.size w w' := by
  obtain ⟨sv, lv, rfl, hS, hL⟩ := h
  have hcE := fun (w2 : World) (hb : Below w.heap.size w w2) => cloneE_any w2 sv _ _ (hS.below hb) (ent_one _) hl
  have hcN := fun (w2 : World) (hb : Below w.heap.size w w2) => cloneN_any w2 lv _ _ (hL.below hb) (not_one _) hg
  obtain ⟨pc, p, st, kd, stk, lg⟩ := x
  unfold mstA
  simp only at hcE hcN hl hg ⊢
  have hb1 := (Below.refl w.heap.size w).alloc (Nat.le_refl _) (.cells #[.int .i64 pc, .int .i64 p, .int .i64 st, .int .i64 kd, sv, lv] 25)
  have hb2 := hb1.alloc hb1.size (.cells #[.int .i64 0, .int .i64 0, .int .i64 0, .int .i64 0, .slice none 0 0, .slice none 0 0] 25)
  have hA := alloc_new w (.cells #[.int .i64 pc, .int .i64 p, .int .i64 st, .int .i64 kd, sv, lv] 25)
  have hA2 := alloc_old (y := .cells #[.int .i64 0, .int .i64 0, .int .i64 0, .int .i64 0, .slice none 0 0, .slice none 0 0] 25) hA
  go_enter Tryd.func25, Tryd.ntmps25
  go_wp2_with (fail)
  with_reducible refine (hcE _ hb2).mono ?_
  rintro e w3 ⟨v3, rfl, hown3, hb3⟩
  obtain ⟨A3, c3, rfl⟩ := (RowIs.of_owns hown3).form
  have hZ2' : ((w.alloc (.cells #[.int .i64 pc, .int .i64 p, .int .i64 st, .int .i64 kd, sv, lv] 25)).alloc (.cells #[.int .i64 0, .int .i64 0, .int .i64 0, .int .i64 0, .slice none 0 0, .slice none 0 0] 25)).heap[w.heap.size + 1]? = _ := alloc_new_at _ (show w.heap.size + 1 = (w.heap.push _).size by simp)
  have hA3 := keep hb3 hA2
  have hZ3 := keep hb3 hZ2'
  have hB3 := hb2.trans (hb3.mono hb2.size)
  have hown3' : w3.ownsRow w.heap.size 56 4 (.slice A3 stk.length c3) stk.length (stk.flatMap entC) := own_weaken' hown3 hb2.size
  have hcA3 := block_cell hA3
  have hfA3 := block_free hA3
  have hA4 := heap_setCell_self hA3 4 (.slice A3 stk.length c3)
  have hZ4 := (heap_setCell_ne (w := w3) (b := w.heap.size) 4 (w.heap.size + 1) (.slice A3 stk.length c3) (by omega)).trans hZ3
  have hS4 := own_set hown3' hA3 (by decide) 4 (.slice A3 stk.length c3)
  have hB4 := hB3.setCell (p := ⟨w.heap.size, 4, none⟩) (Nat.le_refl _) (.slice A3 stk.length c3)
  go_wp2_with (fail)
  clear hcA3 hfA3 hA hA2 hZ2' hA3 hZ3 hown3 hown3' hb1 hb2 hb3 hB3
  generalize w3.setCell ⟨w.heap.size, 4, none⟩ (.slice A3 stk.length c3) = W4 at *
  have hcA4 := block_cell hA4
  go_wp2_with (fail)
  with_reducible refine (hcN _ hB4).mono ?_
  rintro e w5 ⟨v5, rfl, hown5, hb5⟩
  obtain ⟨A5, c5, rfl⟩ := (RowIs.of_owns hown5).form
  have hA5 := keep hb5 hA4
  have hZ5 := keep hb5 hZ4
  have hS5 := own_below hS4 hb5
  have hB5 := hB4.trans (hb5.mono hB4.size)
  have hL5 : w5.ownsRow w.heap.size 59 6 (.slice A5 lg.length c5) lg.length (lg.flatMap notC) := own_weaken' hown5 hB4.size
  have hcA5 := block_cell hA5
  have hfA5 := block_free hA5
  have hA6 := heap_setCell_self hA5 5 (.slice A5 lg.length c5)
  have hZ6 := (heap_setCell_ne (w := w5) (b := w.heap.size) 5 (w.heap.size + 1) (.slice A5 lg.length c5) (by omega)).trans hZ5
  have hS6 := own_set hS5 hA5 (by decide) 5 (.slice A5 lg.length c5)
  have hL6 := own_set hL5 hA5 (by decide) 5 (.slice A5 lg.length c5)
  have hB6 := hB5.setCell (p := ⟨w.heap.size, 5, none⟩) (Nat.le_refl _) (.slice A5 lg.length c5)
  clear hcA4
  have hcZ6 := block_cell hZ6
  have hfZ6 := block_free hZ6
  have hcA6 := block_cell hA6
  generalize hW6 : w5.setCell ⟨w.heap.size, 5, none⟩ (.slice A5 lg.length c5) = W6 at *
  go_wp2_with (fail)
  have hZ7 := heap_setCell_self (heap_setCell_self (heap_setCell_self (heap_setCell_self (heap_setCell_self (heap_setCell_self hZ6 0 (.int .i64 pc)) 1 (.int .i64 p)) 2 (.int .i64 st)) 3 (.int .i64 kd)) 4 (.slice A3 stk.length c3)) 5 (.slice A5 lg.length c5)
  have hS7 := set_six hS6 hZ6 (by decide) (.int .i64 pc) (.int .i64 p) (.int .i64 st) (.int .i64 kd) (.slice A3 stk.length c3) (.slice A5 lg.length c5)
  have hL7 := set_six hL6 hZ6 (by decide) (.int .i64 pc) (.int .i64 p) (.int .i64 st) (.int .i64 kd) (.slice A3 stk.length c3) (.slice A5 lg.length c5)
  have hB7 := below_six hB6 (b := w.heap.size + 1) (by omega) (.int .i64 pc) (.int .i64 p) (.int .i64 st) (.int .i64 kd) (.slice A3 stk.length c3) (.slice A5 lg.length c5)
  have hcZ7 := block_cell hZ7
  (try simp only [Exit.inBlock, Exit.then])
  refine bodyPost_ret (v := mstA ⟨pc, p, st, kd, stk, lg⟩ (.slice A3 stk.length c3) (.slice A5 lg.length c5)) ?_ rfl ⟨_, rfl, ⟨_, _, rfl, hS7, hL7⟩, hB7⟩
  simp [results, Tryd.results25, go_sem, hcZ7, mstA]
end Go.Proofs.YthjlpcecfkboiabDoor
