/-
  The runner of steps: the top of its stack; back to the last choice.
-/
import Derived.Test.YthjlpcecfkboiaaDoorRunner2
import Derived.WalkKit
import Derived.BigQuiet
import Derived.Deep.RegionLaw
import Derived.BigRegion
namespace Go.Proofs.YthjlpcecfkboiaaDoor
open Go.RowKit
set_option linter.unusedVariables false
set_option linter.unusedSimpArgs false
/-- An entry of the stack, in memory. -/
theorem ent_cells {w : World} {B g n c : Nat} {stk : List Ent} (h : w.ownsRow B 55 4 (.slice (some ⟨g, 0, none⟩) n c) stk.length (stk.flatMap entC)) {k : Nat} (hk : k < stk.length) :
    w.cell? ⟨g, k * 4, none⟩ = some (.bool stk[k].ret) ∧ w.cell? ⟨g, k * 4 + 1, none⟩ = some (.int .i64 stk[k].pc) ∧ w.cell? ⟨g, k * 4 + 2, none⟩ = some (.int .i64 stk[k].at_) ∧ w.cell? ⟨g, k * 4 + 3, none⟩ = some (.int .i64 stk[k].notes) := by
  obtain ⟨A, c', hv, hrow⟩ := (RowIs.of_owns h).2
  injection hv with e1 e2 e3
  subst e1 e2 e3
  obtain ⟨g', o, he, hc⟩ := hrow (by omega)
  injection he with he
  injection he with e1 e2
  subst e1 e2
  have hr : ∀ j, j < 4 → w.cell? ⟨g, 0 + k * 4 + j, none⟩ = (entC stk[k])[j]? := fun j hj => row_cell entC_len hc hk hj
  have h0 := hr 0 (by decide)
  have h1 := hr 1 (by decide)
  have h2 := hr 2 (by decide)
  have h3 := hr 3 (by decide)
  rw [Nat.zero_add] at h0 h1 h2 h3
  exact ⟨h0, h1, h2, h3⟩
theorem owns_form {w : World} {base : Nat} {e : TypeId} {size n : Nat} {v : Value} {xs : List Value} (h : w.ownsRow base e size v n xs) (hn : 0 < n) : ∃ g c, v = .slice (some ⟨g, 0, none⟩) n c := by
  obtain ⟨m, rfl⟩ : ∃ m, n = m + 1 := ⟨n - 1, by omega⟩
  exact owns_succ h
set_option maxHeartbeats 8000000 in
set_option maxRecDepth 20000 in
theorem top_none (w : World) (B r : Nat) (code : Value) (s : ByteArray) (l0 l1 l2 : Int) (pc p st kd : Int) (lg : List Not) (sv lv : Value) (b : Bool)
    (hR : w.heap[r]? = some (.cells (runC code s l0 l1 l2 ⟨pc, p, st, kd, [], lg⟩ sv lv) 61)) (hS : w.ownsRow B 55 4 sv 0 []) :
    Calls Tryd.prog 52 #[.pointer (some ⟨r, 0, none⟩), .bool b] w fun e w' => e = .returned (.tuple #[.pointer none, .int .i64 213]) ∧ w' = w := by
  obtain ⟨A, c, rfl⟩ := (RowIs.of_owns hS).form
  unfold runC at hR
  simp only at hR
  have hcR := block_cell hR
  go_enter Tryd.func52, Tryd.ntmps52
  go_wp2_with (fail)
  go_ret2
  exact ⟨rfl, rfl⟩
set_option maxHeartbeats 8000000 in
set_option maxRecDepth 20000 in
theorem top_some (w : World) (B r : Nat) (code : Value) (s : ByteArray) (l0 l1 l2 : Int) (pc p st kd : Int) (stk : List Ent) (lg : List Not) (g c : Nat) (lv : Value) (b : Bool) (hn : 0 < stk.length) (hl : stk.length ≤ 1048577)
    (hR : w.heap[r]? = some (.cells (runC code s l0 l1 l2 ⟨pc, p, st, kd, stk, lg⟩ (.slice (some ⟨g, 0, none⟩) stk.length c) lv) 61)) (hS : w.ownsRow B 55 4 (.slice (some ⟨g, 0, none⟩) stk.length c) stk.length (stk.flatMap entC)) :
    Calls Tryd.prog 52 #[.pointer (some ⟨r, 0, none⟩), .bool b] w fun e w' => e = .returned (if (stk[stk.length - 1]'(by omega)).ret = b then .tuple #[.pointer (some ⟨g, (stk.length - 1) * 4, none⟩), .int .i64 0] else .tuple #[.pointer none, .int .i64 213]) ∧ w' = w := by
  obtain ⟨h0, -, -, -⟩ := ent_cells hS (k := stk.length - 1) (by omega)
  unfold runC at hR
  simp only at hR
  have hcR := block_cell hR
  generalize (stk[stk.length - 1]'(by omega)).ret = er at *
  have hw : wrap64 ((stk.length : Int) - 1) = ((stk.length - 1 : Nat) : Int) := by unfold wrap64; omega
  have hlt : stk.length - 1 < stk.length := by omega
  have hlt2 : ((stk.length - 1 : Nat) : Int) < (stk.length : Int) := by omega
  by_cases hb : er = b
  · simp only [if_pos hb]
    subst hb
    go_enter Tryd.func52, Tryd.ntmps52
    go_wp2_with (fail)
    go_ret2
    exact ⟨rfl, rfl⟩
  · simp only [if_neg hb]
    have hb2 : (er == b) = false := beq_eq_false_iff_ne.2 hb
    go_enter Tryd.func52, Tryd.ntmps52
    go_wp2_with (fail)
    go_ret2
    exact ⟨rfl, rfl⟩
theorem flat_take4 {α : Type} {f : α → List Value} {m : Nat} (hf : ∀ x, (f x).length = m) : ∀ (l : List α) (k : Nat), (l.flatMap f).take (k * m) = (l.take k).flatMap f
  | [], k => by simp
  | x :: l, 0 => by simp
  | x :: l, k + 1 => by
    rw [List.flatMap_cons, List.take_succ_cons, List.flatMap_cons, ← flat_take4 hf l k, Nat.succ_mul, List.take_append, hf, List.take_of_length_le (by rw [hf]; omega), show k * m + m - m = k * m from by omega]
/-- A row of the call's own, cut shorter. -/
theorem owns_cut {w : World} {base : Nat} {e : TypeId} {size n c : Nat} {A : Option Addr} {α : Type} {f : α → List Value} (hf : ∀ x, (f x).length = size) {l : List α} (h : w.ownsRow base e size (.slice A n c) n (l.flatMap f)) {m : Nat} (hm : m ≤ n) :
    w.ownsRow base e size (.slice A m c) m ((l.take m).flatMap f) := by
  rw [← flat_take4 hf]
  obtain ⟨hl, h⟩ := h
  have hms : m * size ≤ n * size := Nat.mul_le_mul_right _ hm
  refine ⟨by rw [List.length_take]; omega, ?_⟩
  rcases h with ⟨he, hn⟩ | ⟨g', cap', cur, he, h1, h2, h3, h4, h5, h6⟩
  · injection he with a1 a2 a3
    subst a1 a2 a3
    obtain rfl : m = 0 := by omega
    exact .inl ⟨rfl, rfl⟩
  · injection he with a1 a2 a3
    subst a1 a3
    refine .inr ⟨g', c, cur, rfl, h1, h2, Nat.le_trans hm h3, h4, h5, ?_⟩
    rw [← h6, List.take_take, Nat.min_eq_left hms]
theorem owns_cap {w : World} {base : Nat} {e : TypeId} {size n c m : Nat} {A : Option Addr} {xs : List Value} (h : w.ownsRow base e size (.slice A n c) m xs) : n ≤ c := by
  rcases h.2 with ⟨he, hn⟩ | ⟨g', cap', cur, he, h1, h2, h3, h4, h5, h6⟩
  · injection he with a1 a2 a3; omega
  · injection he with a1 a2 a3; omega
/-- The choice to which a failure goes back has a log that is no longer. -/
def NotesOk (x : MSt) : Prop := ∀ e ∈ x.stack, e.ret = false → 0 ≤ e.notes ∧ e.notes ≤ x.log.length
set_option maxHeartbeats 8000000 in
set_option maxRecDepth 20000 in
theorem fail_any (w : World) (B r : Nat) (code : Value) (s : ByteArray) (l0 l1 l2 : Int) (x : MSt) (h : RunW w B r code s l0 l1 l2 x) (hN : NotesOk x) (hl : x.stack.length ≤ 1048577) (hg : x.log.length ≤ 1048577) :
    Calls Tryd.prog 51 #[.pointer (some ⟨r, 0, none⟩)] w fun en w' => en = .returned (.tuple #[]) ∧ Below B w w' ∧ RunW w' B r code s l0 l1 l2 (failM x) := by
  obtain ⟨sv, lv, hR, hBr, hS, hL⟩ := h
  obtain ⟨A, c, rfl⟩ := (RowIs.of_owns hS).form
  obtain ⟨A2, c2, rfl⟩ := (RowIs.of_owns hL).form
  obtain ⟨pc, p, st, kd, stk, lg⟩ := x
  unfold runC at hR
  simp only at hR hS hL hl hg
  have hcR := block_cell hR
  have hw0 : wrap64 ((stk.length : Int) - 1) = (stk.length : Int) - 1 := by unfold wrap64; omega
  go_enter Tryd.func51, Tryd.ntmps51
  go_wp2_with (fail)
  go_loopw [3] (fun i wr => ∃ k : Nat, k ≤ stk.length ∧ i = .int .i64 ((k : Int) - 1) ∧ failAt ⟨pc, p, st, kd, stk, lg⟩ k = failM ⟨pc, p, st, kd, stk, lg⟩ ∧ Below w.heap.size w wr) (fun i _ => (intOf i + 1).toNat)
  case atStart => exact ⟨stk.length, Nat.le_refl _, by first | rfl | go_num, rfl, Below.refl _ _⟩
  case round =>
    obtain ⟨k, hk, rfl, hf, hB⟩ := hrel
    have hR1 := keep hB hR
    have hS1 := own_below hS hB
    have hL1 := own_below hL hB
    have hcR1 := block_cell hR1
    have hfR1 := block_free hR1
    cases k with
    | zero =>
      go_wp2_with (fail)
      have g1 := heap_setCell_self (heap_setCell_self (heap_setCell_self (heap_setCell_self (heap_setCell_self (heap_setCell_self hR1 5 (.int .i64 0)) 6 (.int .i64 0)) 7 (.int .i64 st)) 8 (.int .i64 2)) 9 (.slice none 0 0)) 10 (.slice none 0 0)
      have hB1 : Below B w wr := hB.mono (Nat.le_of_lt (Nat.lt_of_le_of_lt hBr (block_lt hR)))
      have g2 := (((((hB1.setCell (p := ⟨r, 5, none⟩) hBr (.int .i64 0)).setCell (p := ⟨r, 6, none⟩) hBr (.int .i64 0)).setCell (p := ⟨r, 7, none⟩) hBr (.int .i64 st)).setCell (p := ⟨r, 8, none⟩) hBr (.int .i64 2)).setCell (p := ⟨r, 9, none⟩) hBr (.slice none 0 0)).setCell (p := ⟨r, 10, none⟩) hBr (.slice none 0 0)
      go_end0
      refine ⟨rfl, g2, ?_⟩
      rw [← hf]
      exact ⟨_, _, g1, hBr, World.ownsRow_nil _ _ _ _, World.ownsRow_nil _ _ _ _⟩
    | succ k =>
      obtain ⟨g, c', hv⟩ := owns_form hS (by omega)
      injection hv with e1 e2 e3
      subst e1 e3
      obtain ⟨q0, q1, q2, q3⟩ := ent_cells hS1 (k := k) (by omega)
      have hmem : stk[k]'(by omega) ∈ stk := List.getElem_mem _
      have hok := hN _ hmem
      have hget : stk[k]? = some (stk[k]'(by omega)) := List.getElem?_eq_getElem (by omega)
      unfold failAt at hf
      simp only [hget] at hf
      generalize (stk[k]'(by omega)) = e at *
      obtain ⟨er, ep, ea, en⟩ := e
      simp only at q0 q1 q2 q3 hok hf
      have hk1 : k < stk.length := by omega
      have hk2 : (k : Int) < (stk.length : Int) := by omega
      have hw1 : wrap64 ((k : Int) - 1) = (k : Int) - 1 := by unfold wrap64; omega
      have hk3 : (k : Int) ≤ (c : Int) := by have := owns_cap hS; omega
      clear e2
      cases er with
      | true =>
        rw [if_pos rfl] at hf
        go_wp2_with (fail)
        refine ⟨⟨k, by omega, rfl, hf, hB.alloc hB.size _⟩, ?_⟩
        simp [intOf]
      | false =>
        rw [if_neg (by decide)] at hf
        obtain ⟨hn0, hn1⟩ := hok rfl
        obtain ⟨m, rfl⟩ := Int.eq_ofNat_of_zero_le hn0
        have hm1 : m ≤ lg.length := by omega
        have hm2 : (m : Int) ≤ (c2 : Int) := by have := owns_cap hL; omega
        clear hok
        have hb0 := (Below.refl wr.heap.size wr).alloc (Nat.le_refl _) (.cells #[.bool false, .int .i64 ep, .int .i64 ea, .int .i64 (m : Int)] 55)
        have hR2 := keep hb0 hR1
        have hX2 := alloc_new wr (.cells #[.bool false, .int .i64 ep, .int .i64 ea, .int .i64 (m : Int)] 55)
        have hS2 := own_below hS1 hb0
        have hL2 := own_below hL1 hb0
        have hBw := Nat.le_of_lt (Nat.lt_of_le_of_lt hBr (block_lt hR))
        have hB2 := (hB.mono hBw).alloc (Nat.le_trans hBw hB.size) (.cells #[.bool false, .int .i64 ep, .int .i64 ea, .int .i64 (m : Int)] 55)
        have hfR2 := block_free hR2
        have hcR2 := block_cell hR2
        have hxr : wr.heap.size ≠ r := fun e => by have := block_lt hR1; omega
        have hR3 : ((wr.alloc (.cells #[.bool false, .int .i64 ep, .int .i64 ea, .int .i64 (m : Int)] 55)).setCell ⟨r, 9, none⟩ (.slice (some ⟨g, 0, none⟩) k c)).heap[r]? = some (.cells #[code, .string s, .int .i64 l0, .int .i64 l1, .int .i64 l2, .int .i64 pc, .int .i64 p, .int .i64 st, .int .i64 kd, .slice (some ⟨g, 0, none⟩) k c, .slice A2 lg.length c2] 61) := heap_setCell_self hR2 9 _
        have hX3 := (heap_setCell_ne (w := wr.alloc (.cells #[.bool false, .int .i64 ep, .int .i64 ea, .int .i64 (m : Int)] 55)) (b := r) 9 _ (.slice (some ⟨g, 0, none⟩) k c) hxr).trans hX2
        have hS3 := owns_cut entC_len (own_set hS2 hR2 (by decide) 9 (.slice (some ⟨g, 0, none⟩) k c)) (m := k) (by omega)
        have hL3 := own_set hL2 hR2 (by decide) 9 (.slice (some ⟨g, 0, none⟩) k c)
        have hB3 := hB2.setCell (p := ⟨r, 9, none⟩) hBr (.slice (some ⟨g, 0, none⟩) k c)
        go_wp2_with (fail)
        clear hfR1 hcR1 hcR q0 q1 q2 q3 hfR2 hcR2 hR2 hX2 hS2 hL2 hb0 hB2
        generalize (wr.alloc (.cells #[.bool false, .int .i64 ep, .int .i64 ea, .int .i64 (m : Int)] 55)).setCell ⟨r, 9, none⟩ (.slice (some ⟨g, 0, none⟩) k c) = W at *
        generalize wr.heap.size = q at *
        have hcR3 := block_cell hR3
        have hfR3 := block_free hR3
        have hcX3 := block_cell hX3
        go_region
        all_goals
          have hL4 := owns_cut notC_len hL3 (m := m) hm1
          have hR4 := heap_setCell_self hR3 5 (.int .i64 ep)
          have hS4 := own_set hS3 hR3 (by decide) 5 (.int .i64 ep)
          have hL5 := own_set hL4 hR3 (by decide) 5 (.int .i64 ep)
          have hR5 := heap_setCell_self hR4 6 (.int .i64 ea)
          have hS5 := own_set hS4 hR4 (by decide) 6 (.int .i64 ea)
          have hL6 := own_set hL5 hR4 (by decide) 6 (.int .i64 ea)
          have hR6 := heap_setCell_self hR5 10 (.slice A2 m c2)
          have hS6 := own_set hS5 hR5 (by decide) 10 (.slice A2 m c2)
          have hL7 := own_set hL6 hR5 (by decide) 10 (.slice A2 m c2)
          have hB4 := ((hB3.setCell (p := ⟨r, 5, none⟩) hBr (.int .i64 ep)).setCell (p := ⟨r, 6, none⟩) hBr (.int .i64 ea)).setCell (p := ⟨r, 10, none⟩) hBr (.slice A2 m c2)
          have hR7 : ((((W.setCell ⟨r, 5, none⟩ (.int .i64 ep)).setCell ⟨r, 6, none⟩ (.int .i64 ea)).setCell ⟨r, 10, none⟩ (.slice A2 m c2)).drew).heap[r]? = _ := hR6
          have hS7 := own_below hS6 (Below.refl _ _).drew
          have hL8 := own_below hL7 (Below.refl _ _).drew
          have hB5 := hB4.drew
          clear hcR3 hfR3 hcX3 hL4 hR4 hS4 hL5 hR5 hS5 hL6 hR6 hS6 hL7 hB4
          generalize (((W.setCell ⟨r, 5, none⟩ (.int .i64 ep)).setCell ⟨r, 6, none⟩ (.int .i64 ea)).setCell ⟨r, 10, none⟩ (.slice A2 m c2)).drew = W7 at *
          go_wp2_with (fail)
          (try simp only [Exit.inBlock, Exit.then])
          refine bodyPost_ret (results_none rfl _ _ _) rfl ?_
          refine ⟨rfl, hB5, ?_⟩
          rw [← hf]
          refine ⟨.slice (some ⟨g, 0, none⟩) k c, .slice A2 m c2, hR7, hBr, ?_, ?_⟩
          · rw [List.length_take, Nat.min_eq_left (by omega)]
            exact hS7
          · simp only [Int.toNat_natCast]
            rw [List.length_take, Nat.min_eq_left hm1]
            exact hL8
end Go.Proofs.YthjlpcecfkboiaaDoor
