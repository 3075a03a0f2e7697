/-
  The runner of steps, what writes its memory: push, note, top, fail.
-/
import Derived.Test.YthjlpcecfkboiaaDoorRunner
import Derived.WalkKit
import Derived.BigQuiet
import Derived.Deep.RegionLaw
namespace Go.Proofs.YthjlpcecfkboiaaDoor
open Go.RowKit
set_option linter.unusedVariables false
set_option linter.unusedSimpArgs false
/-- append to a row of the call's own, as one step of a region that draws. -/
theorem step_append_row {P : Program} {ops : Array Oper} {w : World} {o : Oper} {a : Act} {K : Act → World → Prop} {Q : Exit → Act → World → Prop} {E : Prop} (hg : o.guard = none) (s x : Operand) (t : TypeId)
    (ho : o.op = .call { callee := .builtin .append, args := #[s, x], argTypes := #[t, t] }) (base : Nat) (e : TypeId) (i : TypeInfo) (z : Value) (size bytes : Nat) (ht : P.underlying t = some (.slice e)) (hi : P.info? e = some i) (hz : i.zero = some z)
    (hsize : i.size = size) (hby : i.bytes = bytes) (hzs : z.cells.size = size) (hsz : 0 < size) (v : Value) (n : Nat) (xs : List Value) (hs : a.eval s = v) (hown : w.ownsRow base e size v n xs)
    (u : Value) (m : Nat) (news : List Value) (hx : a.eval x = u) (hr : RowIs w u size m news) (h1 : ∀ x ∈ news, x.oneCell' = true) (h63 : n + m ≤ maxLen) (hbytes : (n + m) * bytes ≤ 140737488355328) (hbase : base ≤ w.heap.size)
    (h : ∀ v' w', w'.ownsRow base e size v' (n + m) (xs ++ news) → w.grownBy w' v.ownBlock → (v'.ownBlock = v.ownBlock ∨ v'.ownBlock = some w.heap.size) → K (a.put o.dst v') w') :
    if Region.wanted o (yielded ops a.tmps) = true then Oper.wp P o a w K Q else E := by
  rw [if_pos (by simp [Region.wanted, hg])]
  exact wp_append_row s x t ho base e i z size bytes ht hi hz hsize hby hzs hsz v n xs hs hown u m news hx hr h1 h63 hbytes hbase h
theorem own_typed' {w : World} {base : Nat} {e : TypeId} {size n : Nat} {v : Value} {xs : List Value} (h : w.ownsRow base e size v n xs) (k : Nat) (hk : v.ownBlock = some k) : ∃ cells, w.heap[k]? = some (.cells cells e (0, 0)) := by
  rcases h.2 with ⟨rfl, _⟩ | ⟨g, cap, cur, rfl, hg, hh, r⟩
  · simp [Value.ownBlock] at hk
  · have : g = k := by simpa [Value.ownBlock] using hk
    subst this
    exact ⟨cur, hh⟩
theorem own_move' {w w1 : World} {base : Nat} {e : TypeId} {size n : Nat} {v : Value} {xs : List Value} (h : w.ownsRow base e size v n xs) (hm : ∀ k, v.ownBlock = some k → w1.heap[k]? = w.heap[k]?) : w1.ownsRow base e size v n xs := by
  obtain ⟨h1, h2⟩ := h
  refine ⟨h1, ?_⟩
  rcases h2 with h2 | ⟨g, cap, cur, rfl, hg, hh, r⟩
  · exact .inl h2
  · exact .inr ⟨g, cap, cur, rfl, hg, (hm g (by simp [Value.ownBlock])).trans hh, r⟩
/-- A store into a block of another type. -/
theorem own_set {w : World} {base r T : Nat} {cs : Array Value} {e : TypeId} {size n : Nat} {v : Value} {xs : List Value} (h : w.ownsRow base e size v n xs) (hr : w.heap[r]? = some (.cells cs T)) (hT : T ≠ e) (i : Nat) (u : Value) : (w.setCell ⟨r, i, none⟩ u).ownsRow base e size v n xs :=
  own_move' h fun k hk => heap_setCell_ne _ _ _ (fun he => by
    obtain ⟨c2, h2⟩ := own_typed' h k hk
    subst he
    rw [hr] at h2
    injection h2 with h2
    injection h2 with _ h2
    exact hT h2)
/-- Behind an append to a row of another type. -/
theorem own_other {w w1 : World} {base : Nat} {e e2 : TypeId} {size n size2 n2 : Nat} {v v2 : Value} {xs ys : List Value} (h : w.ownsRow base e size v n xs) (h2 : w.ownsRow base e2 size2 v2 n2 ys) (hT : e ≠ e2) (hg : w.grownBy w1 v2.ownBlock) : w1.ownsRow base e size v n xs :=
  own_move' h fun k hk => by
    obtain ⟨c1, k1⟩ := own_typed' h k hk
    refine hg.block k (block_lt k1) (fun he => ?_)
    obtain ⟨c2, k2⟩ := own_typed' h2 k he.symm
    rw [k1] at k2
    injection k2 with k2
    injection k2 with _ k2
    exact hT k2
theorem cell_alloc {W : World} {x : Obj} {b : Nat} (h : b < W.heap.size) (o : Nat) : (W.alloc x).cell? ⟨b, o, none⟩ = W.cell? ⟨b, o, none⟩ := ((Below.refl W.heap.size W).alloc (Nat.le_refl _) x).cell (p := ⟨b, o, none⟩) h
/-- Blocks of instructions stay as they are. -/
def KeepsI (w w' : World) : Prop := ∀ (b : Nat) (cs : Array Value), w.heap[b]? = some (.cells cs 52) → w'.heap[b]? = some (.cells cs 52)
theorem KeepsI.below {w w' : World} (h : Below w.heap.size w w') : KeepsI w w' := fun b cs hb => keep h hb
theorem KeepsI.trans {a b c : World} (h : KeepsI a b) (k : KeepsI b c) : KeepsI a c := fun x cs hx => k x cs (h x cs hx)
theorem KeepsI.grown {w w' : World} {base : Nat} {e : TypeId} {size n : Nat} {v : Value} {xs : List Value} (hS : w.ownsRow base e size v n xs) (he : e ≠ 52) (hg : w.grownBy w' v.ownBlock) : KeepsI w w' := fun b cs hb => (hg.block b (block_lt hb) (fun h => by
  obtain ⟨c2, h2⟩ := own_typed' hS b h.symm
  rw [hb] at h2
  injection h2 with h2
  injection h2 with _ h2
  exact he h2.symm)).trans hb
theorem KeepsI.set {w : World} {r T : Nat} {cs : Array Value} (hr : w.heap[r]? = some (.cells cs T)) (hT : T ≠ 52) (i : Nat) (u : Value) : KeepsI w (w.setCell ⟨r, i, none⟩ u) := fun b c2 hb => (heap_setCell_ne _ _ _ (fun he => by
  subst he
  rw [hr] at hb
  injection hb with hb
  injection hb with _ hb
  exact hT hb)).trans hb
/-- A runner lies at r, its lists are rows of the call's own (blocks from B on). -/
def RunW (w : World) (B r : Nat) (code : Value) (s : ByteArray) (l0 l1 l2 : Int) (x : MSt) : Prop :=
  ∃ sv lv, w.heap[r]? = some (.cells (runC code s l0 l1 l2 x sv lv) 61) ∧ B ≤ r ∧ w.ownsRow B 55 4 sv x.stack.length (x.stack.flatMap entC) ∧ w.ownsRow B 57 6 lv x.log.length (x.log.flatMap notC)
theorem RunW.below {w w' : World} {B r : Nat} {code : Value} {s : ByteArray} {l0 l1 l2 : Int} {x : MSt} (h : RunW w B r code s l0 l1 l2 x) (hb : Below w.heap.size w w') : RunW w' B r code s l0 l1 l2 x := by
  obtain ⟨sv, lv, h1, h2, h3, h4⟩ := h
  exact ⟨sv, lv, keep hb h1, h2, own_below h3 hb, own_below h4 hb⟩
theorem info_ent : (Tryd.prog.info? 55).map (fun i => (i.zero, i.size, i.bytes)) = some (some (.agg #[.bool false, .int .i64 0, .int .i64 0, .int .i64 0]), 4, 32) := by kernel_rfl
theorem info_not : (Tryd.prog.info? 57).map (fun i => (i.zero, i.size, i.bytes)) = some (some (.agg #[.int .i64 0, .int .i64 0, .int .i64 0, .int .i64 0, .int .i64 0, .string ⟨#[]⟩]), 6, 56) := by kernel_rfl
set_option maxHeartbeats 8000000 in
set_option maxRecDepth 20000 in
theorem push_any (w : World) (B r : Nat) (code : Value) (s : ByteArray) (l0 l1 l2 : Int) (x : MSt) (e : Ent) (h : RunW w B r code s l0 l1 l2 x) (hl : l0 ≤ 1048576) :
    Calls Tryd.prog 49 #[.pointer (some ⟨r, 0, none⟩), entA e] w fun en w' => Below B w w' ∧ KeepsI w w' ∧ (if l0 ≤ x.stack.length then en = .returned (.int .i64 210) ∧ RunW w' B r code s l0 l1 l2 x else en = .returned (.int .i64 0) ∧ RunW w' B r code s l0 l1 l2 { x with stack := x.stack ++ [e] }) := by
  have h0 := h
  obtain ⟨sv, lv, hR, hBr, hS, hL⟩ := h
  obtain ⟨A, c, rfl⟩ := (RowIs.of_owns hS).form
  obtain ⟨i0, hi, hz0, hz1, hz2⟩ := info_parts info_ent
  obtain ⟨pc, p, st, kd, stk, lg⟩ := x
  obtain ⟨er, ep, ea, en⟩ := e
  unfold runC at hR
  simp only at hR hS hL
  have hrl := block_lt hR
  have hlR := block_cell hR
  have hB0 := (Below.refl B w).alloc (by omega) (.cells #[.bool er, .int .i64 ep, .int .i64 ea, .int .i64 en] 55)
  unfold entA
  by_cases h1 : l0 ≤ stk.length
  · simp only [if_pos h1]
    go_enter Tryd.func49, Tryd.ntmps49
    go_wp2_with (fail)
    go_quiet (fail)
    go_wp2_with (fail)
    go_ret
    exact ⟨below_drewN hB0 _, KeepsI.below (below_drewN ((Below.refl w.heap.size w).alloc (Nat.le_refl _) _) _), rfl, h0.below (below_drewN ((Below.refl w.heap.size w).alloc (Nat.le_refl _) _) _)⟩
  · simp only [if_neg h1]
    go_enter Tryd.func49, Tryd.ntmps49
    go_wp2_with (fail)
    go_quiet (fail)
    have hE := alloc_new w (.cells #[.bool er, .int .i64 ep, .int .i64 ea, .int .i64 en] 55)
    have hR1 := alloc_old (y := .cells #[.bool er, .int .i64 ep, .int .i64 ea, .int .i64 en] 55) hR
    have hS1 := own_below hS ((Below.refl w.heap.size w).alloc (Nat.le_refl _) (.cells #[.bool er, .int .i64 ep, .int .i64 ea, .int .i64 en] 55))
    have hL1 := own_below hL ((Below.refl w.heap.size w).alloc (Nat.le_refl _) (.cells #[.bool er, .int .i64 ep, .int .i64 ea, .int .i64 en] 55))
    have hB1 := below_drewN hB0 nq
    have hKI := KeepsI.below (below_drewN ((Below.refl w.heap.size w).alloc (Nat.le_refl _) (.cells #[.bool er, .int .i64 ep, .int .i64 ea, .int .i64 en] 55)) nq)
    have hBW := Nat.le_trans (show B ≤ w.heap.size by omega) hB1.size
    have hE1 : ((w.alloc (.cells #[.bool er, .int .i64 ep, .int .i64 ea, .int .i64 en] 55)).drewN nq).heap[w.heap.size]? = _ := hE
    have hR2 : ((w.alloc (.cells #[.bool er, .int .i64 ep, .int .i64 ea, .int .i64 en] 55)).drewN nq).heap[r]? = _ := hR1
    have hS2 := own_below hS1 (below_drewN (Below.refl _ _) nq)
    have hL2 := own_below hL1 (below_drewN (Below.refl _ _) nq)
    generalize (w.alloc (.cells #[.bool er, .int .i64 ep, .int .i64 ea, .int .i64 en] 55)).drewN nq = W at *
    generalize w.heap.size = q at *
    clear hE hR1 hS1 hL1 hB0 hlR hR hS hL hrl h0
    have hrl := block_lt hR2
    have hql := block_lt hE1
    have hcR := block_cell hR2
    have hcE := block_cell hE1
    go_wp2_with (fail)
    have hb3 := (Below.refl W.heap.size W).drew.alloc (Nat.le_refl _) (.cells #[.bool er, .int .i64 ep, .int .i64 ea, .int .i64 en] 55)
    have hS3 := own_below hS2 hb3
    have hL3 := own_below hL2 hb3
    have hR3 := keep hb3 hR2
    have hB3 := hB1.drew.alloc hBW (.cells #[.bool er, .int .i64 ep, .int .i64 ea, .int .i64 en] 55)
    have hBX : B ≤ (W.drew.alloc (.cells #[.bool er, .int .i64 ep, .int .i64 ea, .int .i64 en] 55)).heap.size := Nat.le_trans hBW hb3.size
    have hrow := row_new W.drew 55 #[.bool er, .int .i64 ep, .int .i64 ea, .int .i64 en] 4 rfl
    have hone : ∀ x ∈ [Value.bool er, .int .i64 ep, .int .i64 ea, .int .i64 en], x.oneCell' = true := by intro x hx; simp at hx; rcases hx with rfl | rfl | rfl | rfl <;> rfl
    have h63 : stk.length + 1 ≤ maxLen := by unfold maxLen; omega
    have h64 : (stk.length + 1) * 32 ≤ 140737488355328 := by omega
    have hne : some r ≠ (Value.slice A stk.length c).ownBlock := fun e => by obtain ⟨cs, h⟩ := own_typed' hS2 r e.symm; rw [hR2] at h; injection h with h; injection h with _ h; cases h
    go_region_law (refine step_append_row rfl (.tmp 22) (.tmp 24) 28 rfl B 55 i0 _ 4 32 Tryd.underlying28 hi hz0 hz1 hz2 rfl (by decide) _ stk.length (stk.flatMap entC) rfl hS3 _ 1 _ rfl hrow hone h63 h64 hBX ?_; intro v4 w4 hS4 hg4 ha4; have hR4 := (hg4.block r (block_lt hR3) hne).trans hR3; have hcR4 := block_cell hR4; have hfR4 := block_free hR4; obtain ⟨A4, c4, rfl⟩ := (RowIs.of_owns hS4).form)
    all_goals
      have hL4 := own_other hL3 hS3 (by decide) hg4
      have hB4 := hB3.grown hg4 hBX (fun b e => (hS3.lt b e).1)
      have hR5 : (w4.setCell ⟨r, 9, none⟩ (.slice A4 (stk.length + 1) c4)).heap[r]? = some (.cells #[code, .string s, .int .i64 l0, .int .i64 l1, .int .i64 l2, .int .i64 pc, .int .i64 p, .int .i64 st, .int .i64 kd, .slice A4 (stk.length + 1) c4, lv] 61) := heap_setCell_self hR4 9 _
      have hS5 := own_set hS4 hR4 (by decide) 9 (.slice A4 (stk.length + 1) c4)
      have hL5 := own_set hL4 hR4 (by decide) 9 (.slice A4 (stk.length + 1) c4)
      have hB5 := hB4.setCell (p := ⟨r, 9, none⟩) hBr (.slice A4 (stk.length + 1) c4)
      go_wp2_with (fail)
      go_ret
      refine ⟨hB5, ((hKI.trans (KeepsI.below hb3)).trans (KeepsI.grown hS3 (by decide) hg4)).trans (KeepsI.set hR4 (by decide) 9 _), rfl, _, _, hR5, hBr, ?_, hL5⟩
      rw [List.length_append, List.flatMap_append]
      exact hS5
set_option maxHeartbeats 8000000 in
set_option maxRecDepth 20000 in
theorem note_any (w : World) (B r : Nat) (code : Value) (s : ByteArray) (l0 l1 l2 : Int) (x : MSt) (e : Not) (h : RunW w B r code s l0 l1 l2 x) (hl : l1 ≤ 1048576) (hpc : -9223372036854775808 ≤ x.pc ∧ x.pc < 9223372036854775807) :
    Calls Tryd.prog 53 #[.pointer (some ⟨r, 0, none⟩), notA e] w fun en w' => Below B w w' ∧ (if l1 ≤ x.log.length then en = .returned (.int .i64 211) else en = .returned (.int .i64 0) ∧ RunW w' B r code s l0 l1 l2 { x with log := x.log ++ [e], pc := x.pc + 1 }) := by
  obtain ⟨sv, lv, hR, hBr, hS, hL⟩ := h
  obtain ⟨A, c, rfl⟩ := (RowIs.of_owns hL).form
  obtain ⟨i0, hi, hz0, hz1, hz2⟩ := info_parts info_not
  obtain ⟨pc, p, st, kd, stk, lg⟩ := x
  obtain ⟨no, nk, na, nl, nn, nt⟩ := e
  have hw1 : wrap64 (pc + 1) = pc + 1 := by simp only at hpc; unfold wrap64; omega
  unfold runC at hR
  simp only at hR hS hL
  have hrl := block_lt hR
  have hlR := block_cell hR
  have hB0 := (Below.refl B w).alloc (by omega) (.cells #[.int .i64 no, .int .i64 nk, .int .i64 na, .int .i64 nl, .int .i64 nn, .string nt] 57)
  unfold notA
  by_cases h1 : l1 ≤ lg.length
  · simp only [if_pos h1]
    go_enter Tryd.func53, Tryd.ntmps53
    go_wp2_with (fail)
    go_quiet (fail)
    go_wp2_with (fail)
    go_ret
    exact ⟨below_drewN hB0 _, rfl⟩
  · simp only [if_neg h1]
    go_enter Tryd.func53, Tryd.ntmps53
    go_wp2_with (fail)
    go_quiet (fail)
    have hE := alloc_new w (.cells #[.int .i64 no, .int .i64 nk, .int .i64 na, .int .i64 nl, .int .i64 nn, .string nt] 57)
    have hR1 := alloc_old (y := .cells #[.int .i64 no, .int .i64 nk, .int .i64 na, .int .i64 nl, .int .i64 nn, .string nt] 57) hR
    have hS1 := own_below hS ((Below.refl w.heap.size w).alloc (Nat.le_refl _) (.cells #[.int .i64 no, .int .i64 nk, .int .i64 na, .int .i64 nl, .int .i64 nn, .string nt] 57))
    have hL1 := own_below hL ((Below.refl w.heap.size w).alloc (Nat.le_refl _) (.cells #[.int .i64 no, .int .i64 nk, .int .i64 na, .int .i64 nl, .int .i64 nn, .string nt] 57))
    have hB1 := below_drewN hB0 nq
    have hBW := Nat.le_trans (show B ≤ w.heap.size by omega) hB1.size
    have hE1 : ((w.alloc (.cells #[.int .i64 no, .int .i64 nk, .int .i64 na, .int .i64 nl, .int .i64 nn, .string nt] 57)).drewN nq).heap[w.heap.size]? = _ := hE
    have hR2 : ((w.alloc (.cells #[.int .i64 no, .int .i64 nk, .int .i64 na, .int .i64 nl, .int .i64 nn, .string nt] 57)).drewN nq).heap[r]? = _ := hR1
    have hS2 := own_below hS1 (below_drewN (Below.refl _ _) nq)
    have hL2 := own_below hL1 (below_drewN (Below.refl _ _) nq)
    generalize (w.alloc (.cells #[.int .i64 no, .int .i64 nk, .int .i64 na, .int .i64 nl, .int .i64 nn, .string nt] 57)).drewN nq = W at *
    generalize w.heap.size = q at *
    clear hE hR1 hS1 hL1 hB0 hlR hR hS hL hrl
    have hrl := block_lt hR2
    have hql := block_lt hE1
    have hcR := block_cell hR2
    have hcE := block_cell hE1
    go_wp2_with (fail)
    have hb3 := (Below.refl W.heap.size W).drew.alloc (Nat.le_refl _) (.cells #[.int .i64 no, .int .i64 nk, .int .i64 na, .int .i64 nl, .int .i64 nn, .string nt] 57)
    have hS3 := own_below hS2 hb3
    have hL3 := own_below hL2 hb3
    have hR3 := keep hb3 hR2
    have hB3 := hB1.drew.alloc hBW (.cells #[.int .i64 no, .int .i64 nk, .int .i64 na, .int .i64 nl, .int .i64 nn, .string nt] 57)
    have hBX : B ≤ (W.drew.alloc (.cells #[.int .i64 no, .int .i64 nk, .int .i64 na, .int .i64 nl, .int .i64 nn, .string nt] 57)).heap.size := Nat.le_trans hBW hb3.size
    have hrow := row_new W.drew 57 #[.int .i64 no, .int .i64 nk, .int .i64 na, .int .i64 nl, .int .i64 nn, .string nt] 6 rfl
    have hone : ∀ x ∈ [Value.int .i64 no, .int .i64 nk, .int .i64 na, .int .i64 nl, .int .i64 nn, .string nt], x.oneCell' = true := by intro x hx; simp at hx; rcases hx with rfl | rfl | rfl | rfl | rfl | rfl <;> rfl
    have h63 : lg.length + 1 ≤ maxLen := by unfold maxLen; omega
    have h64 : (lg.length + 1) * 56 ≤ 140737488355328 := by omega
    have hne : some r ≠ (Value.slice A lg.length c).ownBlock := fun e => by obtain ⟨cs, h⟩ := own_typed' hL2 r e.symm; rw [hR2] at h; injection h with h; injection h with _ h; cases h
    go_region_law (refine step_append_row rfl (.tmp 22) (.tmp 24) 29 rfl B 57 i0 _ 6 56 Tryd.underlying29 hi hz0 hz1 hz2 rfl (by decide) _ lg.length (lg.flatMap notC) rfl hL3 _ 1 _ rfl hrow hone h63 h64 hBX ?_; intro v4 w4 hL4 hg4 ha4; have hR4 := (hg4.block r (block_lt hR3) hne).trans hR3; have hcR4 := block_cell hR4; have hfR4 := block_free hR4; obtain ⟨A4, c4, rfl⟩ := (RowIs.of_owns hL4).form)
    all_goals
      have hS4 := own_other hS3 hL3 (by decide) hg4
      have hB4 := hB3.grown hg4 hBX (fun b e => (hL3.lt b e).1)
      have hR5 : (w4.setCell ⟨r, 10, none⟩ (.slice A4 (lg.length + 1) c4)).heap[r]? = some (.cells #[code, .string s, .int .i64 l0, .int .i64 l1, .int .i64 l2, .int .i64 pc, .int .i64 p, .int .i64 st, .int .i64 kd, sv, .slice A4 (lg.length + 1) c4] 61) := heap_setCell_self hR4 10 _
      have hS5 := own_set hS4 hR4 (by decide) 10 (.slice A4 (lg.length + 1) c4)
      have hL5 := own_set hL4 hR4 (by decide) 10 (.slice A4 (lg.length + 1) c4)
      have hB5 := hB4.setCell (p := ⟨r, 10, none⟩) hBr (.slice A4 (lg.length + 1) c4)
      clear hcR4 hfR4 hcR
      have hcR5 := block_cell hR5
      have hfR5 := block_free hR5
      generalize w4.setCell ⟨r, 10, none⟩ (.slice A4 (lg.length + 1) c4) = W5 at *
      have hR6 : (W5.setCell ⟨r, 5, none⟩ (.int .i64 (pc + 1))).heap[r]? = some (.cells #[code, .string s, .int .i64 l0, .int .i64 l1, .int .i64 l2, .int .i64 (pc + 1), .int .i64 p, .int .i64 st, .int .i64 kd, sv, .slice A4 (lg.length + 1) c4] 61) := heap_setCell_self hR5 5 _
      have hS6 := own_set hS5 hR5 (by decide) 5 (.int .i64 (pc + 1))
      have hL6 := own_set hL5 hR5 (by decide) 5 (.int .i64 (pc + 1))
      have hB6 := hB5.setCell (p := ⟨r, 5, none⟩) hBr (.int .i64 (pc + 1))
      go_wp2_with (fail)
      go_ret
      refine ⟨hB6, rfl, _, _, hR6, hBr, hS6, ?_⟩
      rw [List.length_append, List.flatMap_append]
      exact hL6
end Go.Proofs.YthjlpcecfkboiaaDoor
