/-
  steps.Save: the bytes of a state, or what is wrong with it.
-/
import Derived.Test.YthjlpcecfkboiabDoorSaver
import Derived.Test.YthjlpcecfkboiabDoorClone
import Derived.WalkKit
import Derived.BigQuiet
import Derived.BigRegion
import Derived.Deep.RegionLaw
import Derived.Lib.AppendStr
import Derived.Laws.BytesArg
namespace Go.Proofs.YthjlpcecfkboiabDoor
open Go.RowKit
set_option linter.unusedVariables false
set_option linter.unusedSimpArgs false
def entB (e : Ent) : List Int := oneL (if e.ret = true then 1 else 0) ++ [e.pc, e.at_, e.notes].flatMap fourL
def noteB (n : Not) : List Int := [n.op, n.kind].flatMap oneL ++ [n.at_, n.len].flatMap fourL ++ [n.n, (n.text.size : Int)].flatMap oneL ++ n.text.data.toList.map fun b => (b.toNat : Int)
def entBad (e : Ent) : Bool := [e.pc, e.at_, e.notes].any badN
def noteBad (n : Not) : Bool := [n.op, n.kind].any badB || [n.at_, n.len].any badN || [n.n, (n.text.size : Int)].any badB
def headB (x : MSt) : List Int := [x.pc, x.at_, x.steps].flatMap fourL ++ [x.kind].flatMap oneL ++ [(x.stack.length : Int)].flatMap fourL
def headBad (x : MSt) : Bool := [x.pc, x.at_, x.steps].any badN || [x.kind].any badB || [(x.stack.length : Int)].any badN
def saveB (x : MSt) : List Int := headB x ++ x.stack.flatMap entB ++ [(x.log.length : Int)].flatMap fourL ++ x.log.flatMap noteB
def saveBad (x : MSt) : Bool := headBad x || x.stack.any entBad || [(x.log.length : Int)].any badN || x.log.any noteBad
def saveV (x : MSt) : Value := if saveBad x = true then .tuple #[.string ⟨#[]⟩, .int .i64 220] else if 1048576 < (saveB x).length then .tuple #[.string ⟨#[]⟩, .int .i64 2] else .tuple #[.string (strOfNums (saveB x)), .int .i64 0]
theorem SavW.alloc {w : World} {B r : Nat} {bs : List Int} {bad : Bool} (h : SavW w B r bs bad) (x : Obj) : SavW (w.alloc x) B r bs bad := by
  obtain ⟨bv, h1, h2, h3⟩ := h
  exact ⟨bv, alloc_old h1, h2, h3.alloc x⟩
theorem entB_len (e : Ent) : (entB e).length = 13 := rfl
theorem fl_len {f : Ent → List Int} {m : Nat} (hf : ∀ x, (f x).length = m) : ∀ l : List Ent, (l.flatMap f).length = l.length * m
  | [] => by simp
  | a :: l => by rw [List.flatMap_cons, List.length_append, hf, fl_len hf l, List.length_cons, Nat.succ_mul]; omega
theorem fl_take {α : Type} {f : α → List Int} (l : List α) (k : Nat) : ((l.take k).flatMap f).length ≤ (l.flatMap f).length := by
  have h := congrArg (fun z => (z.flatMap f).length) (List.take_append_drop k l)
  simp only [List.flatMap_append, List.length_append] at h
  omega
/-- append of a string to a row of the call's own, as one step of a region that draws. -/
theorem step_append_str {P : Program} {ops : Array Oper} {w : World} {o : Oper} {a : Act} {K : Act → World → Prop} {Q : Exit → Act → World → Prop} {E : Prop} (hg : o.guard = none) (sl x : Operand) (t u : TypeId)
    (ho : o.op = .call { callee := .builtin .append, args := #[sl, x], argTypes := #[t, u] }) (base : Nat) (e : TypeId) (i : TypeInfo) (ht : P.underlying t = some (.slice e)) (hu : P.underlying u = some .string) (hi : P.info? e = some i) (hz : i.zero = some (.int .u8 0))
    (hsize : i.size = 1) (hby : i.bytes = 1) (v : Value) (n : Nat) (xs : List Value) (hs : a.eval sl = v) (hown : w.ownsRow base e 1 v n xs) (s : ByteArray) (hx : a.eval x = .string s)
    (h63 : n + s.size ≤ maxLen) (hbytes : n + s.size ≤ 140737488355328) (hbase : base ≤ w.heap.size)
    (h : ∀ v' w', w'.ownsRow base e 1 v' (n + s.size) (xs ++ Lib.strCells s) → w.grownBy w' v.ownBlock → K (a.put o.dst v') w') :
    if Region.wanted o (yielded ops a.tmps) = true then Oper.wp P o a w K Q else E := by
  rw [if_pos (by simp [Region.wanted, hg])]
  obtain ⟨v', w', hr, h2, h3, h4⟩ := Lib.run_append_own_string (P := P) w base t u o.type e i ht hu hi hz hsize hby v n xs hown s h63 hbytes hbase
  unfold Oper.wp execOp
  simp only [ho, resolve, invoke, builtin, Sem.run_bind, Sem.run_pure, Result.andThen_ok, List.map_toArray, List.map_cons, List.map_nil, hs, hx, hr]
  exact h _ _ h2 h3
theorem fl_ge {α : Type} (f : α → List Int) (hf : ∀ e, 1 ≤ (f e).length) : ∀ l : List α, l.length ≤ (l.flatMap f).length
  | [] => Nat.le_refl _
  | a :: l => by rw [List.flatMap_cons, List.length_append, List.length_cons]; have := hf a; have := fl_ge f hf l; omega
theorem below_drew1 {B : Nat} {a w : World} (h : Below B a w) : Below B a w.drew := ⟨h.os, h.tape, h.output, h.size, h.block⟩
theorem g_al1 {B : Nat} {a w : World} (h : Below B a w) (hB : B ≤ w.heap.size) (x : Obj) : Below B a (w.alloc x) := h.alloc hB x
theorem bit_any (b : Bool) (w : World) : Calls Tryd.prog 17 #[.bool b] w fun e w' => e = .returned (.int .i64 (if b = true then 1 else 0)) ∧ w' = w := by
  go_enter Tryd.func17, Tryd.ntmps17
  cases b
  · go_wp2
    go_ret
    exact ⟨rfl, rfl⟩
  · go_wp2
    go_ret
    exact ⟨rfl, rfl⟩
set_option maxHeartbeats 8000000 in
set_option maxRecDepth 20000 in
theorem save_any (w : World) (x : MSt) (A1 : Option Addr) (c1 : Nat) (A2 : Option Addr) (c2 : Nat) (hr1 : RowIs w (.slice A1 x.stack.length c1) 4 x.stack.length (x.stack.flatMap entC)) (hr2 : RowIs w (.slice A2 x.log.length c2) 6 x.log.length (x.log.flatMap notC)) (hlen : (saveB x).length ≤ 1099511627000) :
    Calls Tryd.prog 5 #[.agg #[.int .i64 x.pc, .int .i64 x.at_, .int .i64 x.steps, .int .i64 x.kind, .slice A1 x.stack.length c1, .slice A2 x.log.length c2]] w fun e w' => e = .returned (saveV x) ∧ Below w.heap.size w w' := by
  obtain ⟨i0, hi, hz0, hz1, hz2⟩ := info_parts info_u8
  have hz9 : (headB x).length + x.stack.length * 13 + 4 + (x.log.flatMap noteB).length ≤ 1099511627000 := by
    have h := hlen
    unfold saveB at h
    simp only [List.length_append, fl_len entB_len] at h
    have h4 : ([(x.log.length : Int)].flatMap fourL).length = 4 := rfl
    omega
  have hb0 := g_al1 (g_al1 (Below.refl w.heap.size w) (Nat.le_refl _) (.cells #[.int .i64 x.pc, .int .i64 x.at_, .int .i64 x.steps, .int .i64 x.kind, .slice A1 x.stack.length c1, .slice A2 x.log.length c2] 25)) (by simp) (.cells #[.slice none 0 0, .bool false] 53)
  have hX := alloc_old (y := .cells #[.slice none 0 0, .bool false] 53) (alloc_new w (.cells #[.int .i64 x.pc, .int .i64 x.at_, .int .i64 x.steps, .int .i64 x.kind, .slice A1 x.stack.length c1, .slice A2 x.log.length c2] 25))
  have hS := alloc_new_at (a := w.alloc (.cells #[.int .i64 x.pc, .int .i64 x.at_, .int .i64 x.steps, .int .i64 x.kind, .slice A1 x.stack.length c1, .slice A2 x.log.length c2] 25)) (n := w.heap.size + 1) (.cells #[.slice none 0 0, .bool false] 53) (by simp)
  have hs : SavW ((w.alloc (.cells #[.int .i64 x.pc, .int .i64 x.at_, .int .i64 x.steps, .int .i64 x.kind, .slice A1 x.stack.length c1, .slice A2 x.log.length c2] 25)).alloc (.cells #[.slice none 0 0, .bool false] 53)) w.heap.size (w.heap.size + 1) [] false := ⟨_, hS, by omega, World.ownsRow_nil _ _ _ _⟩
  go_enter Tryd.func5, Tryd.ntmps5
  go_wp2_with (fail)
  have hI : (((w.alloc (.cells #[.int .i64 x.pc, .int .i64 x.at_, .int .i64 x.steps, .int .i64 x.kind, .slice A1 x.stack.length c1, .slice A2 x.log.length c2] 25)).alloc (.cells #[.slice none 0 0, .bool false] 53)).alloc (.cells #[.int .i64 x.pc, .int .i64 x.at_, .int .i64 x.steps] 3)).heap[w.heap.size + 1 + 1]? = some (.cells ([x.pc, x.at_, x.steps].map (.int .i64 ·)).toArray 3) := alloc_new_at _ (by simp)
  have hsI := hs.alloc (.cells #[.int .i64 x.pc, .int .i64 x.at_, .int .i64 x.steps] 3)
  with_reducible refine (number_any _ w.heap.size (w.heap.size + 1) (w.heap.size + 1 + 1) 3 3 [] false [x.pc, x.at_, x.steps] rfl hsI hI (by simp) (by simp)).mono ?_
  rintro e W1 ⟨rfl, hs1, hb1, hK1⟩
  replace hb1 := (g_al1 hb0 hb0.size (.cells #[.int .i64 x.pc, .int .i64 x.at_, .int .i64 x.steps] 3)).trans hb1
  have hX1 := hK1 w.heap.size _ _ (by decide) (by decide) (alloc_old (y := .cells #[.int .i64 x.pc, .int .i64 x.at_, .int .i64 x.steps] 3) hX)
  clear hb0 hX hS hs hK1 hI hsI
  have hcX := block_cell hX1
  have hltX := block_lt hX1
  go_wp2_with (fail)
  have hI : (W1.alloc (.cells #[.int .i64 x.kind] 3)).heap[W1.heap.size]? = some (.cells ([x.kind].map (.int .i64 ·)).toArray 3) := alloc_new _ _
  have hsI := hs1.alloc (.cells #[.int .i64 x.kind] 3)
  with_reducible refine (small_any _ w.heap.size (w.heap.size + 1) W1.heap.size 1 1 _ _ [x.kind] rfl hsI hI (by simp) (by simp [fourL])).mono ?_
  rintro e W2 ⟨rfl, hs2, hb2, hK2⟩
  replace hb2 := (g_al1 hb1 hb1.size (.cells #[.int .i64 x.kind] 3)).trans hb2
  have hX2 := hK2 w.heap.size _ _ (by decide) (by decide) (alloc_old (y := .cells #[.int .i64 x.kind] 3) hX1)
  clear hb1 hX1 hs1 hK2 hI hsI hcX hltX
  have hcX := block_cell hX2
  have hltX := block_lt hX2
  go_wp2_with (fail)
  have hI : (W2.alloc (.cells #[.int .i64 x.stack.length] 3)).heap[W2.heap.size]? = some (.cells ([(x.stack.length : Int)].map (.int .i64 ·)).toArray 3) := alloc_new _ _
  have hsI := hs2.alloc (.cells #[.int .i64 x.stack.length] 3)
  with_reducible refine (number_any _ w.heap.size (w.heap.size + 1) W2.heap.size 1 1 _ _ [(x.stack.length : Int)] rfl hsI hI (by simp) (by simp [fourL, oneL])).mono ?_
  rintro e W3 ⟨rfl, hs3, hb3, hK3⟩
  replace hb3 := (g_al1 hb2 hb2.size (.cells #[.int .i64 x.stack.length] 3)).trans hb3
  have hX3 := hK3 w.heap.size _ _ (by decide) (by decide) (alloc_old (y := .cells #[.int .i64 x.stack.length] 3) hX2)
  clear hb2 hX2 hs2 hK3 hI hsI hcX hltX
  have hcX := block_cell hX3
  have hltX := block_lt hX3
  have e1 : ([] ++ [x.pc, x.at_, x.steps].flatMap fourL ++ [x.kind].flatMap oneL ++ [(x.stack.length : Int)].flatMap fourL) = headB x := rfl
  have e2 : ((false || [x.pc, x.at_, x.steps].any badN) || [x.kind].any badB || [(x.stack.length : Int)].any badN) = headBad x := by rw [Bool.false_or]; rfl
  rw [e1, e2] at hs3
  clear e1 e2
  go_wp2_with (fail)
  go_loopw [6, 34] (fun _ i wr => ∃ k : Nat, k ≤ x.stack.length ∧ i = .int .i64 k ∧ SavW wr w.heap.size (w.heap.size + 1) (headB x ++ (x.stack.take k).flatMap entB) (headBad x || (x.stack.take k).any entBad) ∧ wr.heap[w.heap.size]? = some (.cells #[.int .i64 x.pc, .int .i64 x.at_, .int .i64 x.steps, .int .i64 x.kind, .slice A1 x.stack.length c1, .slice A2 x.log.length c2] 25) ∧ Below w.heap.size w wr) (fun _ i _ => x.stack.length - (intOf i).toNat)
  case atStart =>
    refine ⟨0, Nat.zero_le _, rfl, ?_, hX3, hb3⟩
    simpa using hs3
  case round =>
    clear hcX hltX hX3 hs3 hb3
    obtain ⟨k, hk, rfl, hs, hX, hb⟩ := hrel
    have hcX := block_cell hX
    have hltX := block_lt hX
    by_cases hlt : k < x.stack.length
    · obtain ⟨g1, o1, rfl, hcells⟩ := (hr1.below hb).at (by omega)
      have hd0 := row_cell0 entC_len hcells hlt (by decide)
      have hd1 := row_cell entC_len hcells hlt (j := 1) (by decide)
      have hd2 := row_cell entC_len hcells hlt (j := 2) (by decide)
      have hd3 := row_cell entC_len hcells hlt (j := 3) (by decide)
      have htk : x.stack.take (k + 1) = x.stack.take k ++ [x.stack[k]] := by rw [List.take_add_one, List.getElem?_eq_getElem hlt]; rfl
      generalize x.stack[k] = e at *
      simp only [entC, List.getElem?_cons_zero, List.getElem?_cons_succ] at hd0 hd1 hd2 hd3
      have hlen1 : (headB x ++ (x.stack.take k).flatMap entB).length ≤ 1099511627000 := by
        rw [List.length_append]
        have := fl_take (f := entB) x.stack k
        rw [fl_len entB_len x.stack] at this
        omega
      have hw2 : IntKind.i64.wrap ((k : Int) + 1) = (k : Int) + 1 := IntWalk.i64_in _ (by omega)
      clear hcells
      go_wp2_with (fail)
      have hX1 := alloc_old (y := .cells #[.bool e.ret, .int .i64 e.pc, .int .i64 e.at_, .int .i64 e.notes] 56) hX
      have hE1 := alloc_new wr (.cells #[.bool e.ret, .int .i64 e.pc, .int .i64 e.at_, .int .i64 e.notes] 56)
      have hb1 := g_al1 hb hb.size (.cells #[.bool e.ret, .int .i64 e.pc, .int .i64 e.at_, .int .i64 e.notes] 56)
      have hs1 := hs.alloc (.cells #[.bool e.ret, .int .i64 e.pc, .int .i64 e.at_, .int .i64 e.notes] 56)
      clear hcX hltX hX hb hs hd0 hd1 hd2 hd3
      generalize wr.alloc (.cells #[.bool e.ret, .int .i64 e.pc, .int .i64 e.at_, .int .i64 e.notes] 56) = W4 at *
      generalize wr.heap.size = be at *
      with_reducible refine (bit_any e.ret W4).mono ?_
      rintro en W5 ⟨rfl, rfl⟩
      generalize hbit : (if e.ret = true then (1 : Int) else 0) = bt at *
      have hcE := block_cell hE1
      have hltE := block_lt hE1
      go_wp2_with (fail)
      have hI : (W5.alloc (.cells #[.int .i64 bt] 3)).heap[W5.heap.size]? = some (.cells ([bt].map (.int .i64 ·)).toArray 3) := alloc_new _ _
      have hsI := hs1.alloc (.cells #[.int .i64 bt] 3)
      with_reducible refine (small_any _ w.heap.size (w.heap.size + 1) W5.heap.size 1 1 _ _ [bt] rfl hsI hI (by simp) (by omega)).mono ?_
      rintro en W6 ⟨rfl, hs6, hb6, hK6⟩
      replace hb6 := (g_al1 hb1 hb1.size (.cells #[.int .i64 bt] 3)).trans hb6
      have hX6 := hK6 w.heap.size _ _ (by decide) (by decide) (alloc_old (y := .cells #[.int .i64 bt] 3) hX1)
      have hE6 := hK6 be _ _ (by decide) (by decide) (alloc_old (y := .cells #[.int .i64 bt] 3) hE1)
      clear hb1 hX1 hs1 hE1 hK6 hcE hltE hI hsI
      have hcE := block_cell hE6
      have hltE := block_lt hE6
      go_wp2_with (fail)
      have hI : (W6.alloc (.cells #[.int .i64 e.pc, .int .i64 e.at_, .int .i64 e.notes] 3)).heap[W6.heap.size]? = some (.cells ([e.pc, e.at_, e.notes].map (.int .i64 ·)).toArray 3) := alloc_new _ _
      have hsI := hs6.alloc (.cells #[.int .i64 e.pc, .int .i64 e.at_, .int .i64 e.notes] 3)
      have hlen2 : (headB x ++ (x.stack.take k).flatMap entB ++ [bt].flatMap oneL).length ≤ 1099511627776 := by
        rw [List.length_append]
        have : ([bt].flatMap oneL).length = 1 := rfl
        omega
      with_reducible refine (number_any _ w.heap.size (w.heap.size + 1) W6.heap.size 3 3 _ _ [e.pc, e.at_, e.notes] rfl hsI hI (by simp) hlen2).mono ?_
      rintro en W7 ⟨rfl, hs7, hb7, hK7⟩
      replace hb7 := (g_al1 hb6 hb6.size (.cells #[.int .i64 e.pc, .int .i64 e.at_, .int .i64 e.notes] 3)).trans hb7
      have hX7 := hK7 w.heap.size _ _ (by decide) (by decide) (alloc_old (y := .cells #[.int .i64 e.pc, .int .i64 e.at_, .int .i64 e.notes] 3) hX6)
      clear hb6 hX6 hs6 hE6 hK7 hcE hltE hI hsI
      have e1 : headB x ++ (x.stack.take k).flatMap entB ++ [bt].flatMap oneL ++ [e.pc, e.at_, e.notes].flatMap fourL = headB x ++ (x.stack.take (k + 1)).flatMap entB := by
        rw [htk, List.flatMap_append, ← hbit]
        simp [entB, List.append_assoc]
      have e2 : (headBad x || (x.stack.take k).any entBad || [bt].any badB || [e.pc, e.at_, e.notes].any badN) = (headBad x || (x.stack.take (k + 1)).any entBad) := by
        have e3 : [bt].any badB = false := by rw [← hbit]; cases e.ret <;> rfl
        rw [htk, List.any_append, e3]
        simp [entBad, Bool.or_assoc]
      rw [e1, e2] at hs7
      clear e1 e2 hlen2
      go_wp2_with (fail)
      go_roundw
      case rel => exact ⟨k + 1, by omega, by congr 1, hs7, hX7, hb7⟩
      case measure => simp [intOf]; omega
    · have hk2 : k = x.stack.length := by omega
      subst hk2
      rw [List.take_length] at hs
      go_wp2_with (fail)
      have hI : (wr.alloc (.cells #[.int .i64 x.log.length] 3)).heap[wr.heap.size]? = some (.cells ([(x.log.length : Int)].map (.int .i64 ·)).toArray 3) := alloc_new _ _
      have hsI := hs.alloc (.cells #[.int .i64 x.log.length] 3)
      have hlen1 : (headB x ++ x.stack.flatMap entB).length ≤ 1099511627000 := by
        rw [List.length_append, fl_len entB_len]; omega
      with_reducible refine (number_any _ w.heap.size (w.heap.size + 1) wr.heap.size 1 1 _ _ [(x.log.length : Int)] rfl hsI hI (by simp) (by omega)).mono ?_
      rintro en W8 ⟨rfl, hs8, hb8, hK8⟩
      replace hb8 := (g_al1 hb hb.size (.cells #[.int .i64 x.log.length] 3)).trans hb8
      have hX8 := hK8 w.heap.size _ _ (by decide) (by decide) (alloc_old (y := .cells #[.int .i64 x.log.length] 3) hX)
      clear hb hX hs hK8 hcX hltX hI hsI
      have hcX := block_cell hX8
      have hltX := block_lt hX8
      generalize hpre : headB x ++ x.stack.flatMap entB ++ [(x.log.length : Int)].flatMap fourL = pre at *
      generalize hpb : (headBad x || x.stack.any entBad || [(x.log.length : Int)].any badN) = pb at *
      have hprl : pre.length + (x.log.flatMap noteB).length ≤ 1099511627000 := by
        rw [← hpre, List.length_append, List.length_append, fl_len entB_len]
        have h4 : ([(x.log.length : Int)].flatMap fourL).length = 4 := rfl
        omega
      have hsv : saveB x = pre ++ x.log.flatMap noteB := by rw [← hpre]; rfl
      have hsb : saveBad x = (pb || x.log.any noteBad) := by rw [← hpb]; rfl
      go_wp2_with (fail)
      go_loopw [8, 63] (fun _ i wr => ∃ k : Nat, k ≤ x.log.length ∧ i = .int .i64 k ∧ SavW wr w.heap.size (w.heap.size + 1) (pre ++ (x.log.take k).flatMap noteB) (pb || (x.log.take k).any noteBad) ∧ wr.heap[w.heap.size]? = some (.cells #[.int .i64 x.pc, .int .i64 x.at_, .int .i64 x.steps, .int .i64 x.kind, .slice A1 x.stack.length c1, .slice A2 x.log.length c2] 25) ∧ Below w.heap.size w wr) (fun _ i _ => x.log.length - (intOf i).toNat)
      case atStart =>
        refine ⟨0, Nat.zero_le _, rfl, ?_, hX8, hb8⟩
        simpa using hs8
      case round =>
        clear hcX hltX hX8 hs8 hb8
        obtain ⟨k, hk, rfl, hs, hX, hb⟩ := hrel
        have hcX := block_cell hX
        have hltX := block_lt hX
        by_cases hlt : k < x.log.length
        · obtain ⟨g1, o1, rfl, hcells⟩ := (hr2.below hb).at (by omega)
          have hd0 := row_cell0 notC_len hcells hlt (by decide)
          have hd1 := row_cell notC_len hcells hlt (j := 1) (by decide)
          have hd2 := row_cell notC_len hcells hlt (j := 2) (by decide)
          have hd3 := row_cell notC_len hcells hlt (j := 3) (by decide)
          have hd4 := row_cell notC_len hcells hlt (j := 4) (by decide)
          have hd5 := row_cell notC_len hcells hlt (j := 5) (by decide)
          have htk : x.log.take (k + 1) = x.log.take k ++ [x.log[k]] := by rw [List.take_add_one, List.getElem?_eq_getElem hlt]; rfl
          generalize x.log[k] = e at *
          simp only [notC, List.getElem?_cons_zero, List.getElem?_cons_succ] at hd0 hd1 hd2 hd3 hd4 hd5
          have hlen2 : (pre ++ (x.log.take (k + 1)).flatMap noteB).length ≤ 1099511627000 := by
            rw [List.length_append]
            have := fl_take (f := noteB) x.log (k + 1)
            omega
          rw [htk, List.flatMap_append, ← List.append_assoc] at hlen2
          generalize hcs : pre ++ (x.log.take k).flatMap noteB = cs at *
          generalize hcb : (pb || (x.log.take k).any noteBad) = cb at *
          have hne : (cs ++ noteB e).length ≤ 1099511627000 := by simpa using hlen2
          clear hlen2
          have hnl : (noteB e).length = 12 + e.text.size := by
            unfold noteB
            simp [fourL, oneL]
            omega
          rw [List.length_append, hnl] at hne
          have hw2 : IntKind.i64.wrap ((k : Int) + 1) = (k : Int) + 1 := IntWalk.i64_in _ (by have : x.log.length ≤ (x.log.flatMap noteB).length := fl_ge _ (fun e => by unfold noteB; simp [fourL, oneL]) x.log; omega)
          clear hcells
          have l2 : ([e.op, e.kind].flatMap oneL).length = 2 := rfl
          have l8 : ([e.at_, e.len].flatMap fourL).length = 8 := rfl
          have l1 : ([e.n, (e.text.size : Int)].flatMap oneL).length = 2 := rfl
          go_wp2_with (fail)
          have hX1 := alloc_old (y := (.cells #[.int .i64 e.op, .int .i64 e.kind, .int .i64 e.at_, .int .i64 e.len, .int .i64 e.n, .string e.text] 59)) hX
          have hE1 := alloc_new wr (.cells #[.int .i64 e.op, .int .i64 e.kind, .int .i64 e.at_, .int .i64 e.len, .int .i64 e.n, .string e.text] 59)
          have hb1 := g_al1 hb hb.size (.cells #[.int .i64 e.op, .int .i64 e.kind, .int .i64 e.at_, .int .i64 e.len, .int .i64 e.n, .string e.text] 59)
          have hs1 := hs.alloc (.cells #[.int .i64 e.op, .int .i64 e.kind, .int .i64 e.at_, .int .i64 e.len, .int .i64 e.n, .string e.text] 59)
          clear hcX hltX hX hb hs hd0 hd1 hd2 hd3 hd4 hd5
          have hI : ((wr.alloc (.cells #[.int .i64 e.op, .int .i64 e.kind, .int .i64 e.at_, .int .i64 e.len, .int .i64 e.n, .string e.text] 59)).alloc (.cells #[.int .i64 e.op, .int .i64 e.kind] 3)).heap[wr.heap.size + 1]? = some (.cells ([e.op, e.kind].map (.int .i64 ·)).toArray 3) := alloc_new_at _ (by simp)
          have hsI := hs1.alloc (.cells #[.int .i64 e.op, .int .i64 e.kind] 3)
          have hcE := True.intro
          have hltE := True.intro
          generalize wr.alloc (.cells #[.int .i64 e.op, .int .i64 e.kind, .int .i64 e.at_, .int .i64 e.len, .int .i64 e.n, .string e.text] 59) = W4 at *
          generalize wr.heap.size = be at *
          with_reducible refine (small_any _ w.heap.size (w.heap.size + 1) (be + 1) 2 2 _ _ [e.op, e.kind] rfl hsI hI (by simp) (by omega)).mono ?_
          rintro en W5 ⟨rfl, hs5, hb5, hK5⟩
          replace hb5 := (g_al1 hb1 hb1.size (.cells #[.int .i64 e.op, .int .i64 e.kind] 3)).trans hb5
          have hX5 := hK5 w.heap.size _ _ (by decide) (by decide) (alloc_old (y := .cells #[.int .i64 e.op, .int .i64 e.kind] 3) hX1)
          have hE5 := hK5 be _ _ (by decide) (by decide) (alloc_old (y := .cells #[.int .i64 e.op, .int .i64 e.kind] 3) hE1)
          clear hb1 hX1 hs1 hE1 hK5 hcE hltE hI hsI
          have hcE := block_cell hE5
          have hltE := block_lt hE5
          go_wp2_with (fail)
          have hI : (W5.alloc (.cells #[.int .i64 e.at_, .int .i64 e.len] 3)).heap[W5.heap.size]? = some (.cells ([e.at_, e.len].map (.int .i64 ·)).toArray 3) := alloc_new _ _
          have hsI := hs5.alloc (.cells #[.int .i64 e.at_, .int .i64 e.len] 3)
          with_reducible refine (number_any _ w.heap.size (w.heap.size + 1) W5.heap.size 2 2 _ _ [e.at_, e.len] rfl hsI hI (by simp) (by simp only [List.length_append, l2, l8, l1]; omega)).mono ?_
          rintro en W6 ⟨rfl, hs6, hb6, hK6⟩
          replace hb6 := (g_al1 hb5 hb5.size (.cells #[.int .i64 e.at_, .int .i64 e.len] 3)).trans hb6
          have hX6 := hK6 w.heap.size _ _ (by decide) (by decide) (alloc_old (y := .cells #[.int .i64 e.at_, .int .i64 e.len] 3) hX5)
          have hE6 := hK6 be _ _ (by decide) (by decide) (alloc_old (y := .cells #[.int .i64 e.at_, .int .i64 e.len] 3) hE5)
          clear hb5 hX5 hs5 hE5 hK6 hcE hltE hI hsI
          have hcE := block_cell hE6
          have hltE := block_lt hE6
          go_wp2_with (fail)
          have hI : (W6.alloc (.cells #[.int .i64 e.n, .int .i64 e.text.size] 3)).heap[W6.heap.size]? = some (.cells ([e.n, (e.text.size : Int)].map (.int .i64 ·)).toArray 3) := alloc_new _ _
          have hsI := hs6.alloc (.cells #[.int .i64 e.n, .int .i64 e.text.size] 3)
          with_reducible refine (small_any _ w.heap.size (w.heap.size + 1) W6.heap.size 2 2 _ _ [e.n, (e.text.size : Int)] rfl hsI hI (by simp) (by simp only [List.length_append, l2, l8, l1]; omega)).mono ?_
          rintro en W7 ⟨rfl, hs7, hb7, hK7⟩
          replace hb7 := (g_al1 hb6 hb6.size (.cells #[.int .i64 e.n, .int .i64 e.text.size] 3)).trans hb7
          have hX7 := hK7 w.heap.size _ _ (by decide) (by decide) (alloc_old (y := .cells #[.int .i64 e.n, .int .i64 e.text.size] 3) hX6)
          have hE7 := hK7 be _ _ (by decide) (by decide) (alloc_old (y := .cells #[.int .i64 e.n, .int .i64 e.text.size] 3) hE6)
          clear hb6 hX6 hs6 hE6 hK7 hcE hltE hI hsI
          have hcE := block_cell hE7
          have hltE := block_lt hE7
          go_wp2_with (fail)
          obtain ⟨bv, hR, hBr, hS⟩ := hs7
          obtain ⟨A, c, rfl⟩ := (RowIs.of_owns hS).form
          generalize hds : cs ++ [e.op, e.kind].flatMap oneL ++ [e.at_, e.len].flatMap fourL ++ [e.n, (e.text.size : Int)].flatMap oneL = ds at *
          generalize hdb : (cb || [e.op, e.kind].any badB || [e.at_, e.len].any badN || [e.n, (e.text.size : Int)].any badB) = db at *
          have hdl : ds.length + e.text.size ≤ 1099511627000 := by
            rw [← hds]; simp only [List.length_append, l2, l8, l1]; omega
          have hR3 : W7.drew.heap[w.heap.size + 1]? = some (.cells #[.slice A ds.length c, .bool db] 53) := hR
          have hb7d := below_drew1 hb7
          have hS3 : W7.drew.ownsRow w.heap.size 5 1 (.slice A ds.length c) ds.length (u8s ds) := own_below hS (below_drew1 (Below.refl W7.heap.size W7))
          have hcR := block_cell hR
          have hfR := block_free hR
          have hltR := block_lt hR
          have hne : some (w.heap.size + 1) ≠ (Value.slice A ds.length c).ownBlock := fun e => by obtain ⟨cs, h⟩ := own_typed' hS _ e.symm; rw [hR] at h; injection h with h; injection h with _ h; cases h
          have hBX : w.heap.size ≤ W7.drew.heap.size := hb7.size
          have h63 : ds.length + e.text.size ≤ maxLen := by unfold maxLen; omega
          have h64 : ds.length + e.text.size ≤ 140737488355328 := by omega
          have hX7d : W7.drew.heap[w.heap.size]? = _ := hX7
          have hds0 := hds.symm
          have hdb0 := hdb.symm
          have e1 : pre ++ (x.log.take (k + 1)).flatMap noteB = ds ++ e.text.data.toList.map (fun b => (b.toNat : Int)) := by
            rw [htk, List.flatMap_append, ← List.append_assoc, hcs, hds0]
            simp [noteB, List.append_assoc]
          have e2 : (pb || (x.log.take (k + 1)).any noteBad) = db := by
            rw [htk, List.any_append, ← Bool.or_assoc, hcb, hdb0]
            simp [noteBad, Bool.or_assoc]
          clear hdb hds hE7 hds0 hdb0
          go_region_law (refine step_append_str rfl (.tmp 93) (.tmp 95) 51 9 rfl w.heap.size 5 i0 Tryd.underlying51 Tryd.underlying9 hi hz0 hz1 hz2 (.slice A ds.length c) ds.length (u8s ds) rfl hS3 e.text rfl h63 h64 hBX ?_; intro v4 w4 hS4 hg4; have hR4 := (hg4.block (w.heap.size + 1) (block_lt hR3) hne).trans hR3; have hcR4 := block_cell hR4; have hfR4 := block_free hR4; obtain ⟨A4, c4, rfl⟩ := (RowIs.of_owns hS4).form)
          all_goals
            have hR5 : (w4.setCell ⟨w.heap.size + 1, 0, none⟩ (.slice A4 (ds.length + e.text.size) c4)).heap[w.heap.size + 1]? = some (.cells #[.slice A4 (ds.length + e.text.size) c4, .bool db] 53) := heap_setCell_self hR4 0 _
            have hS5 := own_set hS4 hR4 (by decide) 0 (.slice A4 (ds.length + e.text.size) c4)
            have hX5 := (KeepsU.set hR4 0 (.slice A4 (ds.length + e.text.size) c4)) _ _ _ (by decide) (by decide) ((KeepsU.grown hS3 hg4) _ _ _ (by decide) (by decide) hX7d)
            have hb5 := g_st1 (hb7d.grown hg4 hBX (fun b e => (hS3.lt b e).1)) (Nat.le_succ w.heap.size) 0 (.slice A4 (ds.length + e.text.size) c4)
            have hsF : SavW (w4.setCell ⟨w.heap.size + 1, 0, none⟩ (.slice A4 (ds.length + e.text.size) c4)) w.heap.size (w.heap.size + 1) (pre ++ (x.log.take (k + 1)).flatMap noteB) (pb || (x.log.take (k + 1)).any noteBad) := by
              rw [e1, e2]
              refine ⟨_, hR5, hBr, ?_⟩
              have e3 : u8s (ds ++ e.text.data.toList.map (fun b => (b.toNat : Int))) = u8s ds ++ Lib.strCells e.text := by
                rw [u8s_app]; unfold u8s Lib.strCells; rw [List.map_map]; rfl
              have e4 : (ds ++ e.text.data.toList.map (fun b => (b.toNat : Int))).length = ds.length + e.text.size := by
                rw [List.length_append, List.length_map, Array.length_toList]; rfl
              rw [e3, e4]
              exact hS5
            clear hS hR hX7 hb7 hcE hltE hR3 hb7d hS3 hcR hfR hltR hne hBX h63 h64 hX7d hg4 hS4 hR4 hcR4 hfR4 hR5 hS5
            go_wp2_with (fail)
            go_roundw
            case rel => exact ⟨k + 1, by omega, by congr 1, hsF, hX5, hb5⟩
            case measure => simp [intOf]; omega
        · have hk2 : k = x.log.length := by omega
          subst hk2
          simp only [List.take_length] at hs
          rw [← hsv, ← hsb] at hs
          clear hsv hsb hpre hpb hprl
          obtain ⟨bv, hR, hBr, hS⟩ := hs
          obtain ⟨A, c, rfl⟩ := (RowIs.of_owns hS).form
          have hcR := block_cell hR
          have hltR := block_lt hR
          cases hbad : saveBad x with
          | true =>
            rw [hbad] at hcR
            go_wp2_with (fail)
            go_ret2
            exact ⟨by unfold saveV; rw [if_pos hbad]; rfl, hb⟩
          | false =>
            rw [hbad] at hcR
            by_cases hbig : 1048576 < (saveB x).length
            · have q0 : decide ((1048576 : Int) < ((saveB x).length : Int)) = true := decide_eq_true (by omega)
              go_wp2_with (fail)
              go_ret2
              exact ⟨by unfold saveV; rw [if_neg (by rw [hbad]; decide), if_pos hbig]; rfl, hb⟩
            · have q0 : decide ((1048576 : Int) < ((saveB x).length : Int)) = false := decide_eq_false (by omega)
              have hpos : 0 < (saveB x).length := by unfold saveB headB; simp [fourL]
              obtain ⟨g, o, rfl, hcells⟩ := (RowIs.of_owns hS).at hpos
              have hconv : (convert 51 9 (.slice (some ⟨g, o, none⟩) (saveB x).length c)).run Tryd.prog wr = .ok (.string (strOfNums (saveB x))) wr :=
                run_convert_bytes_arg wr 51 5 Tryd.underlying51 Tryd.underlying5 g o (saveB x).length c (saveB x) rfl (fun i hi => by
                  rw [hcells i (by omega)]
                  unfold u8s
                  simp [List.getD, List.getElem?_eq_getElem hi]) 9 Tryd.underlying9
              go_wp2_with (fail)
              go_ret2
              exact ⟨by unfold saveV; rw [if_neg (by rw [hbad]; decide), if_neg hbig]; rfl, hb⟩

end Go.Proofs.YthjlpcecfkboiabDoor
