/-
  The runner of steps: one step.
-/
import Derived.Test.YthjlpcecfkboiabDoorRunner5
import Derived.WalkKit
import Derived.BigQuiet
import Derived.BigRegion
namespace Go.Proofs.YthjlpcecfkboiabDoor
open Go.RowKit
set_option linter.unusedVariables false
set_option linter.unusedSimpArgs false
/-- Code lies where the call writes nothing. -/
def CodeAt (w : World) (B : Nat) (code : List Ins) (v : Value) : Prop := ∃ gc oc cc, v = .slice (some ⟨gc, oc, none⟩) code.length cc ∧ gc < B ∧ ∀ j, j < code.length * 9 → w.cell? ⟨gc, oc + j, none⟩ = (code.flatMap insC)[j]?
theorem CodeAt.below {w w' : World} {B : Nat} {code : List Ins} {v : Value} (h : CodeAt w B code v) (hb : Below B w w') : CodeAt w' B code v := by
  obtain ⟨gc, oc, cc, h1, h2, h3⟩ := h
  exact ⟨gc, oc, cc, h1, h2, fun j hj => (hb.cell (p := ⟨gc, oc + j, none⟩) h2).trans (h3 j hj)⟩
/-- A note more; none: there is no room. -/
def noteM (l1 : Int) (n : Not) (x : MSt) : Except Int MSt := if l1 ≤ x.log.length then .error 211 else .ok { x with log := x.log ++ [n], pc := x.pc + 1 }
def stepI (s : ByteArray) (l0 l1 : Int) (i : Ins) (x : MSt) : Except Int MSt :=
  if i.op = 8 then (if l0 ≤ x.stack.length then .error 210 else .ok { x with stack := x.stack ++ [⟨false, x.pc + i.a, x.at_, x.log.length⟩], pc := x.pc + 1 })
  else if i.op = 9 ∨ i.op = 10 ∨ i.op = 11 ∨ i.op = 12 then (match choiceM i x with | none => .error 213 | some y => .ok y)
  else if i.op = 13 then .ok (failM x)
  else if i.op = 14 then .ok { x with pc := x.pc + i.a }
  else if i.op = 15 then (if l0 ≤ x.stack.length then .error 210 else .ok { x with stack := x.stack ++ [⟨true, x.pc + 1, 0, 0⟩], pc := x.pc + i.a })
  else if i.op = 16 then (match x.stack[x.stack.length - 1]? with | none => .error 213 | some e => if e.ret = true then .ok { x with pc := e.pc, stack := x.stack.take (x.stack.length - 1) } else .error 213)
  else if i.op = 17 then .ok { x with kind := 1 }
  else if i.op = 18 then noteM l1 ⟨18, i.b, x.at_, 0, i.n, i.text⟩ x
  else if i.op = 19 then noteM l1 ⟨19, 0, x.at_, 0, 0, ⟨#[]⟩⟩ x
  else if i.op = 20 then (if i.a > x.at_ then .error 213 else noteM l1 ⟨20, i.b, x.at_ - i.a, i.a, i.n, i.text⟩ x)
  else .ok (byteM s i x)
def stepM (code : List Ins) (s : ByteArray) (l0 l1 l2 : Int) (x : MSt) : Except Int MSt :=
  if l2 ≤ x.steps then .error 212 else match code[x.pc.toNat]? with
    | none => .error 213
    | some i => stepI s l0 l1 i { x with steps := x.steps + 1 }
def StepPost (B r : Nat) (code : Value) (s : ByteArray) (l0 l1 l2 : Int) (w : World) (m : Except Int MSt) (en : Ending) (w' : World) : Prop :=
  Below B w w' ∧ match m with
    | .error e => en = .returned (.int .i64 e)
    | .ok y => en = .returned (.int .i64 0) ∧ RunW w' B r code s l0 l1 l2 y
theorem set9 {w : World} {b T : Nat} {x0 x1 x2 x3 x4 x5 x6 x7 x8 : Value} (h : w.heap[b]? = some (.cells #[x0, x1, x2, x3, x4, x5, x6, x7, x8] T)) (y0 y1 y2 y3 y4 y5 y6 y7 y8 : Value) : (((((((((w.setCell ⟨b, 0, none⟩ y0).setCell ⟨b, 1, none⟩ y1).setCell ⟨b, 2, none⟩ y2).setCell ⟨b, 3, none⟩ y3).setCell ⟨b, 4, none⟩ y4).setCell ⟨b, 5, none⟩ y5).setCell ⟨b, 6, none⟩ y6).setCell ⟨b, 7, none⟩ y7).setCell ⟨b, 8, none⟩ y8).heap[b]? = some (.cells #[y0, y1, y2, y3, y4, y5, y6, y7, y8] T) := by
  have h0 : (w.setCell ⟨b, 0, none⟩ y0).heap[b]? = some (.cells #[y0, x1, x2, x3, x4, x5, x6, x7, x8] T) := heap_setCell_self h 0 y0
  have h1 : ((w.setCell ⟨b, 0, none⟩ y0).setCell ⟨b, 1, none⟩ y1).heap[b]? = some (.cells #[y0, y1, x2, x3, x4, x5, x6, x7, x8] T) := heap_setCell_self h0 1 y1
  have h2 : (((w.setCell ⟨b, 0, none⟩ y0).setCell ⟨b, 1, none⟩ y1).setCell ⟨b, 2, none⟩ y2).heap[b]? = some (.cells #[y0, y1, y2, x3, x4, x5, x6, x7, x8] T) := heap_setCell_self h1 2 y2
  have h3 : ((((w.setCell ⟨b, 0, none⟩ y0).setCell ⟨b, 1, none⟩ y1).setCell ⟨b, 2, none⟩ y2).setCell ⟨b, 3, none⟩ y3).heap[b]? = some (.cells #[y0, y1, y2, y3, x4, x5, x6, x7, x8] T) := heap_setCell_self h2 3 y3
  have h4 : (((((w.setCell ⟨b, 0, none⟩ y0).setCell ⟨b, 1, none⟩ y1).setCell ⟨b, 2, none⟩ y2).setCell ⟨b, 3, none⟩ y3).setCell ⟨b, 4, none⟩ y4).heap[b]? = some (.cells #[y0, y1, y2, y3, y4, x5, x6, x7, x8] T) := heap_setCell_self h3 4 y4
  have h5 : ((((((w.setCell ⟨b, 0, none⟩ y0).setCell ⟨b, 1, none⟩ y1).setCell ⟨b, 2, none⟩ y2).setCell ⟨b, 3, none⟩ y3).setCell ⟨b, 4, none⟩ y4).setCell ⟨b, 5, none⟩ y5).heap[b]? = some (.cells #[y0, y1, y2, y3, y4, y5, x6, x7, x8] T) := heap_setCell_self h4 5 y5
  have h6 : (((((((w.setCell ⟨b, 0, none⟩ y0).setCell ⟨b, 1, none⟩ y1).setCell ⟨b, 2, none⟩ y2).setCell ⟨b, 3, none⟩ y3).setCell ⟨b, 4, none⟩ y4).setCell ⟨b, 5, none⟩ y5).setCell ⟨b, 6, none⟩ y6).heap[b]? = some (.cells #[y0, y1, y2, y3, y4, y5, y6, x7, x8] T) := heap_setCell_self h5 6 y6
  have h7 : ((((((((w.setCell ⟨b, 0, none⟩ y0).setCell ⟨b, 1, none⟩ y1).setCell ⟨b, 2, none⟩ y2).setCell ⟨b, 3, none⟩ y3).setCell ⟨b, 4, none⟩ y4).setCell ⟨b, 5, none⟩ y5).setCell ⟨b, 6, none⟩ y6).setCell ⟨b, 7, none⟩ y7).heap[b]? = some (.cells #[y0, y1, y2, y3, y4, y5, y6, y7, x8] T) := heap_setCell_self h6 7 y7
  have h8 : (((((((((w.setCell ⟨b, 0, none⟩ y0).setCell ⟨b, 1, none⟩ y1).setCell ⟨b, 2, none⟩ y2).setCell ⟨b, 3, none⟩ y3).setCell ⟨b, 4, none⟩ y4).setCell ⟨b, 5, none⟩ y5).setCell ⟨b, 6, none⟩ y6).setCell ⟨b, 7, none⟩ y7).setCell ⟨b, 8, none⟩ y8).heap[b]? = some (.cells #[y0, y1, y2, y3, y4, y5, y6, y7, y8] T) := heap_setCell_self h7 8 y8
  exact h8
theorem below9 {B : Nat} {a w : World} {b : Nat} (h : Below B a w) (hb : B ≤ b) (y0 y1 y2 y3 y4 y5 y6 y7 y8 : Value) : Below B a (((((((((w.setCell ⟨b, 0, none⟩ y0).setCell ⟨b, 1, none⟩ y1).setCell ⟨b, 2, none⟩ y2).setCell ⟨b, 3, none⟩ y3).setCell ⟨b, 4, none⟩ y4).setCell ⟨b, 5, none⟩ y5).setCell ⟨b, 6, none⟩ y6).setCell ⟨b, 7, none⟩ y7).setCell ⟨b, 8, none⟩ y8) := (((((((((h.setCell (p := ⟨b, 0, none⟩) hb y0).setCell (p := ⟨b, 1, none⟩) hb y1).setCell (p := ⟨b, 2, none⟩) hb y2).setCell (p := ⟨b, 3, none⟩) hb y3).setCell (p := ⟨b, 4, none⟩) hb y4).setCell (p := ⟨b, 5, none⟩) hb y5).setCell (p := ⟨b, 6, none⟩) hb y6).setCell (p := ⟨b, 7, none⟩) hb y7).setCell (p := ⟨b, 8, none⟩) hb y8)
theorem StepPost.err {B r : Nat} {code : Value} {s : ByteArray} {l0 l1 l2 : Int} {w w' : World} {m : Except Int MSt} {e : Int} (hm : m = .error e) (hB : Below B w w') : StepPost B r code s l0 l1 l2 w m (.returned (.int .i64 e)) w' := by subst hm; exact ⟨hB, rfl⟩
theorem StepPost.ok {B r : Nat} {code : Value} {s : ByteArray} {l0 l1 l2 : Int} {w w' : World} {m : Except Int MSt} {y : MSt} (hm : m = .ok y) (hB : Below B w w') (hW : RunW w' B r code s l0 l1 l2 y) : StepPost B r code s l0 l1 l2 w m (.returned (.int .i64 0)) w' := by subst hm; exact ⟨hB, rfl, hW⟩
/-- What a step asks of a state. -/
structure StepOk (code : List Ins) (s : ByteArray) (l0 l1 l2 : Int) (x : MSt) : Prop where
  notes : NotesOk x
  stack : x.stack.length ≤ 1048576
  log : x.log.length ≤ 1048576
  at0 : 0 ≤ x.at_
  at1 : x.at_ ≤ s.size
  size : s.size ≤ 1048576
  pc0 : 0 ≤ x.pc
  pc1 : x.pc < code.length
  many : code.length ≤ 1048576
  st0 : 0 ≤ x.steps
  st1 : x.steps ≤ 1073741824
  lim0 : l0 ≤ 1048576
  lim1 : l1 ≤ 1048576
  jumps : ∀ i ∈ code, -1048576 ≤ i.a ∧ i.a ≤ 1048576
set_option maxHeartbeats 16000000 in
set_option maxRecDepth 20000 in
theorem step_end (w : World) (B r : Nat) (cl : List Ins) (code : Value) (s : ByteArray) (l0 l1 l2 : Int) (x : MSt) (a b n : Int) (tx : ByteArray) (s0 s1 s2 s3 : Int) (h : RunW w B r code s l0 l1 l2 x) (hC : CodeAt w B cl code) (ok : StepOk cl s l0 l1 l2 x) (hst : x.steps < l2)
    (hi : cl[x.pc.toNat]? = some ⟨17, a, b, n, tx, s0, s1, s2, s3⟩) :
    Calls Tryd.prog 49 #[.pointer (some ⟨r, 0, none⟩)] w fun en w' => StepPost B r code s l0 l1 l2 w (stepI s l0 l1 ⟨17, a, b, n, tx, s0, s1, s2, s3⟩ { x with steps := x.steps + 1 }) en w' := by
  have h0 := h
  obtain ⟨sv, lv, hR, hBr, hS, hL⟩ := h
  have hBw := Nat.le_of_lt (Nat.lt_of_le_of_lt hBr (block_lt hR))
  obtain ⟨okN, okS, okL, okA0, okA1, okZ, okP0, okP1, okC, okT0, okT1, okL0, okL1, okAs⟩ := ok
  obtain ⟨pc, p, st, kd, stk, lg⟩ := x
  simp only at okS okL okA0 okA1 okP0 okP1 okT0 okT1 hst hi hS hL
  obtain ⟨k, rfl⟩ := Int.eq_ofNat_of_zero_le okP0
  rw [Int.toNat_natCast] at hi
  have hk : k < cl.length := by omega
  have hk2 : (k : Int) < (cl.length : Int) := by omega
  have hia := okAs _ (List.mem_of_getElem? hi)
  simp only at hia
  have hC0 := hC
  obtain ⟨gc, oc, cc, rfl, hgB, hcells⟩ := hC
  have hgk : cl[k] = ⟨17, a, b, n, tx, s0, s1, s2, s3⟩ := by rw [List.getElem?_eq_getElem hk] at hi; exact Option.some.inj hi
  have cC : ∀ j, j < 9 → w.cell? ⟨gc, oc + k * 9 + j, none⟩ = (insC ⟨17, a, b, n, tx, s0, s1, s2, s3⟩)[j]? := fun j hj => by have := row_cell insC_len hcells hk hj; rw [hgk] at this; exact this
  have d0 := cC 0 (by decide)
  have d1 := cC 1 (by decide)
  have d2 := cC 2 (by decide)
  have d3 := cC 3 (by decide)
  have d4 := cC 4 (by decide)
  have d5 := cC 5 (by decide)
  have d6 := cC 6 (by decide)
  have d7 := cC 7 (by decide)
  have d8 := cC 8 (by decide)
  simp only [insC, List.getElem?_cons_zero, List.getElem?_cons_succ, Nat.add_zero] at d0 d1 d2 d3 d4 d5 d6 d7 d8
  unfold runC at hR
  simp only at hR
  have hcR := block_cell hR
  have hw1 : IntKind.i64.wrap (st + 1) = st + 1 := wrap_in (by omega)
  have hw2 : IntKind.i64.wrap ((k : Int) + 1) = (k : Int) + 1 := wrap_in (by omega)
  have hw3 : IntKind.i64.wrap ((k : Int) + a) = (k : Int) + a := wrap_in (by omega)
  have hrl := block_lt hR
  clear cC hcells hgk hi
  go_enter Tryd.func49, Tryd.ntmps49
  go_wp2_with (fail)
  go_quiet (fail)
  have hR1 : (w.drewN nq).heap[r]? = _ := hR
  have hS1 := own_below hS (below_drewN (Below.refl _ _) nq)
  have hL1 := own_below hL (below_drewN (Below.refl _ _) nq)
  have hC1 := hC0.below (below_drewN (Below.refl B w) nq)
  have hB1 := below_drewN (Below.refl B w) nq
  go_wp2_with (fail)
  have f0 : ∀ (o : Nat) (z : Obj), ((w.drewN (nq + 1)).alloc z).cell? ⟨r, o, none⟩ = w.cell? ⟨r, o, none⟩ := fun o z => cell_alloc (W := w.drewN (nq + 1)) (x := z) hrl o
  have f1 : ∀ (o : Nat) (z : Obj), ((w.drewN (nq + 1)).alloc z).cell? ⟨gc, o, none⟩ = w.cell? ⟨gc, o, none⟩ := fun o z => cell_alloc (W := w.drewN (nq + 1)) (x := z) (Nat.lt_of_lt_of_le hgB hBw) o
  have g0 := fun (o : Nat) (z : Obj) => (f0 o z).trans (hcR o)
  have e0 := fun (z : Obj) => (f1 _ z).trans d0
  have e1 := fun (z : Obj) => (f1 _ z).trans d1
  have e2 := fun (z : Obj) => (f1 _ z).trans d2
  have e3 := fun (z : Obj) => (f1 _ z).trans d3
  have e4 := fun (z : Obj) => (f1 _ z).trans d4
  have e5 := fun (z : Obj) => (f1 _ z).trans d5
  have e6 := fun (z : Obj) => (f1 _ z).trans d6
  have e7 := fun (z : Obj) => (f1 _ z).trans d7
  have e8 := fun (z : Obj) => (f1 _ z).trans d8
  have hZ : ((w.drewN (nq + 1)).alloc (.cells #[.int .i64 0, .int .i64 0, .int .i64 0, .int .i64 0, .string ⟨#[]⟩, .int .u64 0, .int .u64 0, .int .u64 0, .int .u64 0] 68)).heap[w.heap.size]? = _ := alloc_new (w.drewN (nq + 1)) (.cells #[.int .i64 0, .int .i64 0, .int .i64 0, .int .i64 0, .string ⟨#[]⟩, .int .u64 0, .int .u64 0, .int .u64 0, .int .u64 0] 68)
  have hcZ := block_cell hZ
  have hfZ := block_free hZ
  go_region
  have hb2 := below9 ((below_drewN (Below.refl w.heap.size w) (nq + 1)).alloc (Nat.le_refl _) (.cells #[.int .i64 0, .int .i64 0, .int .i64 0, .int .i64 0, .string ⟨#[]⟩, .int .u64 0, .int .u64 0, .int .u64 0, .int .u64 0] 68)) (Nat.le_refl _) (.int .i64 17) (.int .i64 a) (.int .i64 b) (.int .i64 n) (.string tx) (.int .u64 s0) (.int .u64 s1) (.int .u64 s2) (.int .u64 s3)
  have hI2 := set9 hZ (.int .i64 17) (.int .i64 a) (.int .i64 b) (.int .i64 n) (.string tx) (.int .u64 s0) (.int .u64 s1) (.int .u64 s2) (.int .u64 s3)
  clear f0 f1 g0 e0 e1 e2 e3 e4 e5 e6 e7 e8 hZ hcZ hfZ d0 d1 d2 d3 d4 d5 d6 d7 d8 hR1 hS1 hL1 hC1 hB1 hcR
  generalize ((((((((((w.drewN (nq + 1)).alloc (.cells #[.int .i64 0, .int .i64 0, .int .i64 0, .int .i64 0, .string ⟨#[]⟩, .int .u64 0, .int .u64 0, .int .u64 0, .int .u64 0] 68)).setCell ⟨w.heap.size, 0, none⟩ (.int .i64 17)).setCell ⟨w.heap.size, 1, none⟩ (.int .i64 a)).setCell ⟨w.heap.size, 2, none⟩ (.int .i64 b)).setCell ⟨w.heap.size, 3, none⟩ (.int .i64 n)).setCell ⟨w.heap.size, 4, none⟩ (.string tx)).setCell ⟨w.heap.size, 5, none⟩ (.int .u64 s0)).setCell ⟨w.heap.size, 6, none⟩ (.int .u64 s1)).setCell ⟨w.heap.size, 7, none⟩ (.int .u64 s2)).setCell ⟨w.heap.size, 8, none⟩ (.int .u64 s3) = W2 at *
  have hR2 := keep hb2 hR
  have hS2 := own_below hS hb2
  have hL2 := own_below hL hb2
  have hB2 := hb2.mono hBw
  have hxr : w.heap.size ≠ r := fun e => by have := block_lt hR; omega
  clear hR hS hL hb2
  have hR3 : (W2.setCell ⟨r, 7, none⟩ (.int .i64 (st + 1))).heap[r]? = some (.cells #[.slice (some ⟨gc, oc, none⟩) cl.length cc, .string s, .int .i64 l0, .int .i64 l1, .int .i64 l2, .int .i64 k, .int .i64 p, .int .i64 (st + 1), .int .i64 kd, sv, lv] 83) := heap_setCell_self hR2 7 (.int .i64 (st + 1))
  have hI3 := (heap_setCell_ne (w := W2) (b := r) 7 _ (.int .i64 (st + 1)) hxr).trans hI2
  have hS3 := own_set hS2 hR2 (by decide) 7 (.int .i64 (st + 1))
  have hL3 := own_set hL2 hR2 (by decide) 7 (.int .i64 (st + 1))
  have hB3 := hB2.setCell (p := ⟨r, 7, none⟩) hBr (.int .i64 (st + 1))
  have hfR2 := block_free hR2
  have hcR2 := block_cell hR2
  have hcI := block_cell hI3
  have hcR := block_cell hR3
  have hfR := block_free hR3
  generalize hW3 : W2.setCell ⟨r, 7, none⟩ (.int .i64 (st + 1)) = W3 at *
  go_wp2_with (fail)
  have hR4 := heap_setCell_self hR3 8 (.int .i64 1)
  go_ret
  exact StepPost.ok rfl (hB3.setCell (p := ⟨r, 8, none⟩) hBr _) ⟨_, _, hR4, hBr, own_set hS3 hR3 (by decide) 8 _, own_set hL3 hR3 (by decide) 8 _⟩
end Go.Proofs.YthjlpcecfkboiabDoor
