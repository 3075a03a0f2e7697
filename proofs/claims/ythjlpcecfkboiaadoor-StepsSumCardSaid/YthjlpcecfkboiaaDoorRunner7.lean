/-
  The runner of steps: one step, the other kinds.
-/
import Derived.Test.YthjlpcecfkboiaaDoorRunner6
import Derived.WalkKit
import Derived.BigQuiet
import Derived.BigRegion
namespace Go.Proofs.YthjlpcecfkboiaaDoor
open Go.RowKit
set_option linter.unusedVariables false
set_option linter.unusedSimpArgs false
set_option maxHeartbeats 16000000 in
set_option maxRecDepth 20000 in
theorem step_choice11 (w : World) (B r : Nat) (cl : List Ins) (code : Value) (s : ByteArray) (l0 l1 l2 : Int) (x : MSt) (a b n : Int) (tx : ByteArray) (s0 s1 s2 s3 : Int) (h : RunW w B r code s l0 l1 l2 x) (hC : CodeAt w B cl code) (ok : StepOk cl s l0 l1 l2 x) (hst : x.steps < l2)
    (hi : cl[x.pc.toNat]? = some ⟨11, a, b, n, tx, s0, s1, s2, s3⟩) :
    Calls Tryd.prog 43 #[.pointer (some ⟨r, 0, none⟩)] w fun en w' => StepPost B r code s l0 l1 l2 w (stepI s l0 l1 ⟨11, a, b, n, tx, s0, s1, s2, s3⟩ { x with steps := x.steps + 1 }) en w' := by
  have h0 := h
  obtain ⟨sv, lv, hR, hBr, hS, hL⟩ := h
  have hBw := Nat.le_of_lt (Nat.lt_of_le_of_lt hBr (block_lt hR))
  obtain ⟨okN, okS, okL, okA0, okA1, okZ, okP0, okP1, okC, okT0, okT1, okL0, okL1, okAs⟩ := ok
  obtain ⟨pc, p, st, kd, stk, lg⟩ := x
  simp only at okS okL okA0 okA1 okP0 okP1 okT0 okT1 hst hi hS hL
  obtain ⟨k, rfl⟩ := Int.eq_ofNat_of_zero_le okP0
  rw [Int.toNat_natCast] at hi
  have hk : k < cl.length := by omega
  have hk2 : (k : Int) < (cl.length : Int) := by omega
  have hia := okAs _ (List.mem_of_getElem? hi)
  simp only at hia
  have hC0 := hC
  obtain ⟨gc, oc, cc, rfl, hgB, hcells⟩ := hC
  have hgk : cl[k] = ⟨11, a, b, n, tx, s0, s1, s2, s3⟩ := by rw [List.getElem?_eq_getElem hk] at hi; exact Option.some.inj hi
  have cC : ∀ j, j < 9 → w.cell? ⟨gc, oc + k * 9 + j, none⟩ = (insC ⟨11, a, b, n, tx, s0, s1, s2, s3⟩)[j]? := fun j hj => by have := row_cell insC_len hcells hk hj; rw [hgk] at this; exact this
  have d0 := cC 0 (by decide)
  have d1 := cC 1 (by decide)
  have d2 := cC 2 (by decide)
  have d3 := cC 3 (by decide)
  have d4 := cC 4 (by decide)
  have d5 := cC 5 (by decide)
  have d6 := cC 6 (by decide)
  have d7 := cC 7 (by decide)
  have d8 := cC 8 (by decide)
  simp only [insC, List.getElem?_cons_zero, List.getElem?_cons_succ, Nat.add_zero] at d0 d1 d2 d3 d4 d5 d6 d7 d8
  unfold runC at hR
  simp only at hR
  have hcR := block_cell hR
  have hw1 : IntKind.i64.wrap (st + 1) = st + 1 := wrap_in (by omega)
  have hw2 : IntKind.i64.wrap ((k : Int) + 1) = (k : Int) + 1 := wrap_in (by omega)
  have hw3 : IntKind.i64.wrap ((k : Int) + a) = (k : Int) + a := wrap_in (by omega)
  have hrl := block_lt hR
  clear cC hcells hgk hi
  go_enter Tryd.func43, Tryd.ntmps43
  go_wp2_with (fail)
  go_quiet (fail)
  have hR1 : (w.drewN nq).heap[r]? = _ := hR
  have hS1 := own_below hS (below_drewN (Below.refl _ _) nq)
  have hL1 := own_below hL (below_drewN (Below.refl _ _) nq)
  have hC1 := hC0.below (below_drewN (Below.refl B w) nq)
  have hB1 := below_drewN (Below.refl B w) nq
  go_wp2_with (fail)
  have f0 : ∀ (o : Nat) (z : Obj), ((w.drewN (nq + 1)).alloc z).cell? ⟨r, o, none⟩ = w.cell? ⟨r, o, none⟩ := fun o z => cell_alloc (W := w.drewN (nq + 1)) (x := z) hrl o
  have f1 : ∀ (o : Nat) (z : Obj), ((w.drewN (nq + 1)).alloc z).cell? ⟨gc, o, none⟩ = w.cell? ⟨gc, o, none⟩ := fun o z => cell_alloc (W := w.drewN (nq + 1)) (x := z) (Nat.lt_of_lt_of_le hgB hBw) o
  have g0 := fun (o : Nat) (z : Obj) => (f0 o z).trans (hcR o)
  have e0 := fun (z : Obj) => (f1 _ z).trans d0
  have e1 := fun (z : Obj) => (f1 _ z).trans d1
  have e2 := fun (z : Obj) => (f1 _ z).trans d2
  have e3 := fun (z : Obj) => (f1 _ z).trans d3
  have e4 := fun (z : Obj) => (f1 _ z).trans d4
  have e5 := fun (z : Obj) => (f1 _ z).trans d5
  have e6 := fun (z : Obj) => (f1 _ z).trans d6
  have e7 := fun (z : Obj) => (f1 _ z).trans d7
  have e8 := fun (z : Obj) => (f1 _ z).trans d8
  have hZ : ((w.drewN (nq + 1)).alloc (.cells #[.int .i64 0, .int .i64 0, .int .i64 0, .int .i64 0, .string ⟨#[]⟩, .int .u64 0, .int .u64 0, .int .u64 0, .int .u64 0] 52)).heap[w.heap.size]? = _ := alloc_new (w.drewN (nq + 1)) (.cells #[.int .i64 0, .int .i64 0, .int .i64 0, .int .i64 0, .string ⟨#[]⟩, .int .u64 0, .int .u64 0, .int .u64 0, .int .u64 0] 52)
  have hcZ := block_cell hZ
  have hfZ := block_free hZ
  go_region
  have hb2 := below9 ((below_drewN (Below.refl w.heap.size w) (nq + 1)).alloc (Nat.le_refl _) (.cells #[.int .i64 0, .int .i64 0, .int .i64 0, .int .i64 0, .string ⟨#[]⟩, .int .u64 0, .int .u64 0, .int .u64 0, .int .u64 0] 52)) (Nat.le_refl _) (.int .i64 11) (.int .i64 a) (.int .i64 b) (.int .i64 n) (.string tx) (.int .u64 s0) (.int .u64 s1) (.int .u64 s2) (.int .u64 s3)
  have hI2 := set9 hZ (.int .i64 11) (.int .i64 a) (.int .i64 b) (.int .i64 n) (.string tx) (.int .u64 s0) (.int .u64 s1) (.int .u64 s2) (.int .u64 s3)
  clear f0 f1 g0 e0 e1 e2 e3 e4 e5 e6 e7 e8 hZ hcZ hfZ d0 d1 d2 d3 d4 d5 d6 d7 d8 hR1 hS1 hL1 hC1 hB1 hcR
  generalize ((((((((((w.drewN (nq + 1)).alloc (.cells #[.int .i64 0, .int .i64 0, .int .i64 0, .int .i64 0, .string ⟨#[]⟩, .int .u64 0, .int .u64 0, .int .u64 0, .int .u64 0] 52)).setCell ⟨w.heap.size, 0, none⟩ (.int .i64 11)).setCell ⟨w.heap.size, 1, none⟩ (.int .i64 a)).setCell ⟨w.heap.size, 2, none⟩ (.int .i64 b)).setCell ⟨w.heap.size, 3, none⟩ (.int .i64 n)).setCell ⟨w.heap.size, 4, none⟩ (.string tx)).setCell ⟨w.heap.size, 5, none⟩ (.int .u64 s0)).setCell ⟨w.heap.size, 6, none⟩ (.int .u64 s1)).setCell ⟨w.heap.size, 7, none⟩ (.int .u64 s2)).setCell ⟨w.heap.size, 8, none⟩ (.int .u64 s3) = W2 at *
  have hR2 := keep hb2 hR
  have hS2 := own_below hS hb2
  have hL2 := own_below hL hb2
  have hB2 := hb2.mono hBw
  have hxr : w.heap.size ≠ r := fun e => by have := block_lt hR; omega
  clear hR hS hL hb2
  have hR3 : (W2.setCell ⟨r, 7, none⟩ (.int .i64 (st + 1))).heap[r]? = some (.cells #[.slice (some ⟨gc, oc, none⟩) cl.length cc, .string s, .int .i64 l0, .int .i64 l1, .int .i64 l2, .int .i64 k, .int .i64 p, .int .i64 (st + 1), .int .i64 kd, sv, lv] 61) := heap_setCell_self hR2 7 (.int .i64 (st + 1))
  have hI3 := (heap_setCell_ne (w := W2) (b := r) 7 _ (.int .i64 (st + 1)) hxr).trans hI2
  have hS3 := own_set hS2 hR2 (by decide) 7 (.int .i64 (st + 1))
  have hL3 := own_set hL2 hR2 (by decide) 7 (.int .i64 (st + 1))
  have hB3 := hB2.setCell (p := ⟨r, 7, none⟩) hBr (.int .i64 (st + 1))
  have hfR2 := block_free hR2
  have hcR2 := block_cell hR2
  have hcI := block_cell hI3
  have hcR := block_cell hR3
  have hfR := block_free hR3
  generalize hW3 : W2.setCell ⟨r, 7, none⟩ (.int .i64 (st + 1)) = W3 at *
  go_wp2_with (fail)
  have hW0 : RunW W3 B r (.slice (some ⟨gc, oc, none⟩) cl.length cc) s l0 l1 l2 ⟨k, p, st + 1, kd, stk, lg⟩ := ⟨sv, lv, hR3, hBr, hS3, hL3⟩
  have hN0 : NotesOk ⟨k, p, st + 1, kd, stk, lg⟩ := fun e he => okN e he
  cases hch : choiceM ⟨11, a, b, n, tx, s0, s1, s2, s3⟩ ⟨k, p, st + 1, kd, stk, lg⟩ with
  | none =>
    have hM : stepI s l0 l1 ⟨11, a, b, n, tx, s0, s1, s2, s3⟩ ⟨k, p, st + 1, kd, stk, lg⟩ = .error 213 := by
      unfold stepI
      rw [if_neg (show ¬ ((11 : Int) = 8) by decide), if_pos (show (11 : Int) = 9 ∨ (11 : Int) = 10 ∨ (11 : Int) = 11 ∨ (11 : Int) = 12 by decide), hch]
    have HM := hid hM
    have HC := hid hch
    clear hM hch
    have hcn := choice_none W3 B r _ s l0 l1 l2 ⟨k, p, st + 1, kd, stk, lg⟩ ⟨11, a, b, n, tx, s0, s1, s2, s3⟩ hW0 (by simp only; omega) HC.out
    unfold insA at hcn
    with_reducible refine hcn.mono ?_
    rintro e W4 ⟨rfl, hb9⟩
    go_wp2_with (fail)
    go_ret
    exact StepPost.err HM.out (hB3.trans hb9)
  | some y =>
    have hM : stepI s l0 l1 ⟨11, a, b, n, tx, s0, s1, s2, s3⟩ ⟨k, p, st + 1, kd, stk, lg⟩ = .ok y := by
      unfold stepI
      rw [if_neg (show ¬ ((11 : Int) = 8) by decide), if_pos (show (11 : Int) = 9 ∨ (11 : Int) = 10 ∨ (11 : Int) = 11 ∨ (11 : Int) = 12 by decide), hch]
    have HM := hid hM
    have HC := hid hch
    clear hM hch
    have hcn := choice_any W3 B r _ s l0 l1 l2 ⟨k, p, st + 1, kd, stk, lg⟩ ⟨11, a, b, n, tx, s0, s1, s2, s3⟩ hW0 hN0 (by simp only; omega) (by simp only; omega) (by simp only; omega) hia y HC.out
    unfold insA at hcn
    with_reducible refine hcn.mono ?_
    rintro e W4 ⟨rfl, hb9, hW9⟩
    go_wp2_with (fail)
    go_ret
    exact StepPost.ok HM.out (hB3.trans hb9) hW9
set_option maxHeartbeats 16000000 in
set_option maxRecDepth 20000 in
theorem step_choice12 (w : World) (B r : Nat) (cl : List Ins) (code : Value) (s : ByteArray) (l0 l1 l2 : Int) (x : MSt) (a b n : Int) (tx : ByteArray) (s0 s1 s2 s3 : Int) (h : RunW w B r code s l0 l1 l2 x) (hC : CodeAt w B cl code) (ok : StepOk cl s l0 l1 l2 x) (hst : x.steps < l2)
    (hi : cl[x.pc.toNat]? = some ⟨12, a, b, n, tx, s0, s1, s2, s3⟩) :
    Calls Tryd.prog 43 #[.pointer (some ⟨r, 0, none⟩)] w fun en w' => StepPost B r code s l0 l1 l2 w (stepI s l0 l1 ⟨12, a, b, n, tx, s0, s1, s2, s3⟩ { x with steps := x.steps + 1 }) en w' := by
  have h0 := h
  obtain ⟨sv, lv, hR, hBr, hS, hL⟩ := h
  have hBw := Nat.le_of_lt (Nat.lt_of_le_of_lt hBr (block_lt hR))
  obtain ⟨okN, okS, okL, okA0, okA1, okZ, okP0, okP1, okC, okT0, okT1, okL0, okL1, okAs⟩ := ok
  obtain ⟨pc, p, st, kd, stk, lg⟩ := x
  simp only at okS okL okA0 okA1 okP0 okP1 okT0 okT1 hst hi hS hL
  obtain ⟨k, rfl⟩ := Int.eq_ofNat_of_zero_le okP0
  rw [Int.toNat_natCast] at hi
  have hk : k < cl.length := by omega
  have hk2 : (k : Int) < (cl.length : Int) := by omega
  have hia := okAs _ (List.mem_of_getElem? hi)
  simp only at hia
  have hC0 := hC
  obtain ⟨gc, oc, cc, rfl, hgB, hcells⟩ := hC
  have hgk : cl[k] = ⟨12, a, b, n, tx, s0, s1, s2, s3⟩ := by rw [List.getElem?_eq_getElem hk] at hi; exact Option.some.inj hi
  have cC : ∀ j, j < 9 → w.cell? ⟨gc, oc + k * 9 + j, none⟩ = (insC ⟨12, a, b, n, tx, s0, s1, s2, s3⟩)[j]? := fun j hj => by have := row_cell insC_len hcells hk hj; rw [hgk] at this; exact this
  have d0 := cC 0 (by decide)
  have d1 := cC 1 (by decide)
  have d2 := cC 2 (by decide)
  have d3 := cC 3 (by decide)
  have d4 := cC 4 (by decide)
  have d5 := cC 5 (by decide)
  have d6 := cC 6 (by decide)
  have d7 := cC 7 (by decide)
  have d8 := cC 8 (by decide)
  simp only [insC, List.getElem?_cons_zero, List.getElem?_cons_succ, Nat.add_zero] at d0 d1 d2 d3 d4 d5 d6 d7 d8
  unfold runC at hR
  simp only at hR
  have hcR := block_cell hR
  have hw1 : IntKind.i64.wrap (st + 1) = st + 1 := wrap_in (by omega)
  have hw2 : IntKind.i64.wrap ((k : Int) + 1) = (k : Int) + 1 := wrap_in (by omega)
  have hw3 : IntKind.i64.wrap ((k : Int) + a) = (k : Int) + a := wrap_in (by omega)
  have hrl := block_lt hR
  clear cC hcells hgk hi
  go_enter Tryd.func43, Tryd.ntmps43
  go_wp2_with (fail)
  go_quiet (fail)
  have hR1 : (w.drewN nq).heap[r]? = _ := hR
  have hS1 := own_below hS (below_drewN (Below.refl _ _) nq)
  have hL1 := own_below hL (below_drewN (Below.refl _ _) nq)
  have hC1 := hC0.below (below_drewN (Below.refl B w) nq)
  have hB1 := below_drewN (Below.refl B w) nq
  go_wp2_with (fail)
  have f0 : ∀ (o : Nat) (z : Obj), ((w.drewN (nq + 1)).alloc z).cell? ⟨r, o, none⟩ = w.cell? ⟨r, o, none⟩ := fun o z => cell_alloc (W := w.drewN (nq + 1)) (x := z) hrl o
  have f1 : ∀ (o : Nat) (z : Obj), ((w.drewN (nq + 1)).alloc z).cell? ⟨gc, o, none⟩ = w.cell? ⟨gc, o, none⟩ := fun o z => cell_alloc (W := w.drewN (nq + 1)) (x := z) (Nat.lt_of_lt_of_le hgB hBw) o
  have g0 := fun (o : Nat) (z : Obj) => (f0 o z).trans (hcR o)
  have e0 := fun (z : Obj) => (f1 _ z).trans d0
  have e1 := fun (z : Obj) => (f1 _ z).trans d1
  have e2 := fun (z : Obj) => (f1 _ z).trans d2
  have e3 := fun (z : Obj) => (f1 _ z).trans d3
  have e4 := fun (z : Obj) => (f1 _ z).trans d4
  have e5 := fun (z : Obj) => (f1 _ z).trans d5
  have e6 := fun (z : Obj) => (f1 _ z).trans d6
  have e7 := fun (z : Obj) => (f1 _ z).trans d7
  have e8 := fun (z : Obj) => (f1 _ z).trans d8
  have hZ : ((w.drewN (nq + 1)).alloc (.cells #[.int .i64 0, .int .i64 0, .int .i64 0, .int .i64 0, .string ⟨#[]⟩, .int .u64 0, .int .u64 0, .int .u64 0, .int .u64 0] 52)).heap[w.heap.size]? = _ := alloc_new (w.drewN (nq + 1)) (.cells #[.int .i64 0, .int .i64 0, .int .i64 0, .int .i64 0, .string ⟨#[]⟩, .int .u64 0, .int .u64 0, .int .u64 0, .int .u64 0] 52)
  have hcZ := block_cell hZ
  have hfZ := block_free hZ
  go_region
  have hb2 := below9 ((below_drewN (Below.refl w.heap.size w) (nq + 1)).alloc (Nat.le_refl _) (.cells #[.int .i64 0, .int .i64 0, .int .i64 0, .int .i64 0, .string ⟨#[]⟩, .int .u64 0, .int .u64 0, .int .u64 0, .int .u64 0] 52)) (Nat.le_refl _) (.int .i64 12) (.int .i64 a) (.int .i64 b) (.int .i64 n) (.string tx) (.int .u64 s0) (.int .u64 s1) (.int .u64 s2) (.int .u64 s3)
  have hI2 := set9 hZ (.int .i64 12) (.int .i64 a) (.int .i64 b) (.int .i64 n) (.string tx) (.int .u64 s0) (.int .u64 s1) (.int .u64 s2) (.int .u64 s3)
  clear f0 f1 g0 e0 e1 e2 e3 e4 e5 e6 e7 e8 hZ hcZ hfZ d0 d1 d2 d3 d4 d5 d6 d7 d8 hR1 hS1 hL1 hC1 hB1 hcR
  generalize ((((((((((w.drewN (nq + 1)).alloc (.cells #[.int .i64 0, .int .i64 0, .int .i64 0, .int .i64 0, .string ⟨#[]⟩, .int .u64 0, .int .u64 0, .int .u64 0, .int .u64 0] 52)).setCell ⟨w.heap.size, 0, none⟩ (.int .i64 12)).setCell ⟨w.heap.size, 1, none⟩ (.int .i64 a)).setCell ⟨w.heap.size, 2, none⟩ (.int .i64 b)).setCell ⟨w.heap.size, 3, none⟩ (.int .i64 n)).setCell ⟨w.heap.size, 4, none⟩ (.string tx)).setCell ⟨w.heap.size, 5, none⟩ (.int .u64 s0)).setCell ⟨w.heap.size, 6, none⟩ (.int .u64 s1)).setCell ⟨w.heap.size, 7, none⟩ (.int .u64 s2)).setCell ⟨w.heap.size, 8, none⟩ (.int .u64 s3) = W2 at *
  have hR2 := keep hb2 hR
  have hS2 := own_below hS hb2
  have hL2 := own_below hL hb2
  have hB2 := hb2.mono hBw
  have hxr : w.heap.size ≠ r := fun e => by have := block_lt hR; omega
  clear hR hS hL hb2
  have hR3 : (W2.setCell ⟨r, 7, none⟩ (.int .i64 (st + 1))).heap[r]? = some (.cells #[.slice (some ⟨gc, oc, none⟩) cl.length cc, .string s, .int .i64 l0, .int .i64 l1, .int .i64 l2, .int .i64 k, .int .i64 p, .int .i64 (st + 1), .int .i64 kd, sv, lv] 61) := heap_setCell_self hR2 7 (.int .i64 (st + 1))
  have hI3 := (heap_setCell_ne (w := W2) (b := r) 7 _ (.int .i64 (st + 1)) hxr).trans hI2
  have hS3 := own_set hS2 hR2 (by decide) 7 (.int .i64 (st + 1))
  have hL3 := own_set hL2 hR2 (by decide) 7 (.int .i64 (st + 1))
  have hB3 := hB2.setCell (p := ⟨r, 7, none⟩) hBr (.int .i64 (st + 1))
  have hfR2 := block_free hR2
  have hcR2 := block_cell hR2
  have hcI := block_cell hI3
  have hcR := block_cell hR3
  have hfR := block_free hR3
  generalize hW3 : W2.setCell ⟨r, 7, none⟩ (.int .i64 (st + 1)) = W3 at *
  go_wp2_with (fail)
  have hW0 : RunW W3 B r (.slice (some ⟨gc, oc, none⟩) cl.length cc) s l0 l1 l2 ⟨k, p, st + 1, kd, stk, lg⟩ := ⟨sv, lv, hR3, hBr, hS3, hL3⟩
  have hN0 : NotesOk ⟨k, p, st + 1, kd, stk, lg⟩ := fun e he => okN e he
  cases hch : choiceM ⟨12, a, b, n, tx, s0, s1, s2, s3⟩ ⟨k, p, st + 1, kd, stk, lg⟩ with
  | none =>
    have hM : stepI s l0 l1 ⟨12, a, b, n, tx, s0, s1, s2, s3⟩ ⟨k, p, st + 1, kd, stk, lg⟩ = .error 213 := by
      unfold stepI
      rw [if_neg (show ¬ ((12 : Int) = 8) by decide), if_pos (show (12 : Int) = 9 ∨ (12 : Int) = 10 ∨ (12 : Int) = 11 ∨ (12 : Int) = 12 by decide), hch]
    have HM := hid hM
    have HC := hid hch
    clear hM hch
    have hcn := choice_none W3 B r _ s l0 l1 l2 ⟨k, p, st + 1, kd, stk, lg⟩ ⟨12, a, b, n, tx, s0, s1, s2, s3⟩ hW0 (by simp only; omega) HC.out
    unfold insA at hcn
    with_reducible refine hcn.mono ?_
    rintro e W4 ⟨rfl, hb9⟩
    go_wp2_with (fail)
    go_ret
    exact StepPost.err HM.out (hB3.trans hb9)
  | some y =>
    have hM : stepI s l0 l1 ⟨12, a, b, n, tx, s0, s1, s2, s3⟩ ⟨k, p, st + 1, kd, stk, lg⟩ = .ok y := by
      unfold stepI
      rw [if_neg (show ¬ ((12 : Int) = 8) by decide), if_pos (show (12 : Int) = 9 ∨ (12 : Int) = 10 ∨ (12 : Int) = 11 ∨ (12 : Int) = 12 by decide), hch]
    have HM := hid hM
    have HC := hid hch
    clear hM hch
    have hcn := choice_any W3 B r _ s l0 l1 l2 ⟨k, p, st + 1, kd, stk, lg⟩ ⟨12, a, b, n, tx, s0, s1, s2, s3⟩ hW0 hN0 (by simp only; omega) (by simp only; omega) (by simp only; omega) hia y HC.out
    unfold insA at hcn
    with_reducible refine hcn.mono ?_
    rintro e W4 ⟨rfl, hb9, hW9⟩
    go_wp2_with (fail)
    go_ret
    exact StepPost.ok HM.out (hB3.trans hb9) hW9
set_option maxHeartbeats 16000000 in
set_option maxRecDepth 20000 in
theorem step_choice (w : World) (B r : Nat) (cl : List Ins) (code : Value) (s : ByteArray) (l0 l1 l2 : Int) (x : MSt) (a b n : Int) (tx : ByteArray) (s0 s1 s2 s3 : Int) (h : RunW w B r code s l0 l1 l2 x) (hC : CodeAt w B cl code) (ok : StepOk cl s l0 l1 l2 x) (hst : x.steps < l2)
    (hi : cl[x.pc.toNat]? = some ⟨8, a, b, n, tx, s0, s1, s2, s3⟩) :
    Calls Tryd.prog 43 #[.pointer (some ⟨r, 0, none⟩)] w fun en w' => StepPost B r code s l0 l1 l2 w (stepI s l0 l1 ⟨8, a, b, n, tx, s0, s1, s2, s3⟩ { x with steps := x.steps + 1 }) en w' := by
  have h0 := h
  obtain ⟨sv, lv, hR, hBr, hS, hL⟩ := h
  have hBw := Nat.le_of_lt (Nat.lt_of_le_of_lt hBr (block_lt hR))
  obtain ⟨okN, okS, okL, okA0, okA1, okZ, okP0, okP1, okC, okT0, okT1, okL0, okL1, okAs⟩ := ok
  obtain ⟨pc, p, st, kd, stk, lg⟩ := x
  simp only at okS okL okA0 okA1 okP0 okP1 okT0 okT1 hst hi hS hL
  obtain ⟨k, rfl⟩ := Int.eq_ofNat_of_zero_le okP0
  rw [Int.toNat_natCast] at hi
  have hk : k < cl.length := by omega
  have hk2 : (k : Int) < (cl.length : Int) := by omega
  have hia := okAs _ (List.mem_of_getElem? hi)
  simp only at hia
  have hC0 := hC
  obtain ⟨gc, oc, cc, rfl, hgB, hcells⟩ := hC
  have hgk : cl[k] = ⟨8, a, b, n, tx, s0, s1, s2, s3⟩ := by rw [List.getElem?_eq_getElem hk] at hi; exact Option.some.inj hi
  have cC : ∀ j, j < 9 → w.cell? ⟨gc, oc + k * 9 + j, none⟩ = (insC ⟨8, a, b, n, tx, s0, s1, s2, s3⟩)[j]? := fun j hj => by have := row_cell insC_len hcells hk hj; rw [hgk] at this; exact this
  have d0 := cC 0 (by decide)
  have d1 := cC 1 (by decide)
  have d2 := cC 2 (by decide)
  have d3 := cC 3 (by decide)
  have d4 := cC 4 (by decide)
  have d5 := cC 5 (by decide)
  have d6 := cC 6 (by decide)
  have d7 := cC 7 (by decide)
  have d8 := cC 8 (by decide)
  simp only [insC, List.getElem?_cons_zero, List.getElem?_cons_succ, Nat.add_zero] at d0 d1 d2 d3 d4 d5 d6 d7 d8
  unfold runC at hR
  simp only at hR
  have hcR := block_cell hR
  have hw1 : IntKind.i64.wrap (st + 1) = st + 1 := wrap_in (by omega)
  have hw2 : IntKind.i64.wrap ((k : Int) + 1) = (k : Int) + 1 := wrap_in (by omega)
  have hw3 : IntKind.i64.wrap ((k : Int) + a) = (k : Int) + a := wrap_in (by omega)
  have hrl := block_lt hR
  clear cC hcells hgk hi
  go_enter Tryd.func43, Tryd.ntmps43
  go_wp2_with (fail)
  go_quiet (fail)
  have hR1 : (w.drewN nq).heap[r]? = _ := hR
  have hS1 := own_below hS (below_drewN (Below.refl _ _) nq)
  have hL1 := own_below hL (below_drewN (Below.refl _ _) nq)
  have hC1 := hC0.below (below_drewN (Below.refl B w) nq)
  have hB1 := below_drewN (Below.refl B w) nq
  go_wp2_with (fail)
  have f0 : ∀ (o : Nat) (z : Obj), ((w.drewN (nq + 1)).alloc z).cell? ⟨r, o, none⟩ = w.cell? ⟨r, o, none⟩ := fun o z => cell_alloc (W := w.drewN (nq + 1)) (x := z) hrl o
  have f1 : ∀ (o : Nat) (z : Obj), ((w.drewN (nq + 1)).alloc z).cell? ⟨gc, o, none⟩ = w.cell? ⟨gc, o, none⟩ := fun o z => cell_alloc (W := w.drewN (nq + 1)) (x := z) (Nat.lt_of_lt_of_le hgB hBw) o
  have g0 := fun (o : Nat) (z : Obj) => (f0 o z).trans (hcR o)
  have e0 := fun (z : Obj) => (f1 _ z).trans d0
  have e1 := fun (z : Obj) => (f1 _ z).trans d1
  have e2 := fun (z : Obj) => (f1 _ z).trans d2
  have e3 := fun (z : Obj) => (f1 _ z).trans d3
  have e4 := fun (z : Obj) => (f1 _ z).trans d4
  have e5 := fun (z : Obj) => (f1 _ z).trans d5
  have e6 := fun (z : Obj) => (f1 _ z).trans d6
  have e7 := fun (z : Obj) => (f1 _ z).trans d7
  have e8 := fun (z : Obj) => (f1 _ z).trans d8
  have hZ : ((w.drewN (nq + 1)).alloc (.cells #[.int .i64 0, .int .i64 0, .int .i64 0, .int .i64 0, .string ⟨#[]⟩, .int .u64 0, .int .u64 0, .int .u64 0, .int .u64 0] 52)).heap[w.heap.size]? = _ := alloc_new (w.drewN (nq + 1)) (.cells #[.int .i64 0, .int .i64 0, .int .i64 0, .int .i64 0, .string ⟨#[]⟩, .int .u64 0, .int .u64 0, .int .u64 0, .int .u64 0] 52)
  have hcZ := block_cell hZ
  have hfZ := block_free hZ
  go_region
  have hb2 := below9 ((below_drewN (Below.refl w.heap.size w) (nq + 1)).alloc (Nat.le_refl _) (.cells #[.int .i64 0, .int .i64 0, .int .i64 0, .int .i64 0, .string ⟨#[]⟩, .int .u64 0, .int .u64 0, .int .u64 0, .int .u64 0] 52)) (Nat.le_refl _) (.int .i64 8) (.int .i64 a) (.int .i64 b) (.int .i64 n) (.string tx) (.int .u64 s0) (.int .u64 s1) (.int .u64 s2) (.int .u64 s3)
  have hI2 := set9 hZ (.int .i64 8) (.int .i64 a) (.int .i64 b) (.int .i64 n) (.string tx) (.int .u64 s0) (.int .u64 s1) (.int .u64 s2) (.int .u64 s3)
  clear f0 f1 g0 e0 e1 e2 e3 e4 e5 e6 e7 e8 hZ hcZ hfZ d0 d1 d2 d3 d4 d5 d6 d7 d8 hR1 hS1 hL1 hC1 hB1 hcR
  generalize ((((((((((w.drewN (nq + 1)).alloc (.cells #[.int .i64 0, .int .i64 0, .int .i64 0, .int .i64 0, .string ⟨#[]⟩, .int .u64 0, .int .u64 0, .int .u64 0, .int .u64 0] 52)).setCell ⟨w.heap.size, 0, none⟩ (.int .i64 8)).setCell ⟨w.heap.size, 1, none⟩ (.int .i64 a)).setCell ⟨w.heap.size, 2, none⟩ (.int .i64 b)).setCell ⟨w.heap.size, 3, none⟩ (.int .i64 n)).setCell ⟨w.heap.size, 4, none⟩ (.string tx)).setCell ⟨w.heap.size, 5, none⟩ (.int .u64 s0)).setCell ⟨w.heap.size, 6, none⟩ (.int .u64 s1)).setCell ⟨w.heap.size, 7, none⟩ (.int .u64 s2)).setCell ⟨w.heap.size, 8, none⟩ (.int .u64 s3) = W2 at *
  have hR2 := keep hb2 hR
  have hS2 := own_below hS hb2
  have hL2 := own_below hL hb2
  have hB2 := hb2.mono hBw
  have hxr : w.heap.size ≠ r := fun e => by have := block_lt hR; omega
  clear hR hS hL hb2
  have hR3 : (W2.setCell ⟨r, 7, none⟩ (.int .i64 (st + 1))).heap[r]? = some (.cells #[.slice (some ⟨gc, oc, none⟩) cl.length cc, .string s, .int .i64 l0, .int .i64 l1, .int .i64 l2, .int .i64 k, .int .i64 p, .int .i64 (st + 1), .int .i64 kd, sv, lv] 61) := heap_setCell_self hR2 7 (.int .i64 (st + 1))
  have hI3 := (heap_setCell_ne (w := W2) (b := r) 7 _ (.int .i64 (st + 1)) hxr).trans hI2
  have hS3 := own_set hS2 hR2 (by decide) 7 (.int .i64 (st + 1))
  have hL3 := own_set hL2 hR2 (by decide) 7 (.int .i64 (st + 1))
  have hB3 := hB2.setCell (p := ⟨r, 7, none⟩) hBr (.int .i64 (st + 1))
  have hfR2 := block_free hR2
  have hcR2 := block_cell hR2
  have hcI := block_cell hI3
  have hcR := block_cell hR3
  have hfR := block_free hR3
  generalize hW3 : W2.setCell ⟨r, 7, none⟩ (.int .i64 (st + 1)) = W3 at *
  go_wp2_with (fail)
  have hW0 : RunW W3 B r (.slice (some ⟨gc, oc, none⟩) cl.length cc) s l0 l1 l2 ⟨k, p, st + 1, kd, stk, lg⟩ := ⟨sv, lv, hR3, hBr, hS3, hL3⟩
  have hN0 : NotesOk ⟨k, p, st + 1, kd, stk, lg⟩ := fun e he => okN e he
  have hBw0 := hBw
  have hM : stepI s l0 l1 ⟨8, a, b, n, tx, s0, s1, s2, s3⟩ ⟨k, p, st + 1, kd, stk, lg⟩ = (if l0 ≤ stk.length then .error 210 else .ok ⟨(k : Int) + 1, p, st + 1, kd, stk ++ [⟨false, (k : Int) + a, p, lg.length⟩], lg⟩) := by
    unfold stepI
    exact if_pos rfl
  have HM := hid hM
  clear hM
  obtain ⟨A2, c2, rfl⟩ := (RowIs.of_owns hL3).form
  obtain ⟨A1, c1, rfl⟩ := (RowIs.of_owns hS3).form
  have hlR := grow_cell hR3 (B := W3.heap.size) (block_lt hR3)
  have hlI := grow_cell hI3 (B := W3.heap.size) (block_lt hI3)
  refine wp_region_grow_tail W3.heap.size 18 (by kernel_rfl) (by kernel_rfl) ?_
  simp only [List.take_succ_cons, List.take_zero, List.drop_succ_cons, List.drop_zero]
  repeat (go_big_quiet_step (fail))
  refine wpQuiet_nil ?_
  rintro _ ⟨g, rfl⟩
  have hW5 := hW0.below g.below
  have hR5 := grow_heap hR3 (block_lt hR3) g
  have hI5 := grow_heap hI3 (block_lt hI3) g
  have hB5 := hB3.trans (g.below.mono (Nat.le_trans hBw0 hB3.size))
  clear hlR hlI hcR hcI hfR
  generalize g.val = W5 at *
  go_wp2_with (fail)
  have hcn := push_any W5 B r _ s l0 l1 l2 ⟨k, p, st + 1, kd, stk, lg⟩ ⟨false, (k : Int) + a, p, lg.length⟩ hW5 okL0
  unfold entA at hcn
  simp only at hcn
  by_cases hfull : l0 ≤ stk.length
  · simp only [if_pos hfull] at hcn
    have hM := HM.out
    rw [if_pos hfull] at hM
    have HM2 := hid hM
    clear hM HM
    with_reducible refine hcn.mono ?_
    rintro e W6 ⟨hb6, hk6, rfl, hW6⟩
    obtain ⟨sv6, lv6, hR6, -, hS6, hL6⟩ := hW6
    unfold runC at hR6
    simp only at hR6
    have hcR6 := block_cell hR6
    have hfR6 := block_free hR6
    go_wp2_with (fail)
    go_ret
    exact StepPost.err HM2.out ((hB5.trans hb6).setCell (p := ⟨r, 5, none⟩) hBr _)
  · simp only [if_neg hfull] at hcn
    have hM := HM.out
    rw [if_neg hfull] at hM
    have HM2 := hid hM
    clear hM HM
    with_reducible refine hcn.mono ?_
    rintro e W6 ⟨hb6, hk6, rfl, hW6⟩
    obtain ⟨sv6, lv6, hR6, -, hS6, hL6⟩ := hW6
    unfold runC at hR6
    simp only at hR6
    have hcR6 := block_cell hR6
    have hfR6 := block_free hR6
    have hR7 := heap_setCell_self hR6 5 (.int .i64 ((k : Int) + 1))
    have hS7 := own_set hS6 hR6 (by decide) 5 (.int .i64 ((k : Int) + 1))
    have hL7 := own_set hL6 hR6 (by decide) 5 (.int .i64 ((k : Int) + 1))
    go_wp2_with (fail)
    go_ret
    exact StepPost.ok HM2.out ((hB5.trans hb6).setCell (p := ⟨r, 5, none⟩) hBr _) ⟨_, _, hR7, hBr, hS7, hL7⟩
set_option maxHeartbeats 16000000 in
set_option maxRecDepth 20000 in
theorem step_call (w : World) (B r : Nat) (cl : List Ins) (code : Value) (s : ByteArray) (l0 l1 l2 : Int) (x : MSt) (a b n : Int) (tx : ByteArray) (s0 s1 s2 s3 : Int) (h : RunW w B r code s l0 l1 l2 x) (hC : CodeAt w B cl code) (ok : StepOk cl s l0 l1 l2 x) (hst : x.steps < l2)
    (hi : cl[x.pc.toNat]? = some ⟨15, a, b, n, tx, s0, s1, s2, s3⟩) :
    Calls Tryd.prog 43 #[.pointer (some ⟨r, 0, none⟩)] w fun en w' => StepPost B r code s l0 l1 l2 w (stepI s l0 l1 ⟨15, a, b, n, tx, s0, s1, s2, s3⟩ { x with steps := x.steps + 1 }) en w' := by
  have h0 := h
  obtain ⟨sv, lv, hR, hBr, hS, hL⟩ := h
  have hBw := Nat.le_of_lt (Nat.lt_of_le_of_lt hBr (block_lt hR))
  obtain ⟨okN, okS, okL, okA0, okA1, okZ, okP0, okP1, okC, okT0, okT1, okL0, okL1, okAs⟩ := ok
  obtain ⟨pc, p, st, kd, stk, lg⟩ := x
  simp only at okS okL okA0 okA1 okP0 okP1 okT0 okT1 hst hi hS hL
  obtain ⟨k, rfl⟩ := Int.eq_ofNat_of_zero_le okP0
  rw [Int.toNat_natCast] at hi
  have hk : k < cl.length := by omega
  have hk2 : (k : Int) < (cl.length : Int) := by omega
  have hia := okAs _ (List.mem_of_getElem? hi)
  simp only at hia
  have hC0 := hC
  obtain ⟨gc, oc, cc, rfl, hgB, hcells⟩ := hC
  have hgk : cl[k] = ⟨15, a, b, n, tx, s0, s1, s2, s3⟩ := by rw [List.getElem?_eq_getElem hk] at hi; exact Option.some.inj hi
  have cC : ∀ j, j < 9 → w.cell? ⟨gc, oc + k * 9 + j, none⟩ = (insC ⟨15, a, b, n, tx, s0, s1, s2, s3⟩)[j]? := fun j hj => by have := row_cell insC_len hcells hk hj; rw [hgk] at this; exact this
  have d0 := cC 0 (by decide)
  have d1 := cC 1 (by decide)
  have d2 := cC 2 (by decide)
  have d3 := cC 3 (by decide)
  have d4 := cC 4 (by decide)
  have d5 := cC 5 (by decide)
  have d6 := cC 6 (by decide)
  have d7 := cC 7 (by decide)
  have d8 := cC 8 (by decide)
  simp only [insC, List.getElem?_cons_zero, List.getElem?_cons_succ, Nat.add_zero] at d0 d1 d2 d3 d4 d5 d6 d7 d8
  unfold runC at hR
  simp only at hR
  have hcR := block_cell hR
  have hw1 : IntKind.i64.wrap (st + 1) = st + 1 := wrap_in (by omega)
  have hw2 : IntKind.i64.wrap ((k : Int) + 1) = (k : Int) + 1 := wrap_in (by omega)
  have hw3 : IntKind.i64.wrap ((k : Int) + a) = (k : Int) + a := wrap_in (by omega)
  have hrl := block_lt hR
  clear cC hcells hgk hi
  go_enter Tryd.func43, Tryd.ntmps43
  go_wp2_with (fail)
  go_quiet (fail)
  have hR1 : (w.drewN nq).heap[r]? = _ := hR
  have hS1 := own_below hS (below_drewN (Below.refl _ _) nq)
  have hL1 := own_below hL (below_drewN (Below.refl _ _) nq)
  have hC1 := hC0.below (below_drewN (Below.refl B w) nq)
  have hB1 := below_drewN (Below.refl B w) nq
  go_wp2_with (fail)
  have f0 : ∀ (o : Nat) (z : Obj), ((w.drewN (nq + 1)).alloc z).cell? ⟨r, o, none⟩ = w.cell? ⟨r, o, none⟩ := fun o z => cell_alloc (W := w.drewN (nq + 1)) (x := z) hrl o
  have f1 : ∀ (o : Nat) (z : Obj), ((w.drewN (nq + 1)).alloc z).cell? ⟨gc, o, none⟩ = w.cell? ⟨gc, o, none⟩ := fun o z => cell_alloc (W := w.drewN (nq + 1)) (x := z) (Nat.lt_of_lt_of_le hgB hBw) o
  have g0 := fun (o : Nat) (z : Obj) => (f0 o z).trans (hcR o)
  have e0 := fun (z : Obj) => (f1 _ z).trans d0
  have e1 := fun (z : Obj) => (f1 _ z).trans d1
  have e2 := fun (z : Obj) => (f1 _ z).trans d2
  have e3 := fun (z : Obj) => (f1 _ z).trans d3
  have e4 := fun (z : Obj) => (f1 _ z).trans d4
  have e5 := fun (z : Obj) => (f1 _ z).trans d5
  have e6 := fun (z : Obj) => (f1 _ z).trans d6
  have e7 := fun (z : Obj) => (f1 _ z).trans d7
  have e8 := fun (z : Obj) => (f1 _ z).trans d8
  have hZ : ((w.drewN (nq + 1)).alloc (.cells #[.int .i64 0, .int .i64 0, .int .i64 0, .int .i64 0, .string ⟨#[]⟩, .int .u64 0, .int .u64 0, .int .u64 0, .int .u64 0] 52)).heap[w.heap.size]? = _ := alloc_new (w.drewN (nq + 1)) (.cells #[.int .i64 0, .int .i64 0, .int .i64 0, .int .i64 0, .string ⟨#[]⟩, .int .u64 0, .int .u64 0, .int .u64 0, .int .u64 0] 52)
  have hcZ := block_cell hZ
  have hfZ := block_free hZ
  go_region
  have hb2 := below9 ((below_drewN (Below.refl w.heap.size w) (nq + 1)).alloc (Nat.le_refl _) (.cells #[.int .i64 0, .int .i64 0, .int .i64 0, .int .i64 0, .string ⟨#[]⟩, .int .u64 0, .int .u64 0, .int .u64 0, .int .u64 0] 52)) (Nat.le_refl _) (.int .i64 15) (.int .i64 a) (.int .i64 b) (.int .i64 n) (.string tx) (.int .u64 s0) (.int .u64 s1) (.int .u64 s2) (.int .u64 s3)
  have hI2 := set9 hZ (.int .i64 15) (.int .i64 a) (.int .i64 b) (.int .i64 n) (.string tx) (.int .u64 s0) (.int .u64 s1) (.int .u64 s2) (.int .u64 s3)
  clear f0 f1 g0 e0 e1 e2 e3 e4 e5 e6 e7 e8 hZ hcZ hfZ d0 d1 d2 d3 d4 d5 d6 d7 d8 hR1 hS1 hL1 hC1 hB1 hcR
  generalize ((((((((((w.drewN (nq + 1)).alloc (.cells #[.int .i64 0, .int .i64 0, .int .i64 0, .int .i64 0, .string ⟨#[]⟩, .int .u64 0, .int .u64 0, .int .u64 0, .int .u64 0] 52)).setCell ⟨w.heap.size, 0, none⟩ (.int .i64 15)).setCell ⟨w.heap.size, 1, none⟩ (.int .i64 a)).setCell ⟨w.heap.size, 2, none⟩ (.int .i64 b)).setCell ⟨w.heap.size, 3, none⟩ (.int .i64 n)).setCell ⟨w.heap.size, 4, none⟩ (.string tx)).setCell ⟨w.heap.size, 5, none⟩ (.int .u64 s0)).setCell ⟨w.heap.size, 6, none⟩ (.int .u64 s1)).setCell ⟨w.heap.size, 7, none⟩ (.int .u64 s2)).setCell ⟨w.heap.size, 8, none⟩ (.int .u64 s3) = W2 at *
  have hR2 := keep hb2 hR
  have hS2 := own_below hS hb2
  have hL2 := own_below hL hb2
  have hB2 := hb2.mono hBw
  have hxr : w.heap.size ≠ r := fun e => by have := block_lt hR; omega
  clear hR hS hL hb2
  have hR3 : (W2.setCell ⟨r, 7, none⟩ (.int .i64 (st + 1))).heap[r]? = some (.cells #[.slice (some ⟨gc, oc, none⟩) cl.length cc, .string s, .int .i64 l0, .int .i64 l1, .int .i64 l2, .int .i64 k, .int .i64 p, .int .i64 (st + 1), .int .i64 kd, sv, lv] 61) := heap_setCell_self hR2 7 (.int .i64 (st + 1))
  have hI3 := (heap_setCell_ne (w := W2) (b := r) 7 _ (.int .i64 (st + 1)) hxr).trans hI2
  have hS3 := own_set hS2 hR2 (by decide) 7 (.int .i64 (st + 1))
  have hL3 := own_set hL2 hR2 (by decide) 7 (.int .i64 (st + 1))
  have hB3 := hB2.setCell (p := ⟨r, 7, none⟩) hBr (.int .i64 (st + 1))
  have hfR2 := block_free hR2
  have hcR2 := block_cell hR2
  have hcI := block_cell hI3
  have hcR := block_cell hR3
  have hfR := block_free hR3
  generalize hW3 : W2.setCell ⟨r, 7, none⟩ (.int .i64 (st + 1)) = W3 at *
  go_wp2_with (fail)
  have hW0 : RunW W3 B r (.slice (some ⟨gc, oc, none⟩) cl.length cc) s l0 l1 l2 ⟨k, p, st + 1, kd, stk, lg⟩ := ⟨sv, lv, hR3, hBr, hS3, hL3⟩
  have hN0 : NotesOk ⟨k, p, st + 1, kd, stk, lg⟩ := fun e he => okN e he
  have hBw0 := hBw
  have hM : stepI s l0 l1 ⟨15, a, b, n, tx, s0, s1, s2, s3⟩ ⟨k, p, st + 1, kd, stk, lg⟩ = (if l0 ≤ stk.length then .error 210 else .ok ⟨(k : Int) + a, p, st + 1, kd, stk ++ [⟨true, (k : Int) + 1, 0, 0⟩], lg⟩) := by
    unfold stepI
    rw [if_neg (show ¬ ((15 : Int) = 8) by decide), if_neg (show ¬ ((15 : Int) = 9 ∨ (15 : Int) = 10 ∨ (15 : Int) = 11 ∨ (15 : Int) = 12) by decide), if_neg (show ¬ ((15 : Int) = 13) by decide), if_neg (show ¬ ((15 : Int) = 14) by decide)]
    exact if_pos rfl
  have HM := hid hM
  clear hM
  have hcn := push_any W3 B r _ s l0 l1 l2 ⟨k, p, st + 1, kd, stk, lg⟩ ⟨true, (k : Int) + 1, 0, 0⟩ hW0 okL0
  unfold entA at hcn
  simp only at hcn
  by_cases hfull : l0 ≤ stk.length
  · simp only [if_pos hfull] at hcn
    have hM := HM.out
    rw [if_pos hfull] at hM
    have HM2 := hid hM
    clear hM HM
    with_reducible refine hcn.mono ?_
    rintro e W6 ⟨hb6, hk6, rfl, hW6⟩
    obtain ⟨sv6, lv6, hR6, -, hS6, hL6⟩ := hW6
    have hI6 := hk6 _ _ hI3
    unfold runC at hR6
    simp only at hR6
    have hcI6 := block_cell hI6
    have hcR6 := block_cell hR6
    have hfR6 := block_free hR6
    clear hcI hcR hfR
    go_wp2_with (fail)
    go_region
    go_wp2_with (fail)
    go_ret
    exact StepPost.err HM2.out ((hB3.trans hb6).setCell (p := ⟨r, 5, none⟩) hBr _).drew
  · simp only [if_neg hfull] at hcn
    have hM := HM.out
    rw [if_neg hfull] at hM
    have HM2 := hid hM
    clear hM HM
    with_reducible refine hcn.mono ?_
    rintro e W6 ⟨hb6, hk6, rfl, hW6⟩
    obtain ⟨sv6, lv6, hR6, -, hS6, hL6⟩ := hW6
    have hI6 := hk6 _ _ hI3
    unfold runC at hR6
    simp only at hR6
    have hcI6 := block_cell hI6
    have hcR6 := block_cell hR6
    have hfR6 := block_free hR6
    clear hcI hcR hfR
    go_wp2_with (fail)
    go_region
    go_wp2_with (fail)
    go_ret
    have hR7 := heap_setCell_self hR6 5 (.int .i64 ((k : Int) + a))
    exact StepPost.ok HM2.out ((hB3.trans hb6).setCell (p := ⟨r, 5, none⟩) hBr _).drew ⟨_, _, hR7, hBr, own_below (own_set hS6 hR6 (by decide) 5 _) (Below.refl _ _).drew, own_below (own_set hL6 hR6 (by decide) 5 _) (Below.refl _ _).drew⟩
set_option maxHeartbeats 16000000 in
set_option maxRecDepth 20000 in
theorem step_open (w : World) (B r : Nat) (cl : List Ins) (code : Value) (s : ByteArray) (l0 l1 l2 : Int) (x : MSt) (a b n : Int) (tx : ByteArray) (s0 s1 s2 s3 : Int) (h : RunW w B r code s l0 l1 l2 x) (hC : CodeAt w B cl code) (ok : StepOk cl s l0 l1 l2 x) (hst : x.steps < l2)
    (hi : cl[x.pc.toNat]? = some ⟨18, a, b, n, tx, s0, s1, s2, s3⟩) :
    Calls Tryd.prog 43 #[.pointer (some ⟨r, 0, none⟩)] w fun en w' => StepPost B r code s l0 l1 l2 w (stepI s l0 l1 ⟨18, a, b, n, tx, s0, s1, s2, s3⟩ { x with steps := x.steps + 1 }) en w' := by
  have h0 := h
  obtain ⟨sv, lv, hR, hBr, hS, hL⟩ := h
  have hBw := Nat.le_of_lt (Nat.lt_of_le_of_lt hBr (block_lt hR))
  obtain ⟨okN, okS, okL, okA0, okA1, okZ, okP0, okP1, okC, okT0, okT1, okL0, okL1, okAs⟩ := ok
  obtain ⟨pc, p, st, kd, stk, lg⟩ := x
  simp only at okS okL okA0 okA1 okP0 okP1 okT0 okT1 hst hi hS hL
  obtain ⟨k, rfl⟩ := Int.eq_ofNat_of_zero_le okP0
  rw [Int.toNat_natCast] at hi
  have hk : k < cl.length := by omega
  have hk2 : (k : Int) < (cl.length : Int) := by omega
  have hia := okAs _ (List.mem_of_getElem? hi)
  simp only at hia
  have hC0 := hC
  obtain ⟨gc, oc, cc, rfl, hgB, hcells⟩ := hC
  have hgk : cl[k] = ⟨18, a, b, n, tx, s0, s1, s2, s3⟩ := by rw [List.getElem?_eq_getElem hk] at hi; exact Option.some.inj hi
  have cC : ∀ j, j < 9 → w.cell? ⟨gc, oc + k * 9 + j, none⟩ = (insC ⟨18, a, b, n, tx, s0, s1, s2, s3⟩)[j]? := fun j hj => by have := row_cell insC_len hcells hk hj; rw [hgk] at this; exact this
  have d0 := cC 0 (by decide)
  have d1 := cC 1 (by decide)
  have d2 := cC 2 (by decide)
  have d3 := cC 3 (by decide)
  have d4 := cC 4 (by decide)
  have d5 := cC 5 (by decide)
  have d6 := cC 6 (by decide)
  have d7 := cC 7 (by decide)
  have d8 := cC 8 (by decide)
  simp only [insC, List.getElem?_cons_zero, List.getElem?_cons_succ, Nat.add_zero] at d0 d1 d2 d3 d4 d5 d6 d7 d8
  unfold runC at hR
  simp only at hR
  have hcR := block_cell hR
  have hw1 : IntKind.i64.wrap (st + 1) = st + 1 := wrap_in (by omega)
  have hw2 : IntKind.i64.wrap ((k : Int) + 1) = (k : Int) + 1 := wrap_in (by omega)
  have hw3 : IntKind.i64.wrap ((k : Int) + a) = (k : Int) + a := wrap_in (by omega)
  have hrl := block_lt hR
  clear cC hcells hgk hi
  go_enter Tryd.func43, Tryd.ntmps43
  go_wp2_with (fail)
  go_quiet (fail)
  have hR1 : (w.drewN nq).heap[r]? = _ := hR
  have hS1 := own_below hS (below_drewN (Below.refl _ _) nq)
  have hL1 := own_below hL (below_drewN (Below.refl _ _) nq)
  have hC1 := hC0.below (below_drewN (Below.refl B w) nq)
  have hB1 := below_drewN (Below.refl B w) nq
  go_wp2_with (fail)
  have f0 : ∀ (o : Nat) (z : Obj), ((w.drewN (nq + 1)).alloc z).cell? ⟨r, o, none⟩ = w.cell? ⟨r, o, none⟩ := fun o z => cell_alloc (W := w.drewN (nq + 1)) (x := z) hrl o
  have f1 : ∀ (o : Nat) (z : Obj), ((w.drewN (nq + 1)).alloc z).cell? ⟨gc, o, none⟩ = w.cell? ⟨gc, o, none⟩ := fun o z => cell_alloc (W := w.drewN (nq + 1)) (x := z) (Nat.lt_of_lt_of_le hgB hBw) o
  have g0 := fun (o : Nat) (z : Obj) => (f0 o z).trans (hcR o)
  have e0 := fun (z : Obj) => (f1 _ z).trans d0
  have e1 := fun (z : Obj) => (f1 _ z).trans d1
  have e2 := fun (z : Obj) => (f1 _ z).trans d2
  have e3 := fun (z : Obj) => (f1 _ z).trans d3
  have e4 := fun (z : Obj) => (f1 _ z).trans d4
  have e5 := fun (z : Obj) => (f1 _ z).trans d5
  have e6 := fun (z : Obj) => (f1 _ z).trans d6
  have e7 := fun (z : Obj) => (f1 _ z).trans d7
  have e8 := fun (z : Obj) => (f1 _ z).trans d8
  have hZ : ((w.drewN (nq + 1)).alloc (.cells #[.int .i64 0, .int .i64 0, .int .i64 0, .int .i64 0, .string ⟨#[]⟩, .int .u64 0, .int .u64 0, .int .u64 0, .int .u64 0] 52)).heap[w.heap.size]? = _ := alloc_new (w.drewN (nq + 1)) (.cells #[.int .i64 0, .int .i64 0, .int .i64 0, .int .i64 0, .string ⟨#[]⟩, .int .u64 0, .int .u64 0, .int .u64 0, .int .u64 0] 52)
  have hcZ := block_cell hZ
  have hfZ := block_free hZ
  go_region
  have hb2 := below9 ((below_drewN (Below.refl w.heap.size w) (nq + 1)).alloc (Nat.le_refl _) (.cells #[.int .i64 0, .int .i64 0, .int .i64 0, .int .i64 0, .string ⟨#[]⟩, .int .u64 0, .int .u64 0, .int .u64 0, .int .u64 0] 52)) (Nat.le_refl _) (.int .i64 18) (.int .i64 a) (.int .i64 b) (.int .i64 n) (.string tx) (.int .u64 s0) (.int .u64 s1) (.int .u64 s2) (.int .u64 s3)
  have hI2 := set9 hZ (.int .i64 18) (.int .i64 a) (.int .i64 b) (.int .i64 n) (.string tx) (.int .u64 s0) (.int .u64 s1) (.int .u64 s2) (.int .u64 s3)
  clear f0 f1 g0 e0 e1 e2 e3 e4 e5 e6 e7 e8 hZ hcZ hfZ d0 d1 d2 d3 d4 d5 d6 d7 d8 hR1 hS1 hL1 hC1 hB1 hcR
  generalize ((((((((((w.drewN (nq + 1)).alloc (.cells #[.int .i64 0, .int .i64 0, .int .i64 0, .int .i64 0, .string ⟨#[]⟩, .int .u64 0, .int .u64 0, .int .u64 0, .int .u64 0] 52)).setCell ⟨w.heap.size, 0, none⟩ (.int .i64 18)).setCell ⟨w.heap.size, 1, none⟩ (.int .i64 a)).setCell ⟨w.heap.size, 2, none⟩ (.int .i64 b)).setCell ⟨w.heap.size, 3, none⟩ (.int .i64 n)).setCell ⟨w.heap.size, 4, none⟩ (.string tx)).setCell ⟨w.heap.size, 5, none⟩ (.int .u64 s0)).setCell ⟨w.heap.size, 6, none⟩ (.int .u64 s1)).setCell ⟨w.heap.size, 7, none⟩ (.int .u64 s2)).setCell ⟨w.heap.size, 8, none⟩ (.int .u64 s3) = W2 at *
  have hR2 := keep hb2 hR
  have hS2 := own_below hS hb2
  have hL2 := own_below hL hb2
  have hB2 := hb2.mono hBw
  have hxr : w.heap.size ≠ r := fun e => by have := block_lt hR; omega
  clear hR hS hL hb2
  have hR3 : (W2.setCell ⟨r, 7, none⟩ (.int .i64 (st + 1))).heap[r]? = some (.cells #[.slice (some ⟨gc, oc, none⟩) cl.length cc, .string s, .int .i64 l0, .int .i64 l1, .int .i64 l2, .int .i64 k, .int .i64 p, .int .i64 (st + 1), .int .i64 kd, sv, lv] 61) := heap_setCell_self hR2 7 (.int .i64 (st + 1))
  have hI3 := (heap_setCell_ne (w := W2) (b := r) 7 _ (.int .i64 (st + 1)) hxr).trans hI2
  have hS3 := own_set hS2 hR2 (by decide) 7 (.int .i64 (st + 1))
  have hL3 := own_set hL2 hR2 (by decide) 7 (.int .i64 (st + 1))
  have hB3 := hB2.setCell (p := ⟨r, 7, none⟩) hBr (.int .i64 (st + 1))
  have hfR2 := block_free hR2
  have hcR2 := block_cell hR2
  have hcI := block_cell hI3
  have hcR := block_cell hR3
  have hfR := block_free hR3
  generalize hW3 : W2.setCell ⟨r, 7, none⟩ (.int .i64 (st + 1)) = W3 at *
  go_wp2_with (fail)
  have hW0 : RunW W3 B r (.slice (some ⟨gc, oc, none⟩) cl.length cc) s l0 l1 l2 ⟨k, p, st + 1, kd, stk, lg⟩ := ⟨sv, lv, hR3, hBr, hS3, hL3⟩
  have hN0 : NotesOk ⟨k, p, st + 1, kd, stk, lg⟩ := fun e he => okN e he
  have hBw0 := hBw
  have hM : stepI s l0 l1 ⟨18, a, b, n, tx, s0, s1, s2, s3⟩ ⟨k, p, st + 1, kd, stk, lg⟩ = noteM l1 ⟨18, b, p, 0, n, tx⟩ ⟨k, p, st + 1, kd, stk, lg⟩ := by
    unfold stepI
    rw [if_neg (show ¬ ((18 : Int) = 8) by decide), if_neg (show ¬ ((18 : Int) = 9 ∨ (18 : Int) = 10 ∨ (18 : Int) = 11 ∨ (18 : Int) = 12) by decide), if_neg (show ¬ ((18 : Int) = 13) by decide), if_neg (show ¬ ((18 : Int) = 14) by decide), if_neg (show ¬ ((18 : Int) = 15) by decide), if_neg (show ¬ ((18 : Int) = 16) by decide), if_neg (show ¬ ((18 : Int) = 17) by decide)]
    exact if_pos rfl
  have HM := hid hM
  clear hM
  obtain ⟨A2, c2, rfl⟩ := (RowIs.of_owns hL3).form
  obtain ⟨A1, c1, rfl⟩ := (RowIs.of_owns hS3).form
  have hlR := grow_cell hR3 (B := W3.heap.size) (block_lt hR3)
  have hlI := grow_cell hI3 (B := W3.heap.size) (block_lt hI3)
  refine wp_region_grow_tail W3.heap.size 14 (by kernel_rfl) (by kernel_rfl) ?_
  simp only [List.take_succ_cons, List.take_zero, List.drop_succ_cons, List.drop_zero]
  repeat (go_big_quiet_step (fail))
  refine wpQuiet_nil ?_
  rintro _ ⟨g, rfl⟩
  have hW5 := hW0.below g.below
  have hR5 := grow_heap hR3 (block_lt hR3) g
  have hI5 := grow_heap hI3 (block_lt hI3) g
  have hB5 := hB3.trans (g.below.mono (Nat.le_trans hBw0 hB3.size))
  clear hlR hlI hcR hcI hfR
  generalize g.val = W5 at *
  go_wp2_with (fail)
  have hcn := note_any W5 B r _ s l0 l1 l2 ⟨k, p, st + 1, kd, stk, lg⟩ ⟨18, b, p, 0, n, tx⟩ hW5 okL1 (by simp only; omega)
  unfold notA at hcn
  simp only at hcn
  by_cases hfull : l1 ≤ lg.length
  · simp only [if_pos hfull] at hcn
    have hM := HM.out
    rw [noteM, if_pos hfull] at hM
    have HM2 := hid hM
    clear hM HM
    with_reducible refine hcn.mono ?_
    rintro e W6 ⟨hb6, rfl⟩
    go_wp2_with (fail)
    go_ret
    exact StepPost.err HM2.out (hB5.trans hb6)
  · simp only [if_neg hfull] at hcn
    have hM := HM.out
    rw [noteM, if_neg hfull] at hM
    have HM2 := hid hM
    clear hM HM
    with_reducible refine hcn.mono ?_
    rintro e W6 ⟨hb6, rfl, hW6⟩
    go_wp2_with (fail)
    go_ret
    exact StepPost.ok HM2.out (hB5.trans hb6) hW6
set_option maxHeartbeats 16000000 in
set_option maxRecDepth 20000 in
theorem step_close (w : World) (B r : Nat) (cl : List Ins) (code : Value) (s : ByteArray) (l0 l1 l2 : Int) (x : MSt) (a b n : Int) (tx : ByteArray) (s0 s1 s2 s3 : Int) (h : RunW w B r code s l0 l1 l2 x) (hC : CodeAt w B cl code) (ok : StepOk cl s l0 l1 l2 x) (hst : x.steps < l2)
    (hi : cl[x.pc.toNat]? = some ⟨19, a, b, n, tx, s0, s1, s2, s3⟩) :
    Calls Tryd.prog 43 #[.pointer (some ⟨r, 0, none⟩)] w fun en w' => StepPost B r code s l0 l1 l2 w (stepI s l0 l1 ⟨19, a, b, n, tx, s0, s1, s2, s3⟩ { x with steps := x.steps + 1 }) en w' := by
  have h0 := h
  obtain ⟨sv, lv, hR, hBr, hS, hL⟩ := h
  have hBw := Nat.le_of_lt (Nat.lt_of_le_of_lt hBr (block_lt hR))
  obtain ⟨okN, okS, okL, okA0, okA1, okZ, okP0, okP1, okC, okT0, okT1, okL0, okL1, okAs⟩ := ok
  obtain ⟨pc, p, st, kd, stk, lg⟩ := x
  simp only at okS okL okA0 okA1 okP0 okP1 okT0 okT1 hst hi hS hL
  obtain ⟨k, rfl⟩ := Int.eq_ofNat_of_zero_le okP0
  rw [Int.toNat_natCast] at hi
  have hk : k < cl.length := by omega
  have hk2 : (k : Int) < (cl.length : Int) := by omega
  have hia := okAs _ (List.mem_of_getElem? hi)
  simp only at hia
  have hC0 := hC
  obtain ⟨gc, oc, cc, rfl, hgB, hcells⟩ := hC
  have hgk : cl[k] = ⟨19, a, b, n, tx, s0, s1, s2, s3⟩ := by rw [List.getElem?_eq_getElem hk] at hi; exact Option.some.inj hi
  have cC : ∀ j, j < 9 → w.cell? ⟨gc, oc + k * 9 + j, none⟩ = (insC ⟨19, a, b, n, tx, s0, s1, s2, s3⟩)[j]? := fun j hj => by have := row_cell insC_len hcells hk hj; rw [hgk] at this; exact this
  have d0 := cC 0 (by decide)
  have d1 := cC 1 (by decide)
  have d2 := cC 2 (by decide)
  have d3 := cC 3 (by decide)
  have d4 := cC 4 (by decide)
  have d5 := cC 5 (by decide)
  have d6 := cC 6 (by decide)
  have d7 := cC 7 (by decide)
  have d8 := cC 8 (by decide)
  simp only [insC, List.getElem?_cons_zero, List.getElem?_cons_succ, Nat.add_zero] at d0 d1 d2 d3 d4 d5 d6 d7 d8
  unfold runC at hR
  simp only at hR
  have hcR := block_cell hR
  have hw1 : IntKind.i64.wrap (st + 1) = st + 1 := wrap_in (by omega)
  have hw2 : IntKind.i64.wrap ((k : Int) + 1) = (k : Int) + 1 := wrap_in (by omega)
  have hw3 : IntKind.i64.wrap ((k : Int) + a) = (k : Int) + a := wrap_in (by omega)
  have hrl := block_lt hR
  clear cC hcells hgk hi
  go_enter Tryd.func43, Tryd.ntmps43
  go_wp2_with (fail)
  go_quiet (fail)
  have hR1 : (w.drewN nq).heap[r]? = _ := hR
  have hS1 := own_below hS (below_drewN (Below.refl _ _) nq)
  have hL1 := own_below hL (below_drewN (Below.refl _ _) nq)
  have hC1 := hC0.below (below_drewN (Below.refl B w) nq)
  have hB1 := below_drewN (Below.refl B w) nq
  go_wp2_with (fail)
  have f0 : ∀ (o : Nat) (z : Obj), ((w.drewN (nq + 1)).alloc z).cell? ⟨r, o, none⟩ = w.cell? ⟨r, o, none⟩ := fun o z => cell_alloc (W := w.drewN (nq + 1)) (x := z) hrl o
  have f1 : ∀ (o : Nat) (z : Obj), ((w.drewN (nq + 1)).alloc z).cell? ⟨gc, o, none⟩ = w.cell? ⟨gc, o, none⟩ := fun o z => cell_alloc (W := w.drewN (nq + 1)) (x := z) (Nat.lt_of_lt_of_le hgB hBw) o
  have g0 := fun (o : Nat) (z : Obj) => (f0 o z).trans (hcR o)
  have e0 := fun (z : Obj) => (f1 _ z).trans d0
  have e1 := fun (z : Obj) => (f1 _ z).trans d1
  have e2 := fun (z : Obj) => (f1 _ z).trans d2
  have e3 := fun (z : Obj) => (f1 _ z).trans d3
  have e4 := fun (z : Obj) => (f1 _ z).trans d4
  have e5 := fun (z : Obj) => (f1 _ z).trans d5
  have e6 := fun (z : Obj) => (f1 _ z).trans d6
  have e7 := fun (z : Obj) => (f1 _ z).trans d7
  have e8 := fun (z : Obj) => (f1 _ z).trans d8
  have hZ : ((w.drewN (nq + 1)).alloc (.cells #[.int .i64 0, .int .i64 0, .int .i64 0, .int .i64 0, .string ⟨#[]⟩, .int .u64 0, .int .u64 0, .int .u64 0, .int .u64 0] 52)).heap[w.heap.size]? = _ := alloc_new (w.drewN (nq + 1)) (.cells #[.int .i64 0, .int .i64 0, .int .i64 0, .int .i64 0, .string ⟨#[]⟩, .int .u64 0, .int .u64 0, .int .u64 0, .int .u64 0] 52)
  have hcZ := block_cell hZ
  have hfZ := block_free hZ
  go_region
  have hb2 := below9 ((below_drewN (Below.refl w.heap.size w) (nq + 1)).alloc (Nat.le_refl _) (.cells #[.int .i64 0, .int .i64 0, .int .i64 0, .int .i64 0, .string ⟨#[]⟩, .int .u64 0, .int .u64 0, .int .u64 0, .int .u64 0] 52)) (Nat.le_refl _) (.int .i64 19) (.int .i64 a) (.int .i64 b) (.int .i64 n) (.string tx) (.int .u64 s0) (.int .u64 s1) (.int .u64 s2) (.int .u64 s3)
  have hI2 := set9 hZ (.int .i64 19) (.int .i64 a) (.int .i64 b) (.int .i64 n) (.string tx) (.int .u64 s0) (.int .u64 s1) (.int .u64 s2) (.int .u64 s3)
  clear f0 f1 g0 e0 e1 e2 e3 e4 e5 e6 e7 e8 hZ hcZ hfZ d0 d1 d2 d3 d4 d5 d6 d7 d8 hR1 hS1 hL1 hC1 hB1 hcR
  generalize ((((((((((w.drewN (nq + 1)).alloc (.cells #[.int .i64 0, .int .i64 0, .int .i64 0, .int .i64 0, .string ⟨#[]⟩, .int .u64 0, .int .u64 0, .int .u64 0, .int .u64 0] 52)).setCell ⟨w.heap.size, 0, none⟩ (.int .i64 19)).setCell ⟨w.heap.size, 1, none⟩ (.int .i64 a)).setCell ⟨w.heap.size, 2, none⟩ (.int .i64 b)).setCell ⟨w.heap.size, 3, none⟩ (.int .i64 n)).setCell ⟨w.heap.size, 4, none⟩ (.string tx)).setCell ⟨w.heap.size, 5, none⟩ (.int .u64 s0)).setCell ⟨w.heap.size, 6, none⟩ (.int .u64 s1)).setCell ⟨w.heap.size, 7, none⟩ (.int .u64 s2)).setCell ⟨w.heap.size, 8, none⟩ (.int .u64 s3) = W2 at *
  have hR2 := keep hb2 hR
  have hS2 := own_below hS hb2
  have hL2 := own_below hL hb2
  have hB2 := hb2.mono hBw
  have hxr : w.heap.size ≠ r := fun e => by have := block_lt hR; omega
  clear hR hS hL hb2
  have hR3 : (W2.setCell ⟨r, 7, none⟩ (.int .i64 (st + 1))).heap[r]? = some (.cells #[.slice (some ⟨gc, oc, none⟩) cl.length cc, .string s, .int .i64 l0, .int .i64 l1, .int .i64 l2, .int .i64 k, .int .i64 p, .int .i64 (st + 1), .int .i64 kd, sv, lv] 61) := heap_setCell_self hR2 7 (.int .i64 (st + 1))
  have hI3 := (heap_setCell_ne (w := W2) (b := r) 7 _ (.int .i64 (st + 1)) hxr).trans hI2
  have hS3 := own_set hS2 hR2 (by decide) 7 (.int .i64 (st + 1))
  have hL3 := own_set hL2 hR2 (by decide) 7 (.int .i64 (st + 1))
  have hB3 := hB2.setCell (p := ⟨r, 7, none⟩) hBr (.int .i64 (st + 1))
  have hfR2 := block_free hR2
  have hcR2 := block_cell hR2
  have hcI := block_cell hI3
  have hcR := block_cell hR3
  have hfR := block_free hR3
  generalize hW3 : W2.setCell ⟨r, 7, none⟩ (.int .i64 (st + 1)) = W3 at *
  go_wp2_with (fail)
  have hW0 : RunW W3 B r (.slice (some ⟨gc, oc, none⟩) cl.length cc) s l0 l1 l2 ⟨k, p, st + 1, kd, stk, lg⟩ := ⟨sv, lv, hR3, hBr, hS3, hL3⟩
  have hN0 : NotesOk ⟨k, p, st + 1, kd, stk, lg⟩ := fun e he => okN e he
  have hBw0 := hBw
  have hM : stepI s l0 l1 ⟨19, a, b, n, tx, s0, s1, s2, s3⟩ ⟨k, p, st + 1, kd, stk, lg⟩ = noteM l1 ⟨19, 0, p, 0, 0, ⟨#[]⟩⟩ ⟨k, p, st + 1, kd, stk, lg⟩ := by
    unfold stepI
    rw [if_neg (show ¬ ((19 : Int) = 8) by decide), if_neg (show ¬ ((19 : Int) = 9 ∨ (19 : Int) = 10 ∨ (19 : Int) = 11 ∨ (19 : Int) = 12) by decide), if_neg (show ¬ ((19 : Int) = 13) by decide), if_neg (show ¬ ((19 : Int) = 14) by decide), if_neg (show ¬ ((19 : Int) = 15) by decide), if_neg (show ¬ ((19 : Int) = 16) by decide), if_neg (show ¬ ((19 : Int) = 17) by decide), if_neg (show ¬ ((19 : Int) = 18) by decide)]
    exact if_pos rfl
  have HM := hid hM
  clear hM
  obtain ⟨A2, c2, rfl⟩ := (RowIs.of_owns hL3).form
  obtain ⟨A1, c1, rfl⟩ := (RowIs.of_owns hS3).form
  have hlR := grow_cell hR3 (B := W3.heap.size) (block_lt hR3)
  have hlI := grow_cell hI3 (B := W3.heap.size) (block_lt hI3)
  refine wp_region_grow_tail W3.heap.size 8 (by kernel_rfl) (by kernel_rfl) ?_
  simp only [List.take_succ_cons, List.take_zero, List.drop_succ_cons, List.drop_zero]
  repeat (go_big_quiet_step (fail))
  refine wpQuiet_nil ?_
  rintro _ ⟨g, rfl⟩
  have hW5 := hW0.below g.below
  have hR5 := grow_heap hR3 (block_lt hR3) g
  have hI5 := grow_heap hI3 (block_lt hI3) g
  have hB5 := hB3.trans (g.below.mono (Nat.le_trans hBw0 hB3.size))
  clear hlR hlI hcR hcI hfR
  generalize g.val = W5 at *
  go_wp2_with (fail)
  have hcn := note_any W5 B r _ s l0 l1 l2 ⟨k, p, st + 1, kd, stk, lg⟩ ⟨19, 0, p, 0, 0, ⟨#[]⟩⟩ hW5 okL1 (by simp only; omega)
  unfold notA at hcn
  simp only at hcn
  by_cases hfull : l1 ≤ lg.length
  · simp only [if_pos hfull] at hcn
    have hM := HM.out
    rw [noteM, if_pos hfull] at hM
    have HM2 := hid hM
    clear hM HM
    with_reducible refine hcn.mono ?_
    rintro e W6 ⟨hb6, rfl⟩
    go_wp2_with (fail)
    go_ret
    exact StepPost.err HM2.out (hB5.trans hb6)
  · simp only [if_neg hfull] at hcn
    have hM := HM.out
    rw [noteM, if_neg hfull] at hM
    have HM2 := hid hM
    clear hM HM
    with_reducible refine hcn.mono ?_
    rintro e W6 ⟨hb6, rfl, hW6⟩
    go_wp2_with (fail)
    go_ret
    exact StepPost.ok HM2.out (hB5.trans hb6) hW6
set_option maxHeartbeats 16000000 in
set_option maxRecDepth 20000 in
theorem step_ret (w : World) (B r : Nat) (cl : List Ins) (code : Value) (s : ByteArray) (l0 l1 l2 : Int) (x : MSt) (a b n : Int) (tx : ByteArray) (s0 s1 s2 s3 : Int) (h : RunW w B r code s l0 l1 l2 x) (hC : CodeAt w B cl code) (ok : StepOk cl s l0 l1 l2 x) (hst : x.steps < l2)
    (hi : cl[x.pc.toNat]? = some ⟨16, a, b, n, tx, s0, s1, s2, s3⟩) :
    Calls Tryd.prog 43 #[.pointer (some ⟨r, 0, none⟩)] w fun en w' => StepPost B r code s l0 l1 l2 w (stepI s l0 l1 ⟨16, a, b, n, tx, s0, s1, s2, s3⟩ { x with steps := x.steps + 1 }) en w' := by
  have h0 := h
  obtain ⟨sv, lv, hR, hBr, hS, hL⟩ := h
  have hBw := Nat.le_of_lt (Nat.lt_of_le_of_lt hBr (block_lt hR))
  obtain ⟨okN, okS, okL, okA0, okA1, okZ, okP0, okP1, okC, okT0, okT1, okL0, okL1, okAs⟩ := ok
  obtain ⟨pc, p, st, kd, stk, lg⟩ := x
  simp only at okS okL okA0 okA1 okP0 okP1 okT0 okT1 hst hi hS hL
  obtain ⟨k, rfl⟩ := Int.eq_ofNat_of_zero_le okP0
  rw [Int.toNat_natCast] at hi
  have hk : k < cl.length := by omega
  have hk2 : (k : Int) < (cl.length : Int) := by omega
  have hia := okAs _ (List.mem_of_getElem? hi)
  simp only at hia
  have hC0 := hC
  obtain ⟨gc, oc, cc, rfl, hgB, hcells⟩ := hC
  have hgk : cl[k] = ⟨16, a, b, n, tx, s0, s1, s2, s3⟩ := by rw [List.getElem?_eq_getElem hk] at hi; exact Option.some.inj hi
  have cC : ∀ j, j < 9 → w.cell? ⟨gc, oc + k * 9 + j, none⟩ = (insC ⟨16, a, b, n, tx, s0, s1, s2, s3⟩)[j]? := fun j hj => by have := row_cell insC_len hcells hk hj; rw [hgk] at this; exact this
  have d0 := cC 0 (by decide)
  have d1 := cC 1 (by decide)
  have d2 := cC 2 (by decide)
  have d3 := cC 3 (by decide)
  have d4 := cC 4 (by decide)
  have d5 := cC 5 (by decide)
  have d6 := cC 6 (by decide)
  have d7 := cC 7 (by decide)
  have d8 := cC 8 (by decide)
  simp only [insC, List.getElem?_cons_zero, List.getElem?_cons_succ, Nat.add_zero] at d0 d1 d2 d3 d4 d5 d6 d7 d8
  unfold runC at hR
  simp only at hR
  have hcR := block_cell hR
  have hw1 : IntKind.i64.wrap (st + 1) = st + 1 := wrap_in (by omega)
  have hw2 : IntKind.i64.wrap ((k : Int) + 1) = (k : Int) + 1 := wrap_in (by omega)
  have hw3 : IntKind.i64.wrap ((k : Int) + a) = (k : Int) + a := wrap_in (by omega)
  have hrl := block_lt hR
  clear cC hcells hgk hi
  go_enter Tryd.func43, Tryd.ntmps43
  go_wp2_with (fail)
  go_quiet (fail)
  have hR1 : (w.drewN nq).heap[r]? = _ := hR
  have hS1 := own_below hS (below_drewN (Below.refl _ _) nq)
  have hL1 := own_below hL (below_drewN (Below.refl _ _) nq)
  have hC1 := hC0.below (below_drewN (Below.refl B w) nq)
  have hB1 := below_drewN (Below.refl B w) nq
  go_wp2_with (fail)
  have f0 : ∀ (o : Nat) (z : Obj), ((w.drewN (nq + 1)).alloc z).cell? ⟨r, o, none⟩ = w.cell? ⟨r, o, none⟩ := fun o z => cell_alloc (W := w.drewN (nq + 1)) (x := z) hrl o
  have f1 : ∀ (o : Nat) (z : Obj), ((w.drewN (nq + 1)).alloc z).cell? ⟨gc, o, none⟩ = w.cell? ⟨gc, o, none⟩ := fun o z => cell_alloc (W := w.drewN (nq + 1)) (x := z) (Nat.lt_of_lt_of_le hgB hBw) o
  have g0 := fun (o : Nat) (z : Obj) => (f0 o z).trans (hcR o)
  have e0 := fun (z : Obj) => (f1 _ z).trans d0
  have e1 := fun (z : Obj) => (f1 _ z).trans d1
  have e2 := fun (z : Obj) => (f1 _ z).trans d2
  have e3 := fun (z : Obj) => (f1 _ z).trans d3
  have e4 := fun (z : Obj) => (f1 _ z).trans d4
  have e5 := fun (z : Obj) => (f1 _ z).trans d5
  have e6 := fun (z : Obj) => (f1 _ z).trans d6
  have e7 := fun (z : Obj) => (f1 _ z).trans d7
  have e8 := fun (z : Obj) => (f1 _ z).trans d8
  have hZ : ((w.drewN (nq + 1)).alloc (.cells #[.int .i64 0, .int .i64 0, .int .i64 0, .int .i64 0, .string ⟨#[]⟩, .int .u64 0, .int .u64 0, .int .u64 0, .int .u64 0] 52)).heap[w.heap.size]? = _ := alloc_new (w.drewN (nq + 1)) (.cells #[.int .i64 0, .int .i64 0, .int .i64 0, .int .i64 0, .string ⟨#[]⟩, .int .u64 0, .int .u64 0, .int .u64 0, .int .u64 0] 52)
  have hcZ := block_cell hZ
  have hfZ := block_free hZ
  go_region
  have hb2 := below9 ((below_drewN (Below.refl w.heap.size w) (nq + 1)).alloc (Nat.le_refl _) (.cells #[.int .i64 0, .int .i64 0, .int .i64 0, .int .i64 0, .string ⟨#[]⟩, .int .u64 0, .int .u64 0, .int .u64 0, .int .u64 0] 52)) (Nat.le_refl _) (.int .i64 16) (.int .i64 a) (.int .i64 b) (.int .i64 n) (.string tx) (.int .u64 s0) (.int .u64 s1) (.int .u64 s2) (.int .u64 s3)
  have hI2 := set9 hZ (.int .i64 16) (.int .i64 a) (.int .i64 b) (.int .i64 n) (.string tx) (.int .u64 s0) (.int .u64 s1) (.int .u64 s2) (.int .u64 s3)
  clear f0 f1 g0 e0 e1 e2 e3 e4 e5 e6 e7 e8 hZ hcZ hfZ d0 d1 d2 d3 d4 d5 d6 d7 d8 hR1 hS1 hL1 hC1 hB1 hcR
  generalize ((((((((((w.drewN (nq + 1)).alloc (.cells #[.int .i64 0, .int .i64 0, .int .i64 0, .int .i64 0, .string ⟨#[]⟩, .int .u64 0, .int .u64 0, .int .u64 0, .int .u64 0] 52)).setCell ⟨w.heap.size, 0, none⟩ (.int .i64 16)).setCell ⟨w.heap.size, 1, none⟩ (.int .i64 a)).setCell ⟨w.heap.size, 2, none⟩ (.int .i64 b)).setCell ⟨w.heap.size, 3, none⟩ (.int .i64 n)).setCell ⟨w.heap.size, 4, none⟩ (.string tx)).setCell ⟨w.heap.size, 5, none⟩ (.int .u64 s0)).setCell ⟨w.heap.size, 6, none⟩ (.int .u64 s1)).setCell ⟨w.heap.size, 7, none⟩ (.int .u64 s2)).setCell ⟨w.heap.size, 8, none⟩ (.int .u64 s3) = W2 at *
  have hR2 := keep hb2 hR
  have hS2 := own_below hS hb2
  have hL2 := own_below hL hb2
  have hB2 := hb2.mono hBw
  have hxr : w.heap.size ≠ r := fun e => by have := block_lt hR; omega
  clear hR hS hL hb2
  have hR3 : (W2.setCell ⟨r, 7, none⟩ (.int .i64 (st + 1))).heap[r]? = some (.cells #[.slice (some ⟨gc, oc, none⟩) cl.length cc, .string s, .int .i64 l0, .int .i64 l1, .int .i64 l2, .int .i64 k, .int .i64 p, .int .i64 (st + 1), .int .i64 kd, sv, lv] 61) := heap_setCell_self hR2 7 (.int .i64 (st + 1))
  have hI3 := (heap_setCell_ne (w := W2) (b := r) 7 _ (.int .i64 (st + 1)) hxr).trans hI2
  have hS3 := own_set hS2 hR2 (by decide) 7 (.int .i64 (st + 1))
  have hL3 := own_set hL2 hR2 (by decide) 7 (.int .i64 (st + 1))
  have hB3 := hB2.setCell (p := ⟨r, 7, none⟩) hBr (.int .i64 (st + 1))
  have hfR2 := block_free hR2
  have hcR2 := block_cell hR2
  have hcI := block_cell hI3
  have hcR := block_cell hR3
  have hfR := block_free hR3
  generalize hW3 : W2.setCell ⟨r, 7, none⟩ (.int .i64 (st + 1)) = W3 at *
  go_wp2_with (fail)
  have hW0 : RunW W3 B r (.slice (some ⟨gc, oc, none⟩) cl.length cc) s l0 l1 l2 ⟨k, p, st + 1, kd, stk, lg⟩ := ⟨sv, lv, hR3, hBr, hS3, hL3⟩
  have hN0 : NotesOk ⟨k, p, st + 1, kd, stk, lg⟩ := fun e he => okN e he
  have hBw0 := hBw
  have hM : stepI s l0 l1 ⟨16, a, b, n, tx, s0, s1, s2, s3⟩ ⟨k, p, st + 1, kd, stk, lg⟩ = (match stk[stk.length - 1]? with | none => .error 213 | some e => if e.ret = true then .ok ⟨e.pc, p, st + 1, kd, stk.take (stk.length - 1), lg⟩ else .error 213) := by
    unfold stepI
    rw [if_neg (show ¬ ((16 : Int) = 8) by decide), if_neg (show ¬ ((16 : Int) = 9 ∨ (16 : Int) = 10 ∨ (16 : Int) = 11 ∨ (16 : Int) = 12) by decide), if_neg (show ¬ ((16 : Int) = 13) by decide), if_neg (show ¬ ((16 : Int) = 14) by decide), if_neg (show ¬ ((16 : Int) = 15) by decide)]
    exact if_pos rfl
  have HM := hid hM
  clear hM
  by_cases hz : stk.length = 0
  · obtain rfl := List.eq_nil_of_length_eq_zero hz
    have hcn := top_none W3 B r _ s l0 l1 l2 k p (st + 1) kd lg sv lv true hR3 hS3
    with_reducible refine hcn.mono ?_
    rintro e W6 ⟨rfl, rfl⟩
    go_wp2_with (fail)
    go_ret
    exact StepPost.err HM.out hB3
  · have hlt : stk.length - 1 < stk.length := by omega
    obtain ⟨g, c, rfl⟩ := owns_form hS3 (by omega)
    have hcn := top_some W3 B r _ s l0 l1 l2 k p (st + 1) kd stk lg g c lv true (by omega) (by omega) hR3 hS3
    obtain ⟨q0, q1, q2, q3⟩ := ent_cells hS3 hlt
    have hM := HM.out
    rw [List.getElem?_eq_getElem hlt] at hM
    simp only at hM
    generalize stk[stk.length - 1] = e at *
    obtain ⟨er, ep, ea, en⟩ := e
    simp only at q0 q1 q2 q3 hM hcn
    cases er with
    | false =>
      rw [if_neg (by decide)] at hM
      have HM2 := hid hM
      clear hM HM
      simp only [Bool.false_eq_true, if_false] at hcn
      with_reducible refine hcn.mono ?_
      rintro e W6 ⟨rfl, rfl⟩
      go_wp2_with (fail)
      go_ret
      exact StepPost.err HM2.out hB3
    | true =>
      rw [if_pos rfl] at hM
      have HM2 := hid hM
      clear hM HM
      simp only [if_true] at hcn
      with_reducible refine hcn.mono ?_
      rintro e W6 ⟨rfl, hW6⟩
      subst hW6
      have hR4 := heap_setCell_self hR3 5 (.int .i64 ep)
      have hS4 := own_set hS3 hR3 (by decide) 5 (.int .i64 ep)
      have hL4 := own_set hL3 hR3 (by decide) 5 (.int .i64 ep)
      have hB4 := hB3.setCell (p := ⟨r, 5, none⟩) hBr (.int .i64 ep)
      have hw4 : IntKind.i64.wrap ((stk.length : Int) - 1) = ((stk.length - 1 : Nat) : Int) := by rw [wrap_in (by omega)]; omega
      have hk3 : ((stk.length - 1 : Nat) : Int) ≤ (c : Int) := by have := owns_cap hS3; omega
      go_wp2_with (fail)
      generalize W6.setCell ⟨r, 5, none⟩ (.int .i64 ep) = W4 at *
      have hcR4 := block_cell hR4
      have hfR4 := block_free hR4
      go_region
      have hR5 := heap_setCell_self hR4 9 (.slice (some ⟨g, 0, none⟩) (stk.length - 1) c)
      have hS5 := owns_cut entC_len (own_set hS4 hR4 (by decide) 9 (.slice (some ⟨g, 0, none⟩) (stk.length - 1) c)) (m := stk.length - 1) (by omega)
      have hL5 := own_set hL4 hR4 (by decide) 9 (.slice (some ⟨g, 0, none⟩) (stk.length - 1) c)
      go_wp2_with (fail)
      go_ret
      exact StepPost.ok HM2.out (hB4.setCell (p := ⟨r, 9, none⟩) hBr _).drew ⟨_, _, hR5, hBr, by rw [List.length_take, Nat.min_eq_left (by omega)]; exact own_below hS5 (Below.refl _ _).drew, own_below hL5 (Below.refl _ _).drew⟩
set_option maxHeartbeats 16000000 in
set_option maxRecDepth 20000 in
theorem step_full (w : World) (B r : Nat) (cl : List Ins) (code : Value) (s : ByteArray) (l0 l1 l2 : Int) (x : MSt) (a b n : Int) (tx : ByteArray) (s0 s1 s2 s3 : Int) (h : RunW w B r code s l0 l1 l2 x) (hC : CodeAt w B cl code) (ok : StepOk cl s l0 l1 l2 x) (hst : x.steps < l2)
    (hi : cl[x.pc.toNat]? = some ⟨20, a, b, n, tx, s0, s1, s2, s3⟩) :
    Calls Tryd.prog 43 #[.pointer (some ⟨r, 0, none⟩)] w fun en w' => StepPost B r code s l0 l1 l2 w (stepI s l0 l1 ⟨20, a, b, n, tx, s0, s1, s2, s3⟩ { x with steps := x.steps + 1 }) en w' := by
  have h0 := h
  obtain ⟨sv, lv, hR, hBr, hS, hL⟩ := h
  have hBw := Nat.le_of_lt (Nat.lt_of_le_of_lt hBr (block_lt hR))
  obtain ⟨okN, okS, okL, okA0, okA1, okZ, okP0, okP1, okC, okT0, okT1, okL0, okL1, okAs⟩ := ok
  obtain ⟨pc, p, st, kd, stk, lg⟩ := x
  simp only at okS okL okA0 okA1 okP0 okP1 okT0 okT1 hst hi hS hL
  obtain ⟨k, rfl⟩ := Int.eq_ofNat_of_zero_le okP0
  rw [Int.toNat_natCast] at hi
  have hk : k < cl.length := by omega
  have hk2 : (k : Int) < (cl.length : Int) := by omega
  have hia := okAs _ (List.mem_of_getElem? hi)
  simp only at hia
  have hC0 := hC
  obtain ⟨gc, oc, cc, rfl, hgB, hcells⟩ := hC
  have hgk : cl[k] = ⟨20, a, b, n, tx, s0, s1, s2, s3⟩ := by rw [List.getElem?_eq_getElem hk] at hi; exact Option.some.inj hi
  have cC : ∀ j, j < 9 → w.cell? ⟨gc, oc + k * 9 + j, none⟩ = (insC ⟨20, a, b, n, tx, s0, s1, s2, s3⟩)[j]? := fun j hj => by have := row_cell insC_len hcells hk hj; rw [hgk] at this; exact this
  have d0 := cC 0 (by decide)
  have d1 := cC 1 (by decide)
  have d2 := cC 2 (by decide)
  have d3 := cC 3 (by decide)
  have d4 := cC 4 (by decide)
  have d5 := cC 5 (by decide)
  have d6 := cC 6 (by decide)
  have d7 := cC 7 (by decide)
  have d8 := cC 8 (by decide)
  simp only [insC, List.getElem?_cons_zero, List.getElem?_cons_succ, Nat.add_zero] at d0 d1 d2 d3 d4 d5 d6 d7 d8
  unfold runC at hR
  simp only at hR
  have hcR := block_cell hR
  have hw1 : IntKind.i64.wrap (st + 1) = st + 1 := wrap_in (by omega)
  have hw2 : IntKind.i64.wrap ((k : Int) + 1) = (k : Int) + 1 := wrap_in (by omega)
  have hw3 : IntKind.i64.wrap ((k : Int) + a) = (k : Int) + a := wrap_in (by omega)
  have hrl := block_lt hR
  clear cC hcells hgk hi
  go_enter Tryd.func43, Tryd.ntmps43
  go_wp2_with (fail)
  go_quiet (fail)
  have hR1 : (w.drewN nq).heap[r]? = _ := hR
  have hS1 := own_below hS (below_drewN (Below.refl _ _) nq)
  have hL1 := own_below hL (below_drewN (Below.refl _ _) nq)
  have hC1 := hC0.below (below_drewN (Below.refl B w) nq)
  have hB1 := below_drewN (Below.refl B w) nq
  go_wp2_with (fail)
  have f0 : ∀ (o : Nat) (z : Obj), ((w.drewN (nq + 1)).alloc z).cell? ⟨r, o, none⟩ = w.cell? ⟨r, o, none⟩ := fun o z => cell_alloc (W := w.drewN (nq + 1)) (x := z) hrl o
  have f1 : ∀ (o : Nat) (z : Obj), ((w.drewN (nq + 1)).alloc z).cell? ⟨gc, o, none⟩ = w.cell? ⟨gc, o, none⟩ := fun o z => cell_alloc (W := w.drewN (nq + 1)) (x := z) (Nat.lt_of_lt_of_le hgB hBw) o
  have g0 := fun (o : Nat) (z : Obj) => (f0 o z).trans (hcR o)
  have e0 := fun (z : Obj) => (f1 _ z).trans d0
  have e1 := fun (z : Obj) => (f1 _ z).trans d1
  have e2 := fun (z : Obj) => (f1 _ z).trans d2
  have e3 := fun (z : Obj) => (f1 _ z).trans d3
  have e4 := fun (z : Obj) => (f1 _ z).trans d4
  have e5 := fun (z : Obj) => (f1 _ z).trans d5
  have e6 := fun (z : Obj) => (f1 _ z).trans d6
  have e7 := fun (z : Obj) => (f1 _ z).trans d7
  have e8 := fun (z : Obj) => (f1 _ z).trans d8
  have hZ : ((w.drewN (nq + 1)).alloc (.cells #[.int .i64 0, .int .i64 0, .int .i64 0, .int .i64 0, .string ⟨#[]⟩, .int .u64 0, .int .u64 0, .int .u64 0, .int .u64 0] 52)).heap[w.heap.size]? = _ := alloc_new (w.drewN (nq + 1)) (.cells #[.int .i64 0, .int .i64 0, .int .i64 0, .int .i64 0, .string ⟨#[]⟩, .int .u64 0, .int .u64 0, .int .u64 0, .int .u64 0] 52)
  have hcZ := block_cell hZ
  have hfZ := block_free hZ
  go_region
  have hb2 := below9 ((below_drewN (Below.refl w.heap.size w) (nq + 1)).alloc (Nat.le_refl _) (.cells #[.int .i64 0, .int .i64 0, .int .i64 0, .int .i64 0, .string ⟨#[]⟩, .int .u64 0, .int .u64 0, .int .u64 0, .int .u64 0] 52)) (Nat.le_refl _) (.int .i64 20) (.int .i64 a) (.int .i64 b) (.int .i64 n) (.string tx) (.int .u64 s0) (.int .u64 s1) (.int .u64 s2) (.int .u64 s3)
  have hI2 := set9 hZ (.int .i64 20) (.int .i64 a) (.int .i64 b) (.int .i64 n) (.string tx) (.int .u64 s0) (.int .u64 s1) (.int .u64 s2) (.int .u64 s3)
  clear f0 f1 g0 e0 e1 e2 e3 e4 e5 e6 e7 e8 hZ hcZ hfZ d0 d1 d2 d3 d4 d5 d6 d7 d8 hR1 hS1 hL1 hC1 hB1 hcR
  generalize ((((((((((w.drewN (nq + 1)).alloc (.cells #[.int .i64 0, .int .i64 0, .int .i64 0, .int .i64 0, .string ⟨#[]⟩, .int .u64 0, .int .u64 0, .int .u64 0, .int .u64 0] 52)).setCell ⟨w.heap.size, 0, none⟩ (.int .i64 20)).setCell ⟨w.heap.size, 1, none⟩ (.int .i64 a)).setCell ⟨w.heap.size, 2, none⟩ (.int .i64 b)).setCell ⟨w.heap.size, 3, none⟩ (.int .i64 n)).setCell ⟨w.heap.size, 4, none⟩ (.string tx)).setCell ⟨w.heap.size, 5, none⟩ (.int .u64 s0)).setCell ⟨w.heap.size, 6, none⟩ (.int .u64 s1)).setCell ⟨w.heap.size, 7, none⟩ (.int .u64 s2)).setCell ⟨w.heap.size, 8, none⟩ (.int .u64 s3) = W2 at *
  have hR2 := keep hb2 hR
  have hS2 := own_below hS hb2
  have hL2 := own_below hL hb2
  have hB2 := hb2.mono hBw
  have hxr : w.heap.size ≠ r := fun e => by have := block_lt hR; omega
  clear hR hS hL hb2
  have hR3 : (W2.setCell ⟨r, 7, none⟩ (.int .i64 (st + 1))).heap[r]? = some (.cells #[.slice (some ⟨gc, oc, none⟩) cl.length cc, .string s, .int .i64 l0, .int .i64 l1, .int .i64 l2, .int .i64 k, .int .i64 p, .int .i64 (st + 1), .int .i64 kd, sv, lv] 61) := heap_setCell_self hR2 7 (.int .i64 (st + 1))
  have hI3 := (heap_setCell_ne (w := W2) (b := r) 7 _ (.int .i64 (st + 1)) hxr).trans hI2
  have hS3 := own_set hS2 hR2 (by decide) 7 (.int .i64 (st + 1))
  have hL3 := own_set hL2 hR2 (by decide) 7 (.int .i64 (st + 1))
  have hB3 := hB2.setCell (p := ⟨r, 7, none⟩) hBr (.int .i64 (st + 1))
  have hfR2 := block_free hR2
  have hcR2 := block_cell hR2
  have hcI := block_cell hI3
  have hcR := block_cell hR3
  have hfR := block_free hR3
  generalize hW3 : W2.setCell ⟨r, 7, none⟩ (.int .i64 (st + 1)) = W3 at *
  go_wp2_with (fail)
  have hW0 : RunW W3 B r (.slice (some ⟨gc, oc, none⟩) cl.length cc) s l0 l1 l2 ⟨k, p, st + 1, kd, stk, lg⟩ := ⟨sv, lv, hR3, hBr, hS3, hL3⟩
  have hN0 : NotesOk ⟨k, p, st + 1, kd, stk, lg⟩ := fun e he => okN e he
  have hBw0 := hBw
  have hM : stepI s l0 l1 ⟨20, a, b, n, tx, s0, s1, s2, s3⟩ ⟨k, p, st + 1, kd, stk, lg⟩ = (if a > p then .error 213 else noteM l1 ⟨20, b, p - a, a, n, tx⟩ ⟨k, p, st + 1, kd, stk, lg⟩) := by
    unfold stepI
    rw [if_neg (show ¬ ((20 : Int) = 8) by decide), if_neg (show ¬ ((20 : Int) = 9 ∨ (20 : Int) = 10 ∨ (20 : Int) = 11 ∨ (20 : Int) = 12) by decide), if_neg (show ¬ ((20 : Int) = 13) by decide), if_neg (show ¬ ((20 : Int) = 14) by decide), if_neg (show ¬ ((20 : Int) = 15) by decide), if_neg (show ¬ ((20 : Int) = 16) by decide), if_neg (show ¬ ((20 : Int) = 17) by decide), if_neg (show ¬ ((20 : Int) = 18) by decide), if_neg (show ¬ ((20 : Int) = 19) by decide)]
    exact if_pos rfl
  have HM := hid hM
  clear hM
  by_cases hap : p < a
  · have hM := HM.out
    rw [if_pos hap] at hM
    have HM2 := hid hM
    clear hM HM
    go_quiet (fail)
    go_wp2_with (fail)
    go_ret
    exact StepPost.err HM2.out (below_drewN hB3 _)
  · have hM := HM.out
    rw [if_neg hap] at hM
    have HM := hid hM
    clear hM
    have hwa : IntKind.i64.wrap (p - a) = p - a := wrap_in (by omega)
    go_quiet (fail)
    have hR3 : (W3.drewN nq).heap[r]? = _ := hR3
    have hI3 : (W3.drewN nq).heap[w.heap.size]? = _ := hI3
    have hW0 := hW0.below (below_drewN (Below.refl _ _) nq)
    have hB3 := below_drewN hB3 nq
    have hL3 := own_below hL3 (below_drewN (Below.refl _ _) nq)
    have hS3 := own_below hS3 (below_drewN (Below.refl _ _) nq)
    generalize W3.drewN nq = W3 at *
    go_wp2_with (fail)
    obtain ⟨A2, c2, rfl⟩ := (RowIs.of_owns hL3).form
    obtain ⟨A1, c1, rfl⟩ := (RowIs.of_owns hS3).form
    have hlR := grow_cell hR3 (B := W3.heap.size) (block_lt hR3)
    have hlI := grow_cell hI3 (B := W3.heap.size) (block_lt hI3)
    refine wp_region_grow_tail W3.heap.size 19 (by kernel_rfl) (by kernel_rfl) ?_
    simp only [List.take_succ_cons, List.take_zero, List.drop_succ_cons, List.drop_zero]
    repeat (go_big_quiet_step (fail))
    refine wpQuiet_nil ?_
    rintro _ ⟨g, rfl⟩
    have hW5 := hW0.below g.below
    have hR5 := grow_heap hR3 (block_lt hR3) g
    have hI5 := grow_heap hI3 (block_lt hI3) g
    have hB5 := hB3.trans (g.below.mono (Nat.le_trans hBw0 hB3.size))
    clear hlR hlI hcR hcI hfR
    generalize g.val = W5 at *
    go_wp2_with (fail)
    have hcn := note_any W5 B r _ s l0 l1 l2 ⟨k, p, st + 1, kd, stk, lg⟩ ⟨20, b, p - a, a, n, tx⟩ hW5 okL1 (by simp only; omega)
    unfold notA at hcn
    simp only at hcn
    by_cases hfull : l1 ≤ lg.length
    · simp only [if_pos hfull] at hcn
      have hM := HM.out
      rw [noteM, if_pos hfull] at hM
      have HM2 := hid hM
      clear hM HM
      with_reducible refine hcn.mono ?_
      rintro e W6 ⟨hb6, rfl⟩
      go_wp2_with (fail)
      go_ret
      exact StepPost.err HM2.out (hB5.trans hb6)
    · simp only [if_neg hfull] at hcn
      have hM := HM.out
      rw [noteM, if_neg hfull] at hM
      have HM2 := hid hM
      clear hM HM
      with_reducible refine hcn.mono ?_
      rintro e W6 ⟨hb6, rfl, hW6⟩
      go_wp2_with (fail)
      go_ret
      exact StepPost.ok HM2.out (hB5.trans hb6) hW6
set_option maxHeartbeats 16000000 in
set_option maxRecDepth 20000 in
theorem step_else (w : World) (B r : Nat) (cl : List Ins) (code : Value) (s : ByteArray) (l0 l1 l2 : Int) (x : MSt) (o : Int) (o8 : ¬ o = 8) (o9 : ¬ o = 9) (o10 : ¬ o = 10) (o11 : ¬ o = 11) (o12 : ¬ o = 12) (o13 : ¬ o = 13) (o14 : ¬ o = 14) (o15 : ¬ o = 15) (o16 : ¬ o = 16) (o17 : ¬ o = 17) (o18 : ¬ o = 18) (o19 : ¬ o = 19) (o20 : ¬ o = 20) (a b n : Int) (tx : ByteArray) (s0 s1 s2 s3 : Int) (h : RunW w B r code s l0 l1 l2 x) (hC : CodeAt w B cl code) (ok : StepOk cl s l0 l1 l2 x) (hst : x.steps < l2)
    (hi : cl[x.pc.toNat]? = some ⟨o, a, b, n, tx, s0, s1, s2, s3⟩) :
    Calls Tryd.prog 43 #[.pointer (some ⟨r, 0, none⟩)] w fun en w' => StepPost B r code s l0 l1 l2 w (stepI s l0 l1 ⟨o, a, b, n, tx, s0, s1, s2, s3⟩ { x with steps := x.steps + 1 }) en w' := by
  have h0 := h
  obtain ⟨sv, lv, hR, hBr, hS, hL⟩ := h
  have hBw := Nat.le_of_lt (Nat.lt_of_le_of_lt hBr (block_lt hR))
  obtain ⟨okN, okS, okL, okA0, okA1, okZ, okP0, okP1, okC, okT0, okT1, okL0, okL1, okAs⟩ := ok
  obtain ⟨pc, p, st, kd, stk, lg⟩ := x
  simp only at okS okL okA0 okA1 okP0 okP1 okT0 okT1 hst hi hS hL
  obtain ⟨k, rfl⟩ := Int.eq_ofNat_of_zero_le okP0
  rw [Int.toNat_natCast] at hi
  have hk : k < cl.length := by omega
  have hk2 : (k : Int) < (cl.length : Int) := by omega
  have hia := okAs _ (List.mem_of_getElem? hi)
  simp only at hia
  have hC0 := hC
  obtain ⟨gc, oc, cc, rfl, hgB, hcells⟩ := hC
  have hgk : cl[k] = ⟨o, a, b, n, tx, s0, s1, s2, s3⟩ := by rw [List.getElem?_eq_getElem hk] at hi; exact Option.some.inj hi
  have cC : ∀ j, j < 9 → w.cell? ⟨gc, oc + k * 9 + j, none⟩ = (insC ⟨o, a, b, n, tx, s0, s1, s2, s3⟩)[j]? := fun j hj => by have := row_cell insC_len hcells hk hj; rw [hgk] at this; exact this
  have d0 := cC 0 (by decide)
  have d1 := cC 1 (by decide)
  have d2 := cC 2 (by decide)
  have d3 := cC 3 (by decide)
  have d4 := cC 4 (by decide)
  have d5 := cC 5 (by decide)
  have d6 := cC 6 (by decide)
  have d7 := cC 7 (by decide)
  have d8 := cC 8 (by decide)
  simp only [insC, List.getElem?_cons_zero, List.getElem?_cons_succ, Nat.add_zero] at d0 d1 d2 d3 d4 d5 d6 d7 d8
  unfold runC at hR
  simp only at hR
  have hcR := block_cell hR
  have hw1 : IntKind.i64.wrap (st + 1) = st + 1 := wrap_in (by omega)
  have hw2 : IntKind.i64.wrap ((k : Int) + 1) = (k : Int) + 1 := wrap_in (by omega)
  have hw3 : IntKind.i64.wrap ((k : Int) + a) = (k : Int) + a := wrap_in (by omega)
  have hrl := block_lt hR
  clear cC hcells hgk hi
  have z8 : (o == 8) = false := beq_eq_false_iff_ne.2 o8
  have z9 : (o == 9) = false := beq_eq_false_iff_ne.2 o9
  have z10 : (o == 10) = false := beq_eq_false_iff_ne.2 o10
  have z11 : (o == 11) = false := beq_eq_false_iff_ne.2 o11
  have z12 : (o == 12) = false := beq_eq_false_iff_ne.2 o12
  have z13 : (o == 13) = false := beq_eq_false_iff_ne.2 o13
  have z14 : (o == 14) = false := beq_eq_false_iff_ne.2 o14
  have z15 : (o == 15) = false := beq_eq_false_iff_ne.2 o15
  have z16 : (o == 16) = false := beq_eq_false_iff_ne.2 o16
  have z17 : (o == 17) = false := beq_eq_false_iff_ne.2 o17
  have z18 : (o == 18) = false := beq_eq_false_iff_ne.2 o18
  have z19 : (o == 19) = false := beq_eq_false_iff_ne.2 o19
  have z20 : (o == 20) = false := beq_eq_false_iff_ne.2 o20
  go_enter Tryd.func43, Tryd.ntmps43
  go_wp2_with (fail)
  go_quiet (fail)
  have hR1 : (w.drewN nq).heap[r]? = _ := hR
  have hS1 := own_below hS (below_drewN (Below.refl _ _) nq)
  have hL1 := own_below hL (below_drewN (Below.refl _ _) nq)
  have hC1 := hC0.below (below_drewN (Below.refl B w) nq)
  have hB1 := below_drewN (Below.refl B w) nq
  go_wp2_with (fail)
  have f0 : ∀ (o : Nat) (z : Obj), ((w.drewN (nq + 1)).alloc z).cell? ⟨r, o, none⟩ = w.cell? ⟨r, o, none⟩ := fun o z => cell_alloc (W := w.drewN (nq + 1)) (x := z) hrl o
  have f1 : ∀ (o : Nat) (z : Obj), ((w.drewN (nq + 1)).alloc z).cell? ⟨gc, o, none⟩ = w.cell? ⟨gc, o, none⟩ := fun o z => cell_alloc (W := w.drewN (nq + 1)) (x := z) (Nat.lt_of_lt_of_le hgB hBw) o
  have g0 := fun (o : Nat) (z : Obj) => (f0 o z).trans (hcR o)
  have e0 := fun (z : Obj) => (f1 _ z).trans d0
  have e1 := fun (z : Obj) => (f1 _ z).trans d1
  have e2 := fun (z : Obj) => (f1 _ z).trans d2
  have e3 := fun (z : Obj) => (f1 _ z).trans d3
  have e4 := fun (z : Obj) => (f1 _ z).trans d4
  have e5 := fun (z : Obj) => (f1 _ z).trans d5
  have e6 := fun (z : Obj) => (f1 _ z).trans d6
  have e7 := fun (z : Obj) => (f1 _ z).trans d7
  have e8 := fun (z : Obj) => (f1 _ z).trans d8
  have hZ : ((w.drewN (nq + 1)).alloc (.cells #[.int .i64 0, .int .i64 0, .int .i64 0, .int .i64 0, .string ⟨#[]⟩, .int .u64 0, .int .u64 0, .int .u64 0, .int .u64 0] 52)).heap[w.heap.size]? = _ := alloc_new (w.drewN (nq + 1)) (.cells #[.int .i64 0, .int .i64 0, .int .i64 0, .int .i64 0, .string ⟨#[]⟩, .int .u64 0, .int .u64 0, .int .u64 0, .int .u64 0] 52)
  have hcZ := block_cell hZ
  have hfZ := block_free hZ
  go_region
  have hb2 := below9 ((below_drewN (Below.refl w.heap.size w) (nq + 1)).alloc (Nat.le_refl _) (.cells #[.int .i64 0, .int .i64 0, .int .i64 0, .int .i64 0, .string ⟨#[]⟩, .int .u64 0, .int .u64 0, .int .u64 0, .int .u64 0] 52)) (Nat.le_refl _) (.int .i64 o) (.int .i64 a) (.int .i64 b) (.int .i64 n) (.string tx) (.int .u64 s0) (.int .u64 s1) (.int .u64 s2) (.int .u64 s3)
  have hI2 := set9 hZ (.int .i64 o) (.int .i64 a) (.int .i64 b) (.int .i64 n) (.string tx) (.int .u64 s0) (.int .u64 s1) (.int .u64 s2) (.int .u64 s3)
  clear f0 f1 g0 e0 e1 e2 e3 e4 e5 e6 e7 e8 hZ hcZ hfZ d0 d1 d2 d3 d4 d5 d6 d7 d8 hR1 hS1 hL1 hC1 hB1 hcR
  generalize ((((((((((w.drewN (nq + 1)).alloc (.cells #[.int .i64 0, .int .i64 0, .int .i64 0, .int .i64 0, .string ⟨#[]⟩, .int .u64 0, .int .u64 0, .int .u64 0, .int .u64 0] 52)).setCell ⟨w.heap.size, 0, none⟩ (.int .i64 o)).setCell ⟨w.heap.size, 1, none⟩ (.int .i64 a)).setCell ⟨w.heap.size, 2, none⟩ (.int .i64 b)).setCell ⟨w.heap.size, 3, none⟩ (.int .i64 n)).setCell ⟨w.heap.size, 4, none⟩ (.string tx)).setCell ⟨w.heap.size, 5, none⟩ (.int .u64 s0)).setCell ⟨w.heap.size, 6, none⟩ (.int .u64 s1)).setCell ⟨w.heap.size, 7, none⟩ (.int .u64 s2)).setCell ⟨w.heap.size, 8, none⟩ (.int .u64 s3) = W2 at *
  have hR2 := keep hb2 hR
  have hS2 := own_below hS hb2
  have hL2 := own_below hL hb2
  have hB2 := hb2.mono hBw
  have hxr : w.heap.size ≠ r := fun e => by have := block_lt hR; omega
  clear hR hS hL hb2
  have hR3 : (W2.setCell ⟨r, 7, none⟩ (.int .i64 (st + 1))).heap[r]? = some (.cells #[.slice (some ⟨gc, oc, none⟩) cl.length cc, .string s, .int .i64 l0, .int .i64 l1, .int .i64 l2, .int .i64 k, .int .i64 p, .int .i64 (st + 1), .int .i64 kd, sv, lv] 61) := heap_setCell_self hR2 7 (.int .i64 (st + 1))
  have hI3 := (heap_setCell_ne (w := W2) (b := r) 7 _ (.int .i64 (st + 1)) hxr).trans hI2
  have hS3 := own_set hS2 hR2 (by decide) 7 (.int .i64 (st + 1))
  have hL3 := own_set hL2 hR2 (by decide) 7 (.int .i64 (st + 1))
  have hB3 := hB2.setCell (p := ⟨r, 7, none⟩) hBr (.int .i64 (st + 1))
  have hfR2 := block_free hR2
  have hcR2 := block_cell hR2
  have hcI := block_cell hI3
  have hcR := block_cell hR3
  have hfR := block_free hR3
  generalize hW3 : W2.setCell ⟨r, 7, none⟩ (.int .i64 (st + 1)) = W3 at *
  go_wp2_with (fail)
  have hW0 : RunW W3 B r (.slice (some ⟨gc, oc, none⟩) cl.length cc) s l0 l1 l2 ⟨k, p, st + 1, kd, stk, lg⟩ := ⟨sv, lv, hR3, hBr, hS3, hL3⟩
  have hN0 : NotesOk ⟨k, p, st + 1, kd, stk, lg⟩ := fun e he => okN e he
  have hM : stepI s l0 l1 ⟨o, a, b, n, tx, s0, s1, s2, s3⟩ ⟨k, p, st + 1, kd, stk, lg⟩ = .ok (byteM s ⟨o, a, b, n, tx, s0, s1, s2, s3⟩ ⟨k, p, st + 1, kd, stk, lg⟩) := by
    unfold stepI
    rw [if_neg o8, if_neg (fun h => h.elim o9 (fun h => h.elim o10 (fun h => h.elim o11 o12))), if_neg o13, if_neg o14, if_neg o15, if_neg o16, if_neg o17, if_neg o18, if_neg o19, if_neg o20]
  have HM := hid hM
  clear hM
  have hcn := byte_any W3 B r _ s l0 l1 l2 ⟨k, p, st + 1, kd, stk, lg⟩ ⟨o, a, b, n, tx, s0, s1, s2, s3⟩ hW0 hN0 (by simp only; omega) (by simp only; omega) okA0 (by omega) (by simp only; omega) hia okA1
  unfold insA at hcn
  with_reducible refine hcn.mono ?_
  rintro e W4 ⟨rfl, hb9, hW9⟩
  go_wp2_with (fail)
  go_ret
  exact StepPost.ok HM.out (hB3.trans hb9) hW9
end Go.Proofs.YthjlpcecfkboiaaDoor
