/-
  steps.Go: what it refuses, and so many steps more.
-/
import Derived.Test.YthjlpcecfkboiabDoorClone
import Derived.Test.YthjlpcecfkboiabDoorRunInv
import Derived.WalkKit
import Derived.BigQuiet
import Derived.BigRegion
import Derived.Deep.RegionHeld3
import Derived.Laws.ResultCell
namespace Go.Proofs.YthjlpcecfkboiabDoor
open Go.RowKit
set_option linter.unusedVariables false
set_option linter.unusedSimpArgs false
theorem gen_g {P : World → Prop} {Q : World → Prop} {W0 : World} (h : P W0) (k : ∀ W, P W → Q W) : Q W0 := k _ h
theorem g_al {B : Nat} {a w : World} (h : Below B a w) (hB : B ≤ w.heap.size) (x : Obj) : Below B a (w.alloc x) := h.alloc hB x
theorem g_st {B : Nat} {a w : World} (h : Below B a w) {b : Nat} (hb : B ≤ b) (o : Nat) (v : Value) : Below B a (w.setCell ⟨b, o, none⟩ v) := Below.setCell (p := ⟨b, o, none⟩) h hb v
theorem g_then {a b c : World} (h : Below a.heap.size a b) (k : Below b.heap.size b c) : Below a.heap.size a c := h.trans ⟨k.os, k.tape, k.output, k.size, fun i hi => k.block i (Nat.lt_of_lt_of_le hi h.size)⟩
set_option maxHeartbeats 16000000 in
set_option maxRecDepth 20000 in
theorem go_ok (w : World) (A : Option Addr) (n c : Nat) (s : ByteArray) (l0 l1 l2 pc p st kd : Int) (stk : List Ent) (lg : List Not) (A1 : Option Addr) (n1 c1 : Nat) (A2 : Option Addr) (n2 c2 : Nat) (m : Int) (er : Int) (cl : List Ins) (hl : ∀ w2, Below w.heap.size w w2 → Calls Tryd.prog 23 #[.slice A n c, .string s, .int .i64 0, .agg #[.int .i64 l0, .int .i64 l1, .int .i64 l2]] w2 fun e w' => e = .returned (.int .i64 er) ∧ Below w2.heap.size w2 w') (he : er = 0) (b : Bool) (hm : ∀ w2, Below w.heap.size w w2 → Calls Tryd.prog 24 #[.slice A n c, .string s, .agg #[.int .i64 pc, .int .i64 p, .int .i64 st, .int .i64 kd, .slice A1 n1 c1, .slice A2 n2 c2]] w2 fun e w' => e = .returned (.bool b) ∧ Below w2.heap.size w2 w') (hb : b = true) (hn : ¬ m < 0) (hg : ¬ 1073741824 < m)
    (hx : MstIn w ⟨pc, p, st, kd, stk, lg⟩ (.agg #[.int .i64 pc, .int .i64 p, .int .i64 st, .int .i64 kd, .slice A1 n1 c1, .slice A2 n2 c2])) (hk1 : stk.length ≤ 1048576) (hk2 : lg.length ≤ 1048576) (hC : CodeAt w w.heap.size cl (.slice A n c)) (ok : RunOk cl s l0 l1 l2 ⟨pc, p, st, kd, stk, lg⟩) (hstep : ∀ (B r : Nat) (wr : World) (y : MSt), RunW wr B r (.slice A n c) s l0 l1 l2 y → CodeAt wr B cl (.slice A n c) → StepOk cl s l0 l1 l2 y → Calls Tryd.prog 49 #[.pointer (some ⟨r, 0, none⟩)] wr fun en w' => StepPost B r (.slice A n c) s l0 l1 l2 wr (stepM cl s l0 l1 l2 y) en w') (hsz : ∀ (j : Nat) (y : MSt), onM cl s l0 l1 l2 j ⟨pc, p, st, kd, stk, lg⟩ = .ok y → y.stack.length ≤ 1048576 ∧ y.log.length ≤ 1048576) (y : MSt) (hq : onM cl s l0 l1 l2 m.toNat ⟨pc, p, st, kd, stk, lg⟩ = .ok y) :
    Calls Tryd.prog 12 #[.slice A n c, .string s, .agg #[.int .i64 l0, .int .i64 l1, .int .i64 l2], .agg #[.int .i64 pc, .int .i64 p, .int .i64 st, .int .i64 kd, .slice A1 n1 c1, .slice A2 n2 c2], .int .i64 m] w fun e w' => Below w.heap.size w w' ∧ ∃ v, e = .returned (.tuple #[v, .int .i64 0]) ∧ MstOwn w' w.heap.size y v := by
  subst hb
  have hn1 : decide (m < 0) = false := decide_eq_false hn
  have hn2 : decide (1073741824 < m) = false := decide_eq_false hg
  obtain ⟨m, rfl⟩ := Int.eq_ofNat_of_zero_le (show 0 ≤ m by omega)
  rw [Int.toNat_natCast] at hq
  have he2 : (er != 0) = false := by subst he; rfl
  have hb0 := g_al (g_al (g_al (Below.refl w.heap.size w) (Nat.le_refl _) (.cells #[.int .i64 l0, .int .i64 l1, .int .i64 l2] 36)) (by simp) (.cells #[.int .i64 pc, .int .i64 p, .int .i64 st, .int .i64 kd, .slice A1 n1 c1, .slice A2 n2 c2] 25)) (by simp; omega) (.cells #[.int .i64 0, .int .i64 0, .int .i64 0, .int .i64 0, .slice none 0 0, .slice none 0 0] 25)
  have hA7 : (((w.alloc (.cells #[.int .i64 l0, .int .i64 l1, .int .i64 l2] 36)).alloc (.cells #[.int .i64 pc, .int .i64 p, .int .i64 st, .int .i64 kd, .slice A1 n1 c1, .slice A2 n2 c2] 25)).alloc (.cells #[.int .i64 0, .int .i64 0, .int .i64 0, .int .i64 0, .slice none 0 0, .slice none 0 0] 25)).heap[w.heap.size]? = _ := alloc_old (alloc_old (alloc_new w _))
  have hA8 : (((w.alloc (.cells #[.int .i64 l0, .int .i64 l1, .int .i64 l2] 36)).alloc (.cells #[.int .i64 pc, .int .i64 p, .int .i64 st, .int .i64 kd, .slice A1 n1 c1, .slice A2 n2 c2] 25)).alloc (.cells #[.int .i64 0, .int .i64 0, .int .i64 0, .int .i64 0, .slice none 0 0, .slice none 0 0] 25)).heap[w.heap.size + 1]? = _ := alloc_old (alloc_new_at _ (show w.heap.size + 1 = (w.heap.push _).size by simp))
  have hA9 : (((w.alloc (.cells #[.int .i64 l0, .int .i64 l1, .int .i64 l2] 36)).alloc (.cells #[.int .i64 pc, .int .i64 p, .int .i64 st, .int .i64 kd, .slice A1 n1 c1, .slice A2 n2 c2] 25)).alloc (.cells #[.int .i64 0, .int .i64 0, .int .i64 0, .int .i64 0, .slice none 0 0, .slice none 0 0] 25)).heap[w.heap.size + 2]? = _ := alloc_new_at _ (show w.heap.size + 2 = ((w.heap.push _).push _).size by simp)
  go_enter Tryd.func12, Tryd.ntmps12
  go_wp2_with (fail)
  with_reducible refine (hl _ hb0).mono ?_
  rintro e w2 ⟨rfl, hb2⟩
  have hB7 := keep hb2 hA7
  have hB8 := keep hb2 hA8
  have hB9 := keep hb2 hA9
  have hb3 := g_then hb0 hb2
  have hlt := block_lt hB9
  have hc7 := block_cell hB7
  have hc8 := block_cell hB8
  have hc9 := block_cell hB9
  have hf9 := block_free hB9
  clear hA7 hA8 hA9 hb0 hb2
  go_wp2_with (fail)
  with_reducible refine (hm _ hb3).mono ?_
  rintro e w4 ⟨rfl, hb4⟩
  replace hB7 := keep hb4 hB7
  replace hB8 := keep hb4 hB8
  replace hB9 := keep hb4 hB9
  replace hb3 := g_then hb3 hb4
  replace hlt := block_lt hB9
  replace hc7 := block_cell hB7
  replace hc8 := block_cell hB8
  replace hc9 := block_cell hB9
  replace hf9 := block_free hB9
  clear hb4
  go_wp2_with (fail)
  have hcp : ∀ (w5 : World), Below w.heap.size w w5 → Calls Tryd.prog 25 #[.agg #[.int .i64 pc, .int .i64 p, .int .i64 st, .int .i64 kd, .slice A1 n1 c1, .slice A2 n2 c2]] w5 fun e w' => ∃ A6 c6 A7 c7, e = .returned (.agg #[.int .i64 pc, .int .i64 p, .int .i64 st, .int .i64 kd, .slice A6 stk.length c6, .slice A7 lg.length c7]) ∧ w'.ownsRow w5.heap.size 56 4 (.slice A6 stk.length c6) stk.length (stk.flatMap entC) ∧ w'.ownsRow w5.heap.size 59 6 (.slice A7 lg.length c7) lg.length (lg.flatMap notC) ∧ Below w5.heap.size w5 w' := by
    intro w5 hb
    refine (copied_any w5 ⟨pc, p, st, kd, stk, lg⟩ (.agg #[.int .i64 pc, .int .i64 p, .int .i64 st, .int .i64 kd, .slice A1 n1 c1, .slice A2 n2 c2]) (hx.below hb) (by show stk.length * 32 ≤ _; omega) (by show lg.length * 56 ≤ _; omega)).mono ?_
    rintro e w6 ⟨v6, rfl, ⟨sv6, lv6, hv, hS6, hL6⟩, hb6⟩
    subst hv
    obtain ⟨A6, c6, rfl⟩ := (RowIs.of_owns hS6).form
    obtain ⟨A7, c7, rfl⟩ := (RowIs.of_owns hL6).form
    exact ⟨A6, c6, A7, c7, rfl, hS6, hL6, hb6⟩
  clear hl hm
  go_region_held3 (fun w' => (w'.cell? ⟨w.heap.size, 0, none⟩ = some (.int .i64 l0) ∧ w'.cell? ⟨w.heap.size, 1, none⟩ = some (.int .i64 l1) ∧ w'.cell? ⟨w.heap.size, 2, none⟩ = some (.int .i64 l2) ∧ w'.cell? ⟨w.heap.size + 1, 0, none⟩ = some (.int .i64 pc) ∧ w'.cell? ⟨w.heap.size + 1, 1, none⟩ = some (.int .i64 p) ∧ w'.cell? ⟨w.heap.size + 1, 2, none⟩ = some (.int .i64 st) ∧ w'.cell? ⟨w.heap.size + 1, 3, none⟩ = some (.int .i64 kd) ∧ w'.cell? ⟨w.heap.size + 1, 4, none⟩ = some (.slice A1 n1 c1) ∧ w'.cell? ⟨w.heap.size + 1, 5, none⟩ = some (.slice A2 n2 c2))) (first | exact ⟨hc7 0, hc7 1, hc7 2, hc8 0, hc8 1, hc8 2, hc8 3, hc8 4, hc8 5⟩ | exact ⟨q0, q1, q2, q3, q4, q5, q6, q7, q8⟩ | exact ⟨(cell_alloc (by omega) _).trans q0, (cell_alloc (by omega) _).trans q1, (cell_alloc (by omega) _).trans q2, (cell_alloc (by omega) _).trans q3, (cell_alloc (by omega) _).trans q4, (cell_alloc (by omega) _).trans q5, (cell_alloc (by omega) _).trans q6, (cell_alloc (by omega) _).trans q7, (cell_alloc (by omega) _).trans q8⟩) (first | (go_at_call 25; (with_reducible refine Calls.mono (hcp _ (Below.drew hb3)) ?_); rintro e w6 ⟨A6, c6, A7, c7, rfl, hS6, hL6, hb6⟩; have hl6 : w.heap.size + 2 < w6.heap.size := Nat.lt_of_lt_of_le hlt hb6.size; have q0 : w6.cell? ⟨w.heap.size, 0, none⟩ = some (.int .i64 l0) := (hb6.cell (p := ⟨w.heap.size, 0, none⟩) (show _ < w4.heap.size by dsimp only; omega)).trans (hc7 0); have q1 : w6.cell? ⟨w.heap.size, 1, none⟩ = some (.int .i64 l1) := (hb6.cell (p := ⟨w.heap.size, 1, none⟩) (show _ < w4.heap.size by dsimp only; omega)).trans (hc7 1); have q2 : w6.cell? ⟨w.heap.size, 2, none⟩ = some (.int .i64 l2) := (hb6.cell (p := ⟨w.heap.size, 2, none⟩) (show _ < w4.heap.size by dsimp only; omega)).trans (hc7 2); have q3 : w6.cell? ⟨w.heap.size + 1, 0, none⟩ = some (.int .i64 pc) := (hb6.cell (p := ⟨w.heap.size + 1, 0, none⟩) (show _ < w4.heap.size by dsimp only; omega)).trans (hc8 0); have q4 : w6.cell? ⟨w.heap.size + 1, 1, none⟩ = some (.int .i64 p) := (hb6.cell (p := ⟨w.heap.size + 1, 1, none⟩) (show _ < w4.heap.size by dsimp only; omega)).trans (hc8 1); have q5 : w6.cell? ⟨w.heap.size + 1, 2, none⟩ = some (.int .i64 st) := (hb6.cell (p := ⟨w.heap.size + 1, 2, none⟩) (show _ < w4.heap.size by dsimp only; omega)).trans (hc8 2); have q6 : w6.cell? ⟨w.heap.size + 1, 3, none⟩ = some (.int .i64 kd) := (hb6.cell (p := ⟨w.heap.size + 1, 3, none⟩) (show _ < w4.heap.size by dsimp only; omega)).trans (hc8 3); have q7 : w6.cell? ⟨w.heap.size + 1, 4, none⟩ = some (.slice A1 n1 c1) := (hb6.cell (p := ⟨w.heap.size + 1, 4, none⟩) (show _ < w4.heap.size by dsimp only; omega)).trans (hc8 4); have q8 : w6.cell? ⟨w.heap.size + 1, 5, none⟩ = some (.slice A2 n2 c2) := (hb6.cell (p := ⟨w.heap.size + 1, 5, none⟩) (show _ < w4.heap.size by dsimp only; omega)).trans (hc8 5)))
  have hb7 := g_then (Below.drew hb3) hb6
  have hal := (Below.refl w6.heap.size w6).alloc (Nat.le_refl _) (.cells #[.slice A n c, .string s, .int .i64 l0, .int .i64 l1, .int .i64 l2, .int .i64 pc, .int .i64 p, .int .i64 st, .int .i64 kd, .slice A6 stk.length c6, .slice A7 lg.length c7] 83)
  have hS7 := own_below hS6 hal
  have hL7 := own_below hL6 hal
  have hR7 := alloc_new w6 (.cells #[.slice A n c, .string s, .int .i64 l0, .int .i64 l1, .int .i64 l2, .int .i64 pc, .int .i64 p, .int .i64 st, .int .i64 kd, .slice A6 stk.length c6, .slice A7 lg.length c7] 83)
  have hb8 := g_al hb7 hb7.size (.cells #[.slice A n c, .string s, .int .i64 l0, .int .i64 l1, .int .i64 l2, .int .i64 pc, .int .i64 p, .int .i64 st, .int .i64 kd, .slice A6 stk.length c6, .slice A7 lg.length c7] 83)
  have hB10 := alloc_old (y := (.cells #[.slice A n c, .string s, .int .i64 l0, .int .i64 l1, .int .i64 l2, .int .i64 pc, .int .i64 p, .int .i64 st, .int .i64 kd, .slice A6 stk.length c6, .slice A7 lg.length c7] 83)) (keep hb6 (show w4.drew.heap[w.heap.size + 2]? = _ from hB9))
  have hr6 : w4.heap.size ≤ w6.heap.size := hb6.size
  have hlt7 := block_lt hR7
  clear q0 q1 q2 q3 q4 q5 q6 q7 q8 hc7 hc8 hc9 hf9 hS6 hL6 hb7 hcp hB7 hB8 hB9
  generalize hW7 : w6.alloc (.cells #[.slice A n c, .string s, .int .i64 l0, .int .i64 l1, .int .i64 l2, .int .i64 pc, .int .i64 p, .int .i64 st, .int .i64 kd, .slice A6 stk.length c6, .slice A7 lg.length c7] 83) = W7 at *
  have hRun : RunW W7 w4.heap.size w6.heap.size (.slice A n c) s l0 l1 l2 ⟨pc, p, st, kd, stk, lg⟩ := ⟨_, _, hR7, hr6, hS7, hL7⟩
  have hC7 : CodeAt W7 w4.heap.size cl (.slice A n c) := by
    obtain ⟨gc, oc, cc, h1, h2, h3⟩ := hC.below hb8
    exact ⟨gc, oc, cc, h1, Nat.lt_of_lt_of_le h2 (by omega), h3⟩
  have hon := on_gen W7 w4.heap.size w6.heap.size cl (.slice A n c) s l0 l1 l2 ⟨pc, p, st, kd, stk, lg⟩ m (by omega) hRun hC7 ok (by omega) (hstep _ _)
  clear hstep
  have hHS := hid hsz
  clear hsz hRun hC7 hS7 hL7 hC ok hx
  rw [hq] at hon
  have hHM := hid hq
  clear hq
  go_wp2_with (fail)
  have hcR7 := block_cell hR7
  go_wp2_with (fail)
  have hsy := hHS.out m y hHM.out
  with_reducible refine hon.mono ?_
  rintro en w8 ⟨hb9, hen, sv, lv, hR8, hr8, hS8, hL8⟩
  subst hen
  have hB9 := (hb9.block (w.heap.size + 2) (by omega)).trans hB10
  have hb3 : Below w.heap.size w w8 := hb8.trans (hb9.mono (by omega))
  clear hB10 hb8 hal hb6
  obtain ⟨ypc, yp, yst, ykd, ystk, ylg⟩ := y
  unfold runC at hR8
  simp only at hR8 hS8 hL8 hsy
  obtain ⟨A8, c8, rfl⟩ := (RowIs.of_owns hS8).form
  obtain ⟨A9, c9, rfl⟩ := (RowIs.of_owns hL8).form
  have hcR8 := block_cell hR8
  have hcp := copied_any w8 ⟨ypc, yp, yst, ykd, ystk, ylg⟩ (.agg #[.int .i64 ypc, .int .i64 yp, .int .i64 yst, .int .i64 ykd, .slice A8 ystk.length c8, .slice A9 ylg.length c9]) ⟨_, _, rfl, RowIs.of_owns hS8, RowIs.of_owns hL8⟩ (by show ystk.length * 32 ≤ _; omega) (by show ylg.length * 56 ≤ _; omega)
  go_wp2_with (fail)
  with_reducible refine hcp.mono ?_
  rintro e w9 ⟨v9, rfl, ⟨sv9, lv9, hv, hS9, hL9⟩, hb10⟩
  subst hv
  obtain ⟨A3, c3, rfl⟩ := (RowIs.of_owns hS9).form
  obtain ⟨A4, c4, rfl⟩ := (RowIs.of_owns hL9).form
  unfold mstA
  simp only
  have hB11 := keep hb10 hB9
  have hb11 := g_then hb3 hb10
  have hlt := block_lt hB11
  have hf9 := block_free hB11
  have hc9 := block_cell hB11
  clear hcp hS8 hL8 hR8 hcR8 hb9
  go_wp2_with (fail)
  have hZ7 := heap_setCell_self (heap_setCell_self (heap_setCell_self (heap_setCell_self (heap_setCell_self (heap_setCell_self hB11 0 (.int .i64 ypc)) 1 (.int .i64 yp)) 2 (.int .i64 yst)) 3 (.int .i64 ykd)) 4 (.slice A3 ystk.length c3)) 5 (.slice A4 ylg.length c4)
  have hS7 := set_six (own_weaken' hS9 hb3.size) hB11 (by decide) (.int .i64 ypc) (.int .i64 yp) (.int .i64 yst) (.int .i64 ykd) (.slice A3 ystk.length c3) (.slice A4 ylg.length c4)
  have hL7 := set_six (own_weaken' hL9 hb3.size) hB11 (by decide) (.int .i64 ypc) (.int .i64 yp) (.int .i64 yst) (.int .i64 ykd) (.slice A3 ystk.length c3) (.slice A4 ylg.length c4)
  have hB7 := below_six hb11 (b := w.heap.size + 2) (by omega) (.int .i64 ypc) (.int .i64 yp) (.int .i64 yst) (.int .i64 ykd) (.slice A3 ystk.length c3) (.slice A4 ylg.length c4)
  have hcZ7 := block_cell hZ7
  (try simp only [Exit.inBlock, Exit.then])
  refine bodyPost_ret (v := .tuple #[mstA ⟨ypc, yp, yst, ykd, ystk, ylg⟩ (.slice A3 ystk.length c3) (.slice A4 ylg.length c4), .int .i64 0]) ?_ rfl ⟨hB7, _, rfl, _, _, rfl, hS7, hL7⟩
  rw [results_cell_tmp (show Tryd.f12.results = _ from rfl)]
  go_simp
  rfl
set_option maxHeartbeats 8000000 in
set_option maxRecDepth 20000 in
theorem begin_ok (w : World) (A : Option Addr) (n c : Nat) (s : ByteArray) (p er : Int) (hl : ∀ w2, Below w.heap.size w w2 → Calls Tryd.prog 23 #[.slice A n c, .string s, .int .i64 p, .agg #[.int .i64 0, .int .i64 0, .int .i64 0]] w2 fun e w' => e = .returned (.int .i64 er) ∧ Below w2.heap.size w2 w') (he : er = 0) :
    Calls Tryd.prog 11 #[.slice A n c, .string s, .int .i64 p] w fun e w' => e = .returned (.tuple #[.agg #[.int .i64 0, .int .i64 p, .int .i64 0, .int .i64 0, .slice none 0 0, .slice none 0 0], .int .i64 0]) ∧ Below w.heap.size w w' := by
  have hb0 := g_al (Below.refl w.heap.size w) (Nat.le_refl _) (.cells #[.int .i64 0, .int .i64 0, .int .i64 0, .int .i64 0, .slice none 0 0, .slice none 0 0] 25)
  have hA9 := alloc_new w (.cells #[.int .i64 0, .int .i64 0, .int .i64 0, .int .i64 0, .slice none 0 0, .slice none 0 0] 25)
  go_enter Tryd.func11, Tryd.ntmps11
  go_wp2_with (fail)
  with_reducible refine (hl _ hb0).mono ?_
  rintro e w2 ⟨rfl, hb2⟩
  have hB9 := keep hb2 hA9
  have hb3 := g_then hb0 hb2
  have hlt := block_lt hB9
  have hc9 := block_cell hB9
  have hf9 := block_free hB9
  clear hA9 hb0 hb2
  subst he
  go_wp2_with (fail)
  refine gen_g (P := fun W' => W'.heap[w.heap.size]? = some (.cells #[.int .i64 0, .int .i64 p, .int .i64 0, .int .i64 0, .slice none 0 0, .slice none 0 0] 25) ∧ Below w.heap.size w W') (Q := fun W' => bodyPost Tryd.prog _ _ _ _ W') ⟨?_, ?_⟩ ?_
  · exact heap_setCell_self (heap_setCell_self (heap_setCell_self (heap_setCell_self (heap_setCell_self (heap_setCell_self hB9 0 _) 1 _) 2 _) 3 _) 4 _) 5 _
  · exact g_st (g_st (g_st (g_st (g_st (g_st hb3 (by omega) _ _) (by omega) _ _) (by omega) _ _) (by omega) _ _) (by omega) _ _) (by omega) _ _
  rintro W ⟨hW, hbW⟩
  have hcW := block_cell hW
  refine bodyPost_ret (v := .tuple #[.agg #[.int .i64 0, .int .i64 p, .int .i64 0, .int .i64 0, .slice none 0 0, .slice none 0 0], .int .i64 0]) ?_ rfl ⟨rfl, hbW⟩
  rw [results_cell_tmp (show Tryd.f11.results = _ from rfl)]
  go_simp
  (try rfl)
end Go.Proofs.YthjlpcecfkboiabDoor
