/-
  One more capture stands right within a member of the stack; the deferred closure that turns a panic into an error.
-/
import Derived.Test.YtebebognifiinaaNote
import Derived.Test.YtebebognifiinaaBookCaps
import Derived.Defers
import Derived.Recover
namespace Go.Proofs.Ytebebognifiinaa
open Go.RowKit
set_option linter.unusedVariables false
set_option linter.unusedSimpArgs false

theorem rootWithin_any (w : World) : Calls Try.prog 75 #[.agg #[]] w fun e w' => e = .returned (.tuple #[]) ∧ Below w.heap.size w w' := by
  have hB := (Below.refl w.heap.size w).alloc (Nat.le_refl _) (.cells #[] 70)
  go_enter Try.func75, Try.ntmps75
  go_wp2_with (fail)
  exact bodyPost_end (v := .tuple #[]) (by simp [results, Try.results75]) rfl ⟨rfl, hB⟩


set_option maxHeartbeats 8000000 in
set_option maxRecDepth 100000 in
theorem openWithin_any (bo g n cap k base : Nat) (kids : Int) (xs : List Value) (w : World) (hb : w.heap[bo]? = some (.cells #[.slice (some ⟨g, 0, none⟩) n cap] 24)) (hbase : base ≤ w.heap.size)
    (hown : w.ownsRow base 39 6 (.slice (some ⟨g, 0, none⟩) n cap) n xs) (hk : k < n) (hx : xs[k * 6 + 3]? = some (.int .i64 kids)) (hn : n ≤ 4611686018427387904) (hw : IntKind.i64.wrap (kids + 1) = kids + 1) (hne : bo ≠ g) :
    Calls Try.prog 76 #[.agg #[.pointer (some ⟨bo, 0, none⟩), .int .i64 k]] w fun e w' => e = .returned (.tuple #[]) ∧
      w'.ownsRow base 39 6 (.slice (some ⟨g, 0, none⟩) n cap) n (xs.set (k * 6 + 3) (.int .i64 (kids + 1))) ∧ w'.heap[bo]? = some (.cells #[.slice (some ⟨g, 0, none⟩) n cap] 24) ∧ w.grownBy w' (some g) := by
  have ha := alloc_new w (.cells #[.pointer (some ⟨bo, 0, none⟩), .int .i64 k] 77)
  have hb1 := alloc_old (y := .cells #[.pointer (some ⟨bo, 0, none⟩), .int .i64 k] 77) hb
  have hown1 := hown.alloc (.cells #[.pointer (some ⟨bo, 0, none⟩), .int .i64 k] 77)
  have hc3 := (hown1.cellAt (k * 6 + 3) (by omega)).trans hx; have hf3 := hown1.frozenAt (k * 6 + 3)
  have hcb := block_cell hb1 0
  obtain ⟨hs, hg⟩ := hown1.stored (k * 6 + 3) (.int .i64 (kids + 1))
  have i1 : (0 : Int) ≤ (k : Int) := by omega
  have i2 : (k : Int) < (n : Int) := by omega
  have hbo := block_lt hb
  have hgb : w.grownBy (w.alloc (.cells #[.pointer (some ⟨bo, 0, none⟩), .int .i64 k] 77)) (some g) := grown_alloc _ _ _
  go_enter Try.func76, Try.ntmps76
  go_wp2_with (fail)
  go_region
  all_goals go_wp2_with (fail)
  have hgz := grown_trans hgb hg
  refine bodyPost_end (v := .tuple #[]) (by simp [results, Try.results76]) rfl ⟨rfl, hs, ?_, ⟨hgz.os, hgz.tape, hgz.output, hgz.size, hgz.block⟩⟩
  exact (heap_setCell_ne _ _ _ hne).trans hb1


theorem catch_panicking (p q : Addr) (x y : Value) (u : TypeId) (pv : Value) (older : List PanicEntry) (w : World) (hp : w.cell? p = some x) (hpz : w.frozen? p = false) (hq : w.cell? q = some y) (hqz : w.frozen? q = false) (hpq : p ≠ q) :
    CallsD Try.prog 30 #[.pointer (some p), .pointer (some q)] (.panicking ({ v := .iface u pv, recovered := false } :: older)) w fun e u' w' =>
      e = .returned (.tuple #[]) ∧ u' = .panicking ({ v := .iface u pv, recovered := true } :: older) ∧ w' = (w.setCell p (.slice none 0 0)).setCell q (.int .i64 230) := by
  refine callsD_of_wpS Try.func30 rfl fun c₀ cs hu => ?_
  apply wpS_seq
  apply wpS_region
  simp [wpOpsS, go_sem, recoverD, hu, Try.ntmps30, Exit.thenS]
  apply wpS_seq
  apply wpS_region
  simp [wpOpsS, go_sem, Exit.thenS, Array.replicate]
  refine wpS_cond (t := true) (by simp [Act.eval]) ?_
  simp only [if_true]
  have hq2 : (w.setCell p (.slice none 0 0)).cell? q = some y := by simp [go_sem, hq, hpq, Ne.symm hpq]
  have hqz2 : (w.setCell p (.slice none 0 0)).frozen? q = false := by simp [go_sem, hqz]
  apply wpS_region
  simp [wpOpsS, go_sem, hp, hpz, hq2, hqz2, bodyPostS, results, Try.results30]

theorem catch_idle (p q : Addr) (w : World) :
    CallsD Try.prog 30 #[.pointer (some p), .pointer (some q)] .returning w fun e u' w' => e = .returned (.tuple #[]) ∧ u' = .returning ∧ w' = w := by
  refine callsD_of_wpS Try.func30 rfl fun c₀ cs hu => ?_
  apply wpS_seq
  apply wpS_region
  simp [wpOpsS, go_sem, recoverD, hu, Try.ntmps30, Exit.thenS]
  apply wpS_seq
  apply wpS_region
  simp [wpOpsS, go_sem, Exit.thenS, Array.replicate]
  refine wpS_cond (t := false) (by simp [Act.eval]) ?_
  simp only [Bool.false_eq_true, if_false]
  refine wpS_of_wp (wp_skip ?_)
  cases c₀
  simp_all [bodyPostS, results, Try.results30]


end Go.Proofs.Ytebebognifiinaa
