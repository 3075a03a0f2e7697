/-
  Instructions' fields: the table of uses, has, plain.
-/
import Derived.Test.YthjlpcecfkboiabDoorProg
import Derived.Test.YthjlpcecfkboiabDoorRunP
import Derived.WalkKit
import Derived.BigQuiet
namespace Go.Proofs.YthjlpcecfkboiabDoor
open Go.RowKit
set_option linter.unusedVariables false
set_option linter.unusedSimpArgs false
def usesTab : List Int := [0, 64, 66, 80, 97, 99, 113, 80, 97, 33, 33, 33, 0, 0, 33, 97, 0, 0, 78, 64, 79]
/-- The table of uses lies as it was laid. -/
def UsesOk (w : World) : Prop := 0 < w.heap.size ∧ ∀ r, r < 21 → w.cell? ⟨0, r, none⟩ = some (.int .i64 (usesTab.getD r 0))
theorem UsesOk.below {w w' : World} (h : UsesOk w) (hb : Below w.heap.size w w') : UsesOk w' := ⟨Nat.lt_of_lt_of_le h.1 hb.size, fun r hr => (hb.cell (p := ⟨0, r, none⟩) h.1).trans (h.2 r hr)⟩
def hasM (op bit : Int) : Bool := !(bits .and .i64 (usesTab.getD op.toNat 0) bit == 0)
set_option maxHeartbeats 8000000 in
set_option maxRecDepth 20000 in
theorem has_any (op bit : Int) (h0 : 0 ≤ op) (h1 : op ≤ 20) (w : World) (hT : UsesOk w) :
    Calls Tryd.prog 29 #[.int .i64 op, .int .i64 bit] w fun e w' => e = .returned (.bool (hasM op bit)) ∧ w' = w := by
  obtain ⟨k, rfl⟩ := Int.eq_ofNat_of_zero_le h0
  have hc := hT.2 k (by omega)
  have hk : (k : Int) < 21 := by omega
  unfold hasM
  rw [Int.toNat_natCast]
  generalize usesTab.getD k 0 = u at *
  clear hT h0 h1
  go_enter Tryd.func29, Tryd.ntmps29
  go_wp2_with (fail)
  go_ret
  exact ⟨rfl, rfl⟩
def plainM (i : Ins) : Ins := ⟨i.op, if hasM i.op 1 then i.a else 0, if hasM i.op 2 then i.b else 0, if hasM i.op 4 then i.n else 0, if hasM i.op 8 then i.text else ⟨#[]⟩, if hasM i.op 16 then i.s0 else 0, if hasM i.op 16 then i.s1 else 0, if hasM i.op 16 then i.s2 else 0, if hasM i.op 16 then i.s3 else 0⟩
theorem UsesOk.alloc {w : World} (h : UsesOk w) (x : Obj) : UsesOk (w.alloc x) := h.below ((Below.refl _ _).alloc (Nat.le_refl _) x)
theorem UsesOk.set {w : World} (h : UsesOk w) {b : Nat} (hb : 0 ≠ b) (o : Nat) (v : Value) : UsesOk (w.setCell ⟨b, o, none⟩ v) := by
  refine ⟨by simp only [World.setCell, Array.size_modify]; exact h.1, fun r hr => ?_⟩
  rw [← h.2 r hr]
  have hg := heap_setCell_ne (w := w) (b := b) o 0 v hb
  simp only [World.cell?, hg]

theorem below_al {a w : World} (h : Below a.heap.size a w) (x : Obj) : Below a.heap.size a (w.alloc x) := h.alloc h.size x
theorem below_st {a w : World} (h : Below a.heap.size a w) {b : Nat} (hb : a.heap.size ≤ b) (o : Nat) (v : Value) : Below a.heap.size a (w.setCell ⟨b, o, none⟩ v) := Below.setCell (p := ⟨b, o, none⟩) h hb v
set_option maxHeartbeats 8000000 in
set_option maxRecDepth 20000 in
theorem plain_00000 (op a b n : Int) (tx : ByteArray) (s0 s1 s2 s3 : Int) (h0 : 0 ≤ op) (h1 : op ≤ 20) (w : World) (hT : UsesOk w) (e1 : hasM op 1 = false) (e2 : hasM op 2 = false) (e4 : hasM op 4 = false) (e8 : hasM op 8 = false) (e16 : hasM op 16 = false) :
    Calls Tryd.prog 50 #[insA ⟨op, a, b, n, tx, s0, s1, s2, s3⟩] w fun e w' => e = .returned (insA ⟨op, 0, 0, 0, ⟨#[]⟩, 0, 0, 0, 0⟩) ∧ Below w.heap.size w w' := by
  have H1 := fun w2 (h : UsesOk w2) => has_any op 1 h0 h1 w2 h
  rw [e1] at H1
  have H2 := fun w2 (h : UsesOk w2) => has_any op 2 h0 h1 w2 h
  rw [e2] at H2
  have H4 := fun w2 (h : UsesOk w2) => has_any op 4 h0 h1 w2 h
  rw [e4] at H4
  have H8 := fun w2 (h : UsesOk w2) => has_any op 8 h0 h1 w2 h
  rw [e8] at H8
  have H16 := fun w2 (h : UsesOk w2) => has_any op 16 h0 h1 w2 h
  rw [e16] at H16
  have hlt := hT.1
  unfold insA
  go_enter Tryd.func50, Tryd.ntmps50
  go_wp2_with (fail)
  with_reducible refine Calls.mono (H1 _ ?_) ?_
  · repeat (first | exact hT | refine UsesOk.alloc ?_ _ | refine UsesOk.set ?_ (by omega) _ _)
  rintro e w' ⟨rfl, rfl⟩
  go_wp2_with (fail)
  with_reducible refine Calls.mono (H2 _ ?_) ?_
  · repeat (first | exact hT | refine UsesOk.alloc ?_ _ | refine UsesOk.set ?_ (by omega) _ _)
  rintro e w' ⟨rfl, rfl⟩
  go_wp2_with (fail)
  with_reducible refine Calls.mono (H4 _ ?_) ?_
  · repeat (first | exact hT | refine UsesOk.alloc ?_ _ | refine UsesOk.set ?_ (by omega) _ _)
  rintro e w' ⟨rfl, rfl⟩
  go_wp2_with (fail)
  with_reducible refine Calls.mono (H8 _ ?_) ?_
  · repeat (first | exact hT | refine UsesOk.alloc ?_ _ | refine UsesOk.set ?_ (by omega) _ _)
  rintro e w' ⟨rfl, rfl⟩
  go_wp2_with (fail)
  with_reducible refine Calls.mono (H16 _ ?_) ?_
  · repeat (first | exact hT | refine UsesOk.alloc ?_ _ | refine UsesOk.set ?_ (by omega) _ _)
  rintro e w' ⟨rfl, rfl⟩
  go_wp2_with (fail)
  (try simp only [Exit.inBlock, Exit.then])
  refine bodyPost_ret (v := insA ⟨op, 0, 0, 0, ⟨#[]⟩, 0, 0, 0, 0⟩) ?_ rfl ⟨rfl, ?_⟩
  · simp [results, Tryd.results50, go_sem, insA]
  · repeat (first | exact Below.refl _ _ | refine below_al ?_ _ | refine below_st ?_ (by omega) _ _)
set_option maxHeartbeats 8000000 in
set_option maxRecDepth 20000 in
theorem plain_01000 (op a b n : Int) (tx : ByteArray) (s0 s1 s2 s3 : Int) (h0 : 0 ≤ op) (h1 : op ≤ 20) (w : World) (hT : UsesOk w) (e1 : hasM op 1 = false) (e2 : hasM op 2 = true) (e4 : hasM op 4 = false) (e8 : hasM op 8 = false) (e16 : hasM op 16 = false) :
    Calls Tryd.prog 50 #[insA ⟨op, a, b, n, tx, s0, s1, s2, s3⟩] w fun e w' => e = .returned (insA ⟨op, 0, b, 0, ⟨#[]⟩, 0, 0, 0, 0⟩) ∧ Below w.heap.size w w' := by
  have H1 := fun w2 (h : UsesOk w2) => has_any op 1 h0 h1 w2 h
  rw [e1] at H1
  have H2 := fun w2 (h : UsesOk w2) => has_any op 2 h0 h1 w2 h
  rw [e2] at H2
  have H4 := fun w2 (h : UsesOk w2) => has_any op 4 h0 h1 w2 h
  rw [e4] at H4
  have H8 := fun w2 (h : UsesOk w2) => has_any op 8 h0 h1 w2 h
  rw [e8] at H8
  have H16 := fun w2 (h : UsesOk w2) => has_any op 16 h0 h1 w2 h
  rw [e16] at H16
  have hlt := hT.1
  unfold insA
  go_enter Tryd.func50, Tryd.ntmps50
  go_wp2_with (fail)
  with_reducible refine Calls.mono (H1 _ ?_) ?_
  · repeat (first | exact hT | refine UsesOk.alloc ?_ _ | refine UsesOk.set ?_ (by omega) _ _)
  rintro e w' ⟨rfl, rfl⟩
  go_wp2_with (fail)
  with_reducible refine Calls.mono (H2 _ ?_) ?_
  · repeat (first | exact hT | refine UsesOk.alloc ?_ _ | refine UsesOk.set ?_ (by omega) _ _)
  rintro e w' ⟨rfl, rfl⟩
  go_wp2_with (fail)
  with_reducible refine Calls.mono (H4 _ ?_) ?_
  · repeat (first | exact hT | refine UsesOk.alloc ?_ _ | refine UsesOk.set ?_ (by omega) _ _)
  rintro e w' ⟨rfl, rfl⟩
  go_wp2_with (fail)
  with_reducible refine Calls.mono (H8 _ ?_) ?_
  · repeat (first | exact hT | refine UsesOk.alloc ?_ _ | refine UsesOk.set ?_ (by omega) _ _)
  rintro e w' ⟨rfl, rfl⟩
  go_wp2_with (fail)
  with_reducible refine Calls.mono (H16 _ ?_) ?_
  · repeat (first | exact hT | refine UsesOk.alloc ?_ _ | refine UsesOk.set ?_ (by omega) _ _)
  rintro e w' ⟨rfl, rfl⟩
  go_wp2_with (fail)
  (try simp only [Exit.inBlock, Exit.then])
  refine bodyPost_ret (v := insA ⟨op, 0, b, 0, ⟨#[]⟩, 0, 0, 0, 0⟩) ?_ rfl ⟨rfl, ?_⟩
  · simp [results, Tryd.results50, go_sem, insA]
  · repeat (first | exact Below.refl _ _ | refine below_al ?_ _ | refine below_st ?_ (by omega) _ _)
set_option maxHeartbeats 8000000 in
set_option maxRecDepth 20000 in
theorem plain_00001 (op a b n : Int) (tx : ByteArray) (s0 s1 s2 s3 : Int) (h0 : 0 ≤ op) (h1 : op ≤ 20) (w : World) (hT : UsesOk w) (e1 : hasM op 1 = false) (e2 : hasM op 2 = false) (e4 : hasM op 4 = false) (e8 : hasM op 8 = false) (e16 : hasM op 16 = true) :
    Calls Tryd.prog 50 #[insA ⟨op, a, b, n, tx, s0, s1, s2, s3⟩] w fun e w' => e = .returned (insA ⟨op, 0, 0, 0, ⟨#[]⟩, s0, s1, s2, s3⟩) ∧ Below w.heap.size w w' := by
  have H1 := fun w2 (h : UsesOk w2) => has_any op 1 h0 h1 w2 h
  rw [e1] at H1
  have H2 := fun w2 (h : UsesOk w2) => has_any op 2 h0 h1 w2 h
  rw [e2] at H2
  have H4 := fun w2 (h : UsesOk w2) => has_any op 4 h0 h1 w2 h
  rw [e4] at H4
  have H8 := fun w2 (h : UsesOk w2) => has_any op 8 h0 h1 w2 h
  rw [e8] at H8
  have H16 := fun w2 (h : UsesOk w2) => has_any op 16 h0 h1 w2 h
  rw [e16] at H16
  have hlt := hT.1
  unfold insA
  go_enter Tryd.func50, Tryd.ntmps50
  go_wp2_with (fail)
  with_reducible refine Calls.mono (H1 _ ?_) ?_
  · repeat (first | exact hT | refine UsesOk.alloc ?_ _ | refine UsesOk.set ?_ (by omega) _ _)
  rintro e w' ⟨rfl, rfl⟩
  go_wp2_with (fail)
  with_reducible refine Calls.mono (H2 _ ?_) ?_
  · repeat (first | exact hT | refine UsesOk.alloc ?_ _ | refine UsesOk.set ?_ (by omega) _ _)
  rintro e w' ⟨rfl, rfl⟩
  go_wp2_with (fail)
  with_reducible refine Calls.mono (H4 _ ?_) ?_
  · repeat (first | exact hT | refine UsesOk.alloc ?_ _ | refine UsesOk.set ?_ (by omega) _ _)
  rintro e w' ⟨rfl, rfl⟩
  go_wp2_with (fail)
  with_reducible refine Calls.mono (H8 _ ?_) ?_
  · repeat (first | exact hT | refine UsesOk.alloc ?_ _ | refine UsesOk.set ?_ (by omega) _ _)
  rintro e w' ⟨rfl, rfl⟩
  go_wp2_with (fail)
  with_reducible refine Calls.mono (H16 _ ?_) ?_
  · repeat (first | exact hT | refine UsesOk.alloc ?_ _ | refine UsesOk.set ?_ (by omega) _ _)
  rintro e w' ⟨rfl, rfl⟩
  go_wp2_with (fail)
  (try simp only [Exit.inBlock, Exit.then])
  refine bodyPost_ret (v := insA ⟨op, 0, 0, 0, ⟨#[]⟩, s0, s1, s2, s3⟩) ?_ rfl ⟨rfl, ?_⟩
  · simp [results, Tryd.results50, go_sem, insA]
  · repeat (first | exact Below.refl _ _ | refine below_al ?_ _ | refine below_st ?_ (by omega) _ _)
set_option maxHeartbeats 8000000 in
set_option maxRecDepth 20000 in
theorem plain_10000 (op a b n : Int) (tx : ByteArray) (s0 s1 s2 s3 : Int) (h0 : 0 ≤ op) (h1 : op ≤ 20) (w : World) (hT : UsesOk w) (e1 : hasM op 1 = true) (e2 : hasM op 2 = false) (e4 : hasM op 4 = false) (e8 : hasM op 8 = false) (e16 : hasM op 16 = false) :
    Calls Tryd.prog 50 #[insA ⟨op, a, b, n, tx, s0, s1, s2, s3⟩] w fun e w' => e = .returned (insA ⟨op, a, 0, 0, ⟨#[]⟩, 0, 0, 0, 0⟩) ∧ Below w.heap.size w w' := by
  have H1 := fun w2 (h : UsesOk w2) => has_any op 1 h0 h1 w2 h
  rw [e1] at H1
  have H2 := fun w2 (h : UsesOk w2) => has_any op 2 h0 h1 w2 h
  rw [e2] at H2
  have H4 := fun w2 (h : UsesOk w2) => has_any op 4 h0 h1 w2 h
  rw [e4] at H4
  have H8 := fun w2 (h : UsesOk w2) => has_any op 8 h0 h1 w2 h
  rw [e8] at H8
  have H16 := fun w2 (h : UsesOk w2) => has_any op 16 h0 h1 w2 h
  rw [e16] at H16
  have hlt := hT.1
  unfold insA
  go_enter Tryd.func50, Tryd.ntmps50
  go_wp2_with (fail)
  with_reducible refine Calls.mono (H1 _ ?_) ?_
  · repeat (first | exact hT | refine UsesOk.alloc ?_ _ | refine UsesOk.set ?_ (by omega) _ _)
  rintro e w' ⟨rfl, rfl⟩
  go_wp2_with (fail)
  with_reducible refine Calls.mono (H2 _ ?_) ?_
  · repeat (first | exact hT | refine UsesOk.alloc ?_ _ | refine UsesOk.set ?_ (by omega) _ _)
  rintro e w' ⟨rfl, rfl⟩
  go_wp2_with (fail)
  with_reducible refine Calls.mono (H4 _ ?_) ?_
  · repeat (first | exact hT | refine UsesOk.alloc ?_ _ | refine UsesOk.set ?_ (by omega) _ _)
  rintro e w' ⟨rfl, rfl⟩
  go_wp2_with (fail)
  with_reducible refine Calls.mono (H8 _ ?_) ?_
  · repeat (first | exact hT | refine UsesOk.alloc ?_ _ | refine UsesOk.set ?_ (by omega) _ _)
  rintro e w' ⟨rfl, rfl⟩
  go_wp2_with (fail)
  with_reducible refine Calls.mono (H16 _ ?_) ?_
  · repeat (first | exact hT | refine UsesOk.alloc ?_ _ | refine UsesOk.set ?_ (by omega) _ _)
  rintro e w' ⟨rfl, rfl⟩
  go_wp2_with (fail)
  (try simp only [Exit.inBlock, Exit.then])
  refine bodyPost_ret (v := insA ⟨op, a, 0, 0, ⟨#[]⟩, 0, 0, 0, 0⟩) ?_ rfl ⟨rfl, ?_⟩
  · simp [results, Tryd.results50, go_sem, insA]
  · repeat (first | exact Below.refl _ _ | refine below_al ?_ _ | refine below_st ?_ (by omega) _ _)
set_option maxHeartbeats 8000000 in
set_option maxRecDepth 20000 in
theorem plain_11000 (op a b n : Int) (tx : ByteArray) (s0 s1 s2 s3 : Int) (h0 : 0 ≤ op) (h1 : op ≤ 20) (w : World) (hT : UsesOk w) (e1 : hasM op 1 = true) (e2 : hasM op 2 = true) (e4 : hasM op 4 = false) (e8 : hasM op 8 = false) (e16 : hasM op 16 = false) :
    Calls Tryd.prog 50 #[insA ⟨op, a, b, n, tx, s0, s1, s2, s3⟩] w fun e w' => e = .returned (insA ⟨op, a, b, 0, ⟨#[]⟩, 0, 0, 0, 0⟩) ∧ Below w.heap.size w w' := by
  have H1 := fun w2 (h : UsesOk w2) => has_any op 1 h0 h1 w2 h
  rw [e1] at H1
  have H2 := fun w2 (h : UsesOk w2) => has_any op 2 h0 h1 w2 h
  rw [e2] at H2
  have H4 := fun w2 (h : UsesOk w2) => has_any op 4 h0 h1 w2 h
  rw [e4] at H4
  have H8 := fun w2 (h : UsesOk w2) => has_any op 8 h0 h1 w2 h
  rw [e8] at H8
  have H16 := fun w2 (h : UsesOk w2) => has_any op 16 h0 h1 w2 h
  rw [e16] at H16
  have hlt := hT.1
  unfold insA
  go_enter Tryd.func50, Tryd.ntmps50
  go_wp2_with (fail)
  with_reducible refine Calls.mono (H1 _ ?_) ?_
  · repeat (first | exact hT | refine UsesOk.alloc ?_ _ | refine UsesOk.set ?_ (by omega) _ _)
  rintro e w' ⟨rfl, rfl⟩
  go_wp2_with (fail)
  with_reducible refine Calls.mono (H2 _ ?_) ?_
  · repeat (first | exact hT | refine UsesOk.alloc ?_ _ | refine UsesOk.set ?_ (by omega) _ _)
  rintro e w' ⟨rfl, rfl⟩
  go_wp2_with (fail)
  with_reducible refine Calls.mono (H4 _ ?_) ?_
  · repeat (first | exact hT | refine UsesOk.alloc ?_ _ | refine UsesOk.set ?_ (by omega) _ _)
  rintro e w' ⟨rfl, rfl⟩
  go_wp2_with (fail)
  with_reducible refine Calls.mono (H8 _ ?_) ?_
  · repeat (first | exact hT | refine UsesOk.alloc ?_ _ | refine UsesOk.set ?_ (by omega) _ _)
  rintro e w' ⟨rfl, rfl⟩
  go_wp2_with (fail)
  with_reducible refine Calls.mono (H16 _ ?_) ?_
  · repeat (first | exact hT | refine UsesOk.alloc ?_ _ | refine UsesOk.set ?_ (by omega) _ _)
  rintro e w' ⟨rfl, rfl⟩
  go_wp2_with (fail)
  (try simp only [Exit.inBlock, Exit.then])
  refine bodyPost_ret (v := insA ⟨op, a, b, 0, ⟨#[]⟩, 0, 0, 0, 0⟩) ?_ rfl ⟨rfl, ?_⟩
  · simp [results, Tryd.results50, go_sem, insA]
  · repeat (first | exact Below.refl _ _ | refine below_al ?_ _ | refine below_st ?_ (by omega) _ _)
set_option maxHeartbeats 8000000 in
set_option maxRecDepth 20000 in
theorem plain_10001 (op a b n : Int) (tx : ByteArray) (s0 s1 s2 s3 : Int) (h0 : 0 ≤ op) (h1 : op ≤ 20) (w : World) (hT : UsesOk w) (e1 : hasM op 1 = true) (e2 : hasM op 2 = false) (e4 : hasM op 4 = false) (e8 : hasM op 8 = false) (e16 : hasM op 16 = true) :
    Calls Tryd.prog 50 #[insA ⟨op, a, b, n, tx, s0, s1, s2, s3⟩] w fun e w' => e = .returned (insA ⟨op, a, 0, 0, ⟨#[]⟩, s0, s1, s2, s3⟩) ∧ Below w.heap.size w w' := by
  have H1 := fun w2 (h : UsesOk w2) => has_any op 1 h0 h1 w2 h
  rw [e1] at H1
  have H2 := fun w2 (h : UsesOk w2) => has_any op 2 h0 h1 w2 h
  rw [e2] at H2
  have H4 := fun w2 (h : UsesOk w2) => has_any op 4 h0 h1 w2 h
  rw [e4] at H4
  have H8 := fun w2 (h : UsesOk w2) => has_any op 8 h0 h1 w2 h
  rw [e8] at H8
  have H16 := fun w2 (h : UsesOk w2) => has_any op 16 h0 h1 w2 h
  rw [e16] at H16
  have hlt := hT.1
  unfold insA
  go_enter Tryd.func50, Tryd.ntmps50
  go_wp2_with (fail)
  with_reducible refine Calls.mono (H1 _ ?_) ?_
  · repeat (first | exact hT | refine UsesOk.alloc ?_ _ | refine UsesOk.set ?_ (by omega) _ _)
  rintro e w' ⟨rfl, rfl⟩
  go_wp2_with (fail)
  with_reducible refine Calls.mono (H2 _ ?_) ?_
  · repeat (first | exact hT | refine UsesOk.alloc ?_ _ | refine UsesOk.set ?_ (by omega) _ _)
  rintro e w' ⟨rfl, rfl⟩
  go_wp2_with (fail)
  with_reducible refine Calls.mono (H4 _ ?_) ?_
  · repeat (first | exact hT | refine UsesOk.alloc ?_ _ | refine UsesOk.set ?_ (by omega) _ _)
  rintro e w' ⟨rfl, rfl⟩
  go_wp2_with (fail)
  with_reducible refine Calls.mono (H8 _ ?_) ?_
  · repeat (first | exact hT | refine UsesOk.alloc ?_ _ | refine UsesOk.set ?_ (by omega) _ _)
  rintro e w' ⟨rfl, rfl⟩
  go_wp2_with (fail)
  with_reducible refine Calls.mono (H16 _ ?_) ?_
  · repeat (first | exact hT | refine UsesOk.alloc ?_ _ | refine UsesOk.set ?_ (by omega) _ _)
  rintro e w' ⟨rfl, rfl⟩
  go_wp2_with (fail)
  (try simp only [Exit.inBlock, Exit.then])
  refine bodyPost_ret (v := insA ⟨op, a, 0, 0, ⟨#[]⟩, s0, s1, s2, s3⟩) ?_ rfl ⟨rfl, ?_⟩
  · simp [results, Tryd.results50, go_sem, insA]
  · repeat (first | exact Below.refl _ _ | refine below_al ?_ _ | refine below_st ?_ (by omega) _ _)
set_option maxHeartbeats 8000000 in
set_option maxRecDepth 20000 in
theorem plain_01110 (op a b n : Int) (tx : ByteArray) (s0 s1 s2 s3 : Int) (h0 : 0 ≤ op) (h1 : op ≤ 20) (w : World) (hT : UsesOk w) (e1 : hasM op 1 = false) (e2 : hasM op 2 = true) (e4 : hasM op 4 = true) (e8 : hasM op 8 = true) (e16 : hasM op 16 = false) :
    Calls Tryd.prog 50 #[insA ⟨op, a, b, n, tx, s0, s1, s2, s3⟩] w fun e w' => e = .returned (insA ⟨op, 0, b, n, tx, 0, 0, 0, 0⟩) ∧ Below w.heap.size w w' := by
  have H1 := fun w2 (h : UsesOk w2) => has_any op 1 h0 h1 w2 h
  rw [e1] at H1
  have H2 := fun w2 (h : UsesOk w2) => has_any op 2 h0 h1 w2 h
  rw [e2] at H2
  have H4 := fun w2 (h : UsesOk w2) => has_any op 4 h0 h1 w2 h
  rw [e4] at H4
  have H8 := fun w2 (h : UsesOk w2) => has_any op 8 h0 h1 w2 h
  rw [e8] at H8
  have H16 := fun w2 (h : UsesOk w2) => has_any op 16 h0 h1 w2 h
  rw [e16] at H16
  have hlt := hT.1
  unfold insA
  go_enter Tryd.func50, Tryd.ntmps50
  go_wp2_with (fail)
  with_reducible refine Calls.mono (H1 _ ?_) ?_
  · repeat (first | exact hT | refine UsesOk.alloc ?_ _ | refine UsesOk.set ?_ (by omega) _ _)
  rintro e w' ⟨rfl, rfl⟩
  go_wp2_with (fail)
  with_reducible refine Calls.mono (H2 _ ?_) ?_
  · repeat (first | exact hT | refine UsesOk.alloc ?_ _ | refine UsesOk.set ?_ (by omega) _ _)
  rintro e w' ⟨rfl, rfl⟩
  go_wp2_with (fail)
  with_reducible refine Calls.mono (H4 _ ?_) ?_
  · repeat (first | exact hT | refine UsesOk.alloc ?_ _ | refine UsesOk.set ?_ (by omega) _ _)
  rintro e w' ⟨rfl, rfl⟩
  go_wp2_with (fail)
  with_reducible refine Calls.mono (H8 _ ?_) ?_
  · repeat (first | exact hT | refine UsesOk.alloc ?_ _ | refine UsesOk.set ?_ (by omega) _ _)
  rintro e w' ⟨rfl, rfl⟩
  go_wp2_with (fail)
  with_reducible refine Calls.mono (H16 _ ?_) ?_
  · repeat (first | exact hT | refine UsesOk.alloc ?_ _ | refine UsesOk.set ?_ (by omega) _ _)
  rintro e w' ⟨rfl, rfl⟩
  go_wp2_with (fail)
  (try simp only [Exit.inBlock, Exit.then])
  refine bodyPost_ret (v := insA ⟨op, 0, b, n, tx, 0, 0, 0, 0⟩) ?_ rfl ⟨rfl, ?_⟩
  · simp [results, Tryd.results50, go_sem, insA]
  · repeat (first | exact Below.refl _ _ | refine below_al ?_ _ | refine below_st ?_ (by omega) _ _)
set_option maxHeartbeats 8000000 in
set_option maxRecDepth 20000 in
theorem plain_11110 (op a b n : Int) (tx : ByteArray) (s0 s1 s2 s3 : Int) (h0 : 0 ≤ op) (h1 : op ≤ 20) (w : World) (hT : UsesOk w) (e1 : hasM op 1 = true) (e2 : hasM op 2 = true) (e4 : hasM op 4 = true) (e8 : hasM op 8 = true) (e16 : hasM op 16 = false) :
    Calls Tryd.prog 50 #[insA ⟨op, a, b, n, tx, s0, s1, s2, s3⟩] w fun e w' => e = .returned (insA ⟨op, a, b, n, tx, 0, 0, 0, 0⟩) ∧ Below w.heap.size w w' := by
  have H1 := fun w2 (h : UsesOk w2) => has_any op 1 h0 h1 w2 h
  rw [e1] at H1
  have H2 := fun w2 (h : UsesOk w2) => has_any op 2 h0 h1 w2 h
  rw [e2] at H2
  have H4 := fun w2 (h : UsesOk w2) => has_any op 4 h0 h1 w2 h
  rw [e4] at H4
  have H8 := fun w2 (h : UsesOk w2) => has_any op 8 h0 h1 w2 h
  rw [e8] at H8
  have H16 := fun w2 (h : UsesOk w2) => has_any op 16 h0 h1 w2 h
  rw [e16] at H16
  have hlt := hT.1
  unfold insA
  go_enter Tryd.func50, Tryd.ntmps50
  go_wp2_with (fail)
  with_reducible refine Calls.mono (H1 _ ?_) ?_
  · repeat (first | exact hT | refine UsesOk.alloc ?_ _ | refine UsesOk.set ?_ (by omega) _ _)
  rintro e w' ⟨rfl, rfl⟩
  go_wp2_with (fail)
  with_reducible refine Calls.mono (H2 _ ?_) ?_
  · repeat (first | exact hT | refine UsesOk.alloc ?_ _ | refine UsesOk.set ?_ (by omega) _ _)
  rintro e w' ⟨rfl, rfl⟩
  go_wp2_with (fail)
  with_reducible refine Calls.mono (H4 _ ?_) ?_
  · repeat (first | exact hT | refine UsesOk.alloc ?_ _ | refine UsesOk.set ?_ (by omega) _ _)
  rintro e w' ⟨rfl, rfl⟩
  go_wp2_with (fail)
  with_reducible refine Calls.mono (H8 _ ?_) ?_
  · repeat (first | exact hT | refine UsesOk.alloc ?_ _ | refine UsesOk.set ?_ (by omega) _ _)
  rintro e w' ⟨rfl, rfl⟩
  go_wp2_with (fail)
  with_reducible refine Calls.mono (H16 _ ?_) ?_
  · repeat (first | exact hT | refine UsesOk.alloc ?_ _ | refine UsesOk.set ?_ (by omega) _ _)
  rintro e w' ⟨rfl, rfl⟩
  go_wp2_with (fail)
  (try simp only [Exit.inBlock, Exit.then])
  refine bodyPost_ret (v := insA ⟨op, a, b, n, tx, 0, 0, 0, 0⟩) ?_ rfl ⟨rfl, ?_⟩
  · simp [results, Tryd.results50, go_sem, insA]
  · repeat (first | exact Below.refl _ _ | refine below_al ?_ _ | refine below_st ?_ (by omega) _ _)
/-- Which fields each kind has. -/
theorem plain_any (i : Ins) (h0 : 1 ≤ i.op) (h1 : i.op ≤ 20) (w : World) (hT : UsesOk w) :
    Calls Tryd.prog 50 #[insA i] w fun e w' => e = .returned (insA (plainM i)) ∧ Below w.heap.size w w' := by
  obtain ⟨op, a, b, n, tx, s0, s1, s2, s3⟩ := i
  simp only at h0 h1
  obtain ⟨k, rfl⟩ := Int.eq_ofNat_of_zero_le (show 0 ≤ op by omega)
  have hk : k = 1 ∨ k = 2 ∨ k = 3 ∨ k = 4 ∨ k = 5 ∨ k = 6 ∨ k = 7 ∨ k = 8 ∨ k = 9 ∨ k = 10 ∨ k = 11 ∨ k = 12 ∨ k = 13 ∨ k = 14 ∨ k = 15 ∨ k = 16 ∨ k = 17 ∨ k = 18 ∨ k = 19 ∨ k = 20 := by omega
  rcases hk with rfl | rfl | rfl | rfl | rfl | rfl | rfl | rfl | rfl | rfl | rfl | rfl | rfl | rfl | rfl | rfl | rfl | rfl | rfl | rfl
  · have e1 : hasM ((1 : Nat) : Int) 1 = false := by decide +kernel
    have e2 : hasM ((1 : Nat) : Int) 2 = false := by decide +kernel
    have e4 : hasM ((1 : Nat) : Int) 4 = false := by decide +kernel
    have e8 : hasM ((1 : Nat) : Int) 8 = false := by decide +kernel
    have e16 : hasM ((1 : Nat) : Int) 16 = false := by decide +kernel
    simp only [plainM, e1, e2, e4, e8, e16, if_true, Bool.false_eq_true, if_false]
    exact plain_00000 _ a b n tx s0 s1 s2 s3 (by decide) (by decide) w hT e1 e2 e4 e8 e16
  · have e1 : hasM ((2 : Nat) : Int) 1 = false := by decide +kernel
    have e2 : hasM ((2 : Nat) : Int) 2 = true := by decide +kernel
    have e4 : hasM ((2 : Nat) : Int) 4 = false := by decide +kernel
    have e8 : hasM ((2 : Nat) : Int) 8 = false := by decide +kernel
    have e16 : hasM ((2 : Nat) : Int) 16 = false := by decide +kernel
    simp only [plainM, e1, e2, e4, e8, e16, if_true, Bool.false_eq_true, if_false]
    exact plain_01000 _ a b n tx s0 s1 s2 s3 (by decide) (by decide) w hT e1 e2 e4 e8 e16
  · have e1 : hasM ((3 : Nat) : Int) 1 = false := by decide +kernel
    have e2 : hasM ((3 : Nat) : Int) 2 = false := by decide +kernel
    have e4 : hasM ((3 : Nat) : Int) 4 = false := by decide +kernel
    have e8 : hasM ((3 : Nat) : Int) 8 = false := by decide +kernel
    have e16 : hasM ((3 : Nat) : Int) 16 = true := by decide +kernel
    simp only [plainM, e1, e2, e4, e8, e16, if_true, Bool.false_eq_true, if_false]
    exact plain_00001 _ a b n tx s0 s1 s2 s3 (by decide) (by decide) w hT e1 e2 e4 e8 e16
  · have e1 : hasM ((4 : Nat) : Int) 1 = true := by decide +kernel
    have e2 : hasM ((4 : Nat) : Int) 2 = false := by decide +kernel
    have e4 : hasM ((4 : Nat) : Int) 4 = false := by decide +kernel
    have e8 : hasM ((4 : Nat) : Int) 8 = false := by decide +kernel
    have e16 : hasM ((4 : Nat) : Int) 16 = false := by decide +kernel
    simp only [plainM, e1, e2, e4, e8, e16, if_true, Bool.false_eq_true, if_false]
    exact plain_10000 _ a b n tx s0 s1 s2 s3 (by decide) (by decide) w hT e1 e2 e4 e8 e16
  · have e1 : hasM ((5 : Nat) : Int) 1 = true := by decide +kernel
    have e2 : hasM ((5 : Nat) : Int) 2 = true := by decide +kernel
    have e4 : hasM ((5 : Nat) : Int) 4 = false := by decide +kernel
    have e8 : hasM ((5 : Nat) : Int) 8 = false := by decide +kernel
    have e16 : hasM ((5 : Nat) : Int) 16 = false := by decide +kernel
    simp only [plainM, e1, e2, e4, e8, e16, if_true, Bool.false_eq_true, if_false]
    exact plain_11000 _ a b n tx s0 s1 s2 s3 (by decide) (by decide) w hT e1 e2 e4 e8 e16
  · have e1 : hasM ((6 : Nat) : Int) 1 = true := by decide +kernel
    have e2 : hasM ((6 : Nat) : Int) 2 = false := by decide +kernel
    have e4 : hasM ((6 : Nat) : Int) 4 = false := by decide +kernel
    have e8 : hasM ((6 : Nat) : Int) 8 = false := by decide +kernel
    have e16 : hasM ((6 : Nat) : Int) 16 = true := by decide +kernel
    simp only [plainM, e1, e2, e4, e8, e16, if_true, Bool.false_eq_true, if_false]
    exact plain_10001 _ a b n tx s0 s1 s2 s3 (by decide) (by decide) w hT e1 e2 e4 e8 e16
  · have e1 : hasM ((7 : Nat) : Int) 1 = false := by decide +kernel
    have e2 : hasM ((7 : Nat) : Int) 2 = false := by decide +kernel
    have e4 : hasM ((7 : Nat) : Int) 4 = false := by decide +kernel
    have e8 : hasM ((7 : Nat) : Int) 8 = false := by decide +kernel
    have e16 : hasM ((7 : Nat) : Int) 16 = true := by decide +kernel
    simp only [plainM, e1, e2, e4, e8, e16, if_true, Bool.false_eq_true, if_false]
    exact plain_00001 _ a b n tx s0 s1 s2 s3 (by decide) (by decide) w hT e1 e2 e4 e8 e16
  · have e1 : hasM ((8 : Nat) : Int) 1 = true := by decide +kernel
    have e2 : hasM ((8 : Nat) : Int) 2 = false := by decide +kernel
    have e4 : hasM ((8 : Nat) : Int) 4 = false := by decide +kernel
    have e8 : hasM ((8 : Nat) : Int) 8 = false := by decide +kernel
    have e16 : hasM ((8 : Nat) : Int) 16 = false := by decide +kernel
    simp only [plainM, e1, e2, e4, e8, e16, if_true, Bool.false_eq_true, if_false]
    exact plain_10000 _ a b n tx s0 s1 s2 s3 (by decide) (by decide) w hT e1 e2 e4 e8 e16
  · have e1 : hasM ((9 : Nat) : Int) 1 = true := by decide +kernel
    have e2 : hasM ((9 : Nat) : Int) 2 = false := by decide +kernel
    have e4 : hasM ((9 : Nat) : Int) 4 = false := by decide +kernel
    have e8 : hasM ((9 : Nat) : Int) 8 = false := by decide +kernel
    have e16 : hasM ((9 : Nat) : Int) 16 = false := by decide +kernel
    simp only [plainM, e1, e2, e4, e8, e16, if_true, Bool.false_eq_true, if_false]
    exact plain_10000 _ a b n tx s0 s1 s2 s3 (by decide) (by decide) w hT e1 e2 e4 e8 e16
  · have e1 : hasM ((10 : Nat) : Int) 1 = true := by decide +kernel
    have e2 : hasM ((10 : Nat) : Int) 2 = false := by decide +kernel
    have e4 : hasM ((10 : Nat) : Int) 4 = false := by decide +kernel
    have e8 : hasM ((10 : Nat) : Int) 8 = false := by decide +kernel
    have e16 : hasM ((10 : Nat) : Int) 16 = false := by decide +kernel
    simp only [plainM, e1, e2, e4, e8, e16, if_true, Bool.false_eq_true, if_false]
    exact plain_10000 _ a b n tx s0 s1 s2 s3 (by decide) (by decide) w hT e1 e2 e4 e8 e16
  · have e1 : hasM ((11 : Nat) : Int) 1 = true := by decide +kernel
    have e2 : hasM ((11 : Nat) : Int) 2 = false := by decide +kernel
    have e4 : hasM ((11 : Nat) : Int) 4 = false := by decide +kernel
    have e8 : hasM ((11 : Nat) : Int) 8 = false := by decide +kernel
    have e16 : hasM ((11 : Nat) : Int) 16 = false := by decide +kernel
    simp only [plainM, e1, e2, e4, e8, e16, if_true, Bool.false_eq_true, if_false]
    exact plain_10000 _ a b n tx s0 s1 s2 s3 (by decide) (by decide) w hT e1 e2 e4 e8 e16
  · have e1 : hasM ((12 : Nat) : Int) 1 = false := by decide +kernel
    have e2 : hasM ((12 : Nat) : Int) 2 = false := by decide +kernel
    have e4 : hasM ((12 : Nat) : Int) 4 = false := by decide +kernel
    have e8 : hasM ((12 : Nat) : Int) 8 = false := by decide +kernel
    have e16 : hasM ((12 : Nat) : Int) 16 = false := by decide +kernel
    simp only [plainM, e1, e2, e4, e8, e16, if_true, Bool.false_eq_true, if_false]
    exact plain_00000 _ a b n tx s0 s1 s2 s3 (by decide) (by decide) w hT e1 e2 e4 e8 e16
  · have e1 : hasM ((13 : Nat) : Int) 1 = false := by decide +kernel
    have e2 : hasM ((13 : Nat) : Int) 2 = false := by decide +kernel
    have e4 : hasM ((13 : Nat) : Int) 4 = false := by decide +kernel
    have e8 : hasM ((13 : Nat) : Int) 8 = false := by decide +kernel
    have e16 : hasM ((13 : Nat) : Int) 16 = false := by decide +kernel
    simp only [plainM, e1, e2, e4, e8, e16, if_true, Bool.false_eq_true, if_false]
    exact plain_00000 _ a b n tx s0 s1 s2 s3 (by decide) (by decide) w hT e1 e2 e4 e8 e16
  · have e1 : hasM ((14 : Nat) : Int) 1 = true := by decide +kernel
    have e2 : hasM ((14 : Nat) : Int) 2 = false := by decide +kernel
    have e4 : hasM ((14 : Nat) : Int) 4 = false := by decide +kernel
    have e8 : hasM ((14 : Nat) : Int) 8 = false := by decide +kernel
    have e16 : hasM ((14 : Nat) : Int) 16 = false := by decide +kernel
    simp only [plainM, e1, e2, e4, e8, e16, if_true, Bool.false_eq_true, if_false]
    exact plain_10000 _ a b n tx s0 s1 s2 s3 (by decide) (by decide) w hT e1 e2 e4 e8 e16
  · have e1 : hasM ((15 : Nat) : Int) 1 = true := by decide +kernel
    have e2 : hasM ((15 : Nat) : Int) 2 = false := by decide +kernel
    have e4 : hasM ((15 : Nat) : Int) 4 = false := by decide +kernel
    have e8 : hasM ((15 : Nat) : Int) 8 = false := by decide +kernel
    have e16 : hasM ((15 : Nat) : Int) 16 = false := by decide +kernel
    simp only [plainM, e1, e2, e4, e8, e16, if_true, Bool.false_eq_true, if_false]
    exact plain_10000 _ a b n tx s0 s1 s2 s3 (by decide) (by decide) w hT e1 e2 e4 e8 e16
  · have e1 : hasM ((16 : Nat) : Int) 1 = false := by decide +kernel
    have e2 : hasM ((16 : Nat) : Int) 2 = false := by decide +kernel
    have e4 : hasM ((16 : Nat) : Int) 4 = false := by decide +kernel
    have e8 : hasM ((16 : Nat) : Int) 8 = false := by decide +kernel
    have e16 : hasM ((16 : Nat) : Int) 16 = false := by decide +kernel
    simp only [plainM, e1, e2, e4, e8, e16, if_true, Bool.false_eq_true, if_false]
    exact plain_00000 _ a b n tx s0 s1 s2 s3 (by decide) (by decide) w hT e1 e2 e4 e8 e16
  · have e1 : hasM ((17 : Nat) : Int) 1 = false := by decide +kernel
    have e2 : hasM ((17 : Nat) : Int) 2 = false := by decide +kernel
    have e4 : hasM ((17 : Nat) : Int) 4 = false := by decide +kernel
    have e8 : hasM ((17 : Nat) : Int) 8 = false := by decide +kernel
    have e16 : hasM ((17 : Nat) : Int) 16 = false := by decide +kernel
    simp only [plainM, e1, e2, e4, e8, e16, if_true, Bool.false_eq_true, if_false]
    exact plain_00000 _ a b n tx s0 s1 s2 s3 (by decide) (by decide) w hT e1 e2 e4 e8 e16
  · have e1 : hasM ((18 : Nat) : Int) 1 = false := by decide +kernel
    have e2 : hasM ((18 : Nat) : Int) 2 = true := by decide +kernel
    have e4 : hasM ((18 : Nat) : Int) 4 = true := by decide +kernel
    have e8 : hasM ((18 : Nat) : Int) 8 = true := by decide +kernel
    have e16 : hasM ((18 : Nat) : Int) 16 = false := by decide +kernel
    simp only [plainM, e1, e2, e4, e8, e16, if_true, Bool.false_eq_true, if_false]
    exact plain_01110 _ a b n tx s0 s1 s2 s3 (by decide) (by decide) w hT e1 e2 e4 e8 e16
  · have e1 : hasM ((19 : Nat) : Int) 1 = false := by decide +kernel
    have e2 : hasM ((19 : Nat) : Int) 2 = false := by decide +kernel
    have e4 : hasM ((19 : Nat) : Int) 4 = false := by decide +kernel
    have e8 : hasM ((19 : Nat) : Int) 8 = false := by decide +kernel
    have e16 : hasM ((19 : Nat) : Int) 16 = false := by decide +kernel
    simp only [plainM, e1, e2, e4, e8, e16, if_true, Bool.false_eq_true, if_false]
    exact plain_00000 _ a b n tx s0 s1 s2 s3 (by decide) (by decide) w hT e1 e2 e4 e8 e16
  · have e1 : hasM ((20 : Nat) : Int) 1 = true := by decide +kernel
    have e2 : hasM ((20 : Nat) : Int) 2 = true := by decide +kernel
    have e4 : hasM ((20 : Nat) : Int) 4 = true := by decide +kernel
    have e8 : hasM ((20 : Nat) : Int) 8 = true := by decide +kernel
    have e16 : hasM ((20 : Nat) : Int) 16 = false := by decide +kernel
    simp only [plainM, e1, e2, e4, e8, e16, if_true, Bool.false_eq_true, if_false]
    exact plain_11110 _ a b n tx s0 s1 s2 s3 (by decide) (by decide) w hT e1 e2 e4 e8 e16
end Go.Proofs.YthjlpcecfkboiabDoor
